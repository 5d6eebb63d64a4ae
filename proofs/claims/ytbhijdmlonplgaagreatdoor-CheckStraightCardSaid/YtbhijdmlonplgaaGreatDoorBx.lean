/- The law: check.Module of the straight module, made, copied and turned. -/
import Derived.Test.YtbhijdmlonplgaaGreatDoorBt
import Derived.Test.YtbhijdmlonplgaaGreatDoorBs
import Derived.Test.YtbhijdmlonplgaaGreatDoorBu
import Derived.Laws.StructEq
namespace Go.Proofs.YtbhijdmlonplgaaGreatDoor
set_option linter.unusedVariables false
set_option linter.unusedSimpArgs false
set_option maxRecDepth 100000
set_option maxHeartbeats 4000000
open Go.RowKit
section
variable {b o cap n kb : Nat} {f : Nat → Ln} {sv : Nat → Option Addr × Nat} {w : World}
theorem chkS_own (gen : Nat) (hM : Ms w b o (strL n f) sv) (hs : StrOk n f) (hb : Bad n f kb) (hcap : (strL n f).length ≤ cap) (h7 : kb = 27 + n → 7 ≤ (sv 1).2) (h3 : kb = 27 + n → ∀ k, 2 ≤ k → k < 6 → 3 ≤ (sv k).2) :
  Calls Tryz.prog 6 #[.agg #[.int .u32 gen, .int .u32 (30 + n : Nat), .slice (some ⟨b, o, none⟩) (strL n f).length cap]] w fun e w' => e = .returned (if kb = 27 + n then .agg #[.bool true, .int .i64 0, .int .i64 0] else .agg #[.bool false, .int .i64 180, .int .i64 kb]) ∧ Below w.heap.size w w' := by
 by_cases q : kb = 27 + n
 ·rw [if_pos q]
  refine (chkmodule_own gen (30 + n) (some ⟨b, o, none⟩) (strL n f).length cap 0 0 w (fun W hW => ?_)).mono ?_
  ·have := which_own gen (30 + n) (some ⟨b, o, none⟩) (strL n f).length cap 10 180 kb (by omega) (by omega) W (fun k hk hst W2 h2 => ?_)
   ·exact this
   ·have := asksS gen kb (hM.below hW) hs hb hcap h7 h3 k hk (by rw [if_pos q]; exact hst) W2 h2
    rw [if_pos q] at this
    exact this
  ·rintro e w' ⟨rfl, h⟩; exact ⟨rfl, h⟩
 ·rw [if_neg q]
  refine (chkmodule_own gen (30 + n) (some ⟨b, o, none⟩) (strL n f).length cap 180 kb w (fun W hW => ?_)).mono ?_
  ·have := which_own gen (30 + n) (some ⟨b, o, none⟩) (strL n f).length cap 7 180 kb (by omega) (by omega) W (fun k hk hst W2 h2 => ?_)
   ·exact this
   ·have := asksS gen kb (hM.below hW) hs hb hcap h7 h3 k hk (by rw [if_neg q]; exact hst) W2 h2
    rw [if_neg q] at this
    exact this
  ·rintro e w' ⟨rfl, h⟩; exact ⟨rfl, h⟩
end
theorem Own.rowset {X : Nat → Prop} {w W : World} {L : List As} (h : Own X w L W) (i j : Nat) (u : Value) {base g c n sz : Nat} {e : TypeId} {xs : List Value} (hi : L[i]? = some (rw_ base e sz (.slice (some ⟨g, 0, none⟩) n c) n xs)) : Own X w (L.set i (rw_ base e sz (.slice (some ⟨g, 0, none⟩) n c) n (xs.set j u))) (W.setCell ⟨g, j, none⟩ u) := by
 obtain ⟨h1, h2⟩ := World.ownsRow.stored (h.at i hi : W.ownsRow base e sz (.slice (some ⟨g, 0, none⟩) n c) n xs) j u
 exact h.grown i hi h2 h1 (fun k hk => .inl hk)
theorem sp_rowset {P : Program} {ops : Array Oper} {Q : Exit → Act → World → Prop} {l : List Oper} {a : Act} {X : Nat → Prop} {w W : World} {L : List As} (i : Nat) {base g c n sz j : Nat} {u : Value} {e : TypeId} {xs : List Value} (h : Own X w L W) (hi : L[i]? = some (rw_ base e sz (.slice (some ⟨g, 0, none⟩) n c) n xs)) (k : ∀ W', Own X w (L.set i (rw_ base e sz (.slice (some ⟨g, 0, none⟩) n c) n (xs.set j u))) W' → wpList P ops Q l a W') : wpList P ops Q l a (W.setCell ⟨g, j, none⟩ u) := k _ (h.rowset i j u hi)
theorem sp_rowsetc {P : Program} {Q : Exit → Act → World → Prop} {cd : Code} {a : Act} {X : Nat → Prop} {w W : World} {L : List As} (i : Nat) {base g c n sz j : Nat} {u : Value} {e : TypeId} {xs : List Value} (h : Own X w L W) (hi : L[i]? = some (rw_ base e sz (.slice (some ⟨g, 0, none⟩) n c) n xs)) (k : ∀ W', Own X w (L.set i (rw_ base e sz (.slice (some ⟨g, 0, none⟩) n c) n (xs.set j u))) W' → cd.wp P Q a W') : cd.wp P Q a (W.setCell ⟨g, j, none⟩ u) := k _ (h.rowset i j u hi)
theorem strL_set {n : Nat} {f : Nat → Ln} {q : Nat} (hq : q < n) : (strL n f).set (23 + q) ⟨(f q).op, 5, 24 + q, [idA (f q).x, idA (f q).y]⟩ = strL n (atF f q) := by
 refine List.ext_getElem (by rw [List.length_set, strL_len, strL_len]) fun k h1 h2 => ?_
 rw [strL_get, List.getElem_set]
 split
 ·rename_i e; subst e; rw [strAt_atF_at hq]
 ·rename_i e; rw [strL_get, strAt_atF hq (Ne.symm e)]
theorem args_set {D : Nat → Prop} {p : List Pr} {W : World} (h : (argsA D p).holds W) (k u : Nat) (hk : k < p.length) : (argsA D (p.set k (⟨p[k].1.op, u, p[k].1.res, p[k].1.args⟩, p[k].2))).holds W := fun x hx h0 => by
 rcases List.mem_or_eq_of_mem_set hx with hx | rfl
 ·exact h x hx h0
 ·exact h p[k] (List.getElem_mem hk) h0
theorem turned {w W : World} {L : List As} {p : List Pr} {D : Nat → Prop} {base g c m n q : Nat} {f : Nat → Ln} (hp : p.map Prod.fst = strL n f) (hq : q < n) (h : Own noX w (rw_ base 41 4 (.slice (some ⟨g, 0, none⟩) m c) m ((flatI p).set ((23 + q) * 4 + 1) (.int .u32 (5 : Nat))) :: argsA D p :: L) W) :
  ∃ p', p'.map Prod.fst = strL n (atF f q) ∧ Own noX w (rw_ base 41 4 (.slice (some ⟨g, 0, none⟩) m c) m (flatI p') :: argsA D p' :: L) W := by
 have hpl : p.length = 27 + n := by
  have := congrArg List.length hp
  rw [List.length_map, strL_len] at this
  exact this
 have hk : 23 + q < p.length := by omega
 have e1 : p[23 + q].1 = lineI q (f q) := by
  have h1 : (p.map Prod.fst)[23 + q]'(by rw [List.length_map]; exact hk) = (strL n f)[23 + q]'(by rw [strL_len]; omega) := by simp only [hp]
  rw [List.getElem_map] at h1
  rw [h1, strL_get, strAt_line hq rfl]
 refine ⟨p.set (23 + q) (⟨p[23 + q].1.op, 5, p[23 + q].1.res, p[23 + q].1.args⟩, p[23 + q].2), ?_, ?_⟩
 ·rw [List.map_set, hp, ← strL_set hq, e1]; rfl
 ·rw [flatI_set p (23 + q) hk 5] at h
  exact h.recast 1 rfl (fun k hk => hk) (args_set (h.at 1 rfl) (23 + q) 5 hk)
theorem walk_straight (a : Option Addr) (n cap : Nat) (at_ : Int) (b o : Nat) (ln : Nat → Nat × Int × Int) (w : World) (hA : 0 < n → a = some ⟨b, o, none⟩) (hl : LnAt w b o n ln) (hat : -9223372036854775808 ≤ at_ ∧ at_ < 9223372036854775808)
  (cS : n ≤ 1000 → ∀ W, Below w.heap.size w W → Calls Tryz.prog 5 #[.slice a n cap] W fun e w' => StrEnd n (lnF ln) W e w') :
  Calls Tryz.prog 3 #[.slice a n cap, .int .i64 at_] w fun e w' => e = .returned (.bool true) ∧ Below w.heap.size w w' := by
 have HO := Own.nil w
 by_cases hn : n ≤ 1000
 ·replace cS := hid (cS hn)
  have HL := hid hl
  have HA := hid hA
  clear hl hA
  have i1 : ¬ ((1000 : Int) < n) := by omega
  go_enter Tryz.func3, Tryz.ntmps3
  go_wp2_with (first | ((with_reducible refine sp_alloc HO ?_); intro g W' hg HO'; rw [← hg.out]; clear hg; clear HO; (try clear kk); have HO := HO'; clear HO'; (try simp only [zTz, zTs, zTa] at HO); (try have kk := HO.kk); skip))
  go_loopw [5] (fun x5 wv => ∃ k : Nat, k ≤ n ∧ x5 = .int .i64 k ∧ (∀ j, j < k → isTwo (ln j).1 = true) ∧ wv = w) (fun x _ => n - (intOf x).toNat)
  case atStart => exact ⟨0, by omega, rfl, fun j hj => absurd hj (by omega), rfl⟩
  case round =>
   obtain ⟨k, hk, rfl, hall, rfl⟩ := hrel
   by_cases hkl : k < n
   ·obtain rfl := HA.out (by omega)
    have q0 := HL.out.op k hkl
    have zb := HL.out.lt (by omega)
    have i4 : (k : Int) < n := by omega
    have HK := hid hkl
    have hN := fun W => knumbers_own (ln k).1 W
    have hAll := hid hall
    cases hq : isTwo (ln k).1 with
    | false =>
     rw [hq] at hN
     clear hq hall hkl hk
     generalize (ln k).1 = op at q0 hN
     go_wp2_with (go_at_call 4; (with_reducible refine (hN _).mono ?_); rintro e w1 ⟨rfl, rfl⟩)
     go_ret
     exact ⟨rfl, HO.below⟩
    | true =>
     have hq2 := hid hq
     rw [hq] at hN
     clear hq hall hkl hk
     generalize hop : (ln k).1 = op at q0 hN
     have hop2 := hid hop
     clear hop
     go_wp2_with (go_at_call 4; (with_reducible refine (hN _).mono ?_); rintro e w1 ⟨rfl, rfl⟩)
     exact ⟨⟨k + 1, HK.out, by go_num, fun j hj => by
      by_cases e : j = k
      ·subst e; exact hq2.out
      ·exact hAll.out j (by omega), trivial⟩, by have := HK.out; simp [intOf]; omega⟩
   ·obtain rfl : k = n := by omega
    have i4 : ¬ (((k : Nat) : Int) < k) := by omega
    have hs := hid (str_lnF ln hn hall)
    clear hkl hk hall
    go_wp2_with (first | ((first | (with_reducible refine sp_al HO ?_; intro g hg; rw [← hg.out]; clear hg) | (with_reducible refine sp_sk HO ?_) | (with_reducible refine sp_skc HO ?_) | (refine sp_wk HO rfl 30 _ _ rfl rfl rfl (by kernel_rfl) (by rfl) (by simp [Value.oneCell']) ?_)); intro W' HO'; clear HO; (try clear kk); have HO := HO'; clear HO'; (try simp only [zTz, zTs, zTa] at HO); (try have kk := HO.kk); skip) | (refine sp_lk HO rfl 30 _ rfl rfl _ Tryz.underlying30 rfl (by kernel_rfl) ?_) | (go_at_call 5; (with_reducible refine (cS.out _ HO.below).mono ?_); rintro e w1 ⟨g0, c, p, D, rfl, hc, hp, h2⟩; replace HO := HO.app h2; clear h2; (try simp only [List.cons_append, List.nil_append] at HO); (try clear kk); skip; (try simp only [zTz, zTs, zTa, zDs, zDz] at HO); (try have kk := HO.kk); skip))
    obtain ⟨gm, rfl⟩ : ∃ q, q = g := ⟨_, rfl⟩
    have hlen : (strL k (lnF ln)).length ≤ 2000 := by rw [strL_len]; omega
    have hpos : 0 < (strL k (lnF ln)).length := by rw [strL_len]; omega
    have hfit : ∀ j (hj : j < (strL k (lnF ln)).length), InFit (strL k (lnF ln))[j] := fun j hj => by rw [strL_get]; exact str_fit hs.out (by rw [strL_len] at hj; exact hj)
    have hcast : ((30 + k : Nat) : Int) = 30 + k := by omega
    have cC := kcopymod_own 0 (30 + k) g0 0 c _ _ _ (ms_of HO 1 2 rfl rfl (strL k (lnF ln)) hp hpos hfit) hlen hfit hpos
    rw [hcast] at cC
    refine cC.mono ?_
    clear cC
    rintro e w2 ⟨⟨g2, sv2, rfl, hb2, hM2, hcv⟩⟩
    replace HO := HO.then hb2
    clear hb2
    have cM := chkS_own (kb := 27 + k) 0 hM2 hs.out (bad_none ln) (Nat.le_refl _) (fun _ => by
     have := hcv 1 (by rw [strL_len]; omega)
     rw [strL_get, strAt_head (by omega)] at this
     rw [this]; decide) (fun _ j h1 h2 => by
     have := hcv j (by rw [strL_len]; omega)
     rw [strL_get, strAt_head (by omega)] at this
     rw [this]
     rcases (show j = 2 ∨ j = 3 ∨ j = 4 ∨ j = 5 by omega) with rfl | rfl | rfl | rfl <;> decide)
    rw [if_pos rfl, hcast] at cM
    clear hcv hM2 hcast hfit hpos hlen
    (try clear kk); skip
    go_wp2_with fail
    refine cM.mono ?_
    clear cM
    rintro e w3 ⟨rfl, hb3⟩
    replace HO := HO.then hb3
    clear hb3
    by_cases h1 : at_ < 0
    ·(try simp only [zTz, zTs, zTa, zDs, zDz] at HO); (try have kk := HO.kk); skip
     go_wp2_with fail
     go_ret
     exact ⟨rfl, HO.below⟩
    ·by_cases h2 : (k : Int) ≤ at_
     ·(try simp only [zTz, zTs, zTa, zDs, zDz] at HO); (try have kk := HO.kk); skip
      go_wp2_with fail
      go_ret
      exact ⟨rfl, HO.below⟩
     ·obtain ⟨q, rfl⟩ : ∃ q : Nat, at_ = q := ⟨at_.toNat, by omega⟩
      have hq : q < k := by omega
      obtain rfl := HA.out (by omega)
      (try simp only [zTz, zTs, zTa, zDs, zDz] at HO); (try have kk := HO.kk); skip
      go_wp2_with fail
      (try clear kk); skip
      obtain ⟨r, hr⟩ : ∃ r, r = 23 + q := ⟨_, rfl⟩
      rw [show (23 : Int) + q = (r : Int) by omega]
      have hfit : ∀ j (hj : j < (strL k (lnF ln)).length), InFit (strL k (lnF ln))[j] := fun j hj => by rw [strL_get]; exact str_fit hs.out (by rw [strL_len] at hj; exact hj)
      have hMs := ms_of HO 1 2 rfl rfl (strL k (lnF ln)) hp (by rw [strL_len]; omega) hfit
      have hlt : r < (strL k (lnF ln)).length := by rw [strL_len]; omega
      have er : (strL k (lnF ln))[r] = lineI q (lnF ln q) := by rw [strL_get, strAt_line hq hr]
      have f0 := hMs.op r hlt
      have f1 := hMs.ty r hlt
      rw [er, Nat.zero_add] at f0 f1
      replace f0 : w3.cell? ⟨g0, r * 4, none⟩ = some (.int .u16 (ln q).1) := f0
      replace f1 : w3.cell? ⟨g0, r * 4 + 1, none⟩ = some (.int .u32 (3 : Nat)) := f1
      have l0 := cell_last (HL.out.op q hq) (HL.out.lt (by omega)) HO.below
      have hr1 := World.ownsRow.frozenAt (HO.at 1 rfl : w3.ownsRow _ _ 4 (.slice (some ⟨g0, 0, none⟩) _ c) _ (flatI p)) (r * 4 + 1)
      have i5 : (r : Int) < ((strL k (lnF ln)).length : Int) := by omega
      have i6 : (q : Int) < k := by omega
      have HH := hid (And.intro hs.out (And.intro hp (And.intro hq (And.intro hr hc))))
      clear hMs hlt er hfit hp hs hc hr h1 h2 HA cS
      generalize hm : (strL k (lnF ln)).length = m at HO i5 hr1 ⊢
      have Hm := hid hm
      clear hm
      generalize (ln q).1 = opq at f0 l0
      (try simp only [zTz, zTs, zTa, zDs, zDz] at HO); (try have kk := HO.kk); skip
      go_quiet (fail)
      replace HO := HO.drewN nq
      go_wp2_with (first | (refine sp_lk HO rfl 30 _ rfl rfl _ Tryz.underlying30 rfl (by kernel_rfl) ?_) | ((first | refine sp_rowset 1 HO rfl ?_ | refine sp_rowsetc 1 HO rfl ?_); intro W9 HO9; clear HO; (try clear kk); skip; have HO := HO9; clear HO9; (try simp only [List.set_cons_succ, List.set_cons_zero] at HO); (try simp only [zTz, zTs, zTa, zDs, zDz] at HO); (try have kk := HO.kk); skip))
      obtain ⟨hs, hp, hq, hr, hc⟩ := HH.out
      have hm := Hm.out
      have hm2 : (strL k (atF (lnF ln) q)).length = m := by rw [← hm, strL_len, strL_len]
      subst hr
      obtain ⟨p', hp', HT⟩ := turned hp hq (HO.perm (.trans (.swap _ _ _) (.cons _ (.swap _ _ _))))
      have hM5 := ms_of HT 0 1 rfl rfl (strL k (atF (lnF ln) q)) hp' (by rw [strL_len]; omega) (fun j hj => by rw [strL_get]; exact str_fit (str_atF hs q) (by rw [strL_len] at hj; exact hj))
      have cM := chkS_own (kb := 23 + q) (cap := c) 0 hM5 (str_atF hs q) (bad_atF ln hq) (by omega) (fun e => absurd e (by omega)) (fun e => absurd e (by omega))
      rw [if_neg (by omega), hm2, show ((30 + k : Nat) : Int) = 30 + k by omega] at cM
      refine cM.mono ?_
      clear cM
      rintro e w6 ⟨rfl, hb6⟩
      replace HO := HO.then hb6
      clear hb6 hM5 HT hp' hm2 hm hs hp hc
      go_wp2_with fail
      go_ret
      exact ⟨rfl, HO.below⟩
 ·have i1 : ((1000 : Int) < n) := by omega
  clear cS hl hA
  go_enter Tryz.func3, Tryz.ntmps3
  go_wp2_with fail
  go_ret
  exact ⟨rfl, HO.below⟩
end Go.Proofs.YtbhijdmlonplgaaGreatDoor
