/- The law of the straight shader: the walk. -/
import Derived.Test.YtlkolghiknbbfaaGreatDoorMf
set_option linter.unusedVariables false
set_option linter.unusedSimpArgs false
set_option maxRecDepth 100000
set_option maxHeartbeats 4000000
namespace Go.Proofs.YtlkolghiknbbfaaGreatDoor
open Go.RowKit Go.MapKept
theorem Own.lit {X : Nat → Prop} {w W : World} {L : List As} {g n sz : Nat} {cs : Array Value} {e : TypeId} (h : Own X w (aP g cs e :: L) W) (hs : cs.size = n * sz) (hn : n ≤ 1048576) : Own X w (bM 0 e sz (.slice (some ⟨g, 0, none⟩) n n) n cs.toList :: L) W :=
 h.recast 0 (A' := bM 0 e sz (.slice (some ⟨g, 0, none⟩) n n) n cs.toList) rfl (fun k hk => by cases hk; rfl) ⟨by simpa using hs, .inr ⟨g, n, cs, rfl, Nat.zero_le _, h.blk 0 rfl, Nat.le_refl _, by unfold maxLen; omega, hs, List.take_of_length_le (by rw [Array.length_toList, hs]; exact Nat.le_refl _)⟩⟩
theorem Jo (op : Nat) (w : World) : Calls Tryz.prog 4 #[.int .u16 op] w fun e w' => e = .returned (.bool (eH op)) ∧ w' = w := by
 cases h : eH op with
 | true =>
  have hm := dn h;simp only [List.mem_cons, List.not_mem_nil, or_false] at hm;clear h;rcases hm with rfl | rfl | rfl | rfl | rfl | rfl | rfl | rfl | rfl | rfl | rfl | rfl | rfl | rfl
  all_goals
   go_enter Tryz.func4, Tryz.ntmps4;go_wp2_with fail;go_ret;exact ⟨rfl, rfl⟩
 | false =>
  have hn : ∀ x : Nat, eH x = true → ((op : Int) == (x : Int)) = false := fun x hx => by
   rw [beq_eq_false_iff_ne];intro e;have : op = x := by omega
   subst this;rw [h] at hx
   cases hx
  have i0 : ((op : Int) == 128) = false := hn 128 rfl;have i1 : ((op : Int) == 130) = false := hn 130 rfl;have i2 : ((op : Int) == 132) = false := hn 132 rfl;have i3 : ((op : Int) == 134) = false := hn 134 rfl;have i4 : ((op : Int) == 135) = false := hn 135 rfl;have i5 : ((op : Int) == 137) = false := hn 137 rfl;have i6 : ((op : Int) == 138) = false := hn 138 rfl;have i7 : ((op : Int) == 139) = false := hn 139 rfl;have i8 : ((op : Int) == 194) = false := hn 194 rfl;have i9 : ((op : Int) == 195) = false := hn 195 rfl;have i10 : ((op : Int) == 196) = false := hn 196 rfl;have i11 : ((op : Int) == 197) = false := hn 197 rfl;have i12 : ((op : Int) == 198) = false := hn 198 rfl;have i13 : ((op : Int) == 199) = false := hn 199 rfl;clear hn h;go_enter Tryz.func4, Tryz.ntmps4;go_wp2_with fail;go_ret;exact ⟨rfl, rfl⟩
structure Hu (b o k gv : Nat) (l : Nat × Int × Int) (vs : List Nat) (W : World) : Prop where
 op : W.cell? ⟨b, o + k * 3, none⟩ = some (.int .u16 l.1)
 a : W.cell? ⟨b, o + k * 3 + 1, none⟩ = some (.int .i64 l.2.1)
 b : W.cell? ⟨b, o + k * 3 + 2, none⟩ = some (.int .i64 l.2.2)
 v : ∀ j u, (wV vs)[j]? = some u → W.cell? ⟨gv, j, none⟩ = some u
theorem Hu.below {b o k gv : Nat} {l : Nat × Int × Int} {vs : List Nat} {w W : World} (h : Hu b o k gv l vs w) (hb : Bl w W) : Hu b o k gv l vs W :=
 have k : ∀ {g o : Nat} {v : Value}, w.cell? ⟨g, o, none⟩ = some v → W.cell? ⟨g, o, none⟩ = some v := fun h => ae h (block_lt_of_cell h) hb
 ⟨k h.op, k h.a, k h.b, fun j u e => k (h.v j u e)⟩
theorem Hu.get {b o k gv : Nat} {l : Nat × Int × Int} {vs : List Nat} {W : World} (h : Hu b o k gv l vs W) (j : Nat) (hj : j < vs.length) : W.cell? ⟨gv, j, none⟩ = some (.int .u32 (vs.getD j 0 : Nat)) :=
 h.v j _ (by rw [wV, List.getElem?_map, List.getElem?_eq_getElem hj, List.getD_eq_getElem?_getD, List.getElem?_eq_getElem hj]; rfl)
theorem JV {F : Nat → Nat → World → Prop} {w : World} {LH : Nat → Nat → List As} {g : Prop} (h2 : (∀ H a W, Own aK w (LH H a) W → F H a W) → g) (h1 : ∀ H a W, Own aK w (LH H a) W → F H a W) : g := h2 h1
section
variable {n : Nat} {f : Nat → Ln} {v : Nat → Nat} {gX k : Nat} {W5 W W' : World}
theorem NZ (h : IP n f v gX W5 (fun m c => Hq m c v W5 k W)) : Bl W5 W := by
 obtain ⟨m, c, lo, sv, rfl, hv, rfl, hC, hM, hq, o0, o1, fv, D, h⟩ := h.at_;exact h.below
theorem Ky (h : IP n f v gX W5 (fun m c => Hq m c v W5 k W)) (hb : Bl W W') : IP n f v gX W5 (fun m c => Hq m c v W5 k W') := by
 obtain ⟨m, c, lo, sv, rfl, hv, rfl, hC, hM, hq, o0, o1, fv, D, h⟩ := h.at_;exact ⟨m, c, lo, sv, rfl, hv, rfl, hC, hM, hq, o0, o1, fv, D, h.then hb⟩
end
theorem wL (av bv : Nat) (ha : av < 4294967296) (hb : bv < 4294967296) (a : Option Addr) (n cap : Nat) (b o : Nat) (ln : Nat → Nat × Int × Int) (w : World) (hA : 0 < n → a = some ⟨b, o, none⟩) (hl : wP w b o n ln)
  (cS : n ≤ 1000 → ∀ W, Bl w W → Calls Tryz.prog 7 #[.slice a n cap] W fun e w' => JH n (xW ln) W e w') :
  Qc 3 #[.int .u32 av, .int .u32 bv, .slice a n cap] w (.bool true) := by
 have HO := Own.nil w;by_cases hn : n ≤ 1000
 ·replace cS := hid (cS hn)
  have HL := hid hl;have HA := hid hA;have Ha := hid ha;have Hb := hid hb;clear hl hA ha hb;have i1 : ¬ ((1000 : Int) < n) := by omega
  go_enter Tryz.func3, Tryz.ntmps3;go_wp2_with (first | (((with_reducible refine aB HO ?_); intro g hg; rw [← hg.out]; clear hg); clear HO; (try clear kk); intro W' HO kk));(try clear kk);obtain ⟨g0, rfl⟩ : ∃ q, q = g := ⟨_, rfl⟩;have H0 : Hid (Own aK w [bM 0 22 1 (.slice (some ⟨g0, 0, none⟩) 2 2) 2 (wV (dh ln av bv 0))] _) := hid (HO.lit (n := 2) (sz := 1) rfl (by omega));clear HO;go_loopw [7, 8] (fun x7 x8 wv => ∃ k : Nat, k ≤ n ∧ x8 = .int .i64 k ∧ (∀ j, j < k → eH (ln j).1 = true) ∧ ∃ gv cv, x7 = .slice (some ⟨gv, 0, none⟩) (k + 2) cv ∧ Own aK w [bM 0 22 1 (.slice (some ⟨gv, 0, none⟩) (k + 2) cv) (k + 2) (wV (dh ln av bv k))] wv) (fun _ x _ => n - (intOf x).toNat)
  case atStart => exact ⟨0, by omega, rfl, fun j hj => absurd hj (by omega), g0, 2, rfl, H0.out⟩
  case round =>
   obtain ⟨k, hk, rfl, hall, gv, cv, rfl, HO⟩ := hrel;clear H0;by_cases hkl : k < n
   ·obtain rfl := HA.out (by omega)
    have q0 := HL.out.op k hkl;have zb := HL.out.lt (by omega);have i4 : (k : Int) < n := by omega
    have HK := hid hkl;have hN := fun W => Jo (ln k).1 W
    have hAll := hid hall
    cases hq : eH (ln k).1 with
    | false =>
     rw [hq] at hN;clear hq hall hkl hk;generalize (ln k).1 = op at q0 hN;(try simp only [yD] at HO); have kk := HO.kk;go_wp2_with (go_at_call 4; (with_reducible refine (hN _).mono ?_); rintro e w1 ⟨rfl, rfl⟩);go_ret;exact ⟨rfl, HO.below⟩
    | true =>
     have hq2 := hid hq
     have hAll2 : Hid (∀ j, j < k + 1 → eH (ln j).1 = true) := hid (fun j hj => by
      by_cases e : j = k
      ·subst e; exact hq
      ·exact hall j (by omega))
     rw [hq] at hN;have q1 := HL.out.a k hkl;have q2 := HL.out.b k hkl;have hvl := ol (ln := ln) Ha.out Hb.out k hall;have hL0 : Hu b o k gv (ln k) (dh ln av bv k) wr := ⟨(wP.below HL.out HO.below).op k hkl, (wP.below HL.out HO.below).a k hkl, (wP.below HL.out HO.below).b k hkl, fun j u e => HO.rowcell 0 j rfl e⟩;have hvs := hid (show dh ln av bv (k + 1) = _ from rfl);have hlen := gQ (ln := ln) (a := av) (b := bv) k;have hra := HL.out.a_in k hkl;have hrb := HL.out.b_in k hkl;have i5 : (k : Int) ≤ 1000 := by omega
     have jN : IntKind.u32.wrap ((k : Int) + 2) = k + 2 := IntWalk.u32_in _ (by omega);clear hq hall hkl hk q1 q2;(try simp only [yD] at HO); have kk := HO.kk;go_wp2_with (go_at_call 4; (with_reducible refine (hN _).mono ?_); rintro e w1 ⟨rfl, rfl⟩);clear hN q0 zb jN;(try clear kk);have hx := nk (ln k).2.1 (k + 2) (by omega);have hy := nk (ln k).2.2 (k + 2) (by omega);have hcast : ((k + 2 : Nat) : Int) = k + 2 := by omega
     have cB1 := fun w => jQ (ln k).2.1 (k + 2) w hra (by omega)
     have cB2 := fun w => jQ (ln k).2.2 (k + 2) w hrb (by omega)
     have l1 := hvl _ hx;have l2 := hvl _ hy;have cN := fun w => tY (ln k).1 hq2.out ((dh ln av bv k).getD (bh (ln k).2.1 (k + 2)) 0 : Nat) ((dh ln av bv k).getD (bh (ln k).2.2 (k + 2)) 0 : Nat) (by omega) (by omega) (by omega) (by omega) w
     have hbd := (xy (ln k).1 hq2.out ((dh ln av bv k).getD (bh (ln k).2.1 (k + 2)) 0 : Nat) ((dh ln av bv k).getD (bh (ln k).2.2 (k + 2)) 0 : Nat) (by omega) (by omega) (by omega)).1;rw [hcast] at cB1 cB2;have hvs : Hid (wV (dh ln av bv (k + 1)) = wV (dh ln av bv k) ++ [.int .u32 (qM (ln k).1 ((dh ln av bv k).getD (bh (ln k).2.1 (k + 2)) 0 : Nat) ((dh ln av bv k).getD (bh (ln k).2.2 (k + 2)) 0 : Nat))]) := hid (by rw [dh]; unfold wV; rw [List.map_append, List.map_cons, List.map_nil, Int.toNat_of_nonneg hbd]);have hg1 := fun W (hw : Hu b o k gv (ln k) (dh ln av bv k) W) => hw.get (bh (ln k).2.1 (k + 2)) (by rw [hlen]; exact hx)
     have hg2 := fun W (hw : Hu b o k gv (ln k) (dh ln av bv k) W) => hw.get (bh (ln k).2.2 (k + 2)) (by rw [hlen]; exact hy)
     clear hvl hra hrb hlen l1 l2 hbd hcast;generalize dh ln av bv k = vs at *
     generalize ln k = l at *
     obtain ⟨op, A, B⟩ := l;simp only at *
     generalize bh A (k + 2) = x at *
     generalize bh B (k + 2) = y at *
     generalize vs.getD x 0 = vx at *
     generalize vs.getD y 0 = vy at *
     have j1 : (x : Int) < (k : Int) + 2 := by omega
     have j2 : (y : Int) < (k : Int) + 2 := by omega
     have HO2 := HO;clear HO;have HO := HO2.drew;clear HO2;have hcl : ∀ W W2 : World, Hu b o k gv (op, A, B) vs W → Bl W W2 → Hu b o k gv (op, A, B) vs W2 := fun _ _ h k => h.below k
     have hSw : Hu b o k gv (op, A, B) vs _ := hL0.below ((Below.refl _ _).drew);refine au (S := fun W => Hu b o k gv (op, A, B) vs W) (by kernel_rfl) ?_;refine ag hcl 0 ?_;refine ag hcl 1 ?_;refine ag hcl 2 ?_;refine ag hcl 3 ?_;refine ag hcl 5 ?_;refine ag hcl 6 ?_;refine ag hcl 7 ?_;refine ag hcl 8 ?_;refine ag hcl 9 ?_;refine ag hcl 11 ?_;refine ag hcl 15 ?_;refine ag hcl 16 ?_;refine ag hcl 17 ?_;refine ag hcl 18 ?_;refine ag hcl 19 ?_;refine ag hcl 21 ?_;refine ag hcl 4 ?_ (hv := fun w hw => by have q1 := hw.op; go_simp; first | done | with_reducible rfl);refine ag hcl 10 ?_ (hv := fun w hw => by have q1 := hw.a; go_simp; first | done | with_reducible rfl);refine ag hcl 20 ?_ (hv := fun w hw => by have q1 := hw.b; go_simp; first | done | with_reducible rfl);refine tV hcl 12 6 (fun w hw => (cB1 w).mono (fun e w' h => ⟨h.1, h.2 ▸ Below.refl _ _⟩)) ?_;refine ag hcl 13 ?_;refine ag hcl 14 ?_ (hv := fun w hw => by have q1 := hg1 _ hw; go_simp; first | done | with_reducible rfl);refine tV hcl 22 6 (fun w hw => (cB2 w).mono (fun e w' h => ⟨h.1, h.2 ▸ Below.refl _ _⟩)) ?_;refine ag hcl 23 ?_;refine ag hcl 24 ?_ (hv := fun w hw => by have q1 := hg2 _ hw; go_simp; first | done | with_reducible rfl);refine tV hcl 25 5 (fun w hw => (cN w)) ?_;refine ag hcl 26 ?_;refine ag hcl 27 ?_;refine ag hcl 28 ?_;refine ag hcl 29 ?_;refine ag hcl 30 ?_;refine kS fun W8 hW8 => ?_
     replace HO := HO.then hW8
     clear hW8 hSw hcl hL0 hg1 hg2 cB1 cB2 cN j1 j2 hx hy;(try simp only [yD] at HO); have kk := HO.kk;go_wp2_with (first | (((with_reducible refine aB HO ?_); intro g hg; rw [← hg.out]; clear hg); clear HO; (try clear kk); intro W' HO kk) | ((with_reducible refine aA ?_); refine bg HO ky 1 0 rfl rfl rfl _ _ rfl rfl rfl rfl (by simp [Value.oneCell']) (by omega) (by omega) (Nat.zero_le _) ?_; intro gv2 cv2 W' HO'; clear HO; (try clear kk); have HO := HO'; clear HO'; simp only [yT] at HO; (try simp only [yD] at HO); have kk := HO.kk));exact ⟨⟨k + 1, HK.out, by go_num, hAll2.out, gv2, cv2, rfl, by rw [hvs.out]; exact HO.drop 1⟩, by have := HK.out; simp [intOf]; omega⟩
   ·obtain rfl : k = n := by omega
    have i4 : ¬ (((k : Nat) : Int) < k) := by omega
    have hs := hid (LY ln hn hall);have hv := hid (MQ (a := av) (b := bv) k Ha.out Hb.out hall);have hcast : ((30 + k : Nat) : Int) = 30 + k := by omega
    clear hkl hk hall;(try simp only [yD] at HO); have kk := HO.kk;go_wp2_with (first | ((first | ((with_reducible refine aB HO ?_); intro g hg; rw [← hg.out]; clear hg) | (with_reducible refine ah HO ?_) | (refine ay 34 HO ?_)); clear HO; (try clear kk); intro W' HO kk) | (refine bG 34 HO Tryz.underlying34 ?_) | (go_at_call 7; (with_reducible refine (cS.out _ HO.below).mono ?_); rintro e w1 ⟨gi, ci, p, D, rfl, hc, hp, h2⟩; replace HO := HO.app h2; clear h2; (try simp only [List.cons_append, List.nil_append] at HO); (try clear kk); (try simp only [yD] at HO); have kk := HO.kk));obtain ⟨gm, rfl⟩ : ∃ q, q = g := ⟨_, rfl⟩;have hpos : 0 < (aj k (xW ln)).length := by rw [ak]; omega
    have hfit : ∀ j (hj : j < (aj k (xW ln)).length), ui (aj k (xW ln))[j] := fun j hj => by rw [aF]; exact Em hs.out (by rw [ak] at hj; exact hj)
    have hroom : ∀ j (hj : j < 23), (ax.getD j ai).args.length ≤ ((p.getD j (ai, none, 0)).2).2 := fun j hj => by
     have := hp.room j (by rw [ak]; omega)
     rwa [aF, aI hj] at this
    have h7 : 7 ≤ ((p.getD 1 (ai, none, 0)).2).2 := hroom 1 (by omega);have h3 : ∀ j, 2 ≤ j → j < 6 → 3 ≤ ((p.getD j (ai, none, 0)).2).2 := fun j h1 h2 => by
     have := hroom j (by omega);rcases (show j = 2 ∨ j = 3 ∨ j = 4 ∨ j = 5 by omega) with rfl | rfl | rfl | rfl <;> exact this
    have cA := ug 0 (Jt HO 1 2 rfl rfl (aj k (xW ln)) hp.eq hpos hfit) hs.out hc h7 h3;rw [hcast] at cA;refine cA.mono ?_;clear cA hroom;rintro e w2 ⟨x, rfl, gl, cl, gI, cI, gO, cO, rfl, h2⟩;replace HO := HO.app h2;clear h2;simp only [List.cons_append, List.nil_append] at HO;have hp1 := hid hp.eq;have hp2 := hid hpos;have hp3 := hid hfit;have hp4 := hid hc;have hp7 := hid h7;have hp8 := hid h3;clear hp hpos hfit hc h7 h3 cS;(try clear kk);(try simp only [yD] at HO); have kk := HO.kk;go_wp2_with (first | ((first | ((with_reducible refine aB HO ?_); intro g hg; rw [← hg.out]; clear hg) | (with_reducible refine ah HO ?_) | (refine ay 39 HO ?_)); clear HO; (try clear kk); intro W' HO kk));obtain ⟨gS, rfl⟩ : ∃ q, q = g := ⟨_, rfl⟩;(try clear kk);obtain ⟨lk, hlk⟩ : ∃ lk, Hid (lk = (aj k (xW ln)).length) := ⟨_, hid rfl⟩;rw [← hlk.out] at HO ⊢;obtain ⟨L1, hL1, HO⟩ := bE HO;have hL : ∀ W, Own aK w L1 W → NwS gm gl gI cI gO cO 0 gi 0 lk ci (30 + k) W ∧ Ms W gi 0 (aj k (xW ln)) (fun j => (p.getD j (ai, none, 0)).2) ∧ W.cell? ⟨gv, k + 1, none⟩ = some (.int .u32 ((dh ln av bv k).getD (k + 1) 0 : Nat)) := fun W h => by
     rw [hL1.out] at h;have hO := iA h 2 rfl;have hI := iA h 3 rfl;refine ⟨⟨h.cell 4 0 rfl rfl, h.cell 4 1 rfl rfl, h.cell 4 2 rfl rfl, h.rowcell 1 0 rfl rfl, h.rowcell 1 1 rfl rfl, h.rowcell 1 2 rfl rfl, h.rowcell 1 3 rfl rfl, h.rowcell 1 4 rfl rfl, ⟨hI.1, hI.2, hO.1, hO.2⟩⟩, ?_, ?_⟩
     ·rw [hlk.out] at h
      exact Jt h 5 6 rfl rfl (aj k (xW ln)) hp1.out hp2.out hp3.out
     ·have e : k + 1 < (dh ln av bv k).length := by rw [gQ]; omega
      exact h.rowcell 7 (k + 1) rfl (by rw [wV, List.getElem?_map, List.getElem?_eq_getElem e, List.getD_eq_getElem?_getD, List.getElem?_eq_getElem e]; rfl)
    replace hL := hid hL;clear hL1;have hcl : ∀ W W2 : World, Own aK w L1 W → Bl W W2 → Own aK w L1 W2 := fun _ _ h k => h.then k
    have hSw := HO.drew;refine au (S := fun W => Own aK w L1 W) (by kernel_rfl) ?_;refine ag hcl 1 ?_;refine ag hcl 2 ?_;refine ag hcl 4 ?_;refine ag hcl 7 ?_;refine ag hcl 0 ?_ (hv := fun w hw => by obtain ⟨⟨q0, q1, q2, -⟩, -⟩ := hL.out _ hw; go_simp; first | done | with_reducible rfl);refine ag hcl 3 ?_ (hv := fun w hw => by obtain ⟨⟨-, -, -, q3, q4, q5, q6, q7, -⟩, -⟩ := hL.out _ hw; go_simp; first | done | with_reducible rfl);refine dC [5, 8] fun W2 hW2 => ?_
    replace HO := HO.drew.then hW2
    clear hW2 hSw;apply JV
    case h2 =>
     intro key;refine BF (fun K hK => ?_) fun K hK => ?_
     ·go_simp
      refine bX hK ((HO.alloc _).drop 1) ?_;clear hK K;refine bV HO ?_;generalize W2.heap.size = d0;intro W3 HN;have hSw := HN.drop 1;refine ag hcl 6 ?_;refine dC [8] fun W4 hW4 => ?_
      replace HN := HN.then hW4
      clear hW4;refine dO (fun K hK => ?_);go_simp;refine bX hK ((HN.alloc _).drop 2) ?_;clear hK K;refine bV HN ?_;generalize W4.heap.size = d1;intro W5 HN2;clear hSw;have hSw := HN2.drop 2;refine ag hcl 9 ?_;exact key d0 d1 W5 HN2
     ·go_simp
      refine bX hK ((HO.alloc _).drop 1) ?_;clear hK K;refine bV HO ?_;generalize W2.heap.size = d1;intro W3 HN;have hSw := HN.drop 1;refine ag hcl 9 ?_;refine dC [5] fun W4 hW4 => ?_
      replace HN := HN.then hW4
      clear hW4;refine dO (fun K hK => ?_);go_simp;refine bX hK ((HN.alloc _).drop 2) ?_;clear hK K;refine bV HN ?_;generalize W4.heap.size = d0;intro W5 HN2;clear hSw;have hSw := HN2.drop 2;refine ag hcl 6 ?_;exact key d0 d1 W5 (HN2.perm (List.Perm.swap _ _ _))
    clear HO;intro d0 d1 W4 HO;refine dC [10] fun W5 hW5 => ?_
    replace HO := HO.then hW5
    clear hW5;refine dO (fun K hK => ?_);go_simp;refine bX hK ((HO.alloc _).drop 3) ?_;clear hK K;refine bV HO ?_;generalize W5.heap.size = gSl;clear HO;intro W6 HO;refine dC [11] fun W7 hW7 => ?_
    replace HO := HO.then hW7
    clear hW7;refine dO (fun K hK => ?_);go_simp;go_at_call 9;have h1 := hL.out _ (HO.drop 3);have cN := JS 0 gi 0 ci k (xW ln) _ gI cI gO cO gSl 0 2 d0 0 1 d1 0 1 av bv _ h1.2.1 hs.out (Bf ln) hp4.out hp7.out hp8.out h1.1.fc ⟨HO.cell 0 0 rfl rfl, HO.cell 0 1 rfl rfl, HO.cell 0 2 rfl rfl, HO.cell 0 3 rfl rfl, HO.cell 0 4 rfl rfl, HO.cell 0 5 rfl rfl⟩ (Ep (HO.cell 2 0 rfl rfl)) (Ep (HO.cell 1 0 rfl rfl));rw [hcast, ← hlk.out] at cN;refine cN.mono ?_;clear cN h1;intro e W8 hE;obtain ⟨gX, W9, rfl, hb9, HM⟩ := MN hE hv.out;clear hE;have H5 := hid ((HO.drop 3).then hb9);clear HO hb9;have hSw := H5.out.then (NZ HM)
    refine bX hK hSw ?_;clear hK K;refine ag hcl 12 ?_;refine ag hcl 13 ?_;refine ag hcl 14 ?_;refine ag hcl 15 ?_;refine ag hcl 16 ?_;refine kS fun W10 hW10 => ?_
    replace HM := Ky HM hW10;clear hW10 hSw hcl;have hc4 : ((k + 4 : Nat) : Int) = k + 4 := by omega
    have hc5 : ((k + 5 : Nat) : Int) = k + 5 := by omega
    have cR := JJ hs.out (Bf ln) HM;rw [hc4] at cR;clear HM;go_wp2_with (go_at_call 10; (refine cR.mono ?_); clear cR; rintro e w5 ⟨rfl, HM⟩);refine (Jb hs.out HM).mono ?_;clear HM;rintro e w6 ⟨rfl, HM⟩;have cT := DV HM;rw [hc5] at cT;have cO := IA HM;have H6 := H5.out.then (MX HM)
    clear HM H5;go_wp2_with (first | (go_at_call 11; (refine cT.mono ?_); rintro e w7 ⟨rfl, rfl⟩) | (go_at_call 12; (refine cO.mono ?_); rintro e w8 ⟨g9, c9, t2, k2, t3, k3, rfl, h9⟩));have hval := (hL.out _ (H6.then h9.below)).2.2;have hbw : Bl w _ := (H6.then h9.below).below;generalize (dh ln av bv k).getD (k + 1) 0 = vl at *
    have s0 : w8.cell? ⟨g9, 0, none⟩ = some (.int .i64 0) := h9.rowcell 0 0 rfl rfl;have s2 : w8.cell? ⟨g9, 2, none⟩ = some (.slice (some ⟨t2, 0, none⟩) 1 k2) := h9.rowcell 0 2 rfl rfl;have s3 : w8.cell? ⟨g9, 3, none⟩ = some (.int .i64 (-1)) := h9.rowcell 0 3 rfl rfl;have r0 : w8.cell? ⟨t2, 0, none⟩ = some (.int .u32 vl) := h9.rowcell 1 0 rfl rfl;have z0 := block_lt_of_cell s0;have z2 := block_lt_of_cell r0;have z3 := block_lt_of_cell hval;clear h9 hL cO cT H6 hv hs Ha Hb HL HA hp1 hp2 hp3 hp4 hp7 hp8 hcast hc4 hc5;refine wp_loop_rounds 3 ?_;rw [rounds_succ];go_wp2_with fail;go_quiet (fail);go_wp2_with fail;rw [rounds_succ];go_wp2_with fail;rw [rounds_succ];go_wp2_with fail;go_ret;exact ⟨rfl, ((Own.nil w).then hbw |>.drewN _).below⟩
 ·have i1 : (1000 : Int) < n := by omega
  go_enter Tryz.func3, Tryz.ntmps3;go_wp2_with fail;go_ret;exact ⟨rfl, HO.below⟩
end Go.Proofs.YtlkolghiknbbfaaGreatDoor
