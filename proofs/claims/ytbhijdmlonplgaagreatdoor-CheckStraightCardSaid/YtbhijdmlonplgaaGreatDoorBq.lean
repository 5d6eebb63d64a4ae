/- The straight module: what flow and face ask of it. -/
import Derived.Test.YtbhijdmlonplgaaGreatDoorBg
import Derived.Test.YtbhijdmlonplgaaGreatDoorBp
import Derived.Test.YtbhijdmlonplgaaGreatDoorBj
import Derived.Test.YtbhijdmlonplgaaGreatDoorBk
import Derived.Test.YtbhijdmlonplgaaGreatDoorBn
import Derived.Test.YtbhijdmlonplgaaGreatDoorBo
import Derived.Test.YtbhijdmlonplgaaGreatDoorBl
namespace Go.Proofs.YtbhijdmlonplgaaGreatDoor
set_option linter.unusedVariables false
set_option linter.unusedSimpArgs false
set_option maxRecDepth 100000
set_option maxHeartbeats 4000000
open Go.RowKit
section
variable {n : Nat} {f : Nat → Ln}
theorem str_hm : ∀ K, K ≤ 6 + n → ∀ (id : Nat) (x : HmD), hmF (strL n f) 21 20 K id = some x → x.lab = true ∨ (id = x.at_ + 1 ∧ 21 ≤ x.at_)
 | 0, _, id, x, h => by
  unfold hmF kup at h
  split at h
  ·cases h; exact .inl rfl
  ·cases h
 | K + 1, hK, id, x, h => by
  have e : (strL n f).getD (20 + 1 + K) noIn = strAt n f (21 + K) := strL_getD (21 + K) (by omega)
  have er : (strAt n f (21 + K)).res = resS n (21 + K) := str_res (by omega)
  simp only [hmF, e, er] at h
  split at h
  ·exact str_hm K (by omega) id x h
  ·rename_i h0
   unfold kup at h
   split at h
   ·rename_i hq
    cases h
    refine .inr ⟨?_, by simp only; omega⟩
    show id = 20 + 1 + K + 1
    rw [hq]
    unfold resS at h0 ⊢
    repeat' split at h0
    all_goals (repeat' split) <;> omega
   ·exact str_hm K (by omega) id x h
theorem str_late_ids (hs : StrOk n f) {k : Nat} (hk : k < 27 + n) (h20 : 20 ≤ k) : ∀ id ∈ idsOf (strAt n f k), id < 22 ∨ id ≤ k := by
 have hc := str_case (n := n) (f := f) k hk
 generalize strAt n f k = i at hc ⊢
 cases hc with
 | head h =>
  rcases (show k = 20 ∨ k = 21 ∨ k = 22 by omega) with rfl | rfl | rfl
  ·rw [show idsOf (headL.getD 20 noIn) = [] from rfl]; intro id hid; cases hid
  ·rw [show idsOf (headL.getD 21 noIn) = [3, 10] from rfl]; intro id hid; simp only [List.mem_cons, List.not_mem_nil, or_false] at hid; omega
  ·rw [show idsOf (headL.getD 22 noIn) = [3, 11] from rfl]; intro id hid; simp only [List.mem_cons, List.not_mem_nil, or_false] at hid; omega
 | line j h hk =>
  subst hk
  rw [line_ids j _ (hs.ty j h)]
  intro id hid
  have e1 := hs.x j h
  have e2 := hs.y j h
  have e3 := hs.ty j h
  simp only [List.mem_cons, List.not_mem_nil, or_false] at hid
  omega
 | tail j h hk =>
  subst hk
  intro id hid
  have := tail_ids (n := n) h id hid
  omega
theorem str_no245 (hs : StrOk n f) : ∀ k (h : k < (strL n f).length), (strL n f)[k].op ≠ 245 := no_head 245 (by kernel_rfl) (by decide) (by kernel_rfl) hs
theorem str_no16 (hs : StrOk n f) : ∀ k (h : k < (strL n f).length), (strL n f)[k].op ≠ 16 := no_head 16 (by kernel_rfl) (by decide) (by kernel_rfl) hs
theorem str_no252 (hs : StrOk n f) : ∀ k (h : k < (strL n f).length), (strL n f)[k].op ≠ 252 := no_head 252 (by kernel_rfl) (by decide) (by kernel_rfl) hs
theorem str_flow (hs : StrOk n f) : ∀ k (hk : k < (strL n f).length), tS 8 + 1 ≤ k → k < 25 + n + 1 → ∀ id ∈ idsOf (strL n f)[k], MayOk (hmF (strL n f) ((strL n f).getD (tS 8 + 1) noIn).res (tS 8 + 1) (25 + n + 1 - (tS 8 + 1 + 1))) id k := by
 intro k hk h20 h26 id hid x hx
 have h20 : 20 ≤ k := h20
 have hk2 : k < 27 + n := by rw [strL_len] at hk; exact hk
 rw [strL_get] at hid
 have e : (strL n f).getD (tS 8 + 1) noIn = headL.getD 20 noIn := str_headD (k := 20) (by omega)
 rw [e] at hx
 have hx : hmF (strL n f) 21 20 (25 + n + 1 - (20 + 1)) id = some x := hx
 have h1 := str_hm (n := n) (f := f) _ (by omega) id x hx
 have h2 := str_late_ids hs hk2 h20 id hid
 rcases h1 with q | q
 ·exact .inl q
 ·exact .inr (by omega)
theorem str_fk : ∀ K, 6 ≤ K → K ≤ 27 + n → StrOk n f → fkK (strL n f) K = fkK (strL n f) 6
 | 0, h, _, _ => by omega
 | K + 1, h, hK, hs => by
  by_cases e : K + 1 = 6
  ·rw [e]
  ·have e1 : (strL n f).getD K noIn = (strL n f)[K]'(by rw [strL_len]; omega) := getD_at _ _
   have h71 : (strL n f)[K]'(by rw [strL_len]; omega) = strAt n f K := strL_get _ _
   have hop : (strAt n f K).op ≠ 71 := by
    by_cases a : K < 23
    ·rw [strAt_head a]
     have := List.all_eq_true.1 (show ((List.range 23).all fun k => decide (k < 6) || !((headL.getD k noIn).op == 71)) = true by kernel_rfl) K (List.mem_range.2 a)
     simp only [Bool.or_eq_true, decide_eq_true_eq, Bool.not_eq_true', beq_eq_false_iff_ne] at this
     exact this.resolve_left (by omega)
    ·by_cases b : K < 23 + n
     ·rw [strAt_line (j := K - 23) (by omega) (by omega)]
      exact isTwo_ne (hs.op (K - 23) (by omega)) 71 (by decide)
     ·obtain ⟨j, hj⟩ : ∃ j, K = 23 + n + j := ⟨K - (23 + n), by omega⟩
      have hj4 : j < 4 := by omega
      rw [strAt_tail hj, (tail_like hj4).op]
      have := List.all_eq_true.1 (show ((List.range 4).all fun j => !(((tailL 0).getD j noIn).op == 71)) = true by kernel_rfl) j (List.mem_range.2 hj4)
      simpa using this
   simp only [fkK, e1, h71, if_neg hop]
   exact str_fk K (by omega) (by omega) hs
theorem fkK_head : ∀ k, k ≤ 23 → fkK (strL n f) k = fkK headL k
 | 0, _ => rfl
 | k + 1, h => by simp only [fkK, fkK_head k (by omega), str_headD (show k < 23 by omega)]
theorem str_fkS (hs : StrOk n f) : fkK (strL n f) (strL n f).length = fkK headL 6 := by
 rw [strL_len, str_fk _ (by omega) (Nat.le_refl _) hs, fkK_head 6 (by omega)]
theorem fk_all : (fkK headL 6 10 = some 2 ∧ fkK headL 6 11 = some 3) ∧ fkK headL 6 12 = some 4 ∧ fkK headL 6 13 = some 5 := ⟨⟨rfl, rfl⟩, rfl, rfl⟩
theorem str_op71 (hs : StrOk n f) {k : Nat} (hk : k < (strL n f).length) (h : (strL n f)[k].op = 71) : 2 ≤ k ∧ k < 6 := by
 rw [strL_get] at h
 have hk2 : k < 27 + n := by rw [strL_len] at hk; exact hk
 by_cases a : k < 23
 ·rw [strAt_head a] at h
  have := List.all_eq_true.1 (show ((List.range 23).all fun k => (decide (2 ≤ k) && decide (k < 6)) || !((headL.getD k noIn).op == 71)) = true by kernel_rfl) k (List.mem_range.2 a)
  simp only [Bool.or_eq_true, Bool.and_eq_true, decide_eq_true_eq, Bool.not_eq_true', beq_eq_false_iff_ne] at this
  exact this.resolve_right (fun q => q h)
 ·by_cases b : k < 23 + n
  ·rw [strAt_line (j := k - 23) (by omega) (by omega)] at h
   exact absurd h (isTwo_ne (hs.op (k - 23) (by omega)) 71 (by decide))
  ·obtain ⟨j, hj⟩ : ∃ j, k = 23 + n + j := ⟨k - (23 + n), by omega⟩
   have hj4 : j < 4 := by omega
   rw [strAt_tail hj, (tail_like hj4).op] at h
   have := List.all_eq_true.1 (show ((List.range 4).all fun j => !(((tailL 0).getD j noIn).op == 71)) = true by kernel_rfl) j (List.mem_range.2 hj4)
   exact absurd h (by simpa using this)
theorem str_op15 (hs : StrOk n f) {k : Nat} (hk : k < (strL n f).length) (h : (strL n f)[k].op = 15) : k = 1 := by
 rw [strL_get] at h
 have hk2 : k < 27 + n := by rw [strL_len] at hk; exact hk
 by_cases a : k < 23
 ·rw [strAt_head a] at h
  have := List.all_eq_true.1 (show ((List.range 23).all fun k => decide (k = 1) || !((headL.getD k noIn).op == 15)) = true by kernel_rfl) k (List.mem_range.2 a)
  simp only [Bool.or_eq_true, decide_eq_true_eq, Bool.not_eq_true', beq_eq_false_iff_ne] at this
  exact this.resolve_right (fun q => q h)
 ·by_cases b : k < 23 + n
  ·rw [strAt_line (j := k - 23) (by omega) (by omega)] at h
   exact absurd h (isTwo_ne (hs.op (k - 23) (by omega)) 15 (by decide))
  ·obtain ⟨j, hj⟩ : ∃ j, k = 23 + n + j := ⟨k - (23 + n), by omega⟩
   have hj4 : j < 4 := by omega
   rw [strAt_tail hj, (tail_like hj4).op] at h
   have := List.all_eq_true.1 (show ((List.range 4).all fun j => !(((tailL 0).getD j noIn).op == 15)) = true by kernel_rfl) j (List.mem_range.2 hj4)
   exact absurd h (by simpa using this)
theorem str_dec (hs : StrOk n f) : DecOk (strL n f) := by
 intro k hk h
 have h2 := str_op71 hs hk h
 rw [strL_get, strAt_head (by omega), fkK_head k (by omega)]
 rcases (show k = 2 ∨ k = 3 ∨ k = 4 ∨ k = 5 by omega) with rfl | rfl | rfl | rfl
 ·exact ⟨by decide, rfl⟩
 ·exact ⟨by decide, rfl⟩
 ·exact ⟨by decide, rfl⟩
 ·exact ⟨by decide, rfl⟩
theorem varS_ok : ∀ id c ty m, varS id = some (c, ty, m) → 0 < m ∧ m ≤ 4096 ∧ (c = 1 ∨ c = 3) := by
 intro id c ty m h
 unfold varS at h
 repeat' split at h
 all_goals first | cases h; done | (cases h; exact ⟨by decide, by decide, by decide⟩)
theorem varS_cls {v : Nat} (h : clsOf varS v ≠ 0) : v = 10 ∨ v = 11 ∨ v = 12 ∨ v = 13 := by
 unfold clsOf varS at h
 by_cases h1 : v = 13
 ·omega
 ·by_cases h2 : v = 12
  ·omega
  ·by_cases h3 : v = 11
   ·omega
   ·by_cases h4 : v = 10
    ·omega
    ·rw [if_neg h1, if_neg h2, if_neg h3, if_neg h4] at h
     exact absurd rfl h
end
end Go.Proofs.YtbhijdmlonplgaaGreatDoor
namespace Go.Proofs.YtbhijdmlonplgaaGreatDoor
set_option linter.unusedVariables false
set_option linter.unusedSimpArgs false
set_option maxRecDepth 100000
set_option maxHeartbeats 4000000
open Go.RowKit Go.MapKept
theorem fkr_of {w W : World} {K P T C gf gc gd b o cap b2 cb id lab y st en lo1 hi1 lo2 hi2 lo3 hi3 : Nat} {l : List In} {sv : Nat → Option Addr × Nat} {tab : Nat → Option TyD} {vs : Nat → Option (Nat × Nat × Nat)} {f : Nat → Option DcD} {D : Nat → Prop} {L : List As} {fk : Nat → Option Nat} (h : Own noX w (fkL w K P T C gf gc gd b o cap b2 cb id lab y st en lo1 hi1 lo2 hi2 lo3 hi3 l sv tab vs f D L) W) (hM : Ms w b o l sv) (hf : ∀ v, (f v).map (·.k) = fk v) : Fkr K P T C gf gc gd b o cap b2 cb id lab y st en l sv tab vs fk W :=
 ⟨h.cell 1 0 rfl rfl, h.cell 1 1 rfl rfl, h.cell 1 2 rfl rfl, h.cell 1 3 rfl rfl, h.cell 1 4 rfl rfl, h.cell 1 5 rfl rfl,
  ⟨lo1, DeepAt.out (h.at 5 rfl : DeepAt _ _ _ W) (PlIn.keeps P T tab vs)⟩, ⟨lo2, DeepAt.out (h.at 4 rfl : DeepAt _ _ _ W) (fun lo W W' h hk => h.keep hk)⟩, ⟨lo3, DeepAt.out (h.at 3 rfl : DeepAt _ _ _ W) (fnkeeps _ _ _ _ _ _ _ _)⟩, hM.below h.below,
  ⟨f, D, h.at 2 rfl, h.at 0 rfl, fun k hk => (h.low _ (List.mem_of_getElem? (i := 0) rfl) k hk).2, hf⟩⟩
def xS : Nat → PtD
 | 0 => ⟨10, 0, -1, 3, 1, false⟩
 | 1 => ⟨11, 1, -1, 3, 1, false⟩
 | 2 => ⟨12, 0, -1, 3, 1, false⟩
 | _ => ⟨13, -1, 0, 5, 4, true⟩
def cS (j : Nat) : Nat := if j < 2 then 1 else 3
abbrev FkS (K P T C gf gc gd b o cap b2 cb n : Nat) (f : Nat → Ln) (sv : Nat → Option Addr × Nat) (w : World) : Prop := Fkr K P T C gf gc gd b o cap b2 cb 20 21 19 20 (25 + n + 1) (strL n f) sv tabS varS (fkK headL 6) w
section
variable {K P T C gf gc gd b o cap b2 cb n : Nat} {f : Nat → Ln} {sv : Nat → Option Addr × Nat} {w : World}
theorem says_S (h : FkS K P T C gf gc gd b o cap b2 cb n f sv w) (v kind k : Nat) (a0 a1 a2 : Ag) (r : Int) (e : fkK headL 6 v = some k) (hk : k < 23) (ha : (headL.getD k noIn).args = [a0, a1, a2]) (hr : (if a1.n = kind then (a2.n : Int) else -1) = r) :
  Calls Tryz.prog 221 #[.pointer (some ⟨K, 0, none⟩), .int .u32 v, .int .u32 kind] w fun e w' => e = .returned (.int .i64 r) ∧ Below w.heap.size w w' := by
 rw [← hr]
 exact fsays_own h v kind k a0 a1 a2 e (by rw [strL_len]; omega) (by rw [strL_get, strAt_head hk]; exact ha)
theorem num3_S (h : FkS K P T C gf gc gd b o cap b2 cb n f sv w) : Calls Tryz.prog 220 #[.pointer (some ⟨K, 0, none⟩), .int .u32 (3 : Nat)] w fun e w' => e = .returned (.tuple #[.int .u32 (3 : Nat), .bool true]) ∧ Below w.heap.size w w' := fnumber_plain h 3 (by decide)
theorem num5_S (h : FkS K P T C gf gc gd b o cap b2 cb n f sv w) : Calls Tryz.prog 220 #[.pointer (some ⟨K, 0, none⟩), .int .u32 (5 : Nat)] w fun e w' => e = .returned (.tuple #[.int .u32 (4 : Nat), .bool true]) ∧ Below w.heap.size w w' := fnumber_vec h 5 4 rfl ⟨by decide, by decide⟩ (by decide) rfl rfl
theorem port_S (h : FkS K P T C gf gc gd b o cap b2 cb n f sv w) (v ty n2 sz k c m : Nat) (loc bi : Int) (sg : Bool) (a0 a1 a2 : Ag) (e : fkK headL 6 v = some k) (hk : k < 23) (ha : (headL.getD k noIn).args = [a0, a1, a2]) (hl : (if a1.n = 30 then (a2.n : Int) else -1) = loc) (hb : (if a1.n = 11 then (a2.n : Int) else -1) = bi) (hv : varS v = some (c, ty, m))
  (cN : ∀ W, Below w.heap.size w W → Calls Tryz.prog 220 #[.pointer (some ⟨K, 0, none⟩), .int .u32 ty] W fun e w' => e = .returned (.tuple #[.int .u32 n2, .bool true]) ∧ Below W.heap.size W w') (hz : (getD_ tabS ty).size = sz) (hg : (getD_ tabS n2).sg = sg) :
  Calls Tryz.prog 145 #[.pointer (some ⟨K, 0, none⟩), .int .u32 v] w fun e w' => e = .returned (.agg #[.int .u32 v, .int .i64 loc, .int .i64 bi, .int .u32 ty, .int .i64 sz, .bool sg]) ∧ Below w.heap.size w w' := by
 refine fport_own v ty n2 sz loc bi sg true true c h.c0 h.c1 (fun W hw => ?_) cN (fun W hw => says_S (h.below hw) v 30 k a0 a1 a2 loc e hk ha hl) (fun W hw => says_S (h.below hw) v 11 k a0 a1 a2 bi e hk ha hb) (fun W hw => ?_) (fun W hw => ?_)
 ·obtain ⟨lo, hp⟩ := (h.below hw).pl
  have := var_in hp (fun id c ty m e => ⟨(varS_ok id c ty m e).1, (varS_ok id c ty m e).2.1⟩) v
  rw [hv] at this
  exact this
 ·obtain ⟨lo, hp⟩ := (h.below hw).pl
  rw [← hz]
  exact hp.tb.tsize ty
 ·obtain ⟨lo, hp⟩ := (h.below hw).pl
  rw [← hg]
  exact hp.tb.signed n2
theorem portK_S (h : FkS K P T C gf gc gd b o cap b2 cb n f sv w) : ∀ j, j < 4 → PortK K (10 + j) (cS j) (xS j) w := by
 intro j hj
 rcases (show j = 0 ∨ j = 1 ∨ j = 2 ∨ j = 3 by omega) with rfl | rfl | rfl | rfl
 ·exact ⟨fun W hw => fclass_own (h.below hw) varS_ok 10, fun W hw => port_S (h.below hw) 10 3 3 1 2 1 1 0 (-1) false (idA 10) (enA 30) (numA 0) rfl (by omega) rfl rfl rfl rfl (fun W2 h2 => num3_S ((h.below hw).below h2)) rfl rfl, fun W hw => (num3_S (h.below hw)).mono (fun e w' q => ⟨⟨3, q.1⟩, q.2⟩), fun W hw => fmay_none K 0 1 (xS 0) W (by decide), by decide⟩
 ·exact ⟨fun W hw => fclass_own (h.below hw) varS_ok 11, fun W hw => port_S (h.below hw) 11 3 3 1 3 1 1 1 (-1) false (idA 11) (enA 30) (numA 1) rfl (by omega) rfl rfl rfl rfl (fun W2 h2 => num3_S ((h.below hw).below h2)) rfl rfl, fun W hw => (num3_S (h.below hw)).mono (fun e w' q => ⟨⟨3, q.1⟩, q.2⟩), fun W hw => fmay_none K 0 1 (xS 1) W (by decide), by decide⟩
 ·exact ⟨fun W hw => fclass_own (h.below hw) varS_ok 12, fun W hw => port_S (h.below hw) 12 3 3 1 4 3 1 0 (-1) false (idA 12) (enA 30) (numA 0) rfl (by omega) rfl rfl rfl rfl (fun W2 h2 => num3_S ((h.below hw).below h2)) rfl rfl, fun W hw => (num3_S (h.below hw)).mono (fun e w' q => ⟨⟨3, q.1⟩, q.2⟩), fun W hw => fmay_none K 0 3 (xS 2) W (by decide), by decide⟩
 ·exact ⟨fun W hw => fclass_own (h.below hw) varS_ok 13, fun W hw => port_S (h.below hw) 13 5 4 4 5 3 4 (-1) 0 true (idA 13) (enA 11) (numA 0) rfl (by omega) rfl rfl rfl rfl (fun W2 h2 => num5_S ((h.below hw).below h2)) rfl rfl, fun W hw => (num5_S (h.below hw)).mono (fun e w' q => ⟨⟨4, q.1⟩, q.2⟩), fun W hw => fmay_pos K 13 5 (-1) W, by decide⟩
theorem entry_S (hM : Ms w b o (strL n f) sv) (hc : 7 ≤ (sv 1).2) : ∃ ab ao ac, sv 1 = (some ⟨ab, ao, none⟩, ac) ∧ ∀ W, Below w.heap.size w W → Calls Tryz.prog 92 #[.agg #[.int .u16 (15 : Nat), .int .u32 (0 : Nat), .int .u32 (0 : Nat), .slice (some ⟨ab, ao, none⟩) 7 ac]] W fun e w' => ∃ v', e = .returned (.agg #[.int .u32 (0 : Nat), .int .u32 (20 : Nat), .string mainS, v']) ∧ Own noX W [rw_ W.heap.size 27 1 v' 4 [.int .u32 (10 : Nat), .int .u32 (11 : Nat), .int .u32 (12 : Nat), .int .u32 (13 : Nat)]] w' := by
 have h1 : 1 < (strL n f).length := by rw [strL_len]; omega
 have hsl : ∀ W, Below w.heap.size w W → Sl 3 AgAt W (sv 1).1 (headL.getD 1 noIn).args := fun W hb => by
  have := (hM.below hb).sl 1 h1
  rw [strL_get, strAt_head (by omega)] at this
  exact this
 obtain ⟨ab, ao, ea, _⟩ := (hsl w (Below.refl _ _)).at_ (by decide)
 refine ⟨ab, ao, (sv 1).2, by rw [← ea], fun W hb => ?_⟩
 have h2 := hsl W hb
 rw [ea] at h2
 exact fentryOf_own 15 0 0 ab ao (sv 1).2 (enA 0) (idA 20) (txA mainS) [idA 10, idA 11, idA 12, idA 13] W h2 (by decide) (by decide) hc
structure EnS (b o ab ao ac : Nat) (w : World) : Prop where
 e0 : w.cell? ⟨b, o + 1 * 4, none⟩ = some (.int .u16 (15 : Nat))
 e1 : w.cell? ⟨b, o + 1 * 4 + 1, none⟩ = some (.int .u32 (0 : Nat))
 e2 : w.cell? ⟨b, o + 1 * 4 + 2, none⟩ = some (.int .u32 (0 : Nat))
 e3 : w.cell? ⟨b, o + 1 * 4 + 3, none⟩ = some (.slice (some ⟨ab, ao, none⟩) 7 ac)
theorem en_S (hM : Ms w b o (strL n f) sv) {ab ao ac : Nat} (e : sv 1 = (some ⟨ab, ao, none⟩, ac)) : EnS b o ab ao ac w := by
 have h1 : 1 < (strL n f).length := by rw [strL_len]; omega
 have g : (strL n f)[1] = headL.getD 1 noIn := by rw [strL_get, strAt_head (by omega)]
 have e0 := hM.op 1 h1
 have e1 := hM.ty 1 h1
 have e2 := hM.res 1 h1
 have e3 := hM.args 1 h1
 rw [g] at e0 e1 e2 e3
 rw [e] at e3
 exact ⟨e0, e1, e2, e3⟩
theorem entered_S (h : FkS K P T C gf gc gd b o cap b2 cb n f sv w) (hs : StrOk n f) (hc : 7 ≤ (sv 1).2) :
  Calls Tryz.prog 213 #[.pointer (some ⟨K, 0, none⟩), .int .i64 (1 : Nat)] w fun e w' => e = .returned (.bool true) ∧ Below w.heap.size w w' := by
 obtain ⟨ab, ao, ac, e, cE⟩ := entry_S h.ms hc
 have h1 : 1 < (strL n f).length := by rw [strL_len]; omega
 have h19 : 19 < (strL n f).length := by rw [strL_len]; omega
 have g : (strL n f)[1] = headL.getD 1 noIn := by rw [strL_get, strAt_head (by omega)]
 have hsm := hs.small
 refine fentered_own h 1 h1 (by rw [strL_len]; omega) ab ao ac e (by rw [g]; rfl) (by rw [g]; rfl) mainS (fun W hb => ?_) h19 (by rw [str_headD (by omega)]; rfl) (str_no57 hs) (fun k hk => str_op15 hs hk) (str_no16 hs)
 rw [g]
 refine (cE W hb).mono (fun e w' q => ?_)
 obtain ⟨v', q1, q2⟩ := q
 obtain ⟨aa, ec, rfl, hx⟩ := q2.slice 0 rfl
 obtain ⟨ge, rfl, _⟩ := q2.slice2 0 rfl (by omega)
 exact ⟨ge, ec, q1, q2.below⟩
theorem faced_S (h : FkS K P T C gf gc gd b o cap b2 cb n f sv w) (hs : StrOk n f) (hc : 7 ≤ (sv 1).2) (hcap : (strL n f).length ≤ cap) :
  Calls Tryz.prog 214 #[.pointer (some ⟨K, 0, none⟩), .int .i64 (1 : Nat)] w fun e w' => e = .returned (.bool true) ∧ Below w.heap.size w w' := by
 obtain ⟨ab, ao, ac, e, cE⟩ := entry_S h.ms hc
 have h1 : 1 < (strL n f).length := by rw [strL_len]; omega
 have hE := en_S h.ms e
 have hsm := hs.small
 have cl : ∀ j, j < 4 → ∀ W W2, Below w.heap.size w W → Below W.heap.size W W2 → _ := fun j hj W W2 hb hb2 => (portK_S h j hj).cl W2 (bcall hb hb2)
 have po : ∀ j, j < 4 → ∀ W W2, Below w.heap.size w W → Below W.heap.size W W2 → _ := fun j hj W W2 hb hb2 => (portK_S h j hj).po W2 (bcall hb hb2)
 exact ffaced_own K C b o cap (strL n f).length 1 0 ⟨15, 0, 0, []⟩ (fun j => 10 + j) cS xS w h.c4 ab ao ac hE.e0 hE.e1 hE.e2 hE.e3 h1 0 20 mainS cE (fun j hj => portK_S h j hj)
  (fun W ge ec hb hq => fports_out K 0 20 ge ec 10 11 12 13 1 1 3 3 3 mainS (xS 2) (xS 3) W (hq 0 (by omega)) (hq 1 (by omega)) (hq 2 (by omega)) (hq 3 (by omega)) (by decide) (by decide) rfl rfl (fun W2 h2 => cl 0 (by omega) W W2 hb h2) (fun W2 h2 => cl 1 (by omega) W W2 hb h2) (fun W2 h2 => cl 2 (by omega) W W2 hb h2) (fun W2 h2 => cl 3 (by omega) W W2 hb h2) (fun W2 h2 => po 2 (by omega) W W2 hb h2) (fun W2 h2 => po 3 (by omega) W W2 hb h2) (by decide))
  (fun W ge ec hb hq => fports_in K 0 20 ge ec 10 11 12 13 1 1 3 3 1 mainS (xS 0) (xS 1) W (hq 0 (by omega)) (hq 1 (by omega)) (hq 2 (by omega)) (hq 3 (by omega)) rfl rfl (by decide) (by decide) (fun W2 h2 => cl 0 (by omega) W W2 hb h2) (fun W2 h2 => cl 1 (by omega) W W2 hb h2) (fun W2 h2 => cl 2 (by omega) W W2 hb h2) (fun W2 h2 => cl 3 (by omega) W W2 hb h2) (fun W2 h2 => po 0 (by omega) W W2 hb h2) (fun W2 h2 => po 1 (by omega) W W2 hb h2) (by decide))
  (fun W ge ec hb hq => fused_own (h.below hb) varS_ok 0 ge ec mainS (fun j => 10 + j) hq (by omega) (by rw [strL_len]; omega) hcap (by rw [strL_len]; omega) (fun k hk h2 h3 v hv hcl => by
   rcases varS_cls hcl with rfl | rfl | rfl | rfl
   ·exact ⟨0, by omega, rfl⟩
   ·exact ⟨1, by omega, rfl⟩
   ·exact ⟨2, by omega, rfl⟩
   ·exact ⟨3, by omega, rfl⟩))
  (fun g c' W h0 h6 => unlike_in g c' 10 11 3 3 1 1 false false W h0 h6)
  (fun g c' W h0 h6 => unlike_out g c' 12 13 3 5 1 4 false true W h0 h6)
  (fun g c' W h0 h6 => fport2_own g c' (xS 2) (xS 3) W h0 h6 (by decide) rfl)
  (fun i j _ _ e => by omega)
theorem decorated_S (h : FkS K P T C gf gc gd b o cap b2 cb n f sv w) (hs : StrOk n f) (hc : 7 ≤ (sv 1).2) :
  Calls Tryz.prog 215 #[.pointer (some ⟨K, 0, none⟩), .int .i64 (1 : Nat)] w fun e w' => e = .returned (.bool true) ∧ Below w.heap.size w w' := by
 obtain ⟨ab, ao, ac, e, cE⟩ := entry_S h.ms hc
 have h1 : 1 < (strL n f).length := by rw [strL_len]; omega
 have hE := en_S h.ms e
 exact fdecorated_own K b o cap (strL n f).length 1 ⟨15, 0, 0, []⟩ (fun j => 10 + j) cS xS w h.c4 ab ao ac hE.e0 hE.e1 hE.e2 hE.e3 h1 20 mainS cE (fun j hj => portK_S h j hj) (fun j hj => by
  rcases (show j = 0 ∨ j = 1 ∨ j = 2 ∨ j = 3 by omega) with rfl | rfl | rfl | rfl <;> decide)
theorem decoration_S (h : FkS K P T C gf gc gd b o cap b2 cb n f sv w) (hs : StrOk n f) (hcap : (strL n f).length ≤ cap) (k : Nat) (hk : 2 ≤ k ∧ k < 6) (hc : 3 ≤ (sv k).2) :
  Calls Tryz.prog 217 #[.pointer (some ⟨K, 0, none⟩), .int .i64 k] w fun e w' => e = .returned (.bool true) ∧ Below w.heap.size w w' := by
 have hlt : k < (strL n f).length := by rw [strL_len]; omega
 have g : (strL n f)[k] = headL.getD k noIn := by rw [strL_get, strAt_head (by omega)]
 have hsm := hs.small
 have hn : (strL n f).length ≤ 2000 := by rw [strL_len]; omega
 have hu : ∀ v, v = 8 + k → ∀ j (hj : j < (strL n f).length), j < k → (strL n f)[j].op = 71 → 0 < (strL n f)[j].args.length ∧ ((strL n f)[j].args.map (·.n)).headD 0 ≠ v := by
  intro v hv j hj hjk h71
  have h2 := str_op71 hs hj h71
  rw [strL_get, strAt_head (by omega)]
  rcases (show j = 2 ∨ j = 3 ∨ j = 4 ∨ j = 5 by omega) with rfl | rfl | rfl | rfl
  ·exact ⟨by decide, by show (10 : Nat) ≠ v; omega⟩
  ·exact ⟨by decide, by show (11 : Nat) ≠ v; omega⟩
  ·exact ⟨by decide, by show (12 : Nat) ≠ v; omega⟩
  ·omega
 rcases (show k = 2 ∨ k = 3 ∨ k = 4 ∨ k = 5 by omega) with rfl | rfl | rfl | rfl
 ·exact fdecoration_own h 2 hlt hcap hn 10 30 0 (by rw [g]; rfl) hc (.inl rfl) (by decide) (fun W hw => fclass_own (h.below hw) varS_ok 10) (hu 10 rfl)
 ·exact fdecoration_own h 3 hlt hcap hn 11 30 1 (by rw [g]; rfl) hc (.inl rfl) (by decide) (fun W hw => fclass_own (h.below hw) varS_ok 11) (hu 11 rfl)
 ·exact fdecoration_own h 4 hlt hcap hn 12 30 0 (by rw [g]; rfl) hc (.inl rfl) (by decide) (fun W hw => fclass_own (h.below hw) varS_ok 12) (hu 12 rfl)
 ·exact fdecoration_own h 5 hlt hcap hn 13 11 0 (by rw [g]; rfl) hc (.inr ⟨rfl, rfl⟩) (by decide) (fun W hw => fclass_own (h.below hw) varS_ok 13) (hu 13 rfl)
end
end Go.Proofs.YtbhijdmlonplgaaGreatDoor
