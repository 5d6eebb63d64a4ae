/- The reference's divisions. -/
import Derived.Test.YtlheggnoegedcaaNum
namespace Go.Proofs.Ytlheggnoegedcaa
set_option linter.unusedVariables false
open Go.ChangeShapes Go.WideShapes Go.ChangeAt Go.RowKit
/-- What is left over, with the sign of t. -/
def md (s t : Int) : Int := if s.tmod t ≠ 0 ∧ (s.tmod t < 0) ≠ (t < 0) then s.tmod t + t else s.tmod t
theorem tdiv_nn (s t : Int) (h : 0 ≤ s) (h' : 0 ≤ t) : s.tdiv t = s / t := Int.tdiv_eq_ediv_of_nonneg h
theorem tdiv_nl (s t : Int) (h : s < 0) : s.tdiv t = -((-s).tdiv t) := by rw [Int.neg_tdiv, Int.neg_neg]
theorem tdiv_nr (s t : Int) (h : t < 0) : s.tdiv t = -(s.tdiv (-t)) := by rw [Int.tdiv_neg, Int.neg_neg]
theorem tdiv_bd (s t : Int) (h1 : -2147483648 ≤ s) (h2 : s < 2147483648) : -2147483648 ≤ s.tdiv t ∧ s.tdiv t ≤ 2147483648 := by
  have h := Int.natAbs_tdiv_le_natAbs s t
  omega
theorem tmul_bd (s t : Int) (h1 : -2147483648 ≤ s) (h2 : s < 2147483648) : -2147483648 ≤ t * s.tdiv t ∧ t * s.tdiv t ≤ 2147483648 := by
  have h := Int.mul_tdiv_add_tmod s t
  have h3 : (s.tmod t).natAbs ≤ s.natAbs := by
    rw [Int.natAbs_tmod]; exact Nat.mod_le _ _
  have h4 : (t * s.tdiv t).natAbs ≤ s.natAbs := by
    rw [Int.natAbs_mul, Int.natAbs_tdiv]; exact Nat.mul_div_le _ _
  omega
theorem tmod_bd (s t : Int) (ht : t ≠ 0) (h1 : -2147483648 ≤ t) (h2 : t < 2147483648) : -2147483647 ≤ s.tmod t ∧ s.tmod t ≤ 2147483647 := by
  have h3 : (s.tmod t).natAbs < t.natAbs := by
    rw [Int.natAbs_tmod]; exact Nat.mod_lt _ (by omega)
  omega
theorem cut_any (s t : Int) (h1 : -2147483648 ≤ s) (h2 : s < 2147483648) (h3 : -2147483648 ≤ t) (h4 : t < 2147483648) (ht : t ≠ 0) (w : World) :
    Calls Try.prog 53 #[.int .i64 s, .int .i64 t] w fun e w' => e = .returned (.int .i64 (s.tdiv t)) ∧ w = w' := by
  have hb := tdiv_bd s t h1 h2
  rcases Int.lt_or_le s 0 with hs | hs <;> rcases Int.lt_or_gt_of_ne ht with hv | hv
  · have d1 : decide (s < 0) = true := by simpa using hs
    have d2 : decide (t < 0) = true := by simpa using hv
    go_enter Try.func53, Try.ntmps53
    go_wp2
    go_ret
    exact ⟨rfl, rfl⟩
  · have d1 : decide (s < 0) = true := by simpa using hs
    have d2 : decide (t < 0) = false := by simpa using Int.le_of_lt hv
    go_enter Try.func53, Try.ntmps53
    go_wp2
    go_ret
    exact ⟨rfl, rfl⟩
  · have d1 : decide (s < 0) = false := by simpa using hs
    have d2 : decide (t < 0) = true := by simpa using hv
    go_enter Try.func53, Try.ntmps53
    go_wp2
    go_ret
    exact ⟨rfl, rfl⟩
  · have d1 : decide (s < 0) = false := by simpa using hs
    have d2 : decide (t < 0) = false := by simpa using Int.le_of_lt hv
    have e : s.tdiv t = s / t := tdiv_nn _ _ (by omega) (by omega)
    rw [e] at hb ⊢
    clear e
    go_enter Try.func53, Try.ntmps53
    go_wp2
    go_ret
    exact ⟨rfl, rfl⟩
theorem sg_ne {b : Int} (hb : 0 ≤ b) (hb' : b < 4294967296) (h : b ≠ 0) : sg b ≠ 0 := by unfold sg; split <;> omega
/-- The divisions. -/
def dvS (op a b : Int) : Int :=
  if b = 0 then 0 else if op = 134 then a / b else if op = 135 then (sg a).tdiv (sg b) % 4294967296 else if op = 137 then a % b
  else if op = 138 then (sg a).tmod (sg b) % 4294967296 else md (sg a) (sg b) % 4294967296
theorem divided_zero (op a : Int) (ha : 0 ≤ a) (ha' : a < 4294967296) (w : World) :
    Calls Try.prog 33 #[.int .u16 op, .int .u32 a, .int .u32 0] w fun e w' => e = .returned (.int .u32 0) ∧ w = w' := by
  go_enter Try.func33, Try.ntmps33
  go_wp2
  go_ret
  exact ⟨rfl, rfl⟩
theorem divided_any (op a b : Int) (ho : op = 134 ∨ op = 135 ∨ op = 137 ∨ op = 138 ∨ op = 139) (ha : 0 ≤ a) (ha' : a < 4294967296) (hb : 0 ≤ b) (hb' : b < 4294967296) (hne : b ≠ 0) (w : World) :
    Calls Try.prog 33 #[.int .u16 op, .int .u32 a, .int .u32 b] w fun e w' => e = .returned (.int .u32 (dvS op a b)) ∧ w = w' := by
  have hz : (b == 0) = false := by simpa using hne
  have s1 := sg_bd a ha ha'
  have s2 := sg_bd b hb hb'
  have sne := sg_ne hb hb' hne
  have t1 := tdiv_bd (sg a) (sg b) s1.1 s1.2
  have t2 := tmul_bd (sg a) (sg b) s1.1 s1.2
  have t3 := tmod_bd (sg a) (sg b) sne s2.1 s2.2
  have q1 : 0 ≤ b * (a / b) ∧ b * (a / b) ≤ a := ⟨Int.mul_nonneg hb (Int.ediv_nonneg ha hb), Int.mul_ediv_self_le hne⟩
  have hbp : 1 ≤ b := by omega
  have hcut := cut_any (sg a) (sg b) s1.1 s1.2 s2.1 s2.2 sne
  have hrem : Hid (sg a - sg b * (sg a).tdiv (sg b) = (sg a).tmod (sg b)) := by have := Int.mul_tdiv_add_tmod (sg a) (sg b); show _ = _; omega
  have hq : Hid (a - b * (a / b) = a % b) := by have := Int.emod_add_mul_ediv a b; show _ = _; omega
  have g1 : Hid (dvS 134 a b = a / b % 4294967296) := by
    show _ = _
    have := Int.ediv_le_self b ha; have := Int.ediv_nonneg ha hb
    simp only [dvS, if_neg hne, if_true]; omega
  have g2 : Hid (dvS 135 a b = (sg a).tdiv (sg b) % 4294967296) := by show _ = _; simp [dvS, hne]
  have g3 : Hid (dvS 137 a b = (a - b * (a / b)) % 4294967296) := by
    show _ = _
    have := Int.emod_nonneg a hne; have := Int.emod_lt_of_pos a (show 0 < b by omega)
    rw [hq.out]; simp only [dvS, if_neg hne]; rw [if_neg (by decide), if_neg (by decide), if_pos trivial]; omega
  have g4 : Hid (dvS 138 a b = (sg a - sg b * (sg a).tdiv (sg b)) % 4294967296) := by show _ = _; rw [hrem.out]; simp [dvS, hne]
  have g5 : Hid (dvS 139 a b = md (sg a) (sg b) % 4294967296) := by show _ = _; simp [dvS, hne]
  clear hne sne
  have hW := word_any
  rcases ho with rfl | rfl | rfl | rfl | rfl
  · rw [g1.out]
    clear g1 g2 g3 g4 g5 hq
    go_enter Try.func33, Try.ntmps33
    go_wp2_with (first | (go_at_call 31; refine (signed_any _ (by omega) (by omega) _).mono ?_; rintro e w' ⟨rfl, rfl⟩) | (go_at_call 53; refine (hcut _).mono ?_; rintro e w' ⟨rfl, rfl⟩) | (go_at_call 29; refine (word_any _ _).mono ?_; rintro e w' ⟨rfl, rfl⟩))
    go_ret
    exact ⟨rfl, rfl⟩
  · rw [g2.out]
    clear g1 g2 g3 g4 g5 hq
    go_enter Try.func33, Try.ntmps33
    go_wp2_with (first | (go_at_call 31; refine (signed_any _ (by omega) (by omega) _).mono ?_; rintro e w' ⟨rfl, rfl⟩) | (go_at_call 53; refine (hcut _).mono ?_; rintro e w' ⟨rfl, rfl⟩) | (go_at_call 29; refine (word_any _ _).mono ?_; rintro e w' ⟨rfl, rfl⟩))
    go_ret
    exact ⟨rfl, rfl⟩
  · rw [g3.out]
    clear g1 g2 g3 g4 g5 hq
    go_enter Try.func33, Try.ntmps33
    go_wp2_with (first | (go_at_call 31; refine (signed_any _ (by omega) (by omega) _).mono ?_; rintro e w' ⟨rfl, rfl⟩) | (go_at_call 53; refine (hcut _).mono ?_; rintro e w' ⟨rfl, rfl⟩) | (go_at_call 29; refine (word_any _ _).mono ?_; rintro e w' ⟨rfl, rfl⟩))
    go_ret
    exact ⟨rfl, rfl⟩
  · rw [g4.out]
    clear g1 g2 g3 g4 g5 hq
    go_enter Try.func33, Try.ntmps33
    go_wp2_with (first | (go_at_call 31; refine (signed_any _ (by omega) (by omega) _).mono ?_; rintro e w' ⟨rfl, rfl⟩) | (go_at_call 53; refine (hcut _).mono ?_; rintro e w' ⟨rfl, rfl⟩) | (go_at_call 29; refine (word_any _ _).mono ?_; rintro e w' ⟨rfl, rfl⟩))
    go_ret
    exact ⟨rfl, rfl⟩
  · rw [g5.out]
    clear g1 g2 g3 g4 g5 hq
    obtain ⟨m, hm⟩ : ∃ m, (sg a).tmod (sg b) = m := ⟨_, rfl⟩
    have hm2 : sg a - sg b * (sg a).tdiv (sg b) = m := by rw [hrem.out, hm]
    have e : md (sg a) (sg b) = if m ≠ 0 ∧ (m < 0) ≠ (sg b < 0) then m + sg b else m := by unfold md; rw [hm]
    rw [e]
    rw [hm] at t3
    clear hm hrem e
    rcases Int.lt_trichotomy m 0 with c | rfl | c
    · rcases Int.lt_or_le (sg b) 0 with d | d
      · rw [if_neg (by simp [c, d])]
        have d0 : (m != 0) = true := by simp; omega
        have d1 : decide (m < 0) = true := by simpa using c
        have d2 : decide (sg b < 0) = true := by simpa using d
        go_enter Try.func33, Try.ntmps33
        go_wp2_with (first | (go_at_call 31; refine (signed_any _ (by omega) (by omega) _).mono ?_; rintro e w' ⟨rfl, rfl⟩) | (go_at_call 53; refine (hcut _).mono ?_; rintro e w' ⟨rfl, rfl⟩) | (go_at_call 29; refine (word_any _ _).mono ?_; rintro e w' ⟨rfl, rfl⟩))
        go_ret
        exact ⟨rfl, rfl⟩
      · rw [if_pos ⟨by omega, by simp [c]; omega⟩]
        have d0 : (m != 0) = true := by simp; omega
        have d1 : decide (m < 0) = true := by simpa using c
        have d2 : decide (sg b < 0) = false := by simpa using d
        go_enter Try.func33, Try.ntmps33
        go_wp2_with (first | (go_at_call 31; refine (signed_any _ (by omega) (by omega) _).mono ?_; rintro e w' ⟨rfl, rfl⟩) | (go_at_call 53; refine (hcut _).mono ?_; rintro e w' ⟨rfl, rfl⟩) | (go_at_call 29; refine (word_any _ _).mono ?_; rintro e w' ⟨rfl, rfl⟩))
        go_ret
        exact ⟨rfl, rfl⟩
    · rw [if_neg (by simp)]
      go_enter Try.func33, Try.ntmps33
      go_wp2_with (first | (go_at_call 31; refine (signed_any _ (by omega) (by omega) _).mono ?_; rintro e w' ⟨rfl, rfl⟩) | (go_at_call 53; refine (hcut _).mono ?_; rintro e w' ⟨rfl, rfl⟩) | (go_at_call 29; refine (word_any _ _).mono ?_; rintro e w' ⟨rfl, rfl⟩))
      go_ret
      exact ⟨rfl, rfl⟩
    · rcases Int.lt_or_le (sg b) 0 with d | d
      · rw [if_pos ⟨by omega, by simp [d]; omega⟩]
        have d0 : (m != 0) = true := by simp; omega
        have d1 : decide (m < 0) = false := by simp; omega
        have d2 : decide (sg b < 0) = true := by simpa using d
        go_enter Try.func33, Try.ntmps33
        go_wp2_with (first | (go_at_call 31; refine (signed_any _ (by omega) (by omega) _).mono ?_; rintro e w' ⟨rfl, rfl⟩) | (go_at_call 53; refine (hcut _).mono ?_; rintro e w' ⟨rfl, rfl⟩) | (go_at_call 29; refine (word_any _ _).mono ?_; rintro e w' ⟨rfl, rfl⟩))
        go_ret
        exact ⟨rfl, rfl⟩
      · rw [if_neg (by simp; omega)]
        have d0 : (m != 0) = true := by simp; omega
        have d1 : decide (m < 0) = false := by simp; omega
        have d2 : decide (sg b < 0) = false := by simpa using d
        go_enter Try.func33, Try.ntmps33
        go_wp2_with (first | (go_at_call 31; refine (signed_any _ (by omega) (by omega) _).mono ?_; rintro e w' ⟨rfl, rfl⟩) | (go_at_call 53; refine (hcut _).mono ?_; rintro e w' ⟨rfl, rfl⟩) | (go_at_call 29; refine (word_any _ _).mono ?_; rintro e w' ⟨rfl, rfl⟩))
        go_ret
        exact ⟨rfl, rfl⟩
end Go.Proofs.Ytlheggnoegedcaa
