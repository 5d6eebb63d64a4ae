/- The walk of 'ArithWide'. -/
import Derived.Test.YtlheggnoegedcaaPairs
namespace Go.Proofs.Ytlheggnoegedcaa
set_option linter.unusedVariables false
open Go.ChangeShapes Go.WideShapes Go.ChangeAt Go.RowKit
/-- A pair operation by its answers alone. -/
theorem pair_by (op a b x y : Int) (ha : 0 ≤ a) (ha' : a < 4294967296) (hb : 0 ≤ b) (hb' : b < 4294967296) (h : pairS op a b = (x, y, true)) (w : World) :
    Calls Try.prog 14 #[.int .u16 op, .int .u32 a, .int .u32 b] w fun e w' => e = .returned (.tuple #[.int .u32 x, .int .u32 y, .bool true]) ∧ w' = w.alloc (mapObj .u16 pairL) := by
  have := pair_own op a b ha ha' hb hb' w
  rw [h] at this
  exact this
set_option maxRecDepth 100000 in
set_option maxHeartbeats 1000000 in
theorem walk_wide (a b : Int) (ha : 0 ≤ a) (ha' : a < 4294967296) (hb : 0 ≤ b) (hb' : b < 4294967296) (w : World) :
    Calls Try.prog 4 #[.int .u32 a, .int .u32 b] w fun e w' => e = .returned (.bool true) ∧ Below w.heap.size w w' := by
  have hu := umul_bd a b ha ha' hb hb'
  have hs := smul_bd a b ha ha' hb hb'
  have s1 := sg_bd a ha ha'
  have s2 := sg_bd b hb hb'
  obtain ⟨x1, y1, e1, f1, f2, f3, f4, f5⟩ : ∃ x y, pairS 149 a b = (x, y, true) ∧ 0 ≤ x ∧ x < 4294967296 ∧ 0 ≤ y ∧ y ≤ 1 ∧ x + y * 4294967296 = a + b :=
    ⟨_, _, rfl, by omega, by omega, by unfold tr; split <;> omega, by unfold tr; split <;> omega, by unfold tr; split <;> simp_all <;> omega⟩
  obtain ⟨x2, y2, e2, g1, g2, g3, g4, g5⟩ : ∃ x y, pairS 150 a b = (x, y, true) ∧ 0 ≤ x ∧ x < 4294967296 ∧ 0 ≤ y ∧ y ≤ 1 ∧ a + y * 4294967296 = x + b :=
    ⟨_, _, rfl, by omega, by omega, by unfold tr; split <;> omega, by unfold tr; split <;> omega, by unfold tr; split <;> simp_all <;> omega⟩
  obtain ⟨x3, y3, e3, j1, j2, j3, j4, j5⟩ : ∃ x y, pairS 151 a b = (x, y, true) ∧ 0 ≤ x ∧ x < 4294967296 ∧ 0 ≤ y ∧ y < 4294967296 ∧ x + y * 4294967296 = a * b :=
    ⟨_, _, rfl, by omega, by omega, by omega, by omega, by omega⟩
  obtain ⟨x4, y4, e4, k1, k2, k3, k4, k5⟩ : ∃ x y, pairS 152 a b = (x, y, true) ∧ 0 ≤ x ∧ x < 4294967296 ∧ 0 ≤ y ∧ y < 4294967296 ∧ (wrap64 (x + y * 4294967296) == wrap64 (wrap64 (wrap32 a) * wrap64 (wrap32 b))) = true := by
    refine ⟨_, _, rfl, by omega, by omega, by omega, by omega, ?_⟩
    rw [wrap32_sg a ha ha', wrap32_sg b hb hb', wrap64_in (sg a) (by omega) (by omega), wrap64_in (sg b) (by omega) (by omega), wrap64_in (_ * _) (by omega) (by omega)]
    have : wrap64 (sg a * sg b % 4294967296 + sg a * sg b / 4294967296 % 4294967296 * 4294967296) = sg a * sg b := by unfold wrap64; omega
    rw [this]; simp
  have c1 := pair_by 149 a b _ _ ha ha' hb hb' e1
  have c2 := pair_by 150 a b _ _ ha ha' hb hb' e2
  have c3 := pair_by 151 a b _ _ ha ha' hb hb' e3
  have c4 := pair_by 152 a b _ _ ha ha' hb hb' e4
  clear e1 e2 e3 e4 hs s1 s2
  go_enter Try.func4, Try.ntmps4
  go_wp2_with (first | (go_at_call 14; (with_reducible refine (c1 _).mono ?_); rintro e w' ⟨rfl, rfl⟩) | (go_at_call 14; (with_reducible refine (c2 _).mono ?_); rintro e w' ⟨rfl, rfl⟩) | (go_at_call 14; (with_reducible refine (c3 _).mono ?_); rintro e w' ⟨rfl, rfl⟩) | (go_at_call 14; (with_reducible refine (c4 _).mono ?_); rintro e w' ⟨rfl, rfl⟩))
  go_ret
  exact ⟨rfl, bal (bal (bal (bal (Below.refl _ _) _) _) _) _⟩
end Go.Proofs.Ytlheggnoegedcaa
