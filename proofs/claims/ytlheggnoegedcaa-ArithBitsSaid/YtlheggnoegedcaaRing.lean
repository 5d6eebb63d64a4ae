/- The walk of 'ArithRing'. -/
import Derived.Test.YtlheggnoegedcaaArity
namespace Go.Proofs.Ytlheggnoegedcaa
set_option linter.unusedVariables false
open Go.ChangeShapes Go.WideShapes Go.ChangeAt Go.RowKit
theorem mul_l (x y : Int) : x % 4294967296 * y % 4294967296 = x * y % 4294967296 := by rw [Int.mul_emod, Int.emod_emod_of_dvd _ (Int.dvd_refl _), ← Int.mul_emod]
theorem mul_r (x y : Int) : x * (y % 4294967296) % 4294967296 = x * y % 4294967296 := by rw [Int.mul_comm, mul_l, Int.mul_comm]
set_option maxRecDepth 100000 in
set_option maxHeartbeats 2000000 in
theorem walk_ring (a b c : Int) (ha : 0 ≤ a) (ha' : a < 4294967296) (hb : 0 ≤ b) (hb' : b < 4294967296) (hc : 0 ≤ c) (hc' : c < 4294967296) (w : World) :
    Calls Try.prog 8 #[.int .u32 a, .int .u32 b, .int .u32 c] w fun e w' => e = .returned (.bool true) ∧ Below w.heap.size w w' := by
  have l1 := binary_own 128 2 3 (by decide) (by decide) (by decide) (by decide)
  have l2 := binary_own 132 2 3 (by decide) (by decide) (by decide) (by decide)
  rw [show binS 128 2 3 = 5 from rfl, show isBin 128 = true from rfl] at l1
  rw [show binS 132 2 3 = 6 from rfl, show isBin 132 = true from rfl] at l2
  have u1 := unary_own 126 b hb hb'
  rw [show unS 126 b = -b % 4294967296 from rfl, show isUn 126 = true from rfl] at u1
  have k1 := two_any 128 a b ((a + b) % 4294967296) ha ha' hb hb' rfl
  have k1' := two_any 128 b a ((a + b) % 4294967296) hb hb' ha ha' (by show (b + a) % 4294967296 = _; rw [Int.add_comm])
  have k2 := two_any 132 a b (a * b % 4294967296) ha ha' hb hb' rfl
  have k2' := two_any 132 b a (a * b % 4294967296) hb hb' ha ha' (by show (b * a) % 4294967296 = _; rw [Int.mul_comm])
  have k3 := two_any 128 ((a + b) % 4294967296) c ((a + b + c) % 4294967296) (by omega) (by omega) hc hc' (by show ((a + b) % 4294967296 + c) % 4294967296 = _; omega)
  have k4 := two_any 128 b c ((b + c) % 4294967296) hb hb' hc hc' rfl
  have k5 := two_any 128 a ((b + c) % 4294967296) ((a + b + c) % 4294967296) ha ha' (by omega) (by omega) (by show (a + (b + c) % 4294967296) % 4294967296 = _; omega)
  have k6 := two_any 132 (a * b % 4294967296) c (a * b * c % 4294967296) (by omega) (by omega) hc hc' (by show (a * b % 4294967296 * c) % 4294967296 = _; exact mul_l _ _)
  have k7 := two_any 132 b c (b * c % 4294967296) hb hb' hc hc' rfl
  have k8 := two_any 132 a (b * c % 4294967296) (a * b * c % 4294967296) ha ha' (by omega) (by omega) (by show (a * (b * c % 4294967296)) % 4294967296 = _; rw [mul_r, Int.mul_assoc])
  have k9 := two_any 132 a ((b + c) % 4294967296) ((a * b + a * c) % 4294967296) ha ha' (by omega) (by omega) (by show (a * ((b + c) % 4294967296)) % 4294967296 = _; rw [mul_r, Int.mul_add])
  have k10 := two_any 132 a c (a * c % 4294967296) ha ha' hc hc' rfl
  have k11 := two_any 128 (a * b % 4294967296) (a * c % 4294967296) ((a * b + a * c) % 4294967296) (by omega) (by omega) (by omega) (by omega) (by show (a * b % 4294967296 + a * c % 4294967296) % 4294967296 = _; omega)
  have k12 := two_any 130 ((a + b) % 4294967296) b a (by omega) (by omega) hb hb' (by show ((a + b) % 4294967296 - b) % 4294967296 = _; omega)
  have k13 := two_any 130 a b ((a - b) % 4294967296) ha ha' hb hb' rfl
  have k14 := two_any 128 a (-b % 4294967296) ((a - b) % 4294967296) ha ha' (by omega) (by omega) (by show (a + -b % 4294967296) % 4294967296 = _; omega)
  have k15 := two_any 132 a 1 a ha ha' (by decide) (by decide) (by show a * 1 % 4294967296 = _; omega)
  generalize (a * b + a * c) % 4294967296 = v1 at k9 k11
  generalize a * b * c % 4294967296 = v2 at k6 k8
  generalize a * b % 4294967296 = v3 at k2 k2' k6 k11
  generalize a * c % 4294967296 = v4 at k10 k11
  generalize b * c % 4294967296 = v5 at k7 k8
  generalize (a + b + c) % 4294967296 = v6 at k3 k5
  generalize (a + b) % 4294967296 = v7 at k1 k1' k3 k12
  generalize (b + c) % 4294967296 = v8 at k4 k5 k9
  generalize (a - b) % 4294967296 = v9 at k13 k14
  generalize -b % 4294967296 = v10 at k14 u1
  have hB := Below.refl w.heap.size w
  go_enter Try.func8, Try.ntmps8
  go_wp2_with (first | (go_at_call 16; (with_reducible refine (l1 _).mono ?_); rintro e w1 ⟨rfl, hn⟩; replace hB := bcall hB hn; clear hn) | (go_at_call 16; (with_reducible refine (l2 _).mono ?_); rintro e w1 ⟨rfl, hn⟩; replace hB := bcall hB hn; clear hn) | (go_at_call 18; (with_reducible refine (u1 _).mono ?_); rintro e w1 ⟨rfl, hn⟩; replace hB := bcall hB hn; clear hn) | (go_at_call 17; (with_reducible refine (Two.call k1 _).mono ?_); rintro e w1 ⟨rfl, hn⟩; replace hB := bcall hB hn; clear hn) | (go_at_call 17; (with_reducible refine (Two.call k1' _).mono ?_); rintro e w1 ⟨rfl, hn⟩; replace hB := bcall hB hn; clear hn) | (go_at_call 17; (with_reducible refine (Two.call k2 _).mono ?_); rintro e w1 ⟨rfl, hn⟩; replace hB := bcall hB hn; clear hn) | (go_at_call 17; (with_reducible refine (Two.call k2' _).mono ?_); rintro e w1 ⟨rfl, hn⟩; replace hB := bcall hB hn; clear hn) | (go_at_call 17; (with_reducible refine (Two.call k3 _).mono ?_); rintro e w1 ⟨rfl, hn⟩; replace hB := bcall hB hn; clear hn) | (go_at_call 17; (with_reducible refine (Two.call k4 _).mono ?_); rintro e w1 ⟨rfl, hn⟩; replace hB := bcall hB hn; clear hn) | (go_at_call 17; (with_reducible refine (Two.call k5 _).mono ?_); rintro e w1 ⟨rfl, hn⟩; replace hB := bcall hB hn; clear hn) | (go_at_call 17; (with_reducible refine (Two.call k6 _).mono ?_); rintro e w1 ⟨rfl, hn⟩; replace hB := bcall hB hn; clear hn) | (go_at_call 17; (with_reducible refine (Two.call k7 _).mono ?_); rintro e w1 ⟨rfl, hn⟩; replace hB := bcall hB hn; clear hn) | (go_at_call 17; (with_reducible refine (Two.call k8 _).mono ?_); rintro e w1 ⟨rfl, hn⟩; replace hB := bcall hB hn; clear hn) | (go_at_call 17; (with_reducible refine (Two.call k9 _).mono ?_); rintro e w1 ⟨rfl, hn⟩; replace hB := bcall hB hn; clear hn) | (go_at_call 17; (with_reducible refine (Two.call k10 _).mono ?_); rintro e w1 ⟨rfl, hn⟩; replace hB := bcall hB hn; clear hn) | (go_at_call 17; (with_reducible refine (Two.call k11 _).mono ?_); rintro e w1 ⟨rfl, hn⟩; replace hB := bcall hB hn; clear hn) | (go_at_call 17; (with_reducible refine (Two.call k12 _).mono ?_); rintro e w1 ⟨rfl, hn⟩; replace hB := bcall hB hn; clear hn) | (go_at_call 17; (with_reducible refine (Two.call k13 _).mono ?_); rintro e w1 ⟨rfl, hn⟩; replace hB := bcall hB hn; clear hn) | (go_at_call 17; (with_reducible refine (Two.call k14 _).mono ?_); rintro e w1 ⟨rfl, hn⟩; replace hB := bcall hB hn; clear hn) | (go_at_call 17; (with_reducible refine (Two.call k15 _).mono ?_); rintro e w1 ⟨rfl, hn⟩; replace hB := bcall hB hn; clear hn))
  go_ret
  exact ⟨rfl, hB⟩
end Go.Proofs.Ytlheggnoegedcaa
