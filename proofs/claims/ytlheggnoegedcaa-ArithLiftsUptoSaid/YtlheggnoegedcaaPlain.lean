/- Plain arithmetic: words of 32 bits as whole numbers. No program in sight. -/
import Derived.WalkKit
namespace Go.Proofs.Ytlheggnoegedcaa
open Go.RowKit
/-- A word as a signed number. -/
def sg (a : Int) : Int := if a < 2147483648 then a else a - 4294967296
/-- A truth as a word. -/
def tr (b : Bool) : Int := if b then 1 else 0
theorem sg_lo {a : Int} (h : a < 2147483648) : sg a = a := by simp [sg, h]
theorem sg_hi {a : Int} (h : 2147483648 ≤ a) : sg a = a - 4294967296 := by simp [sg]; omega
theorem sg_bd (a : Int) (h : 0 ≤ a) (h' : a < 4294967296) : -2147483648 ≤ sg a ∧ sg a < 2147483648 := by unfold sg; split <;> omega
theorem mul_bd (x y : Int) (B C : Int) (h1 : -B ≤ x) (h2 : x ≤ B) (h3 : -C ≤ y) (h4 : y ≤ C) (hC : 0 ≤ C) : -(B * C) ≤ x * y ∧ x * y ≤ B * C := by
  have hB : 0 ≤ B := by omega
  have e : (x * y).natAbs ≤ B.natAbs * C.natAbs := by
    rw [Int.natAbs_mul]
    exact Nat.mul_le_mul (by omega) (by omega)
  have e2 : ((B.natAbs * C.natAbs : Nat) : Int) = B * C := by
    rw [Int.natCast_mul, Int.natAbs_of_nonneg hB, Int.natAbs_of_nonneg hC]
  omega
theorem umul_bd (a b : Int) (ha : 0 ≤ a) (ha' : a < 4294967296) (hb : 0 ≤ b) (hb' : b < 4294967296) : 0 ≤ a * b ∧ a * b ≤ 18446744065119617025 := by
  constructor
  · exact Int.mul_nonneg ha hb
  · have := Int.mul_le_mul (a := a) (b := b) (c := 4294967295) (d := 4294967295) (by omega) (by omega) hb (by omega)
    omega
theorem smul_bd (a b : Int) (ha : 0 ≤ a) (ha' : a < 4294967296) (hb : 0 ≤ b) (hb' : b < 4294967296) : -4611686018427387904 ≤ sg a * sg b ∧ sg a * sg b ≤ 4611686018427387904 := by
  have h1 := sg_bd a ha ha'
  have h2 := sg_bd b hb hb'
  have := mul_bd (sg a) (sg b) 2147483648 2147483648 (by omega) (by omega) (by omega) (by omega) (by omega)
  omega
theorem wrap32_sg (a : Int) (h : 0 ≤ a) (h' : a < 4294967296) : wrap32 a = sg a := by
  unfold wrap32 sg; split <;> omega
theorem wrap64_in (n : Int) (h : -9223372036854775808 ≤ n) (h' : n < 9223372036854775808) : wrap64 n = n := by
  unfold wrap64; omega
theorem u64w (n : Int) : IntKind.u64.wrap n = n % 18446744073709551616 := by
  simp [IntKind.wrap, IntKind.bits, IntKind.signed]
theorem u32w (n : Int) : IntKind.u32.wrap n = n % 4294967296 := by
  simp [IntKind.wrap, IntKind.bits, IntKind.signed]
theorem tmod_pos (n m : Int) (h : 0 ≤ n) : n.tmod m = n % m := Int.tmod_eq_emod_of_nonneg h
theorem tmod_neg (n m : Int) (h : n < 0) : n.tmod m = -((-n) % m) := by
  rw [← Int.tmod_eq_emod_of_nonneg (by omega : 0 ≤ -n), Int.neg_tmod, Int.neg_neg]
theorem word_pos (n : Int) (h : 0 ≤ n.tmod 4294967296) : n.tmod 4294967296 % 4294967296 = n % 4294967296 := by
  rcases Int.lt_or_le n 0 with g | g
  · rw [tmod_neg n _ g] at h ⊢; omega
  · rw [tmod_pos n _ g]; omega
theorem word_neg (n : Int) (h : n.tmod 4294967296 < 0) : wrap64 (n.tmod 4294967296 + 4294967296) % 4294967296 = n % 4294967296 := by
  rcases Int.lt_or_le n 0 with g | g
  · rw [tmod_neg n _ g] at h ⊢; rw [wrap64_in _ (by omega) (by omega)]; omega
  · rw [tmod_pos n _ g] at h; omega
theorem smul_lo (a b : Int) (ha : 0 ≤ a) (ha' : a < 4294967296) (hb : 0 ≤ b) (hb' : b < 4294967296) :
    IntKind.u64.wrap (wrap64 (wrap64 (wrap32 a) * wrap64 (wrap32 b))) % 4294967296 = (sg a * sg b) % 4294967296 ∧ IntKind.u64.wrap (wrap64 (wrap64 (wrap32 a) * wrap64 (wrap32 b))) / 4294967296 % 4294967296 = sg a * sg b / 4294967296 % 4294967296 := by
  have h1 := sg_bd a ha ha'
  have h2 := sg_bd b hb hb'
  have h3 := smul_bd a b ha ha' hb hb'
  rw [wrap32_sg a ha ha', wrap32_sg b hb hb', wrap64_in (sg a) (by omega) (by omega), wrap64_in (sg b) (by omega) (by omega), wrap64_in _ (by omega) (by omega), u64w]
  omega
theorem tdiv_word (n : Int) : (n - n % 4294967296).tdiv 4294967296 = n / 4294967296 := by
  have : n - n % 4294967296 = 4294967296 * (n / 4294967296) := by omega
  rw [this, Int.mul_tdiv_cancel_left _ (by decide)]
theorem ret_int {k : IntKind} {a b : Int} (h : a = b) : Ending.returned (.int k a) = .returned (.int k b) := by rw [h]
theorem ret_pair {k : IntKind} {a b c d : Int} (h : a = b) (h' : c = d) : Ending.returned (.tuple #[.int k a, .int k c]) = .returned (.tuple #[.int k b, .int k d]) := by rw [h, h']
theorem ret_bool {a b : Bool} (h : a = b) : Ending.returned (.bool a) = .returned (.bool b) := by rw [h]
end Go.Proofs.Ytlheggnoegedcaa
