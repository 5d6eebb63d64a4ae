/- Bits of numbers, plainly: what moved bits and bits joined come to. No program in sight. -/
import Derived.Test.YtlheggnoegedcaaBitwise
namespace Go.Proofs.Ytlheggnoegedcaa
set_option linter.unusedVariables false
open Go.RowKit
theorem bit_nat (m k : Nat) : bit (m : Int) k = if m.testBit k then 1 else 0 := by
  have e : bit (m : Int) k = ((m / 2 ^ k % 2 : Nat) : Int) := by unfold bit; simp
  rw [e, Nat.testBit_eq_decide_div_mod_eq]
  have := Nat.mod_two_eq_zero_or_one (m / 2 ^ k)
  rcases this with h | h <;> simp [h]
theorem nat_of {a : Int} (h : 0 ≤ a) (h' : a < 4294967296) : ∃ m : Nat, a = m ∧ m < 2 ^ 32 := ⟨a.toNat, by omega, by omega⟩
theorem bits_and (m n : Nat) (hm : m < 2 ^ 32) (hn : n < 2 ^ 32) : bits BinOp.and IntKind.u32 (m : Int) (n : Int) = ((m &&& n : Nat) : Int) := by
  have := Nat.and_lt_two_pow (n := 32) m hn
  have e : (BitVec.ofNat 32 m &&& BitVec.ofNat 32 n).toNat = m &&& n := by
    rw [BitVec.toNat_and, BitVec.toNat_ofNat, BitVec.toNat_ofNat, Nat.mod_eq_of_lt hm, Nat.mod_eq_of_lt hn]
  show IntKind.u32.wrap (((BitVec.ofInt 32 (m : Int)) &&& BitVec.ofInt 32 (n : Int)).toNat : Int) = _
  rw [BitVec.ofInt_natCast, BitVec.ofInt_natCast, e, u32w]
  omega
theorem bits_or (m n : Nat) (hm : m < 2 ^ 32) (hn : n < 2 ^ 32) : bits BinOp.or IntKind.u32 (m : Int) (n : Int) = ((m ||| n : Nat) : Int) := by
  have := Nat.or_lt_two_pow (n := 32) hm hn
  have e : (BitVec.ofNat 32 m ||| BitVec.ofNat 32 n).toNat = m ||| n := by
    rw [BitVec.toNat_or, BitVec.toNat_ofNat, BitVec.toNat_ofNat, Nat.mod_eq_of_lt hm, Nat.mod_eq_of_lt hn]
  show IntKind.u32.wrap (((BitVec.ofInt 32 (m : Int)) ||| BitVec.ofInt 32 (n : Int)).toNat : Int) = _
  rw [BitVec.ofInt_natCast, BitVec.ofInt_natCast, e, u32w]
  omega
theorem bits_xor (m n : Nat) (hm : m < 2 ^ 32) (hn : n < 2 ^ 32) : bits BinOp.xor IntKind.u32 (m : Int) (n : Int) = ((m ^^^ n : Nat) : Int) := by
  have := Nat.xor_lt_two_pow (n := 32) hm hn
  have e : (BitVec.ofNat 32 m ^^^ BitVec.ofNat 32 n).toNat = m ^^^ n := by
    rw [BitVec.toNat_xor, BitVec.toNat_ofNat, BitVec.toNat_ofNat, Nat.mod_eq_of_lt hm, Nat.mod_eq_of_lt hn]
  show IntKind.u32.wrap (((BitVec.ofInt 32 (m : Int)) ^^^ BitVec.ofInt 32 (n : Int)).toNat : Int) = _
  rw [BitVec.ofInt_natCast, BitVec.ofInt_natCast, e, u32w]
  omega
theorem two_pos (k : Nat) : (0 : Int) < 2 ^ k := Int.pow_pos (by omega)
theorem bit_mod (a : Int) (k : Nat) (hk : k < 32) : bit (a % 4294967296) k = bit a k := by
  have hp := two_pos k
  have e : (4294967296 : Int) = 2 ^ k * (2 * 2 ^ (31 - k)) := by
    rw [← Int.mul_assoc, ← Int.pow_succ, ← Int.pow_add, show k + 1 + (31 - k) = 32 by omega]; rfl
  have h0 : a = a % 4294967296 + 2 ^ k * (2 * (2 ^ (31 - k) * (a / 4294967296))) := by
    have h1 := Int.emod_add_mul_ediv a 4294967296
    have h2 : 2 ^ k * (2 * (2 ^ (31 - k) * (a / 4294967296))) = 4294967296 * (a / 4294967296) := by
      rw [← Int.mul_assoc 2, ← Int.mul_assoc, ← e]
    omega
  unfold bit
  conv => rhs; rw [h0]
  rw [Int.add_mul_ediv_left _ _ (by omega), Int.add_mul_emod_self_left]
theorem pow_le (m n : Nat) (h : m ≤ n) : (2 : Int) ^ m ≤ 2 ^ n := by exact_mod_cast Nat.pow_le_pow_right (by omega : 0 < 2) h
theorem div_div_pow (a : Int) (n k : Nat) : a / 2 ^ n / 2 ^ k = a / 2 ^ (k + n) := by
  rw [Int.ediv_ediv_of_nonneg (Int.le_of_lt (two_pos n)), ← Int.pow_add, Nat.add_comm]
theorem shr_is (a : Int) (ha : 0 ≤ a) (ha' : a < 4294967296) (n : Nat) : hv (mv 194 a n) 32 = a / 2 ^ n := by
  have hb := div_pow_bd a n ha ha'
  refine hv_bit _ _ hb.1 hb.2 (fun k hk => ?_)
  have e : bit (a / 2 ^ n) k = a / 2 ^ (k + n) % 2 := by unfold bit; rw [div_div_pow]
  rw [e]
  by_cases hc : k + n < 32
  · simp [mv, hc, bit]
  · have h1 := pow_le 32 (k + n) (by omega)
    have h2 : a / 2 ^ (k + n) = 0 := Int.ediv_eq_zero_of_lt ha (by omega)
    rw [h2]
    simp [mv, hc]
theorem sar_is (a : Int) (ha : 0 ≤ a) (ha' : a < 4294967296) (n : Nat) : hv (mv 195 a n) 32 = sg a / 2 ^ n % 4294967296 := by
  refine hv_bit _ _ (by omega) (by omega) (fun k hk => ?_)
  rw [bit_mod _ _ hk]
  have e : bit (sg a / 2 ^ n) k = sg a / 2 ^ (k + n) % 2 := by unfold bit; rw [div_div_pow]
  rw [e]
  have hs : sg a % 4294967296 = a := by unfold sg; split <;> omega
  by_cases hc : k + n < 32
  · have h1 := bit_mod (sg a) (k + n) hc
    rw [hs] at h1
    simp only [mv, if_pos hc]
    rw [if_neg (by omega), h1]; rfl
  · have h1 := pow_le 32 (k + n) (by omega)
    simp only [mv, if_neg hc, if_true]
    rw [if_neg (by omega)]
    unfold bit
    rcases Int.lt_or_le a 2147483648 with h | h
    · have h2 : a / 2 ^ (k + n) = 0 := Int.ediv_eq_zero_of_lt ha (by omega)
      rw [sg_lo h, h2]; omega
    · rw [sg_hi h]
      have h2 : (a - 4294967296) / 2 ^ (k + n) = -1 := by
        apply Int.ediv_eq_neg_one_of_neg_of_le <;> omega
      rw [h2]; omega
theorem shl_is (a : Int) (ha : 0 ≤ a) (ha' : a < 4294967296) (n : Nat) : hv (mv 196 a n) 32 = a * 2 ^ n % 4294967296 := by
  refine hv_bit _ _ (by omega) (by omega) (fun k hk => ?_)
  rw [bit_mod _ _ hk]
  simp only [mv, if_true]
  by_cases hc : n ≤ k
  · have e : (2 : Int) ^ k = 2 ^ n * 2 ^ (k - n) := by rw [← Int.pow_add, show n + (k - n) = k by omega]
    rw [if_pos hc]
    unfold bit
    rw [e, Int.mul_comm a, Int.mul_ediv_mul_of_pos _ _ (two_pos n)]
  · have e : a * (2 : Int) ^ n = 2 ^ k * (2 * (2 ^ (n - k - 1) * a)) := by
      have e1 : (2 : Int) ^ n = 2 ^ k * (2 * 2 ^ (n - k - 1)) := by
        rw [← Int.mul_assoc, ← Int.pow_succ, ← Int.pow_add, show k + 1 + (n - k - 1) = n by omega]
      rw [e1, Int.mul_comm a, Int.mul_assoc, Int.mul_assoc]
    rw [if_neg hc]
    unfold bit
    rw [e, Int.mul_ediv_cancel_left _ (by have := two_pos k; omega)]
    omega
theorem bw_or (a b : Int) (ha : 0 ≤ a) (ha' : a < 4294967296) (hb : 0 ≤ b) (hb' : b < 4294967296) : hv (bw 197 a b) 32 = bits BinOp.or IntKind.u32 a b := by
  obtain ⟨m, rfl, hm⟩ := nat_of ha ha'
  obtain ⟨n, rfl, hn⟩ := nat_of hb hb'
  rw [bits_or m n hm hn]
  have := Nat.or_lt_two_pow (n := 32) hm hn
  refine hv_bit _ _ (by omega) (by omega) (fun k hk => ?_)
  simp only [bw, bit_nat, Nat.testBit_or]
  cases m.testBit k <;> cases n.testBit k <;> rfl
theorem bw_xor (a b : Int) (ha : 0 ≤ a) (ha' : a < 4294967296) (hb : 0 ≤ b) (hb' : b < 4294967296) : hv (bw 198 a b) 32 = bits BinOp.xor IntKind.u32 a b := by
  obtain ⟨m, rfl, hm⟩ := nat_of ha ha'
  obtain ⟨n, rfl, hn⟩ := nat_of hb hb'
  rw [bits_xor m n hm hn]
  have := Nat.xor_lt_two_pow (n := 32) hm hn
  refine hv_bit _ _ (by omega) (by omega) (fun k hk => ?_)
  simp only [bw, bit_nat, Nat.testBit_xor]
  cases m.testBit k <;> cases n.testBit k <;> rfl
theorem bw_and (a b : Int) (ha : 0 ≤ a) (ha' : a < 4294967296) (hb : 0 ≤ b) (hb' : b < 4294967296) : hv (bw 199 a b) 32 = bits BinOp.and IntKind.u32 a b := by
  obtain ⟨m, rfl, hm⟩ := nat_of ha ha'
  obtain ⟨n, rfl, hn⟩ := nat_of hb hb'
  rw [bits_and m n hm hn]
  have := Nat.and_lt_two_pow (n := 32) m hn
  refine hv_bit _ _ (by omega) (by omega) (fun k hk => ?_)
  simp only [bw, bit_nat, Nat.testBit_and]
  cases m.testBit k <;> cases n.testBit k <;> rfl
end Go.Proofs.Ytlheggnoegedcaa
