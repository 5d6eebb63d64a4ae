/- Operations of one word: how many bits, bits turned. The library's texts of math/bits are walked. -/
import Derived.Test.YtlheggnoegedcaaBinlaw
import Derived.Deep.QuietTactic
import Derived.BigQuiet
import Derived.Lib.BitFns
namespace Go.Proofs.Ytlheggnoegedcaa
set_option linter.unusedVariables false
open Go.ChangeShapes Go.WideShapes Go.ChangeAt Go.RowKit
theorem pop8_is (i : Int) (h : 0 ≤ i) (h' : i < 256) : Lib.pop8 i = ((Lib.onesCount i.toNat : Nat) : Int) ∧ Lib.onesCount i.toNat ≤ 8 := by
  have h1 := Lib.pop8_eq ⟨i.toNat, by omega⟩
  have h2 := Lib.onesCount_le8 ⟨i.toNat, by omega⟩
  simp only [Int.toNat_of_nonneg h] at h1
  exact ⟨h1, h2⟩
/-- The sum of the first n bits. -/
def pc (f : Nat → Int) : Nat → Int
  | 0 => 0
  | n + 1 => pc f n + f n
theorem pc_add (f : Nat → Int) (m n : Nat) : pc f (m + n) = pc f m + pc (fun k => f (m + k)) n := by
  induction n with
  | zero => simp [pc]
  | succ n ih => rw [← Nat.add_assoc, pc, pc, ih]; omega
theorem pc_congr {f g : Nat → Int} (n : Nat) (h : ∀ k, k < n → f k = g k) : pc f n = pc g n := by
  induction n with
  | zero => rfl
  | succ n ih => rw [pc, pc, ih (fun k hk => h k (by omega)), h n (by omega)]
theorem pc_bd (f : Nat → Int) (hf : ∀ k, 0 ≤ f k ∧ f k ≤ 1) (n : Nat) : 0 ≤ pc f n ∧ pc f n ≤ n := by
  induction n with
  | zero => simp [pc]
  | succ n ih => have := hf n; rw [pc]; omega
theorem count_is (i : Int) (h : 0 ≤ i) (h' : i < 256) : ((Lib.onesCount i.toNat : Nat) : Int) = pc (bit i) 8 := by
  have : ∀ n : Fin 256, ((Lib.onesCount n.val : Nat) : Int) = pc (bit (n.val : Int)) 8 := by decide +kernel
  have := this ⟨i.toNat, by omega⟩
  simp only [Int.toNat_of_nonneg h] at this
  exact this
theorem bit_low (x : Int) (k : Nat) (hk : k < 8) : bit (x % 256) k = bit x k := by
  have h1 := bit_mod (x % 256) k (by omega)
  have h2 := bit_mod x k (by omega)
  have hp := two_pos k
  have e : (256 : Int) = 2 ^ k * (2 * 2 ^ (7 - k)) := by
    rw [← Int.mul_assoc, ← Int.pow_succ, ← Int.pow_add, show k + 1 + (7 - k) = 8 by omega]; rfl
  have h0 : x = x % 256 + 2 ^ k * (2 * (2 ^ (7 - k) * (x / 256))) := by
    have h1 := Int.emod_add_mul_ediv x 256
    have h2 : 2 ^ k * (2 * (2 ^ (7 - k) * (x / 256))) = 256 * (x / 256) := by
      rw [← Int.mul_assoc 2, ← Int.mul_assoc, ← e]
    omega
  unfold bit
  conv => rhs; rw [h0]
  rw [Int.add_mul_ediv_left _ _ (by omega), Int.add_mul_emod_self_left]
theorem bit_div (x : Int) (m k : Nat) : bit (x / 2 ^ m) k = bit x (m + k) := by
  unfold bit; rw [div_div_pow, Nat.add_comm]
theorem pop_sum (a : Int) (ha : 0 ≤ a) (ha' : a < 4294967296) :
    pc (bit a) 32 = ((Lib.onesCount (a / 16777216).toNat : Nat) : Int) + ((Lib.onesCount (a / 65536 % 256).toNat : Nat) : Int) + ((Lib.onesCount (a / 256 % 256).toNat : Nat) : Int) + ((Lib.onesCount (a % 256).toNat : Nat) : Int) := by
  rw [count_is (a / 16777216) (by omega) (by omega), count_is (a / 65536 % 256) (by omega) (by omega), count_is (a / 256 % 256) (by omega) (by omega), count_is (a % 256) (by omega) (by omega)]
  rw [show 32 = 8 + (8 + (8 + 8)) from rfl, pc_add, pc_add, pc_add]
  have e0 : pc (bit (a % 256)) 8 = pc (bit a) 8 := pc_congr 8 (fun k hk => bit_low a k hk)
  have e1 : pc (bit (a / 256 % 256)) 8 = pc (fun k => bit a (8 + k)) 8 := pc_congr 8 (fun k hk => by rw [bit_low _ k hk, show (256 : Int) = 2 ^ 8 from rfl, bit_div])
  have e2 : pc (bit (a / 65536 % 256)) 8 = pc (fun k => bit a (8 + (8 + k))) 8 := pc_congr 8 (fun k hk => by rw [bit_low _ k hk, show (65536 : Int) = 2 ^ 16 from rfl, bit_div, show 16 + k = 8 + (8 + k) by omega])
  have e3 : pc (bit (a / 16777216)) 8 = pc (fun k => bit a (8 + (8 + (8 + k)))) 8 := pc_congr 8 (fun k hk => by rw [show (16777216 : Int) = 2 ^ 24 from rfl, bit_div, show 24 + k = 8 + (8 + (8 + k)) by omega])
  rw [e0, e1, e2, e3]
  omega
theorem and_255 (x : Int) (h : 0 ≤ x) (h' : x < 4294967296) : bits BinOp.and IntKind.u32 x 255 = x % 256 := by
  obtain ⟨m, rfl, hm⟩ := nat_of h h'
  have := bits_and m 255 hm (by decide)
  rw [show ((255 : Nat) : Int) = 255 from rfl] at this
  rw [this, show 255 = 2 ^ 8 - 1 from rfl, Nat.and_two_pow_sub_one_eq_mod]
  omega
set_option maxRecDepth 1000000 in
set_option maxHeartbeats 1000000 in
theorem ones_count (a : Int) (ha : 0 ≤ a) (ha' : a < 4294967296) (w : World) : Calls Try.prog 88 #[.int .u32 a] w fun e w' => e = .returned (.int .i64 (pc (bit a) 32)) ∧ Below w.heap.size w w' := by
  have hS := hid (pop_sum a ha ha')
  have f1 := and_255 (a / 65536) (by omega) (by omega)
  have f2 := and_255 (a / 256) (by omega) (by omega)
  have f3 := and_255 a ha ha'
  obtain ⟨p1, q1⟩ := pop8_is (a / 16777216) (by omega) (by omega)
  obtain ⟨p2, q2⟩ := pop8_is (a / 65536 % 256) (by omega) (by omega)
  obtain ⟨p3, q3⟩ := pop8_is (a / 256 % 256) (by omega) (by omega)
  obtain ⟨p4, q4⟩ := pop8_is (a % 256) (by omega) (by omega)
  generalize Lib.onesCount (a / 16777216).toNat = c1 at *
  generalize Lib.onesCount (a / 65536 % 256).toNat = c2 at *
  generalize Lib.onesCount (a / 256 % 256).toNat = c3 at *
  generalize Lib.onesCount (a % 256).toNat = c4 at *
  have b1 : 0 ≤ a / 16777216 := by omega
  have b2 : a / 16777216 ≤ 255 := by omega
  have b3 : a / 16777216 < 256 := by omega
  go_enter Try.func88, Try.ntmps88
  go_wp2
  go_quiet (fail)
  go_wp2
  go_ret
  refine ⟨ret_int ?_, belowN (Below.refl _ _) _⟩
  rw [hS.out]
/-- A level of a reversal: fields of s bits change places. -/
def stp (s m n : Nat) : Nat := ((n >>> s) &&& m) ||| (((n &&& m) <<< s) % 2 ^ 32)
theorem stp_bit (s m n k : Nat) (hk : k < 32) : (stp s m n).testBit k = ((n.testBit (s + k) && m.testBit k) || (decide (s ≤ k) && (n.testBit (k - s) && m.testBit (k - s)))) := by
  unfold stp
  rw [Nat.testBit_or, Nat.testBit_and, Nat.testBit_shiftRight, Nat.testBit_mod_two_pow, Nat.testBit_shiftLeft, Nat.testBit_and]
  simp [hk]
theorem stp_lt (s m n : Nat) (hm : m < 2 ^ 32) : stp s m n < 2 ^ 32 := by
  unfold stp
  exact Nat.or_lt_two_pow (Nat.and_lt_two_pow _ hm) (Nat.mod_lt _ (by decide))
theorem lev (s m n : Nat) (hm : m < 2 ^ 32) (hn : n < 2 ^ 32) :
    bits BinOp.or IntKind.u32 (bits BinOp.and IntKind.u32 ((n : Int) / ((2 ^ s : Nat) : Int)) (m : Int)) (bits BinOp.and IntKind.u32 (n : Int) (m : Int) * ((2 ^ s : Nat) : Int) % 4294967296) = ((stp s m n : Nat) : Int) := by
  have h1 : (n : Int) / ((2 ^ s : Nat) : Int) = ((n >>> s : Nat) : Int) := by rw [Nat.shiftRight_eq_div_pow]; rfl
  have h2 : n >>> s < 2 ^ 32 := by rw [Nat.shiftRight_eq_div_pow]; exact Nat.lt_of_le_of_lt (Nat.div_le_self _ _) hn
  have h3 : ((n &&& m : Nat) : Int) * ((2 ^ s : Nat) : Int) % 4294967296 = (((n &&& m) <<< s % 2 ^ 32 : Nat) : Int) := by rw [Nat.shiftLeft_eq]; rfl
  rw [h1, bits_and _ _ h2 hm, bits_and _ _ hn hm, h3, bits_or _ _ (Nat.and_lt_two_pow _ hm) (Nat.mod_lt _ (by decide))]
  rfl
/-- The last level, without a mask. -/
def swp (n : Nat) : Nat := (n >>> 16) ||| ((n <<< 16) % 2 ^ 32)
theorem swp_bit (n k : Nat) (hk : k < 32) : (swp n).testBit k = (n.testBit (16 + k) || (decide (16 ≤ k) && n.testBit (k - 16))) := by
  unfold swp
  rw [Nat.testBit_or, Nat.testBit_shiftRight, Nat.testBit_mod_two_pow, Nat.testBit_shiftLeft]
  simp [hk]
theorem lev16 (n : Nat) (hn : n < 2 ^ 32) : bits BinOp.or IntKind.u32 ((n : Int) / 65536) ((n : Int) * 65536 % 4294967296) = ((swp n : Nat) : Int) := by
  have h1 : (n : Int) / (65536 : Int) = ((n >>> 16 : Nat) : Int) := by rw [Nat.shiftRight_eq_div_pow]; rfl
  have h2 : n >>> 16 < 2 ^ 32 := by rw [Nat.shiftRight_eq_div_pow]; exact Nat.lt_of_le_of_lt (Nat.div_le_self _ _) hn
  have h3 : (n : Int) * (65536 : Int) % (4294967296 : Int) = ((n <<< 16 % 2 ^ 32 : Nat) : Int) := by rw [Nat.shiftLeft_eq]; rfl
  rw [h1, h3, bits_or _ _ h2 (Nat.mod_lt _ (by decide))]
  rfl
/-- All levels. -/
def rev (n : Nat) : Nat := swp (stp 8 16711935 (stp 4 252645135 (stp 2 858993459 (stp 1 1431655765 n))))
theorem out_bit (n k : Nat) (hn : n < 2 ^ 32) (hk : 32 ≤ k) : n.testBit k = false := Nat.testBit_lt_two_pow (Nat.lt_of_lt_of_le hn (Nat.pow_le_pow_right (by omega) hk))
def r1 (n : Nat) : Nat := stp 1 1431655765 n
theorem r1_lt (n : Nat) : r1 n < 2 ^ 32 := stp_lt _ _ _ (by decide)
def r2 (n : Nat) : Nat := stp 2 858993459 (r1 n)
theorem r2_lt (n : Nat) : r2 n < 2 ^ 32 := stp_lt _ _ _ (by decide)
def r3 (n : Nat) : Nat := stp 4 252645135 (r2 n)
theorem r3_lt (n : Nat) : r3 n < 2 ^ 32 := stp_lt _ _ _ (by decide)
def r4 (n : Nat) : Nat := stp 8 16711935 (r3 n)
theorem r4_lt (n : Nat) : r4 n < 2 ^ 32 := stp_lt _ _ _ (by decide)
theorem r1_bit (n k : Nat) (hk : k < 32) : (r1 n).testBit k = n.testBit ((k / 2) * 2 + (1 - k % 2)) := by
  rw [r1, stp_bit _ _ _ _ hk]
  rcases (by omega : k = 0 ∨ k = 1 ∨ k = 2 ∨ k = 3 ∨ k = 4 ∨ k = 5 ∨ k = 6 ∨ k = 7 ∨ k = 8 ∨ k = 9 ∨ k = 10 ∨ k = 11 ∨ k = 12 ∨ k = 13 ∨ k = 14 ∨ k = 15 ∨ k = 16 ∨ k = 17 ∨ k = 18 ∨ k = 19 ∨ k = 20 ∨ k = 21 ∨ k = 22 ∨ k = 23 ∨ k = 24 ∨ k = 25 ∨ k = 26 ∨ k = 27 ∨ k = 28 ∨ k = 29 ∨ k = 30 ∨ k = 31) with rfl | rfl | rfl | rfl | rfl | rfl | rfl | rfl | rfl | rfl | rfl | rfl | rfl | rfl | rfl | rfl | rfl | rfl | rfl | rfl | rfl | rfl | rfl | rfl | rfl | rfl | rfl | rfl | rfl | rfl | rfl | rfl
  · have e : Nat.testBit 1431655765 0 = true := by decide
    rw [e, show decide (1 ≤ 0) = false from rfl]
    simp
  · have e : Nat.testBit 1431655765 1 = false := by decide
    have e2 : Nat.testBit 1431655765 (1 - 1) = true := by decide
    rw [e, e2, show decide (1 ≤ 1) = true from rfl]
    simp
  · have e : Nat.testBit 1431655765 2 = true := by decide
    have e2 : Nat.testBit 1431655765 (2 - 1) = false := by decide
    rw [e, e2]
    simp
  · have e : Nat.testBit 1431655765 3 = false := by decide
    have e2 : Nat.testBit 1431655765 (3 - 1) = true := by decide
    rw [e, e2, show decide (1 ≤ 3) = true from rfl]
    simp
  · have e : Nat.testBit 1431655765 4 = true := by decide
    have e2 : Nat.testBit 1431655765 (4 - 1) = false := by decide
    rw [e, e2]
    simp
  · have e : Nat.testBit 1431655765 5 = false := by decide
    have e2 : Nat.testBit 1431655765 (5 - 1) = true := by decide
    rw [e, e2, show decide (1 ≤ 5) = true from rfl]
    simp
  · have e : Nat.testBit 1431655765 6 = true := by decide
    have e2 : Nat.testBit 1431655765 (6 - 1) = false := by decide
    rw [e, e2]
    simp
  · have e : Nat.testBit 1431655765 7 = false := by decide
    have e2 : Nat.testBit 1431655765 (7 - 1) = true := by decide
    rw [e, e2, show decide (1 ≤ 7) = true from rfl]
    simp
  · have e : Nat.testBit 1431655765 8 = true := by decide
    have e2 : Nat.testBit 1431655765 (8 - 1) = false := by decide
    rw [e, e2]
    simp
  · have e : Nat.testBit 1431655765 9 = false := by decide
    have e2 : Nat.testBit 1431655765 (9 - 1) = true := by decide
    rw [e, e2, show decide (1 ≤ 9) = true from rfl]
    simp
  · have e : Nat.testBit 1431655765 10 = true := by decide
    have e2 : Nat.testBit 1431655765 (10 - 1) = false := by decide
    rw [e, e2]
    simp
  · have e : Nat.testBit 1431655765 11 = false := by decide
    have e2 : Nat.testBit 1431655765 (11 - 1) = true := by decide
    rw [e, e2, show decide (1 ≤ 11) = true from rfl]
    simp
  · have e : Nat.testBit 1431655765 12 = true := by decide
    have e2 : Nat.testBit 1431655765 (12 - 1) = false := by decide
    rw [e, e2]
    simp
  · have e : Nat.testBit 1431655765 13 = false := by decide
    have e2 : Nat.testBit 1431655765 (13 - 1) = true := by decide
    rw [e, e2, show decide (1 ≤ 13) = true from rfl]
    simp
  · have e : Nat.testBit 1431655765 14 = true := by decide
    have e2 : Nat.testBit 1431655765 (14 - 1) = false := by decide
    rw [e, e2]
    simp
  · have e : Nat.testBit 1431655765 15 = false := by decide
    have e2 : Nat.testBit 1431655765 (15 - 1) = true := by decide
    rw [e, e2, show decide (1 ≤ 15) = true from rfl]
    simp
  · have e : Nat.testBit 1431655765 16 = true := by decide
    have e2 : Nat.testBit 1431655765 (16 - 1) = false := by decide
    rw [e, e2]
    simp
  · have e : Nat.testBit 1431655765 17 = false := by decide
    have e2 : Nat.testBit 1431655765 (17 - 1) = true := by decide
    rw [e, e2, show decide (1 ≤ 17) = true from rfl]
    simp
  · have e : Nat.testBit 1431655765 18 = true := by decide
    have e2 : Nat.testBit 1431655765 (18 - 1) = false := by decide
    rw [e, e2]
    simp
  · have e : Nat.testBit 1431655765 19 = false := by decide
    have e2 : Nat.testBit 1431655765 (19 - 1) = true := by decide
    rw [e, e2, show decide (1 ≤ 19) = true from rfl]
    simp
  · have e : Nat.testBit 1431655765 20 = true := by decide
    have e2 : Nat.testBit 1431655765 (20 - 1) = false := by decide
    rw [e, e2]
    simp
  · have e : Nat.testBit 1431655765 21 = false := by decide
    have e2 : Nat.testBit 1431655765 (21 - 1) = true := by decide
    rw [e, e2, show decide (1 ≤ 21) = true from rfl]
    simp
  · have e : Nat.testBit 1431655765 22 = true := by decide
    have e2 : Nat.testBit 1431655765 (22 - 1) = false := by decide
    rw [e, e2]
    simp
  · have e : Nat.testBit 1431655765 23 = false := by decide
    have e2 : Nat.testBit 1431655765 (23 - 1) = true := by decide
    rw [e, e2, show decide (1 ≤ 23) = true from rfl]
    simp
  · have e : Nat.testBit 1431655765 24 = true := by decide
    have e2 : Nat.testBit 1431655765 (24 - 1) = false := by decide
    rw [e, e2]
    simp
  · have e : Nat.testBit 1431655765 25 = false := by decide
    have e2 : Nat.testBit 1431655765 (25 - 1) = true := by decide
    rw [e, e2, show decide (1 ≤ 25) = true from rfl]
    simp
  · have e : Nat.testBit 1431655765 26 = true := by decide
    have e2 : Nat.testBit 1431655765 (26 - 1) = false := by decide
    rw [e, e2]
    simp
  · have e : Nat.testBit 1431655765 27 = false := by decide
    have e2 : Nat.testBit 1431655765 (27 - 1) = true := by decide
    rw [e, e2, show decide (1 ≤ 27) = true from rfl]
    simp
  · have e : Nat.testBit 1431655765 28 = true := by decide
    have e2 : Nat.testBit 1431655765 (28 - 1) = false := by decide
    rw [e, e2]
    simp
  · have e : Nat.testBit 1431655765 29 = false := by decide
    have e2 : Nat.testBit 1431655765 (29 - 1) = true := by decide
    rw [e, e2, show decide (1 ≤ 29) = true from rfl]
    simp
  · have e : Nat.testBit 1431655765 30 = true := by decide
    have e2 : Nat.testBit 1431655765 (30 - 1) = false := by decide
    rw [e, e2]
    simp
  · have e : Nat.testBit 1431655765 31 = false := by decide
    have e2 : Nat.testBit 1431655765 (31 - 1) = true := by decide
    rw [e, e2, show decide (1 ≤ 31) = true from rfl]
    simp
theorem r2_bit (n k : Nat) (hk : k < 32) : (r2 n).testBit k = n.testBit ((k / 4) * 4 + (3 - k % 4)) := by
  rw [r2, stp_bit _ _ _ _ hk]
  rcases (by omega : k = 0 ∨ k = 1 ∨ k = 2 ∨ k = 3 ∨ k = 4 ∨ k = 5 ∨ k = 6 ∨ k = 7 ∨ k = 8 ∨ k = 9 ∨ k = 10 ∨ k = 11 ∨ k = 12 ∨ k = 13 ∨ k = 14 ∨ k = 15 ∨ k = 16 ∨ k = 17 ∨ k = 18 ∨ k = 19 ∨ k = 20 ∨ k = 21 ∨ k = 22 ∨ k = 23 ∨ k = 24 ∨ k = 25 ∨ k = 26 ∨ k = 27 ∨ k = 28 ∨ k = 29 ∨ k = 30 ∨ k = 31) with rfl | rfl | rfl | rfl | rfl | rfl | rfl | rfl | rfl | rfl | rfl | rfl | rfl | rfl | rfl | rfl | rfl | rfl | rfl | rfl | rfl | rfl | rfl | rfl | rfl | rfl | rfl | rfl | rfl | rfl | rfl | rfl
  · have e : Nat.testBit 858993459 0 = true := by decide
    rw [e, show decide (2 ≤ 0) = false from rfl]
    rw [r1_bit n (2 + 0) (by decide)]; simp
  · have e : Nat.testBit 858993459 1 = true := by decide
    rw [e, show decide (2 ≤ 1) = false from rfl]
    rw [r1_bit n (2 + 1) (by decide)]; simp
  · have e : Nat.testBit 858993459 2 = false := by decide
    have e2 : Nat.testBit 858993459 (2 - 2) = true := by decide
    rw [e, e2, show decide (2 ≤ 2) = true from rfl]
    rw [r1_bit n (2 - 2) (by decide)]; simp
  · have e : Nat.testBit 858993459 3 = false := by decide
    have e2 : Nat.testBit 858993459 (3 - 2) = true := by decide
    rw [e, e2, show decide (2 ≤ 3) = true from rfl]
    rw [r1_bit n (3 - 2) (by decide)]; simp
  · have e : Nat.testBit 858993459 4 = true := by decide
    have e2 : Nat.testBit 858993459 (4 - 2) = false := by decide
    rw [e, e2]
    rw [r1_bit n (2 + 4) (by decide)]; simp
  · have e : Nat.testBit 858993459 5 = true := by decide
    have e2 : Nat.testBit 858993459 (5 - 2) = false := by decide
    rw [e, e2]
    rw [r1_bit n (2 + 5) (by decide)]; simp
  · have e : Nat.testBit 858993459 6 = false := by decide
    have e2 : Nat.testBit 858993459 (6 - 2) = true := by decide
    rw [e, e2, show decide (2 ≤ 6) = true from rfl]
    rw [r1_bit n (6 - 2) (by decide)]; simp
  · have e : Nat.testBit 858993459 7 = false := by decide
    have e2 : Nat.testBit 858993459 (7 - 2) = true := by decide
    rw [e, e2, show decide (2 ≤ 7) = true from rfl]
    rw [r1_bit n (7 - 2) (by decide)]; simp
  · have e : Nat.testBit 858993459 8 = true := by decide
    have e2 : Nat.testBit 858993459 (8 - 2) = false := by decide
    rw [e, e2]
    rw [r1_bit n (2 + 8) (by decide)]; simp
  · have e : Nat.testBit 858993459 9 = true := by decide
    have e2 : Nat.testBit 858993459 (9 - 2) = false := by decide
    rw [e, e2]
    rw [r1_bit n (2 + 9) (by decide)]; simp
  · have e : Nat.testBit 858993459 10 = false := by decide
    have e2 : Nat.testBit 858993459 (10 - 2) = true := by decide
    rw [e, e2, show decide (2 ≤ 10) = true from rfl]
    rw [r1_bit n (10 - 2) (by decide)]; simp
  · have e : Nat.testBit 858993459 11 = false := by decide
    have e2 : Nat.testBit 858993459 (11 - 2) = true := by decide
    rw [e, e2, show decide (2 ≤ 11) = true from rfl]
    rw [r1_bit n (11 - 2) (by decide)]; simp
  · have e : Nat.testBit 858993459 12 = true := by decide
    have e2 : Nat.testBit 858993459 (12 - 2) = false := by decide
    rw [e, e2]
    rw [r1_bit n (2 + 12) (by decide)]; simp
  · have e : Nat.testBit 858993459 13 = true := by decide
    have e2 : Nat.testBit 858993459 (13 - 2) = false := by decide
    rw [e, e2]
    rw [r1_bit n (2 + 13) (by decide)]; simp
  · have e : Nat.testBit 858993459 14 = false := by decide
    have e2 : Nat.testBit 858993459 (14 - 2) = true := by decide
    rw [e, e2, show decide (2 ≤ 14) = true from rfl]
    rw [r1_bit n (14 - 2) (by decide)]; simp
  · have e : Nat.testBit 858993459 15 = false := by decide
    have e2 : Nat.testBit 858993459 (15 - 2) = true := by decide
    rw [e, e2, show decide (2 ≤ 15) = true from rfl]
    rw [r1_bit n (15 - 2) (by decide)]; simp
  · have e : Nat.testBit 858993459 16 = true := by decide
    have e2 : Nat.testBit 858993459 (16 - 2) = false := by decide
    rw [e, e2]
    rw [r1_bit n (2 + 16) (by decide)]; simp
  · have e : Nat.testBit 858993459 17 = true := by decide
    have e2 : Nat.testBit 858993459 (17 - 2) = false := by decide
    rw [e, e2]
    rw [r1_bit n (2 + 17) (by decide)]; simp
  · have e : Nat.testBit 858993459 18 = false := by decide
    have e2 : Nat.testBit 858993459 (18 - 2) = true := by decide
    rw [e, e2, show decide (2 ≤ 18) = true from rfl]
    rw [r1_bit n (18 - 2) (by decide)]; simp
  · have e : Nat.testBit 858993459 19 = false := by decide
    have e2 : Nat.testBit 858993459 (19 - 2) = true := by decide
    rw [e, e2, show decide (2 ≤ 19) = true from rfl]
    rw [r1_bit n (19 - 2) (by decide)]; simp
  · have e : Nat.testBit 858993459 20 = true := by decide
    have e2 : Nat.testBit 858993459 (20 - 2) = false := by decide
    rw [e, e2]
    rw [r1_bit n (2 + 20) (by decide)]; simp
  · have e : Nat.testBit 858993459 21 = true := by decide
    have e2 : Nat.testBit 858993459 (21 - 2) = false := by decide
    rw [e, e2]
    rw [r1_bit n (2 + 21) (by decide)]; simp
  · have e : Nat.testBit 858993459 22 = false := by decide
    have e2 : Nat.testBit 858993459 (22 - 2) = true := by decide
    rw [e, e2, show decide (2 ≤ 22) = true from rfl]
    rw [r1_bit n (22 - 2) (by decide)]; simp
  · have e : Nat.testBit 858993459 23 = false := by decide
    have e2 : Nat.testBit 858993459 (23 - 2) = true := by decide
    rw [e, e2, show decide (2 ≤ 23) = true from rfl]
    rw [r1_bit n (23 - 2) (by decide)]; simp
  · have e : Nat.testBit 858993459 24 = true := by decide
    have e2 : Nat.testBit 858993459 (24 - 2) = false := by decide
    rw [e, e2]
    rw [r1_bit n (2 + 24) (by decide)]; simp
  · have e : Nat.testBit 858993459 25 = true := by decide
    have e2 : Nat.testBit 858993459 (25 - 2) = false := by decide
    rw [e, e2]
    rw [r1_bit n (2 + 25) (by decide)]; simp
  · have e : Nat.testBit 858993459 26 = false := by decide
    have e2 : Nat.testBit 858993459 (26 - 2) = true := by decide
    rw [e, e2, show decide (2 ≤ 26) = true from rfl]
    rw [r1_bit n (26 - 2) (by decide)]; simp
  · have e : Nat.testBit 858993459 27 = false := by decide
    have e2 : Nat.testBit 858993459 (27 - 2) = true := by decide
    rw [e, e2, show decide (2 ≤ 27) = true from rfl]
    rw [r1_bit n (27 - 2) (by decide)]; simp
  · have e : Nat.testBit 858993459 28 = true := by decide
    have e2 : Nat.testBit 858993459 (28 - 2) = false := by decide
    rw [e, e2]
    rw [r1_bit n (2 + 28) (by decide)]; simp
  · have e : Nat.testBit 858993459 29 = true := by decide
    have e2 : Nat.testBit 858993459 (29 - 2) = false := by decide
    rw [e, e2]
    rw [r1_bit n (2 + 29) (by decide)]; simp
  · have e : Nat.testBit 858993459 30 = false := by decide
    have e2 : Nat.testBit 858993459 (30 - 2) = true := by decide
    rw [e, e2, show decide (2 ≤ 30) = true from rfl]
    rw [r1_bit n (30 - 2) (by decide)]; simp
  · have e : Nat.testBit 858993459 31 = false := by decide
    have e2 : Nat.testBit 858993459 (31 - 2) = true := by decide
    rw [e, e2, show decide (2 ≤ 31) = true from rfl]
    rw [r1_bit n (31 - 2) (by decide)]; simp
theorem r3_bit (n k : Nat) (hk : k < 32) : (r3 n).testBit k = n.testBit ((k / 8) * 8 + (7 - k % 8)) := by
  rw [r3, stp_bit _ _ _ _ hk]
  rcases (by omega : k = 0 ∨ k = 1 ∨ k = 2 ∨ k = 3 ∨ k = 4 ∨ k = 5 ∨ k = 6 ∨ k = 7 ∨ k = 8 ∨ k = 9 ∨ k = 10 ∨ k = 11 ∨ k = 12 ∨ k = 13 ∨ k = 14 ∨ k = 15 ∨ k = 16 ∨ k = 17 ∨ k = 18 ∨ k = 19 ∨ k = 20 ∨ k = 21 ∨ k = 22 ∨ k = 23 ∨ k = 24 ∨ k = 25 ∨ k = 26 ∨ k = 27 ∨ k = 28 ∨ k = 29 ∨ k = 30 ∨ k = 31) with rfl | rfl | rfl | rfl | rfl | rfl | rfl | rfl | rfl | rfl | rfl | rfl | rfl | rfl | rfl | rfl | rfl | rfl | rfl | rfl | rfl | rfl | rfl | rfl | rfl | rfl | rfl | rfl | rfl | rfl | rfl | rfl
  · have e : Nat.testBit 252645135 0 = true := by decide
    rw [e, show decide (4 ≤ 0) = false from rfl]
    rw [r2_bit n (4 + 0) (by decide)]; simp
  · have e : Nat.testBit 252645135 1 = true := by decide
    rw [e, show decide (4 ≤ 1) = false from rfl]
    rw [r2_bit n (4 + 1) (by decide)]; simp
  · have e : Nat.testBit 252645135 2 = true := by decide
    rw [e, show decide (4 ≤ 2) = false from rfl]
    rw [r2_bit n (4 + 2) (by decide)]; simp
  · have e : Nat.testBit 252645135 3 = true := by decide
    rw [e, show decide (4 ≤ 3) = false from rfl]
    rw [r2_bit n (4 + 3) (by decide)]; simp
  · have e : Nat.testBit 252645135 4 = false := by decide
    have e2 : Nat.testBit 252645135 (4 - 4) = true := by decide
    rw [e, e2, show decide (4 ≤ 4) = true from rfl]
    rw [r2_bit n (4 - 4) (by decide)]; simp
  · have e : Nat.testBit 252645135 5 = false := by decide
    have e2 : Nat.testBit 252645135 (5 - 4) = true := by decide
    rw [e, e2, show decide (4 ≤ 5) = true from rfl]
    rw [r2_bit n (5 - 4) (by decide)]; simp
  · have e : Nat.testBit 252645135 6 = false := by decide
    have e2 : Nat.testBit 252645135 (6 - 4) = true := by decide
    rw [e, e2, show decide (4 ≤ 6) = true from rfl]
    rw [r2_bit n (6 - 4) (by decide)]; simp
  · have e : Nat.testBit 252645135 7 = false := by decide
    have e2 : Nat.testBit 252645135 (7 - 4) = true := by decide
    rw [e, e2, show decide (4 ≤ 7) = true from rfl]
    rw [r2_bit n (7 - 4) (by decide)]; simp
  · have e : Nat.testBit 252645135 8 = true := by decide
    have e2 : Nat.testBit 252645135 (8 - 4) = false := by decide
    rw [e, e2]
    rw [r2_bit n (4 + 8) (by decide)]; simp
  · have e : Nat.testBit 252645135 9 = true := by decide
    have e2 : Nat.testBit 252645135 (9 - 4) = false := by decide
    rw [e, e2]
    rw [r2_bit n (4 + 9) (by decide)]; simp
  · have e : Nat.testBit 252645135 10 = true := by decide
    have e2 : Nat.testBit 252645135 (10 - 4) = false := by decide
    rw [e, e2]
    rw [r2_bit n (4 + 10) (by decide)]; simp
  · have e : Nat.testBit 252645135 11 = true := by decide
    have e2 : Nat.testBit 252645135 (11 - 4) = false := by decide
    rw [e, e2]
    rw [r2_bit n (4 + 11) (by decide)]; simp
  · have e : Nat.testBit 252645135 12 = false := by decide
    have e2 : Nat.testBit 252645135 (12 - 4) = true := by decide
    rw [e, e2, show decide (4 ≤ 12) = true from rfl]
    rw [r2_bit n (12 - 4) (by decide)]; simp
  · have e : Nat.testBit 252645135 13 = false := by decide
    have e2 : Nat.testBit 252645135 (13 - 4) = true := by decide
    rw [e, e2, show decide (4 ≤ 13) = true from rfl]
    rw [r2_bit n (13 - 4) (by decide)]; simp
  · have e : Nat.testBit 252645135 14 = false := by decide
    have e2 : Nat.testBit 252645135 (14 - 4) = true := by decide
    rw [e, e2, show decide (4 ≤ 14) = true from rfl]
    rw [r2_bit n (14 - 4) (by decide)]; simp
  · have e : Nat.testBit 252645135 15 = false := by decide
    have e2 : Nat.testBit 252645135 (15 - 4) = true := by decide
    rw [e, e2, show decide (4 ≤ 15) = true from rfl]
    rw [r2_bit n (15 - 4) (by decide)]; simp
  · have e : Nat.testBit 252645135 16 = true := by decide
    have e2 : Nat.testBit 252645135 (16 - 4) = false := by decide
    rw [e, e2]
    rw [r2_bit n (4 + 16) (by decide)]; simp
  · have e : Nat.testBit 252645135 17 = true := by decide
    have e2 : Nat.testBit 252645135 (17 - 4) = false := by decide
    rw [e, e2]
    rw [r2_bit n (4 + 17) (by decide)]; simp
  · have e : Nat.testBit 252645135 18 = true := by decide
    have e2 : Nat.testBit 252645135 (18 - 4) = false := by decide
    rw [e, e2]
    rw [r2_bit n (4 + 18) (by decide)]; simp
  · have e : Nat.testBit 252645135 19 = true := by decide
    have e2 : Nat.testBit 252645135 (19 - 4) = false := by decide
    rw [e, e2]
    rw [r2_bit n (4 + 19) (by decide)]; simp
  · have e : Nat.testBit 252645135 20 = false := by decide
    have e2 : Nat.testBit 252645135 (20 - 4) = true := by decide
    rw [e, e2, show decide (4 ≤ 20) = true from rfl]
    rw [r2_bit n (20 - 4) (by decide)]; simp
  · have e : Nat.testBit 252645135 21 = false := by decide
    have e2 : Nat.testBit 252645135 (21 - 4) = true := by decide
    rw [e, e2, show decide (4 ≤ 21) = true from rfl]
    rw [r2_bit n (21 - 4) (by decide)]; simp
  · have e : Nat.testBit 252645135 22 = false := by decide
    have e2 : Nat.testBit 252645135 (22 - 4) = true := by decide
    rw [e, e2, show decide (4 ≤ 22) = true from rfl]
    rw [r2_bit n (22 - 4) (by decide)]; simp
  · have e : Nat.testBit 252645135 23 = false := by decide
    have e2 : Nat.testBit 252645135 (23 - 4) = true := by decide
    rw [e, e2, show decide (4 ≤ 23) = true from rfl]
    rw [r2_bit n (23 - 4) (by decide)]; simp
  · have e : Nat.testBit 252645135 24 = true := by decide
    have e2 : Nat.testBit 252645135 (24 - 4) = false := by decide
    rw [e, e2]
    rw [r2_bit n (4 + 24) (by decide)]; simp
  · have e : Nat.testBit 252645135 25 = true := by decide
    have e2 : Nat.testBit 252645135 (25 - 4) = false := by decide
    rw [e, e2]
    rw [r2_bit n (4 + 25) (by decide)]; simp
  · have e : Nat.testBit 252645135 26 = true := by decide
    have e2 : Nat.testBit 252645135 (26 - 4) = false := by decide
    rw [e, e2]
    rw [r2_bit n (4 + 26) (by decide)]; simp
  · have e : Nat.testBit 252645135 27 = true := by decide
    have e2 : Nat.testBit 252645135 (27 - 4) = false := by decide
    rw [e, e2]
    rw [r2_bit n (4 + 27) (by decide)]; simp
  · have e : Nat.testBit 252645135 28 = false := by decide
    have e2 : Nat.testBit 252645135 (28 - 4) = true := by decide
    rw [e, e2, show decide (4 ≤ 28) = true from rfl]
    rw [r2_bit n (28 - 4) (by decide)]; simp
  · have e : Nat.testBit 252645135 29 = false := by decide
    have e2 : Nat.testBit 252645135 (29 - 4) = true := by decide
    rw [e, e2, show decide (4 ≤ 29) = true from rfl]
    rw [r2_bit n (29 - 4) (by decide)]; simp
  · have e : Nat.testBit 252645135 30 = false := by decide
    have e2 : Nat.testBit 252645135 (30 - 4) = true := by decide
    rw [e, e2, show decide (4 ≤ 30) = true from rfl]
    rw [r2_bit n (30 - 4) (by decide)]; simp
  · have e : Nat.testBit 252645135 31 = false := by decide
    have e2 : Nat.testBit 252645135 (31 - 4) = true := by decide
    rw [e, e2, show decide (4 ≤ 31) = true from rfl]
    rw [r2_bit n (31 - 4) (by decide)]; simp
theorem r4_bit (n k : Nat) (hk : k < 32) : (r4 n).testBit k = n.testBit ((k / 16) * 16 + (15 - k % 16)) := by
  rw [r4, stp_bit _ _ _ _ hk]
  rcases (by omega : k = 0 ∨ k = 1 ∨ k = 2 ∨ k = 3 ∨ k = 4 ∨ k = 5 ∨ k = 6 ∨ k = 7 ∨ k = 8 ∨ k = 9 ∨ k = 10 ∨ k = 11 ∨ k = 12 ∨ k = 13 ∨ k = 14 ∨ k = 15 ∨ k = 16 ∨ k = 17 ∨ k = 18 ∨ k = 19 ∨ k = 20 ∨ k = 21 ∨ k = 22 ∨ k = 23 ∨ k = 24 ∨ k = 25 ∨ k = 26 ∨ k = 27 ∨ k = 28 ∨ k = 29 ∨ k = 30 ∨ k = 31) with rfl | rfl | rfl | rfl | rfl | rfl | rfl | rfl | rfl | rfl | rfl | rfl | rfl | rfl | rfl | rfl | rfl | rfl | rfl | rfl | rfl | rfl | rfl | rfl | rfl | rfl | rfl | rfl | rfl | rfl | rfl | rfl
  · have e : Nat.testBit 16711935 0 = true := by decide
    rw [e, show decide (8 ≤ 0) = false from rfl]
    rw [r3_bit n (8 + 0) (by decide)]; simp
  · have e : Nat.testBit 16711935 1 = true := by decide
    rw [e, show decide (8 ≤ 1) = false from rfl]
    rw [r3_bit n (8 + 1) (by decide)]; simp
  · have e : Nat.testBit 16711935 2 = true := by decide
    rw [e, show decide (8 ≤ 2) = false from rfl]
    rw [r3_bit n (8 + 2) (by decide)]; simp
  · have e : Nat.testBit 16711935 3 = true := by decide
    rw [e, show decide (8 ≤ 3) = false from rfl]
    rw [r3_bit n (8 + 3) (by decide)]; simp
  · have e : Nat.testBit 16711935 4 = true := by decide
    rw [e, show decide (8 ≤ 4) = false from rfl]
    rw [r3_bit n (8 + 4) (by decide)]; simp
  · have e : Nat.testBit 16711935 5 = true := by decide
    rw [e, show decide (8 ≤ 5) = false from rfl]
    rw [r3_bit n (8 + 5) (by decide)]; simp
  · have e : Nat.testBit 16711935 6 = true := by decide
    rw [e, show decide (8 ≤ 6) = false from rfl]
    rw [r3_bit n (8 + 6) (by decide)]; simp
  · have e : Nat.testBit 16711935 7 = true := by decide
    rw [e, show decide (8 ≤ 7) = false from rfl]
    rw [r3_bit n (8 + 7) (by decide)]; simp
  · have e : Nat.testBit 16711935 8 = false := by decide
    have e2 : Nat.testBit 16711935 (8 - 8) = true := by decide
    rw [e, e2, show decide (8 ≤ 8) = true from rfl]
    rw [r3_bit n (8 - 8) (by decide)]; simp
  · have e : Nat.testBit 16711935 9 = false := by decide
    have e2 : Nat.testBit 16711935 (9 - 8) = true := by decide
    rw [e, e2, show decide (8 ≤ 9) = true from rfl]
    rw [r3_bit n (9 - 8) (by decide)]; simp
  · have e : Nat.testBit 16711935 10 = false := by decide
    have e2 : Nat.testBit 16711935 (10 - 8) = true := by decide
    rw [e, e2, show decide (8 ≤ 10) = true from rfl]
    rw [r3_bit n (10 - 8) (by decide)]; simp
  · have e : Nat.testBit 16711935 11 = false := by decide
    have e2 : Nat.testBit 16711935 (11 - 8) = true := by decide
    rw [e, e2, show decide (8 ≤ 11) = true from rfl]
    rw [r3_bit n (11 - 8) (by decide)]; simp
  · have e : Nat.testBit 16711935 12 = false := by decide
    have e2 : Nat.testBit 16711935 (12 - 8) = true := by decide
    rw [e, e2, show decide (8 ≤ 12) = true from rfl]
    rw [r3_bit n (12 - 8) (by decide)]; simp
  · have e : Nat.testBit 16711935 13 = false := by decide
    have e2 : Nat.testBit 16711935 (13 - 8) = true := by decide
    rw [e, e2, show decide (8 ≤ 13) = true from rfl]
    rw [r3_bit n (13 - 8) (by decide)]; simp
  · have e : Nat.testBit 16711935 14 = false := by decide
    have e2 : Nat.testBit 16711935 (14 - 8) = true := by decide
    rw [e, e2, show decide (8 ≤ 14) = true from rfl]
    rw [r3_bit n (14 - 8) (by decide)]; simp
  · have e : Nat.testBit 16711935 15 = false := by decide
    have e2 : Nat.testBit 16711935 (15 - 8) = true := by decide
    rw [e, e2, show decide (8 ≤ 15) = true from rfl]
    rw [r3_bit n (15 - 8) (by decide)]; simp
  · have e : Nat.testBit 16711935 16 = true := by decide
    have e2 : Nat.testBit 16711935 (16 - 8) = false := by decide
    rw [e, e2]
    rw [r3_bit n (8 + 16) (by decide)]; simp
  · have e : Nat.testBit 16711935 17 = true := by decide
    have e2 : Nat.testBit 16711935 (17 - 8) = false := by decide
    rw [e, e2]
    rw [r3_bit n (8 + 17) (by decide)]; simp
  · have e : Nat.testBit 16711935 18 = true := by decide
    have e2 : Nat.testBit 16711935 (18 - 8) = false := by decide
    rw [e, e2]
    rw [r3_bit n (8 + 18) (by decide)]; simp
  · have e : Nat.testBit 16711935 19 = true := by decide
    have e2 : Nat.testBit 16711935 (19 - 8) = false := by decide
    rw [e, e2]
    rw [r3_bit n (8 + 19) (by decide)]; simp
  · have e : Nat.testBit 16711935 20 = true := by decide
    have e2 : Nat.testBit 16711935 (20 - 8) = false := by decide
    rw [e, e2]
    rw [r3_bit n (8 + 20) (by decide)]; simp
  · have e : Nat.testBit 16711935 21 = true := by decide
    have e2 : Nat.testBit 16711935 (21 - 8) = false := by decide
    rw [e, e2]
    rw [r3_bit n (8 + 21) (by decide)]; simp
  · have e : Nat.testBit 16711935 22 = true := by decide
    have e2 : Nat.testBit 16711935 (22 - 8) = false := by decide
    rw [e, e2]
    rw [r3_bit n (8 + 22) (by decide)]; simp
  · have e : Nat.testBit 16711935 23 = true := by decide
    have e2 : Nat.testBit 16711935 (23 - 8) = false := by decide
    rw [e, e2]
    rw [r3_bit n (8 + 23) (by decide)]; simp
  · have e : Nat.testBit 16711935 24 = false := by decide
    have e2 : Nat.testBit 16711935 (24 - 8) = true := by decide
    rw [e, e2, show decide (8 ≤ 24) = true from rfl]
    rw [r3_bit n (24 - 8) (by decide)]; simp
  · have e : Nat.testBit 16711935 25 = false := by decide
    have e2 : Nat.testBit 16711935 (25 - 8) = true := by decide
    rw [e, e2, show decide (8 ≤ 25) = true from rfl]
    rw [r3_bit n (25 - 8) (by decide)]; simp
  · have e : Nat.testBit 16711935 26 = false := by decide
    have e2 : Nat.testBit 16711935 (26 - 8) = true := by decide
    rw [e, e2, show decide (8 ≤ 26) = true from rfl]
    rw [r3_bit n (26 - 8) (by decide)]; simp
  · have e : Nat.testBit 16711935 27 = false := by decide
    have e2 : Nat.testBit 16711935 (27 - 8) = true := by decide
    rw [e, e2, show decide (8 ≤ 27) = true from rfl]
    rw [r3_bit n (27 - 8) (by decide)]; simp
  · have e : Nat.testBit 16711935 28 = false := by decide
    have e2 : Nat.testBit 16711935 (28 - 8) = true := by decide
    rw [e, e2, show decide (8 ≤ 28) = true from rfl]
    rw [r3_bit n (28 - 8) (by decide)]; simp
  · have e : Nat.testBit 16711935 29 = false := by decide
    have e2 : Nat.testBit 16711935 (29 - 8) = true := by decide
    rw [e, e2, show decide (8 ≤ 29) = true from rfl]
    rw [r3_bit n (29 - 8) (by decide)]; simp
  · have e : Nat.testBit 16711935 30 = false := by decide
    have e2 : Nat.testBit 16711935 (30 - 8) = true := by decide
    rw [e, e2, show decide (8 ≤ 30) = true from rfl]
    rw [r3_bit n (30 - 8) (by decide)]; simp
  · have e : Nat.testBit 16711935 31 = false := by decide
    have e2 : Nat.testBit 16711935 (31 - 8) = true := by decide
    rw [e, e2, show decide (8 ≤ 31) = true from rfl]
    rw [r3_bit n (31 - 8) (by decide)]; simp
theorem rev_bit (n k : Nat) (hn : n < 2 ^ 32) (hk : k < 32) : (swp (r4 n)).testBit k = n.testBit (31 - k) := by
  rw [swp_bit _ _ hk]
  by_cases h : 16 ≤ k
  · rw [out_bit (r4 n) (16 + k) (r4_lt n) (by omega), r4_bit n (k - 16) (by omega)]
    have e : (k - 16) / 16 * 16 + (15 - (k - 16) % 16) = 31 - k := by omega
    rw [e]; simp [h]
  · rw [r4_bit n (16 + k) (by omega)]
    have e : (16 + k) / 16 * 16 + (15 - (16 + k) % 16) = 31 - k := by omega
    rw [e]; simp [h]
/-- The bits of a word the other way round. -/
def rv (a : Int) : Int := hv (fun k => bit a (31 - k)) 32
theorem swp_lt (n : Nat) (hn : n < 2 ^ 32) : swp n < 2 ^ 32 := by
  unfold swp
  refine Nat.or_lt_two_pow ?_ (Nat.mod_lt _ (by decide))
  rw [Nat.shiftRight_eq_div_pow]; exact Nat.lt_of_le_of_lt (Nat.div_le_self _ _) hn
theorem rev_is (n : Nat) (hn : n < 2 ^ 32) : rv (n : Int) = ((swp (r4 n) : Nat) : Int) := by
  have := swp_lt (r4 n) (r4_lt n)
  refine hv_bit _ _ (by omega) (by omega) (fun k hk => ?_)
  rw [bit_nat, bit_nat, rev_bit n k hn hk]
set_option maxRecDepth 100000 in
theorem rev_bytes (n : Nat) (hn : n < 2 ^ 32) (w : World) : Calls Try.prog 92 #[.int .u32 n] w fun e w' => e = .returned (.int .u32 ((swp (stp 8 16711935 n) : Nat) : Int)) ∧ w = w' := by
  have h1 := lev 8 16711935 n (by decide) hn
  have h2 := lev16 (stp 8 16711935 n) (stp_lt _ _ _ (by decide))
  have hb := stp_lt 8 16711935 n (by decide)
  generalize stp 8 16711935 n = y at *
  generalize swp y = z at *
  have h1' : bits BinOp.or IntKind.u32 (bits BinOp.and IntKind.u32 ((n : Int) / 256) 16711935) (bits BinOp.and IntKind.u32 (n : Int) 16711935 * 256 % 4294967296) = y := h1
  clear h1
  go_enter Try.func92, Try.ntmps92
  go_wp2
  go_ret
  exact ⟨rfl, rfl⟩
set_option maxRecDepth 100000 in
theorem reverse_any (n : Nat) (hn : n < 2 ^ 32) (w : World) : Calls Try.prog 86 #[.int .u32 n] w fun e w' => e = .returned (.int .u32 (rv n)) ∧ w = w' := by
  have c := rev_bytes (r3 n) (r3_lt n)
  rw [show stp 8 16711935 (r3 n) = r4 n from rfl, ← rev_is n hn] at c
  have h1 : bits BinOp.or IntKind.u32 (bits BinOp.and IntKind.u32 ((n : Int) / 2) 1431655765) (bits BinOp.and IntKind.u32 (n : Int) 1431655765 * 2 % 4294967296) = ((r1 n : Nat) : Int) := lev 1 1431655765 n (by decide) hn
  have h2 : bits BinOp.or IntKind.u32 (bits BinOp.and IntKind.u32 (((r1 n : Nat) : Int) / 4) 858993459) (bits BinOp.and IntKind.u32 ((r1 n : Nat) : Int) 858993459 * 4 % 4294967296) = ((r2 n : Nat) : Int) := lev 2 858993459 (r1 n) (by decide) (r1_lt n)
  have h3 : bits BinOp.or IntKind.u32 (bits BinOp.and IntKind.u32 (((r2 n : Nat) : Int) / 16) 252645135) (bits BinOp.and IntKind.u32 ((r2 n : Nat) : Int) 252645135 * 16 % 4294967296) = ((r3 n : Nat) : Int) := lev 4 252645135 (r2 n) (by decide) (r2_lt n)
  have b1 := r1_lt n
  have b2 := r2_lt n
  have b3 := r3_lt n
  generalize rv n = v at c
  generalize r3 n = n3 at *
  generalize r2 n = n2 at *
  generalize r1 n = n1 at *
  go_enter Try.func86, Try.ntmps86
  go_wp2_with (go_at_call 92; refine (c _).mono ?_; rintro e w' ⟨rfl, rfl⟩)
  go_ret
  exact ⟨rfl, rfl⟩
end Go.Proofs.Ytlheggnoegedcaa
