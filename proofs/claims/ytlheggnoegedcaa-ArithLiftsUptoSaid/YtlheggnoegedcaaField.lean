/- Fields of bits: the program's answer. -/
import Derived.Test.YtlheggnoegedcaaSlice
namespace Go.Proofs.Ytlheggnoegedcaa
set_option linter.unusedVariables false
open Go.ChangeShapes Go.WideShapes Go.ChangeAt Go.RowKit
/-- How wide a field is. -/
def wid (off cnt : Int) : Nat := if cnt < 32 - off % 32 then cnt.toNat else (32 - off % 32).toNat
theorem wid_le (off cnt : Int) (h0 : 0 ≤ off) (hc : 0 ≤ cnt) : wid off cnt ≤ 32 ∧ (off % 32).toNat + wid off cnt ≤ 32 := by
  unfold wid; split <;> omega
/-- The lowest bits. -/
def msk (n : Nat) : Int := ((2 ^ n - 1 : Nat) : Int)
theorem msk_bd (n : Nat) (h : n ≤ 32) : 0 ≤ msk n ∧ msk n < 4294967296 := by
  unfold msk
  have := Nat.pow_le_pow_right (by omega : 0 < 2) h
  have := Nat.pow_pos (n := n) (by omega : 0 < 2)
  omega
theorem msk_lt (n : Nat) (h : n ≤ 32) : 2 ^ n - 1 < 2 ^ 32 := by
  have := Nat.pow_le_pow_right (by omega : 0 < 2) h
  omega
theorem msk_next (k : Nat) (h : k < 32) : bits BinOp.or IntKind.u32 (msk k) (2 ^ k % 4294967296) = msk (k + 1) := by
  have h1 := Nat.pow_lt_pow_right (by omega : 1 < 2) h
  have e : (2 : Int) ^ k % 4294967296 = ((2 ^ k : Nat) : Int) := by
    have : (2 : Int) ^ k = ((2 ^ k : Nat) : Int) := by simp
    rw [this]
    generalize 2 ^ k = q at h1
    omega
  rw [e, msk, bits_or _ _ (msk_lt k (by omega)) h1, msk]
  congr 1
  apply Nat.eq_of_testBit_eq
  intro i
  rw [Nat.testBit_or, Nat.testBit_two_pow_sub_one, Nat.testBit_two_pow, Nat.testBit_two_pow_sub_one]
  by_cases e1 : i < k
  · simp [e1]; omega
  · by_cases e2 : i = k
    · subst e2; simp
    · have e3 : ¬ i < k + 1 := by omega
      simp [e1, e3]; omega
set_option maxHeartbeats 400000 in
theorem field_any (off cnt : Int) (h0 : 0 ≤ off) (h1 : off < 4294967296) (h2 : 0 ≤ cnt) (h3 : cnt < 4294967296) (w : World) :
    Calls Try.prog 40 #[.int .u32 off, .int .u32 cnt] w fun e w' => e = .returned (.tuple #[.int .u32 (off % 32), .int .u32 (msk (wid off cnt))]) ∧ w' = w := by
  go_enter Try.func40, Try.ntmps40
  go_wp2
  go_loop [6, 10] (fun m i => ∃ k : Nat, k ≤ 32 ∧ i = .int .u32 k ∧ m = .int .u32 (msk (min k (wid off cnt)))) (fun _ i => (32 - intOf i).toNat)
  case atStart => exact ⟨0, by omega, rfl, by simp [msk]⟩
  case round =>
    obtain ⟨k, hk, rfl, rfl⟩ := hrel
    by_cases hlt : k < 32
    · by_cases hin : k < wid off cnt
      · have ha : (k : Int) < cnt := by unfold wid at hin; split at hin <;> omega
        have hb : off % 32 + (k : Int) < 32 := by unfold wid at hin; split at hin <;> omega
        have e1 : min k (wid off cnt) = k := by omega
        have e2 : min (k + 1) (wid off cnt) = k + 1 := by omega
        rw [e1]
        have hn := msk_next k hlt
        have hm := msk_bd k hk
        have E2 := hid e2
        clear e1 e2 hin
        go_wp2
        go_round
        case rel => exact ⟨k + 1, by omega, by go_num, by rw [E2.out]⟩
        case measure => simp [intOf]; omega
      · have e1 : min k (wid off cnt) = wid off cnt := by omega
        have e2 : min (k + 1) (wid off cnt) = wid off cnt := by omega
        have E2 := hid e2
        rw [e1]
        have hm := msk_bd (wid off cnt) (wid_le off cnt h0 h2).1
        have hw : wid off cnt ≤ k := by omega
        by_cases ha : (k : Int) < cnt
        · have hb : 32 ≤ off % 32 + (k : Int) := by unfold wid at hw; split at hw <;> omega
          clear e1 e2 hin
          generalize wid off cnt = n at *
          go_wp2
          go_round
          case rel => exact ⟨k + 1, by omega, by go_num, by rw [E2.out]⟩
          case measure => simp [intOf]; omega
        · clear e1 e2 hin
          generalize wid off cnt = n at *
          go_wp2
          go_round
          case rel => exact ⟨k + 1, by omega, by go_num, by rw [E2.out]⟩
          case measure => simp [intOf]; omega
    · obtain rfl : k = 32 := by omega
      have e1 : min 32 (wid off cnt) = wid off cnt := by have := (wid_le off cnt h0 h2).1; omega
      rw [e1]
      clear e1 hlt
      go_wp2
      go_ret2
      exact ⟨rfl, rfl⟩
/-- A field put in. -/
def insS (o n : Nat) (a b : Int) : Int := hv (fun k => if o ≤ k ∧ k < o + n then bit b (k - o) else bit a k) 32
/-- A field taken out. -/
def extS (s : Bool) (o n : Nat) (a : Int) : Int := hv (fun k => if k < n then bit a (o + k) else if s ∧ 0 < n then bit a (o + n - 1) else 0) 32
theorem bits_not (m n : Nat) (hm : m < 2 ^ 32) (hn : n < 2 ^ 32) (k : Nat) (hk : k < 32) :
    bit (bits BinOp.andNot IntKind.u32 (m : Int) (n : Int)) k = if m.testBit k && !n.testBit k then 1 else 0 := by
  have e : (BitVec.ofNat 32 m &&& ~~~BitVec.ofNat 32 n).toNat < 2 ^ 32 := (BitVec.ofNat 32 m &&& ~~~BitVec.ofNat 32 n).isLt
  have e1 : bits BinOp.andNot IntKind.u32 (m : Int) (n : Int) = (((BitVec.ofNat 32 m &&& ~~~BitVec.ofNat 32 n).toNat : Nat) : Int) := by
    show IntKind.u32.wrap (((BitVec.ofInt 32 (m : Int)) &&& ~~~BitVec.ofInt 32 (n : Int)).toNat : Int) = _
    rw [BitVec.ofInt_natCast, BitVec.ofInt_natCast, u32w]
    omega
  rw [e1, bit_nat, BitVec.toNat_and, Nat.testBit_and, BitVec.toNat_ofNat, Nat.mod_eq_of_lt hm]
  have e2 : (~~~BitVec.ofNat 32 n).toNat.testBit k = !n.testBit k := by
    rw [BitVec.testBit_toNat, BitVec.getLsbD_not, BitVec.getLsbD_ofNat]; simp [hk]
  rw [e2]
theorem bits_not_bd (x y : Int) : 0 ≤ bits BinOp.andNot IntKind.u32 x y ∧ bits BinOp.andNot IntKind.u32 x y < 4294967296 := by
  unfold bits; rw [u32w]; omega
theorem ins_is (o n : Nat) (a b : Int) (ho : o + n ≤ 32) (ha : 0 ≤ a) (ha' : a < 4294967296) (hb : 0 ≤ b) (hb' : b < 4294967296) :
    bits BinOp.or IntKind.u32 (bits BinOp.andNot IntKind.u32 a (msk n * 2 ^ o % 4294967296)) (bits BinOp.and IntKind.u32 b (msk n) * 2 ^ o % 4294967296) = insS o n a b := by
  obtain ⟨m, rfl, hm⟩ := nat_of ha ha'
  obtain ⟨p, rfl, hp⟩ := nat_of hb hb'
  have hk := msk_lt n (by omega)
  have e1 : msk n * (2 : Int) ^ o % (4294967296 : Int) = (((2 ^ n - 1) <<< o % 2 ^ 32 : Nat) : Int) := by rw [Nat.shiftLeft_eq]; simp [msk]
  have e2 : bits BinOp.and IntKind.u32 (p : Int) (msk n) = ((p &&& (2 ^ n - 1) : Nat) : Int) := bits_and p _ hp hk
  have e3 : ((p &&& (2 ^ n - 1) : Nat) : Int) * (2 : Int) ^ o % (4294967296 : Int) = (((p &&& (2 ^ n - 1)) <<< o % 2 ^ 32 : Nat) : Int) := by rw [Nat.shiftLeft_eq]; simp
  rw [e1, e2, e3]
  have l1 : (2 ^ n - 1) <<< o % 2 ^ 32 < 2 ^ 32 := Nat.mod_lt _ (by decide)
  have l2 : (p &&& (2 ^ n - 1)) <<< o % 2 ^ 32 < 2 ^ 32 := Nat.mod_lt _ (by decide)
  have hx := bits_not m _ hm l1
  have hbd := bits_not_bd (m : Int) (((2 ^ n - 1) <<< o % 2 ^ 32 : Nat) : Int)
  generalize bits BinOp.andNot IntKind.u32 (m : Int) (((2 ^ n - 1) <<< o % 2 ^ 32 : Nat) : Int) = x at hx hbd
  obtain ⟨q, rfl, hq⟩ := nat_of hbd.1 hbd.2
  rw [bits_or q _ hq l2]
  symm
  have l3 := Nat.or_lt_two_pow hq l2
  refine hv_bit _ _ (by omega) (by omega) (fun k hk => ?_)
  have hxk := hx k hk
  rw [bit_nat] at hxk
  have hqk : q.testBit k = (m.testBit k && !((2 ^ n - 1) <<< o % 2 ^ 32).testBit k) := by
    revert hxk
    generalize (m.testBit k && !((2 ^ n - 1) <<< o % 2 ^ 32).testBit k) = z
    cases q.testBit k <;> cases z <;> simp
  rw [bit_nat (q ||| (p &&& (2 ^ n - 1)) <<< o % 2 ^ 32) k, Nat.testBit_or, hqk, Nat.testBit_mod_two_pow, Nat.testBit_mod_two_pow, Nat.testBit_shiftLeft, Nat.testBit_shiftLeft, Nat.testBit_and, Nat.testBit_two_pow_sub_one]
  by_cases c1 : o ≤ k
  · by_cases c2 : k < o + n
    · have c3 : k - o < n := by omega
      simp [c1, c2, c3, hk, bit_nat]
    · have c3 : ¬ k - o < n := by omega
      simp [c1, c2, c3, hk, bit_nat]
  · simp [c1, hk, bit_nat]
theorem extn_is (o n : Nat) (a : Int) (ho : o + n ≤ 32) (ha : 0 ≤ a) (ha' : a < 4294967296) :
    bits BinOp.and IntKind.u32 (a / 2 ^ o) (msk n) = extS false o n a := by
  obtain ⟨m, rfl, hm⟩ := nat_of ha ha'
  have hk := msk_lt n (by omega)
  have e1 : (m : Int) / (2 : Int) ^ o = ((m >>> o : Nat) : Int) := by rw [Nat.shiftRight_eq_div_pow]; simp
  have l1 : m >>> o < 2 ^ 32 := by rw [Nat.shiftRight_eq_div_pow]; exact Nat.lt_of_le_of_lt (Nat.div_le_self _ _) hm
  rw [e1, msk, bits_and _ _ l1 hk]
  have l2 := Nat.and_lt_two_pow (m >>> o) hk
  symm
  refine hv_bit _ _ (by omega) (by omega) (fun k hk => ?_)
  rw [bit_nat (m >>> o &&& (2 ^ n - 1)) k, Nat.testBit_and, Nat.testBit_shiftRight, Nat.testBit_two_pow_sub_one]
  by_cases c : k < n <;> simp [c, bit_nat]
/-- The number of a field is less than half of what it could be just if its last bit is 0. -/
theorem half (o n : Nat) (a : Int) (ho : o + n ≤ 32) (ha : 0 ≤ a) (ha' : a < 4294967296) :
    (msk n / 2 < extS false o n a) ↔ (0 < n ∧ bit a (o + n - 1) = 1) := by
  rw [← extn_is o n a ho ha ha']
  obtain ⟨m, rfl, hm⟩ := nat_of ha ha'
  have hk := msk_lt n (by omega)
  have e1 : (m : Int) / (2 : Int) ^ o = ((m >>> o : Nat) : Int) := by rw [Nat.shiftRight_eq_div_pow]; simp
  have l1 : m >>> o < 2 ^ 32 := by rw [Nat.shiftRight_eq_div_pow]; exact Nat.lt_of_le_of_lt (Nat.div_le_self _ _) hm
  rw [e1, msk, bits_and _ _ l1 hk, Nat.and_two_pow_sub_one_eq_mod]
  cases n with
  | zero => simp
  | succ n =>
    have h1 : (m >>> o % 2 ^ (n + 1)) = m >>> o % 2 ^ n + 2 ^ n * (if m.testBit (o + n) then 1 else 0) := by
      rw [Nat.pow_succ, Nat.mod_mul]
      have h2 : m >>> o / 2 ^ n % 2 = if m.testBit (o + n) then 1 else 0 := by
        have h3 : (m >>> o).testBit n = m.testBit (o + n) := Nat.testBit_shiftRight ..
        rw [← h3, Nat.testBit_eq_decide_div_mod_eq]
        have := Nat.mod_two_eq_zero_or_one (m >>> o / 2 ^ n)
        rcases this with h | h <;> simp [h]
      rw [h2]
    have h4 : m >>> o % 2 ^ n < 2 ^ n := Nat.mod_lt _ (Nat.pow_pos (by omega))
    have h5 : ((2 ^ (n + 1) - 1 : Nat) : Int) / 2 = ((2 ^ n - 1 : Nat) : Int) := by
      have : 2 ^ (n + 1) - 1 = 2 * (2 ^ n - 1) + 1 := by rw [Nat.pow_succ]; omega
      rw [this]; omega
    have h6 := Nat.pow_pos (n := n) (by omega : 0 < 2)
    rw [h5, h1, show o + (n + 1) - 1 = o + n by omega, bit_nat]
    clear h1 h5
    generalize m >>> o % 2 ^ n = R at *
    generalize 2 ^ n = P at *
    cases m.testBit (o + n)
    · simp; omega
    · simp; omega
theorem exts_hi (o n : Nat) (a : Int) (ho : o + n ≤ 32) (ha : 0 ≤ a) (ha' : a < 4294967296) (h : 0 < n ∧ bit a (o + n - 1) = 1) :
    bits BinOp.or IntKind.u32 (extS false o n a) (4294967295 - msk n) = extS true o n a := by
  have hb := msk_bd n (by omega)
  have he : 0 ≤ extS false o n a ∧ extS false o n a < 4294967296 := by
    have h1 := hv_bd (fun k => if k < n then bit a (o + k) else if (false : Bool) ∧ 0 < n then bit a (o + n - 1) else 0) (fun k => by have := bit_bd a (o + k); have := bit_bd a (o + n - 1); dsimp; split <;> (try split) <;> omega) 32
    unfold extS
    omega
  have hbit : ∀ k, k < 32 → bit (extS false o n a) k = if k < n then bit a (o + k) else 0 := by
    intro k hk
    rw [← extn_is o n a ho ha ha']
    obtain ⟨m, rfl, hm⟩ := nat_of ha ha'
    have hkk := msk_lt n (by omega)
    have e1 : (m : Int) / (2 : Int) ^ o = ((m >>> o : Nat) : Int) := by rw [Nat.shiftRight_eq_div_pow]; simp
    have l1 : m >>> o < 2 ^ 32 := by rw [Nat.shiftRight_eq_div_pow]; exact Nat.lt_of_le_of_lt (Nat.div_le_self _ _) hm
    rw [e1, msk, bits_and _ _ l1 hkk, bit_nat, Nat.testBit_and, Nat.testBit_shiftRight, Nat.testBit_two_pow_sub_one]
    by_cases c : k < n <;> simp [c, bit_nat]
  obtain ⟨q, hq, hq'⟩ := nat_of he.1 he.2
  rw [hq] at hbit ⊢
  have e2 : (4294967295 : Int) - msk n = ((2 ^ 32 - ((2 ^ n - 1) + 1) : Nat) : Int) := by
    have := msk_lt n (by omega)
    unfold msk; omega
  have l2 : 2 ^ 32 - ((2 ^ n - 1) + 1) < 2 ^ 32 := by omega
  rw [e2, bits_or q _ hq' l2]
  have l3 := Nat.or_lt_two_pow hq' l2
  symm
  refine hv_bit _ _ (by omega) (by omega) (fun k hk => ?_)
  have hb2 := hbit k hk
  rw [bit_nat] at hb2
  rw [bit_nat, Nat.testBit_or, Nat.testBit_two_pow_sub_succ (msk_lt n (by omega)), Nat.testBit_two_pow_sub_one]
  have hbb := bit_bd a (o + k)
  by_cases c : k < n
  · simp only [if_pos c] at hb2 ⊢
    rw [← hb2]
    simp [c]
  · simp only [if_neg c] at hb2 ⊢
    have : q.testBit k = false := by revert hb2; cases q.testBit k <;> simp
    simp [c, hk, this, h.1, h.2]
theorem exts_lo (o n : Nat) (a : Int) (h : ¬ (0 < n ∧ bit a (o + n - 1) = 1)) : extS false o n a = extS true o n a := by
  unfold extS
  congr 1
  funext k
  by_cases c : k < n
  · simp [c]
  · have hb := bit_bd a (o + n - 1)
    by_cases c2 : 0 < n
    · have : bit a (o + n - 1) = 0 := by
        by_cases c3 : bit a (o + n - 1) = 1
        · exact absurd ⟨c2, c3⟩ h
        · omega
      simp [c, c2, this]
    · simp [c, c2]
end Go.Proofs.Ytlheggnoegedcaa
