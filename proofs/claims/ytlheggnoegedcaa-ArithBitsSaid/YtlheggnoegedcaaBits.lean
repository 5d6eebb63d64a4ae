/- The walk of 'ArithBits'. -/
import Derived.Test.YtlheggnoegedcaaFieldwalk
import Derived.Test.YtlheggnoegedcaaRing
namespace Go.Proofs.Ytlheggnoegedcaa
set_option linter.unusedVariables false
open Go.ChangeShapes Go.WideShapes Go.ChangeAt Go.RowKit
/-- The bits of a number that is made of bits. -/
theorem hv_bits (f : Nat → Int) (hf : ∀ k, 0 ≤ f k ∧ f k ≤ 1) : ∀ n, n ≤ 32 → ∀ k, k < n → bit (hv f n) k = f (32 - n + k) := by
  intro n
  induction n with
  | zero => intro _ k hk; omega
  | succ n ih =>
    intro hn k hk
    have hb := hf (31 - n)
    rw [hv]
    cases k with
    | zero =>
      have e : 32 - (n + 1) + 0 = 31 - n := by omega
      rw [e]; unfold bit; simp; omega
    | succ k =>
      have h1 := ih (by omega) k (by omega)
      have e : 32 - (n + 1) + (k + 1) = 32 - n + k := by omega
      rw [e, ← h1]
      unfold bit
      rw [Int.pow_succ, Int.mul_comm (2 ^ k) 2, ← Int.ediv_ediv_of_nonneg (by omega)]
      have : (2 * hv f n + f (31 - n)) / 2 = hv f n := by omega
      rw [this]
theorem hv_bits32 (f : Nat → Int) (hf : ∀ k, 0 ≤ f k ∧ f k ≤ 1) (k : Nat) (hk : k < 32) : bit (hv f 32) k = f k := by
  have := hv_bits f hf 32 (by omega) k hk
  rwa [show 32 - 32 + k = k by omega] at this
theorem hv_range (f : Nat → Int) (hf : ∀ k, 0 ≤ f k ∧ f k ≤ 1) : 0 ≤ hv f 32 ∧ hv f 32 < 4294967296 := by
  have := hv_bd f hf 32
  omega
theorem ins_bd (o n : Nat) (a b : Int) : 0 ≤ insS o n a b ∧ insS o n a b < 4294967296 := hv_range (insF o n a b) (insF_bd o n a b)
theorem ext_bd (s : Bool) (o n : Nat) (a : Int) : 0 ≤ extS s o n a ∧ extS s o n a < 4294967296 := hv_range (extF s o n a) (extF_bd s o n a)
theorem ins_bit (o n : Nat) (a b : Int) (k : Nat) (hk : k < 32) : bit (insS o n a b) k = insF o n a b k := hv_bits32 (insF o n a b) (insF_bd o n a b) k hk
theorem ext_bit (s : Bool) (o n : Nat) (a : Int) (k : Nat) (hk : k < 32) : bit (extS s o n a) k = extF s o n a k := hv_bits32 (extF s o n a) (extF_bd s o n a) k hk
/-- Two words with the same bits are one. -/
theorem same_bits (a b : Int) (ha : 0 ≤ a) (ha' : a < 4294967296) (hb : 0 ≤ b) (hb' : b < 4294967296) (h : ∀ k, k < 32 → bit a k = bit b k) : a = b := by
  have h1 := hv_bit a (bit a) ha ha' (fun _ _ => rfl)
  have h2 := hv_bit b (bit a) hb hb' h
  omega
theorem put_get (o n : Nat) (a b : Int) (ho : o + n ≤ 32) : extS false o n (insS o n a b) = extS false 0 n b := by
  have h1 := ext_bd false o n (insS o n a b)
  have h2 := ext_bd false 0 n b
  refine same_bits _ _ h1.1 h1.2 h2.1 h2.2 (fun k hk => ?_)
  rw [ext_bit _ _ _ _ _ hk, ext_bit _ _ _ _ _ hk]
  unfold extF
  by_cases c : k < n
  · rw [if_pos c, if_pos c, ins_bit _ _ _ _ _ (by omega)]
    unfold insF
    rw [if_pos ⟨by omega, by omega⟩, show o + k - o = 0 + k by omega]
  · simp [c]
theorem get_all (b : Int) (hb : 0 ≤ b) (hb' : b < 4294967296) : extS false 0 32 b = b := by
  have h1 := ext_bd false 0 32 b
  refine same_bits _ _ h1.1 h1.2 hb hb' (fun k hk => ?_)
  rw [ext_bit _ _ _ _ _ hk]
  unfold extF
  rw [if_pos hk, Nat.zero_add]
theorem put_back (o n : Nat) (a b : Int) (ho : o + n ≤ 32) (ha : 0 ≤ a) (ha' : a < 4294967296) : insS o n (insS o n a b) (extS false o n a) = a := by
  have h1 := ins_bd o n (insS o n a b) (extS false o n a)
  refine same_bits _ _ h1.1 h1.2 ha ha' (fun k hk => ?_)
  rw [ins_bit _ _ _ _ _ hk]
  unfold insF
  by_cases c : o ≤ k ∧ k < o + n
  · rw [if_pos c, ext_bit _ _ _ _ _ (by omega)]
    unfold extF
    rw [if_pos (by omega), show o + (k - o) = k by omega]
  · rw [if_neg c, ins_bit _ _ _ _ _ hk]
    unfold insF
    rw [if_neg c]
theorem sign_same (o n : Nat) (a : Int) (ho : o + n ≤ 32) : extS false 0 n (extS true o n a) = extS false o n a := by
  have h1 := ext_bd false 0 n (extS true o n a)
  have h2 := ext_bd false o n a
  refine same_bits _ _ h1.1 h1.2 h2.1 h2.2 (fun k hk => ?_)
  rw [ext_bit _ _ _ _ _ hk, ext_bit _ _ _ _ _ hk]
  unfold extF
  by_cases c : k < n
  · rw [if_pos c, if_pos c, ext_bit _ _ _ _ _ (by omega)]
    unfold extF
    rw [if_pos (by omega), Nat.zero_add]
  · simp [c]
theorem rv_bit (a : Int) (k : Nat) (hk : k < 32) : bit (rv a) k = bit a (31 - k) := hv_bits32 (fun k => bit a (31 - k)) (fun k => bit_bd a (31 - k)) k hk
theorem rv_bd (a : Int) : 0 ≤ rv a ∧ rv a < 4294967296 := hv_range (fun k => bit a (31 - k)) (fun k => bit_bd a (31 - k))
theorem rv_rv (a : Int) (ha : 0 ≤ a) (ha' : a < 4294967296) : rv (rv a) = a := by
  have h1 := rv_bd (rv a)
  refine same_bits _ _ h1.1 h1.2 ha ha' (fun k hk => ?_)
  rw [rv_bit _ _ hk, rv_bit _ _ (by omega), show 31 - (31 - k) = k by omega]
theorem pc_rev (f : Nat → Int) (n : Nat) : pc (fun k => f (n - 1 - k)) n = pc f n := by
  induction n with
  | zero => rfl
  | succ n ih =>
    rw [Nat.add_comm n 1, pc_add (fun k => f (1 + n - 1 - k)) 1 n, Nat.add_comm 1 n]
    have e1 : pc (fun k => f (n + 1 - 1 - k)) 1 = f n := by simp [pc]
    have e2 : pc (fun k => f (n + 1 - 1 - (1 + k))) n = pc (fun k => f (n - 1 - k)) n := pc_congr n (fun k hk => by
      rw [show n + 1 - 1 - (1 + k) = n - 1 - k by omega])
    rw [e1, e2, ih, pc]; omega
theorem pop_rv (a : Int) : pc (bit (rv a)) 32 = pc (bit a) 32 := by
  have h := pc_rev (bit a) 32
  rw [← h]
  exact pc_congr 32 (fun k hk => by rw [rv_bit a k hk])
theorem not_bit (a : Int) (ha : 0 ≤ a) (ha' : a < 4294967296) (k : Nat) (hk : k < 32) : bit (4294967295 - a) k = 1 - bit a k := by
  rw [← not_is a ha ha']
  exact hv_bits32 (fun k => 1 - bit a k) (fun k => by have := bit_bd a k; omega) k hk
theorem pop_not (a : Int) (ha : 0 ≤ a) (ha' : a < 4294967296) : pc (bit a) 32 + pc (bit (4294967295 - a)) 32 = 32 := by
  have h : ∀ n, n ≤ 32 → pc (bit a) n + pc (bit (4294967295 - a)) n = n := by
    intro n
    induction n with
    | zero => intro _; simp [pc]
    | succ n ih =>
      intro hn
      have h1 := ih (by omega)
      have h2 := not_bit a ha ha' n (by omega)
      rw [pc, pc, h2]; omega
  have := h 32 (by omega)
  omega
theorem xor_not (a : Int) (ha : 0 ≤ a) (ha' : a < 4294967296) : bits BinOp.xor IntKind.u32 a (4294967295 - a) = 4294967295 := by
  rw [← bw_xor a (4294967295 - a) ha ha' (by omega) (by omega)]
  refine hv_bit _ _ (by omega) (by omega) (fun k hk => ?_)
  have h0 : bit 4294967295 k = 1 := by
    have := not_bit 0 (by omega) (by omega) k hk
    have e : bit 0 k = 0 := by unfold bit; simp
    rw [e] at this
    simpa using this
  rw [h0]
  unfold bw
  rw [not_bit a ha ha' k hk]
  have hb := bit_bd a k
  have e : bit a k + (1 - bit a k) = 1 := by omega
  rw [e]; rfl
theorem there_back (a : Int) (ha : 0 ≤ a) (ha' : a < 4294967296) (n : Nat) (hn : n < 32) : a * 2 ^ n % 4294967296 / 2 ^ n = bits BinOp.and IntKind.u32 a (4294967295 / 2 ^ n) := by
  have hd := div_pow_bd 4294967295 n (by omega) (by omega)
  have hd2 := div_pow_bd (a * 2 ^ n % 4294967296) n (by omega) (by omega)
  rw [← bw_and a _ ha ha' hd.1 hd.2]
  symm
  refine hv_bit _ _ hd2.1 hd2.2 (fun k hk => ?_)
  have e1 : bit (a * 2 ^ n % 4294967296 / 2 ^ n) k = if n + k < 32 then bit a k else 0 := by
    rw [bit_div]
    have h1 := shl_is a ha ha' n
    by_cases c : n + k < 32
    · rw [if_pos c, ← h1, hv_bits32 (mv 196 a n) (mv_bd 196 a n) _ c]
      simp [mv]
    · rw [if_neg c]
      have h2 := pow_le 32 (n + k) (by omega)
      unfold bit
      rw [Int.ediv_eq_zero_of_lt (by omega) (by omega)]; rfl
  have e2 : bit (4294967295 / 2 ^ n) k = if n + k < 32 then 1 else 0 := by
    rw [bit_div]
    by_cases c : n + k < 32
    · rw [if_pos c]
      have := not_bit 0 (by omega) (by omega) (n + k) c
      have e : bit 0 (n + k) = 0 := by unfold bit; simp
      rw [e] at this
      simpa using this
    · rw [if_neg c]
      have h2 := pow_le 32 (n + k) (by omega)
      unfold bit
      rw [Int.ediv_eq_zero_of_lt (by omega) (by omega)]; rfl
  rw [e1]
  unfold bw
  rw [e2]
  have hb := bit_bd a k
  by_cases c : n + k < 32
  · rw [if_pos c, if_pos c]
    rcases (show bit a k = 0 ∨ bit a k = 1 by omega) with h | h <;> rw [h] <;> rfl
  · rw [if_neg c, if_neg c]
    rcases (show bit a k = 0 ∨ bit a k = 1 by omega) with h | h <;> rw [h] <;> rfl
theorem wid_zero (c : Int) (h : 0 ≤ c) : wid 0 c = if c < 32 then c.toNat else 32 := by unfold wid; simp
/-- 'Field' of words that are written out. -/
def Fld (op : Int) (l : List Int) (v : Int) : Prop := ∀ w : World, Calls Try.prog 23 #[.int .u16 op, .slice (some ⟨w.heap.size, 0, none⟩) l.length l.length] (w.alloc (.cells (l.map (Value.int .u32)).toArray 23)) fun e w' =>
  e = .returned (.tuple #[.int .u32 v, .bool true]) ∧ Below (w.alloc (.cells (l.map (Value.int .u32)).toArray 23)).heap.size (w.alloc (.cells (l.map (Value.int .u32)).toArray 23)) w'
theorem at_list (w : World) (l : List Int) : At (w.alloc (.cells (l.map (Value.int .u32)).toArray 23)) w.heap.size 0 l.length (fun i => l.getD i 0) := by
  intro i hi
  rw [Nat.zero_add, cell_of_row _ _ _ _ _ _ (alloc_at w _)]
  simp [hi]
theorem alloc_lt (w : World) (o : Obj) : w.heap.size < (w.alloc o).heap.size := by show _ < (w.heap.push o).size; simp
theorem fld_3 (op a b c v : Int) (ho : op = 202 ∨ op = 203) (ha : 0 ≤ a) (ha' : a < 4294967296) (hb : 0 ≤ b) (hb' : b < 4294967296) (hc : 0 ≤ c) (hc' : c < 4294967296)
    (h : extS (op == 202) (b % 32).toNat (wid b c) a = v) : Fld op [a, b, c] v := by
  intro w
  have hl : ∀ i, i < 3 → 0 ≤ [a, b, c].getD i 0 ∧ [a, b, c].getD i 0 < 4294967296 := by
    intro i hi
    rcases (show i = 0 ∨ i = 1 ∨ i = 2 by omega) with rfl | rfl | rfl
    · exact ⟨ha, ha'⟩
    · exact ⟨hb, hb'⟩
    · exact ⟨hc, hc'⟩
  subst h
  rcases ho with rfl | rfl
  · exact own_ext_202 w.heap.size 0 3 (fun i => [a, b, c].getD i 0) _ (alloc_lt _ _) (at_list w [a, b, c]) (fun i hi => (hl i hi).1) (fun i hi => (hl i hi).2)
  · exact own_ext_203 w.heap.size 0 3 (fun i => [a, b, c].getD i 0) _ (alloc_lt _ _) (at_list w [a, b, c]) (fun i hi => (hl i hi).1) (fun i hi => (hl i hi).2)
theorem fld_4 (a b c d v : Int) (ha : 0 ≤ a) (ha' : a < 4294967296) (hb : 0 ≤ b) (hb' : b < 4294967296) (hc : 0 ≤ c) (hc' : c < 4294967296) (hd : 0 ≤ d) (hd' : d < 4294967296)
    (h : insS (c % 32).toNat (wid c d) a b = v) : Fld 201 [a, b, c, d] v := by
  intro w
  have hl : ∀ i, i < 4 → 0 ≤ [a, b, c, d].getD i 0 ∧ [a, b, c, d].getD i 0 < 4294967296 := by
    intro i hi
    rcases (show i = 0 ∨ i = 1 ∨ i = 2 ∨ i = 3 by omega) with rfl | rfl | rfl | rfl
    · exact ⟨ha, ha'⟩
    · exact ⟨hb, hb'⟩
    · exact ⟨hc, hc'⟩
    · exact ⟨hd, hd'⟩
  subst h
  exact own_insert w.heap.size 0 4 (fun i => [a, b, c, d].getD i 0) _ (alloc_lt _ _) (at_list w [a, b, c, d]) (fun i hi => (hl i hi).1) (fun i hi => (hl i hi).2)
theorem Fld.call3 {op a b c v : Int} (h : Fld op [a, b, c] v) (w : World) : Calls Try.prog 23 #[.int .u16 op, .slice (some ⟨w.heap.size, 0, none⟩) 3 3] (w.alloc (.cells #[.int .u32 a, .int .u32 b, .int .u32 c] 23)) fun e w' =>
  e = .returned (.tuple #[.int .u32 v, .bool true]) ∧ Below w.heap.size w w' :=
  (h w).mono fun _ _ ⟨h1, h2⟩ => ⟨h1, bcall (bal (Below.refl _ _) _) h2⟩
theorem Fld.call4 {op a b c d v : Int} (h : Fld op [a, b, c, d] v) (w : World) : Calls Try.prog 23 #[.int .u16 op, .slice (some ⟨w.heap.size, 0, none⟩) 4 4] (w.alloc (.cells #[.int .u32 a, .int .u32 b, .int .u32 c, .int .u32 d] 23)) fun e w' =>
  e = .returned (.tuple #[.int .u32 v, .bool true]) ∧ Below w.heap.size w w' :=
  (h w).mono fun _ _ ⟨h1, h2⟩ => ⟨h1, bcall (bal (Below.refl _ _) _) h2⟩
/-- A call of 'Unary'. -/
def Un (op a x : Int) : Prop := ∀ w, Calls Try.prog 18 #[.int .u16 op, .int .u32 a] w fun e w' => e = .returned (.tuple #[.int .u32 x, .bool true]) ∧ Below w.heap.size w w'
theorem Un.call {op a x : Int} (h : Un op a x) (w : World) : Calls Try.prog 18 #[.int .u16 op, .int .u32 a] w fun e w' => e = .returned (.tuple #[.int .u32 x, .bool true]) ∧ Below w.heap.size w w' := h w
theorem un_any (op a x : Int) (ha : 0 ≤ a) (ha' : a < 4294967296) (h : unS op a = x) (h2 : isUn op = true) : Un op a x := fun w => by
  have := unary_own op a ha ha' w
  rwa [h, h2] at this
set_option maxRecDepth 1000000 in
set_option maxHeartbeats 4000000 in
theorem bits_walk (a b off cnt width : Int) (ha : 0 ≤ a) (ha' : a < 4294967296) (hb : 0 ≤ b) (hb' : b < 4294967296) (ho : 0 ≤ off) (ho' : off < 4294967296) (hc : 0 ≤ cnt) (hc' : cnt < 4294967296)
    (hwid : (cnt < 32 - off % 32 ∧ width = cnt) ∨ (32 - off % 32 ≤ cnt ∧ width = 32 - off % 32)) (w : World) :
    Calls Try.prog 11 #[.agg #[.int .u32 a, .int .u32 b, .int .u32 off, .int .u32 cnt]] w fun e w' => e = .returned (.bool true) ∧ Below w.heap.size w w' := by
  have hn : wid off cnt = width.toNat := by unfold wid; rcases hwid with ⟨h1, h2⟩ | ⟨h1, h2⟩ <;> split <;> omega
  have hw0 : 0 ≤ width ∧ width ≤ 32 := by omega
  have hon : (off % 32).toNat + width.toNat ≤ 32 := by rcases hwid with ⟨h1, h2⟩ | ⟨h1, h2⟩ <;> omega
  have hrv := rv_bd a
  have hp1 := pc_bd (bit a) (bit_bd a) 32
  have hp2 := pc_bd (bit (4294967295 - a)) (bit_bd _) 32
  have hpn := pop_not a ha ha'
  have hf := ins_bd (off % 32).toNat width.toNat a b
  have hback := ext_bd false (off % 32).toNat width.toNat a
  have hsig := ext_bd true (off % 32).toNat width.toNat a
  have hpow : (0 : Int) < 2 ^ (off % 32).toNat := two_pos _
  have hsh := div_pow_bd 4294967295 (off % 32).toNat (by omega) (by omega)
  -- the calls
  have u1 := un_any 204 a (rv a) ha ha' rfl rfl
  have u2 := un_any 204 (rv a) a hrv.1 hrv.2 (rv_rv a ha ha') rfl
  have u3 := un_any 200 a (4294967295 - a) ha ha' rfl rfl
  have u4 := un_any 205 a (pc (bit a) 32) ha ha' rfl rfl
  have u5 := un_any 205 (4294967295 - a) (pc (bit (4294967295 - a)) 32) (by omega) (by omega) rfl rfl
  have u6 := un_any 205 (rv a) (pc (bit a) 32) hrv.1 hrv.2 (pop_rv a) rfl
  have k1 := two_any 198 a (4294967295 - a) 4294967295 ha ha' (by omega) (by omega) (xor_not a ha ha')
  have k2 := two_any 196 a off (a * 2 ^ (off % 32).toNat % 4294967296) ha ha' ho ho' rfl
  have k3 := two_any 194 (a * 2 ^ (off % 32).toNat % 4294967296) off (a * 2 ^ (off % 32).toNat % 4294967296 / 2 ^ (off % 32).toNat) (by omega) (by omega) ho ho' rfl
  have k4 := two_any 194 4294967295 off (4294967295 / 2 ^ (off % 32).toNat) (by omega) (by omega) ho ho' rfl
  have k5 := two_any 199 a (4294967295 / 2 ^ (off % 32).toNat) (a * 2 ^ (off % 32).toNat % 4294967296 / 2 ^ (off % 32).toNat) ha ha' hsh.1 hsh.2 (there_back a ha ha' _ (by omega)).symm
  have k6 := two_any 196 1 (off % 32) (2 ^ (off % 32).toNat % 4294967296) (by omega) (by omega) (by omega) (by omega) (by show 1 * 2 ^ (off % 32 % 32).toNat % 4294967296 = _; rw [Int.emod_emod_of_dvd _ (Int.dvd_refl _), Int.one_mul])
  have k7 := two_any 132 a (2 ^ (off % 32).toNat % 4294967296) (a * 2 ^ (off % 32).toNat % 4294967296) ha ha' (by omega) (by omega) (mul_r _ _)
  have q1 := fld_4 a b off cnt _ ha ha' hb hb' ho ho' hc hc' (by rw [hn])
  have q2 := fld_3 203 (insS (off % 32).toNat width.toNat a b) off cnt (extS false 0 width.toNat b) (.inr rfl) hf.1 hf.2 ho ho' hc hc' (by rw [hn]; exact put_get _ _ _ _ hon)
  have e3 : extS false 0 (wid 0 cnt) b = if width < 32 then extS false 0 (wid 0 cnt) b else b := by
    by_cases h : width < 32
    · rw [if_pos h]
    · rw [if_neg h]
      have h1 : wid 0 cnt = 32 := by rw [wid_zero _ hc]; split <;> omega
      rw [h1]; exact get_all b hb hb'
  have q3 := fld_3 203 b 0 cnt _ (.inr rfl) hb hb' (by omega) (by omega) hc hc' e3
  have q4 := fld_3 203 b 0 width (extS false 0 width.toNat b) (.inr rfl) hb hb' (by omega) (by omega) (by omega) (by omega) (by rw [wid_zero _ hw0.1]; split; rfl; rw [show width.toNat = 32 by omega]; rfl)
  have q5 := fld_3 203 a off cnt (extS false (off % 32).toNat width.toNat a) (.inr rfl) ha ha' ho ho' hc hc' (by rw [hn]; rfl)
  have q6 := fld_4 (insS (off % 32).toNat width.toNat a b) (extS false (off % 32).toNat width.toNat a) off cnt a hf.1 hf.2 hback.1 hback.2 ho ho' hc hc' (by rw [hn]; exact put_back _ _ _ _ hon ha ha')
  have q7 := fld_3 202 a off cnt (extS true (off % 32).toNat width.toNat a) (.inl rfl) ha ha' ho ho' hc hc' (by rw [hn]; rfl)
  have q8 := fld_3 203 (extS true (off % 32).toNat width.toNat a) 0 width (extS false (off % 32).toNat width.toNat a) (.inr rfl) hsig.1 hsig.2 (by omega) (by omega) (by omega) (by omega) (by
    have e : wid 0 width = width.toNat := by rw [wid_zero _ hw0.1]; split; rfl; omega
    rw [e]; exact sign_same _ _ _ hon)
  have hAg : cnt < 32 → width = cnt → extS false 0 (wid 0 cnt) b = extS false 0 width.toNat b := fun h1 h2 => by rw [wid_zero _ hc, if_pos h1, h2]
  clear hn hon e3
  generalize extS false 0 (wid 0 cnt) b = h0 at q3 hAg
  generalize extS true (off % 32).toNat width.toNat a = signed at q7 q8 hsig
  generalize extS false (off % 32).toNat width.toNat a = back at q5 q6 q8 hback
  generalize extS false 0 width.toNat b = g at q2 q4 hAg
  generalize insS (off % 32).toNat width.toNat a b = f at q1 q2 q6 hf
  generalize a * 2 ^ (off % 32).toNat % 4294967296 / 2 ^ (off % 32).toNat = v1 at k3 k5
  generalize a * 2 ^ (off % 32).toNat % 4294967296 = v2 at k2 k3 k7
  generalize (4294967295 : Int) / 2 ^ (off % 32).toNat = v3 at k4 k5 hsh
  generalize (2 : Int) ^ (off % 32).toNat % 4294967296 = v4 at k6 k7
  clear hpow
  generalize rv a = r at u1 u2 u6 hrv
  generalize pc (bit (4294967295 - a)) 32 = p2 at u5 hp2 hpn
  generalize pc (bit a) 32 = p1 at u4 u6 hp1 hpn
  have hB := Below.refl w.heap.size w
  rcases hwid with ⟨h1, h2⟩ | ⟨h1, h2⟩ <;> by_cases hw : width < 32
  · rw [if_pos hw] at q3
    obtain rfl := hAg (by omega) h2
    subst h2
    go_enter Try.func11, Try.ntmps11
    go_wp2
    go_quiet (fail)
    replace hB := belowN (bal hB (.cells #[.int .u32 a, .int .u32 b, .int .u32 off, .int .u32 width] 42)) nq
    go_wp2_with (first | (go_at_call 18; (with_reducible refine (Un.call u1 _).mono ?_); rintro e w1 ⟨rfl, hn⟩; replace hB := bcall hB hn; clear hn) | (go_at_call 18; (with_reducible refine (Un.call u2 _).mono ?_); rintro e w1 ⟨rfl, hn⟩; replace hB := bcall hB hn; clear hn) | (go_at_call 18; (with_reducible refine (Un.call u3 _).mono ?_); rintro e w1 ⟨rfl, hn⟩; replace hB := bcall hB hn; clear hn) | (go_at_call 18; (with_reducible refine (Un.call u4 _).mono ?_); rintro e w1 ⟨rfl, hn⟩; replace hB := bcall hB hn; clear hn) | (go_at_call 18; (with_reducible refine (Un.call u5 _).mono ?_); rintro e w1 ⟨rfl, hn⟩; replace hB := bcall hB hn; clear hn) | (go_at_call 18; (with_reducible refine (Un.call u6 _).mono ?_); rintro e w1 ⟨rfl, hn⟩; replace hB := bcall hB hn; clear hn) | (go_at_call 17; (with_reducible refine (Two.call k1 _).mono ?_); rintro e w1 ⟨rfl, hn⟩; replace hB := bcall hB hn; clear hn) | (go_at_call 17; (with_reducible refine (Two.call k2 _).mono ?_); rintro e w1 ⟨rfl, hn⟩; replace hB := bcall hB hn; clear hn) | (go_at_call 17; (with_reducible refine (Two.call k3 _).mono ?_); rintro e w1 ⟨rfl, hn⟩; replace hB := bcall hB hn; clear hn) | (go_at_call 17; (with_reducible refine (Two.call k4 _).mono ?_); rintro e w1 ⟨rfl, hn⟩; replace hB := bcall hB hn; clear hn) | (go_at_call 17; (with_reducible refine (Two.call k5 _).mono ?_); rintro e w1 ⟨rfl, hn⟩; replace hB := bcall hB hn; clear hn) | (go_at_call 17; (with_reducible refine (Two.call k6 _).mono ?_); rintro e w1 ⟨rfl, hn⟩; replace hB := bcall hB hn; clear hn) | (go_at_call 17; (with_reducible refine (Two.call k7 _).mono ?_); rintro e w1 ⟨rfl, hn⟩; replace hB := bcall hB hn; clear hn) | (go_at_call 23; (with_reducible refine (Fld.call4 q1 _).mono ?_); rintro e w1 ⟨rfl, hn⟩; replace hB := bcall hB hn; clear hn) | (go_at_call 23; (with_reducible refine (Fld.call3 q2 _).mono ?_); rintro e w1 ⟨rfl, hn⟩; replace hB := bcall hB hn; clear hn) | (go_at_call 23; (with_reducible refine (Fld.call3 q3 _).mono ?_); rintro e w1 ⟨rfl, hn⟩; replace hB := bcall hB hn; clear hn) | (go_at_call 23; (with_reducible refine (Fld.call3 q4 _).mono ?_); rintro e w1 ⟨rfl, hn⟩; replace hB := bcall hB hn; clear hn) | (go_at_call 23; (with_reducible refine (Fld.call3 q5 _).mono ?_); rintro e w1 ⟨rfl, hn⟩; replace hB := bcall hB hn; clear hn) | (go_at_call 23; (with_reducible refine (Fld.call4 q6 _).mono ?_); rintro e w1 ⟨rfl, hn⟩; replace hB := bcall hB hn; clear hn) | (go_at_call 23; (with_reducible refine (Fld.call3 q7 _).mono ?_); rintro e w1 ⟨rfl, hn⟩; replace hB := bcall hB hn; clear hn) | (go_at_call 23; (with_reducible refine (Fld.call3 q8 _).mono ?_); rintro e w1 ⟨rfl, hn⟩; replace hB := bcall hB hn; clear hn))
    go_ret
    exact ⟨rfl, hB⟩
  · exfalso; omega
  · rw [if_pos hw] at q3
    clear hAg
    subst h2
    go_enter Try.func11, Try.ntmps11
    go_wp2
    go_quiet (fail)
    replace hB := belowN (bal hB (.cells #[.int .u32 a, .int .u32 b, .int .u32 off, .int .u32 cnt] 42)) nq
    go_wp2_with (first | (go_at_call 18; (with_reducible refine (Un.call u1 _).mono ?_); rintro e w1 ⟨rfl, hn⟩; replace hB := bcall hB hn; clear hn) | (go_at_call 18; (with_reducible refine (Un.call u2 _).mono ?_); rintro e w1 ⟨rfl, hn⟩; replace hB := bcall hB hn; clear hn) | (go_at_call 18; (with_reducible refine (Un.call u3 _).mono ?_); rintro e w1 ⟨rfl, hn⟩; replace hB := bcall hB hn; clear hn) | (go_at_call 18; (with_reducible refine (Un.call u4 _).mono ?_); rintro e w1 ⟨rfl, hn⟩; replace hB := bcall hB hn; clear hn) | (go_at_call 18; (with_reducible refine (Un.call u5 _).mono ?_); rintro e w1 ⟨rfl, hn⟩; replace hB := bcall hB hn; clear hn) | (go_at_call 18; (with_reducible refine (Un.call u6 _).mono ?_); rintro e w1 ⟨rfl, hn⟩; replace hB := bcall hB hn; clear hn) | (go_at_call 17; (with_reducible refine (Two.call k1 _).mono ?_); rintro e w1 ⟨rfl, hn⟩; replace hB := bcall hB hn; clear hn) | (go_at_call 17; (with_reducible refine (Two.call k2 _).mono ?_); rintro e w1 ⟨rfl, hn⟩; replace hB := bcall hB hn; clear hn) | (go_at_call 17; (with_reducible refine (Two.call k3 _).mono ?_); rintro e w1 ⟨rfl, hn⟩; replace hB := bcall hB hn; clear hn) | (go_at_call 17; (with_reducible refine (Two.call k4 _).mono ?_); rintro e w1 ⟨rfl, hn⟩; replace hB := bcall hB hn; clear hn) | (go_at_call 17; (with_reducible refine (Two.call k5 _).mono ?_); rintro e w1 ⟨rfl, hn⟩; replace hB := bcall hB hn; clear hn) | (go_at_call 17; (with_reducible refine (Two.call k6 _).mono ?_); rintro e w1 ⟨rfl, hn⟩; replace hB := bcall hB hn; clear hn) | (go_at_call 17; (with_reducible refine (Two.call k7 _).mono ?_); rintro e w1 ⟨rfl, hn⟩; replace hB := bcall hB hn; clear hn) | (go_at_call 23; (with_reducible refine (Fld.call4 q1 _).mono ?_); rintro e w1 ⟨rfl, hn⟩; replace hB := bcall hB hn; clear hn) | (go_at_call 23; (with_reducible refine (Fld.call3 q2 _).mono ?_); rintro e w1 ⟨rfl, hn⟩; replace hB := bcall hB hn; clear hn) | (go_at_call 23; (with_reducible refine (Fld.call3 q3 _).mono ?_); rintro e w1 ⟨rfl, hn⟩; replace hB := bcall hB hn; clear hn) | (go_at_call 23; (with_reducible refine (Fld.call3 q4 _).mono ?_); rintro e w1 ⟨rfl, hn⟩; replace hB := bcall hB hn; clear hn) | (go_at_call 23; (with_reducible refine (Fld.call3 q5 _).mono ?_); rintro e w1 ⟨rfl, hn⟩; replace hB := bcall hB hn; clear hn) | (go_at_call 23; (with_reducible refine (Fld.call4 q6 _).mono ?_); rintro e w1 ⟨rfl, hn⟩; replace hB := bcall hB hn; clear hn) | (go_at_call 23; (with_reducible refine (Fld.call3 q7 _).mono ?_); rintro e w1 ⟨rfl, hn⟩; replace hB := bcall hB hn; clear hn) | (go_at_call 23; (with_reducible refine (Fld.call3 q8 _).mono ?_); rintro e w1 ⟨rfl, hn⟩; replace hB := bcall hB hn; clear hn))
    go_ret
    exact ⟨rfl, hB⟩
  · rw [if_neg hw] at q3
    clear hAg
    subst h2
    go_enter Try.func11, Try.ntmps11
    go_wp2
    go_quiet (fail)
    replace hB := belowN (bal hB (.cells #[.int .u32 a, .int .u32 b, .int .u32 off, .int .u32 cnt] 42)) nq
    go_wp2_with (first | (go_at_call 18; (with_reducible refine (Un.call u1 _).mono ?_); rintro e w1 ⟨rfl, hn⟩; replace hB := bcall hB hn; clear hn) | (go_at_call 18; (with_reducible refine (Un.call u2 _).mono ?_); rintro e w1 ⟨rfl, hn⟩; replace hB := bcall hB hn; clear hn) | (go_at_call 18; (with_reducible refine (Un.call u3 _).mono ?_); rintro e w1 ⟨rfl, hn⟩; replace hB := bcall hB hn; clear hn) | (go_at_call 18; (with_reducible refine (Un.call u4 _).mono ?_); rintro e w1 ⟨rfl, hn⟩; replace hB := bcall hB hn; clear hn) | (go_at_call 18; (with_reducible refine (Un.call u5 _).mono ?_); rintro e w1 ⟨rfl, hn⟩; replace hB := bcall hB hn; clear hn) | (go_at_call 18; (with_reducible refine (Un.call u6 _).mono ?_); rintro e w1 ⟨rfl, hn⟩; replace hB := bcall hB hn; clear hn) | (go_at_call 17; (with_reducible refine (Two.call k1 _).mono ?_); rintro e w1 ⟨rfl, hn⟩; replace hB := bcall hB hn; clear hn) | (go_at_call 17; (with_reducible refine (Two.call k2 _).mono ?_); rintro e w1 ⟨rfl, hn⟩; replace hB := bcall hB hn; clear hn) | (go_at_call 17; (with_reducible refine (Two.call k3 _).mono ?_); rintro e w1 ⟨rfl, hn⟩; replace hB := bcall hB hn; clear hn) | (go_at_call 17; (with_reducible refine (Two.call k4 _).mono ?_); rintro e w1 ⟨rfl, hn⟩; replace hB := bcall hB hn; clear hn) | (go_at_call 17; (with_reducible refine (Two.call k5 _).mono ?_); rintro e w1 ⟨rfl, hn⟩; replace hB := bcall hB hn; clear hn) | (go_at_call 17; (with_reducible refine (Two.call k6 _).mono ?_); rintro e w1 ⟨rfl, hn⟩; replace hB := bcall hB hn; clear hn) | (go_at_call 17; (with_reducible refine (Two.call k7 _).mono ?_); rintro e w1 ⟨rfl, hn⟩; replace hB := bcall hB hn; clear hn) | (go_at_call 23; (with_reducible refine (Fld.call4 q1 _).mono ?_); rintro e w1 ⟨rfl, hn⟩; replace hB := bcall hB hn; clear hn) | (go_at_call 23; (with_reducible refine (Fld.call3 q2 _).mono ?_); rintro e w1 ⟨rfl, hn⟩; replace hB := bcall hB hn; clear hn) | (go_at_call 23; (with_reducible refine (Fld.call3 q3 _).mono ?_); rintro e w1 ⟨rfl, hn⟩; replace hB := bcall hB hn; clear hn) | (go_at_call 23; (with_reducible refine (Fld.call3 q4 _).mono ?_); rintro e w1 ⟨rfl, hn⟩; replace hB := bcall hB hn; clear hn) | (go_at_call 23; (with_reducible refine (Fld.call3 q5 _).mono ?_); rintro e w1 ⟨rfl, hn⟩; replace hB := bcall hB hn; clear hn) | (go_at_call 23; (with_reducible refine (Fld.call4 q6 _).mono ?_); rintro e w1 ⟨rfl, hn⟩; replace hB := bcall hB hn; clear hn) | (go_at_call 23; (with_reducible refine (Fld.call3 q7 _).mono ?_); rintro e w1 ⟨rfl, hn⟩; replace hB := bcall hB hn; clear hn) | (go_at_call 23; (with_reducible refine (Fld.call3 q8 _).mono ?_); rintro e w1 ⟨rfl, hn⟩; replace hB := bcall hB hn; clear hn))
    go_ret
    exact ⟨rfl, hB⟩
theorem bits_law (a b off cnt : Int) (ha : 0 ≤ a) (ha' : a < 4294967296) (hb : 0 ≤ b) (hb' : b < 4294967296) (ho : 0 ≤ off) (ho' : off < 4294967296) (hc : 0 ≤ cnt) (hc' : cnt < 4294967296) (w : World) :
    Calls Try.prog 11 #[.agg #[.int .u32 a, .int .u32 b, .int .u32 off, .int .u32 cnt]] w fun e w' => e = .returned (.bool true) ∧ Below w.heap.size w w' := by
  by_cases h : cnt < 32 - off % 32
  · exact bits_walk a b off cnt cnt ha ha' hb hb' ho ho' hc hc' (.inl ⟨h, rfl⟩) w
  · exact bits_walk a b off cnt (32 - off % 32) ha ha' hb hb' ho ho' hc hc' (.inr ⟨by omega, rfl⟩) w
end Go.Proofs.Ytlheggnoegedcaa
