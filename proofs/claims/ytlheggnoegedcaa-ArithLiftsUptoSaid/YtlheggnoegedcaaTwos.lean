/- The program's operations of two words: what each closure makes, and the map of all. -/
import Derived.Test.YtlheggnoegedcaaDiv
import Derived.Laws.EntriesVeiled
namespace Go.Proofs.Ytlheggnoegedcaa
set_option linter.unusedVariables false
open Go.ChangeShapes Go.WideShapes Go.ChangeAt Go.RowKit
/-- What an operation makes of two words. -/
def binS (op a b : Int) : Int :=
  if op = 128 then (a + b) % 4294967296
  else if op = 130 then (a - b) % 4294967296
  else if op = 132 then (a * b) % 4294967296
  else if op = 134 then dvS 134 a b
  else if op = 135 then dvS 135 a b
  else if op = 137 then dvS 137 a b
  else if op = 138 then dvS 138 a b
  else if op = 139 then dvS 139 a b
  else if op = 164 then tr ((a != 0) == (b != 0))
  else if op = 165 then tr (!((a != 0) == (b != 0)))
  else if op = 166 then tr (a != 0 || b != 0)
  else if op = 167 then tr (a != 0 && b != 0)
  else if op = 170 then tr (a == b)
  else if op = 171 then tr (a != b)
  else if op = 172 then tr (decide (b < a))
  else if op = 173 then tr (decide (sg b < sg a))
  else if op = 174 then tr (decide (b ≤ a))
  else if op = 175 then tr (decide (sg b ≤ sg a))
  else if op = 176 then tr (decide (a < b))
  else if op = 177 then tr (decide (sg a < sg b))
  else if op = 178 then tr (decide (a ≤ b))
  else if op = 179 then tr (decide (sg a ≤ sg b))
  else if op = 194 then a / 2 ^ (b % 32).toNat
  else if op = 195 then sg a / 2 ^ (b % 32).toNat % 4294967296
  else if op = 196 then a * 2 ^ (b % 32).toNat % 4294967296
  else if op = 197 then bits BinOp.or IntKind.u32 a b
  else if op = 198 then bits BinOp.xor IntKind.u32 a b
  else if op = 199 then bits BinOp.and IntKind.u32 a b
  else 0
/-- Is it one? -/
def isBin (op : Int) : Bool := op == 128 || op == 130 || op == 132 || op == 134 || op == 135 || op == 137 || op == 138 || op == 139 || op == 164 || op == 165 || op == 166 || op == 167 || op == 170 || op == 171 || op == 172 || op == 173 || op == 174 || op == 175 || op == 176 || op == 177 || op == 178 || op == 179 || op == 194 || op == 195 || op == 196 || op == 197 || op == 198 || op == 199
theorem ret_B {x y : Int} {w w' : World} (h : x = y) (hb : Below w.heap.size w w') : Ending.returned (.int .u32 x) = .returned (.int .u32 y) ∧ Below w.heap.size w w' := ⟨ret_int h, hb⟩
theorem c55 (a b : Int) (ha : 0 ≤ a) (ha' : a < 4294967296) (hb : 0 ≤ b) (hb' : b < 4294967296) (w : World) : Calls Try.prog 55 #[.int .u32 a, .int .u32 b] w fun e w' => e = .returned (.int .u32 ((a + b) % 4294967296)) ∧ Below w.heap.size w w' := by
  go_enter Try.func55, Try.ntmps55
  go_wp2_with (go_at_call 43; refine (truth_own _ _).mono ?_; rintro e w' ⟨rfl, rfl⟩)
  go_ret
  exact ret_B rfl (Below.refl _ _)
theorem c56 (a b : Int) (ha : 0 ≤ a) (ha' : a < 4294967296) (hb : 0 ≤ b) (hb' : b < 4294967296) (w : World) : Calls Try.prog 56 #[.int .u32 a, .int .u32 b] w fun e w' => e = .returned (.int .u32 ((a - b) % 4294967296)) ∧ Below w.heap.size w w' := by
  go_enter Try.func56, Try.ntmps56
  go_wp2_with (go_at_call 43; refine (truth_own _ _).mono ?_; rintro e w' ⟨rfl, rfl⟩)
  go_ret
  exact ret_B rfl (Below.refl _ _)
theorem c57 (a b : Int) (ha : 0 ≤ a) (ha' : a < 4294967296) (hb : 0 ≤ b) (hb' : b < 4294967296) (w : World) : Calls Try.prog 57 #[.int .u32 a, .int .u32 b] w fun e w' => e = .returned (.int .u32 ((a * b) % 4294967296)) ∧ Below w.heap.size w w' := by
  go_enter Try.func57, Try.ntmps57
  go_wp2_with (go_at_call 43; refine (truth_own _ _).mono ?_; rintro e w' ⟨rfl, rfl⟩)
  go_ret
  exact ret_B rfl (Below.refl _ _)
theorem c62 (a b : Int) (ha : 0 ≤ a) (ha' : a < 4294967296) (hb : 0 ≤ b) (hb' : b < 4294967296) (w : World) : Calls Try.prog 62 #[.int .u32 a, .int .u32 b] w fun e w' => e = .returned (.int .u32 (tr ((a != 0) == (b != 0)))) ∧ Below w.heap.size w w' := by
  go_enter Try.func62, Try.ntmps62
  go_wp2_with (go_at_call 43; refine (truth_own _ _).mono ?_; rintro e w' ⟨rfl, rfl⟩)
  go_ret
  exact ret_B rfl (Below.refl _ _)
theorem c63 (a b : Int) (ha : 0 ≤ a) (ha' : a < 4294967296) (hb : 0 ≤ b) (hb' : b < 4294967296) (w : World) : Calls Try.prog 63 #[.int .u32 a, .int .u32 b] w fun e w' => e = .returned (.int .u32 (tr (!((a != 0) == (b != 0))))) ∧ Below w.heap.size w w' := by
  go_enter Try.func63, Try.ntmps63
  go_wp2_with (go_at_call 43; refine (truth_own _ _).mono ?_; rintro e w' ⟨rfl, rfl⟩)
  go_ret
  exact ret_B rfl (Below.refl _ _)
theorem c66 (a b : Int) (ha : 0 ≤ a) (ha' : a < 4294967296) (hb : 0 ≤ b) (hb' : b < 4294967296) (w : World) : Calls Try.prog 66 #[.int .u32 a, .int .u32 b] w fun e w' => e = .returned (.int .u32 (tr (a == b))) ∧ Below w.heap.size w w' := by
  go_enter Try.func66, Try.ntmps66
  go_wp2_with (go_at_call 43; refine (truth_own _ _).mono ?_; rintro e w' ⟨rfl, rfl⟩)
  go_ret
  exact ret_B rfl (Below.refl _ _)
theorem c67 (a b : Int) (ha : 0 ≤ a) (ha' : a < 4294967296) (hb : 0 ≤ b) (hb' : b < 4294967296) (w : World) : Calls Try.prog 67 #[.int .u32 a, .int .u32 b] w fun e w' => e = .returned (.int .u32 (tr (a != b))) ∧ Below w.heap.size w w' := by
  go_enter Try.func67, Try.ntmps67
  go_wp2_with (go_at_call 43; refine (truth_own _ _).mono ?_; rintro e w' ⟨rfl, rfl⟩)
  go_ret
  exact ret_B rfl (Below.refl _ _)
theorem c68 (a b : Int) (ha : 0 ≤ a) (ha' : a < 4294967296) (hb : 0 ≤ b) (hb' : b < 4294967296) (w : World) : Calls Try.prog 68 #[.int .u32 a, .int .u32 b] w fun e w' => e = .returned (.int .u32 (tr (decide (b < a)))) ∧ Below w.heap.size w w' := by
  go_enter Try.func68, Try.ntmps68
  go_wp2_with (go_at_call 43; refine (truth_own _ _).mono ?_; rintro e w' ⟨rfl, rfl⟩)
  go_ret
  exact ret_B rfl (Below.refl _ _)
theorem c69 (a b : Int) (ha : 0 ≤ a) (ha' : a < 4294967296) (hb : 0 ≤ b) (hb' : b < 4294967296) (w : World) : Calls Try.prog 69 #[.int .u32 a, .int .u32 b] w fun e w' => e = .returned (.int .u32 (tr (decide (sg b < sg a)))) ∧ Below w.heap.size w w' := by
  have wa := wrap32_sg a ha ha'
  have wb := wrap32_sg b hb hb'
  go_enter Try.func69, Try.ntmps69
  go_wp2_with (go_at_call 43; refine (truth_own _ _).mono ?_; rintro e w' ⟨rfl, rfl⟩)
  go_ret
  exact ret_B rfl (Below.refl _ _)
theorem c70 (a b : Int) (ha : 0 ≤ a) (ha' : a < 4294967296) (hb : 0 ≤ b) (hb' : b < 4294967296) (w : World) : Calls Try.prog 70 #[.int .u32 a, .int .u32 b] w fun e w' => e = .returned (.int .u32 (tr (decide (b ≤ a)))) ∧ Below w.heap.size w w' := by
  go_enter Try.func70, Try.ntmps70
  go_wp2_with (go_at_call 43; refine (truth_own _ _).mono ?_; rintro e w' ⟨rfl, rfl⟩)
  go_ret
  exact ret_B rfl (Below.refl _ _)
theorem c71 (a b : Int) (ha : 0 ≤ a) (ha' : a < 4294967296) (hb : 0 ≤ b) (hb' : b < 4294967296) (w : World) : Calls Try.prog 71 #[.int .u32 a, .int .u32 b] w fun e w' => e = .returned (.int .u32 (tr (decide (sg b ≤ sg a)))) ∧ Below w.heap.size w w' := by
  have wa := wrap32_sg a ha ha'
  have wb := wrap32_sg b hb hb'
  go_enter Try.func71, Try.ntmps71
  go_wp2_with (go_at_call 43; refine (truth_own _ _).mono ?_; rintro e w' ⟨rfl, rfl⟩)
  go_ret
  exact ret_B rfl (Below.refl _ _)
theorem c72 (a b : Int) (ha : 0 ≤ a) (ha' : a < 4294967296) (hb : 0 ≤ b) (hb' : b < 4294967296) (w : World) : Calls Try.prog 72 #[.int .u32 a, .int .u32 b] w fun e w' => e = .returned (.int .u32 (tr (decide (a < b)))) ∧ Below w.heap.size w w' := by
  go_enter Try.func72, Try.ntmps72
  go_wp2_with (go_at_call 43; refine (truth_own _ _).mono ?_; rintro e w' ⟨rfl, rfl⟩)
  go_ret
  exact ret_B rfl (Below.refl _ _)
theorem c73 (a b : Int) (ha : 0 ≤ a) (ha' : a < 4294967296) (hb : 0 ≤ b) (hb' : b < 4294967296) (w : World) : Calls Try.prog 73 #[.int .u32 a, .int .u32 b] w fun e w' => e = .returned (.int .u32 (tr (decide (sg a < sg b)))) ∧ Below w.heap.size w w' := by
  have wa := wrap32_sg a ha ha'
  have wb := wrap32_sg b hb hb'
  go_enter Try.func73, Try.ntmps73
  go_wp2_with (go_at_call 43; refine (truth_own _ _).mono ?_; rintro e w' ⟨rfl, rfl⟩)
  go_ret
  exact ret_B rfl (Below.refl _ _)
theorem c74 (a b : Int) (ha : 0 ≤ a) (ha' : a < 4294967296) (hb : 0 ≤ b) (hb' : b < 4294967296) (w : World) : Calls Try.prog 74 #[.int .u32 a, .int .u32 b] w fun e w' => e = .returned (.int .u32 (tr (decide (a ≤ b)))) ∧ Below w.heap.size w w' := by
  go_enter Try.func74, Try.ntmps74
  go_wp2_with (go_at_call 43; refine (truth_own _ _).mono ?_; rintro e w' ⟨rfl, rfl⟩)
  go_ret
  exact ret_B rfl (Below.refl _ _)
theorem c75 (a b : Int) (ha : 0 ≤ a) (ha' : a < 4294967296) (hb : 0 ≤ b) (hb' : b < 4294967296) (w : World) : Calls Try.prog 75 #[.int .u32 a, .int .u32 b] w fun e w' => e = .returned (.int .u32 (tr (decide (sg a ≤ sg b)))) ∧ Below w.heap.size w w' := by
  have wa := wrap32_sg a ha ha'
  have wb := wrap32_sg b hb hb'
  go_enter Try.func75, Try.ntmps75
  go_wp2_with (go_at_call 43; refine (truth_own _ _).mono ?_; rintro e w' ⟨rfl, rfl⟩)
  go_ret
  exact ret_B rfl (Below.refl _ _)
theorem c76 (a b : Int) (ha : 0 ≤ a) (ha' : a < 4294967296) (hb : 0 ≤ b) (hb' : b < 4294967296) (w : World) : Calls Try.prog 76 #[.int .u32 a, .int .u32 b] w fun e w' => e = .returned (.int .u32 (a / 2 ^ (b % 32).toNat)) ∧ Below w.heap.size w w' := by
  go_enter Try.func76, Try.ntmps76
  go_wp2_with (go_at_call 43; refine (truth_own _ _).mono ?_; rintro e w' ⟨rfl, rfl⟩)
  go_ret
  exact ret_B rfl (Below.refl _ _)
theorem c77 (a b : Int) (ha : 0 ≤ a) (ha' : a < 4294967296) (hb : 0 ≤ b) (hb' : b < 4294967296) (w : World) : Calls Try.prog 77 #[.int .u32 a, .int .u32 b] w fun e w' => e = .returned (.int .u32 (sg a / 2 ^ (b % 32).toNat % 4294967296)) ∧ Below w.heap.size w w' := by
  have wa := wrap32_sg a ha ha'
  go_enter Try.func77, Try.ntmps77
  go_wp2_with (go_at_call 43; refine (truth_own _ _).mono ?_; rintro e w' ⟨rfl, rfl⟩)
  go_ret
  exact ret_B rfl (Below.refl _ _)
theorem c78 (a b : Int) (ha : 0 ≤ a) (ha' : a < 4294967296) (hb : 0 ≤ b) (hb' : b < 4294967296) (w : World) : Calls Try.prog 78 #[.int .u32 a, .int .u32 b] w fun e w' => e = .returned (.int .u32 (a * 2 ^ (b % 32).toNat % 4294967296)) ∧ Below w.heap.size w w' := by
  go_enter Try.func78, Try.ntmps78
  go_wp2_with (go_at_call 43; refine (truth_own _ _).mono ?_; rintro e w' ⟨rfl, rfl⟩)
  go_ret
  exact ret_B rfl (Below.refl _ _)
theorem c79 (a b : Int) (ha : 0 ≤ a) (ha' : a < 4294967296) (hb : 0 ≤ b) (hb' : b < 4294967296) (w : World) : Calls Try.prog 79 #[.int .u32 a, .int .u32 b] w fun e w' => e = .returned (.int .u32 (bits BinOp.or IntKind.u32 a b)) ∧ Below w.heap.size w w' := by
  go_enter Try.func79, Try.ntmps79
  go_wp2_with (go_at_call 43; refine (truth_own _ _).mono ?_; rintro e w' ⟨rfl, rfl⟩)
  go_ret
  exact ret_B rfl (Below.refl _ _)
theorem c80 (a b : Int) (ha : 0 ≤ a) (ha' : a < 4294967296) (hb : 0 ≤ b) (hb' : b < 4294967296) (w : World) : Calls Try.prog 80 #[.int .u32 a, .int .u32 b] w fun e w' => e = .returned (.int .u32 (bits BinOp.xor IntKind.u32 a b)) ∧ Below w.heap.size w w' := by
  go_enter Try.func80, Try.ntmps80
  go_wp2_with (go_at_call 43; refine (truth_own _ _).mono ?_; rintro e w' ⟨rfl, rfl⟩)
  go_ret
  exact ret_B rfl (Below.refl _ _)
theorem c81 (a b : Int) (ha : 0 ≤ a) (ha' : a < 4294967296) (hb : 0 ≤ b) (hb' : b < 4294967296) (w : World) : Calls Try.prog 81 #[.int .u32 a, .int .u32 b] w fun e w' => e = .returned (.int .u32 (bits BinOp.and IntKind.u32 a b)) ∧ Below w.heap.size w w' := by
  go_enter Try.func81, Try.ntmps81
  go_wp2_with (go_at_call 43; refine (truth_own _ _).mono ?_; rintro e w' ⟨rfl, rfl⟩)
  go_ret
  exact ret_B rfl (Below.refl _ _)
theorem c64 (a b : Int) (ha : 0 ≤ a) (ha' : a < 4294967296) (hb : 0 ≤ b) (hb' : b < 4294967296) (w : World) : Calls Try.prog 64 #[.int .u32 a, .int .u32 b] w fun e w' => e = .returned (.int .u32 (tr (a != 0 || b != 0))) ∧ Below w.heap.size w w' := by
  cases hz : (a != 0) with
  | false =>
    go_enter Try.func64, Try.ntmps64
    go_wp2_with (go_at_call 43; refine (truth_own _ _).mono ?_; rintro e w' ⟨rfl, rfl⟩)
    go_ret
    exact ret_B (by simp) (Below.refl _ _)
  | true =>
    go_enter Try.func64, Try.ntmps64
    go_wp2_with (go_at_call 43; refine (truth_own _ _).mono ?_; rintro e w' ⟨rfl, rfl⟩)
    go_ret
    exact ret_B (by simp) (Below.refl _ _)
theorem c65 (a b : Int) (ha : 0 ≤ a) (ha' : a < 4294967296) (hb : 0 ≤ b) (hb' : b < 4294967296) (w : World) : Calls Try.prog 65 #[.int .u32 a, .int .u32 b] w fun e w' => e = .returned (.int .u32 (tr (a != 0 && b != 0))) ∧ Below w.heap.size w w' := by
  cases hz : (a != 0) with
  | false =>
    go_enter Try.func65, Try.ntmps65
    go_wp2_with (go_at_call 43; refine (truth_own _ _).mono ?_; rintro e w' ⟨rfl, rfl⟩)
    go_ret
    exact ret_B (by simp) (Below.refl _ _)
  | true =>
    go_enter Try.func65, Try.ntmps65
    go_wp2_with (go_at_call 43; refine (truth_own _ _).mono ?_; rintro e w' ⟨rfl, rfl⟩)
    go_ret
    exact ret_B (by simp) (Below.refl _ _)
theorem c54 (a b : Int) (ha : 0 ≤ a) (ha' : a < 4294967296) (hb : 0 ≤ b) (hb' : b < 4294967296) (w : World) : Calls Try.prog 54 #[.int .u32 a, .int .u32 b] w fun e w' => e = .returned (.int .u32 (dvS 134 a b)) ∧ w = w' := by
  by_cases h : b = 0
  · subst h
    go_enter Try.func54, Try.ntmps54
    go_wp2
    go_ret
    exact ⟨rfl, rfl⟩
  · have hz : (b == 0) = false := by simpa using h
    have hp : 1 ≤ b := by omega
    have e : dvS 134 a b = a / b := by simp only [dvS, if_neg h]; rfl
    rw [e]
    clear h e
    go_enter Try.func54, Try.ntmps54
    go_wp2
    go_ret
    exact ⟨rfl, rfl⟩
theorem c58 (a b : Int) (ha : 0 ≤ a) (ha' : a < 4294967296) (hb : 0 ≤ b) (hb' : b < 4294967296) (w : World) : Calls Try.prog 58 #[.int .u32 a, .int .u32 b] w fun e w' => e = .returned (.int .u32 (dvS 135 a b)) ∧ w = w' := by
  by_cases h : b = 0
  · subst h
    go_enter Try.func58, Try.ntmps58
    go_wp2
    go_ret
    exact ⟨rfl, rfl⟩
  · have hz : (b == 0) = false := by simpa using h
    have wa := wrap32_sg a ha ha'
    have wb := wrap32_sg b hb hb'
    have s1 := sg_bd a ha ha'
    have s2 := sg_bd b hb hb'
    have sne := sg_ne hb hb' h
    have sz : (sg b == 0) = false := by simpa using sne
    have t1 := tdiv_bd (sg a) (sg b) s1.1 s1.2
    have e : dvS 135 a b = (sg a).tdiv (sg b) % 4294967296 := by simp only [dvS, if_neg h]; rfl
    rw [e]
    clear h e sz
    go_enter Try.func58, Try.ntmps58
    go_wp2
    go_ret
    exact ⟨rfl, rfl⟩
theorem rem_word (a b : Int) (ha : 0 ≤ a) (ha' : a < 4294967296) (hb : 0 ≤ b) (hb' : b < 4294967296) (h : b ≠ 0) : (a - b * ((sg a).tdiv (sg b) % 4294967296) % 4294967296) % 4294967296 = (sg a).tmod (sg b) % 4294967296 := by
  have e := Int.mul_tdiv_add_tmod (sg a) (sg b)
  obtain ⟨q, hq⟩ : ∃ q, (sg a).tdiv (sg b) = q := ⟨_, rfl⟩
  obtain ⟨r, hr⟩ : ∃ r, (sg a).tmod (sg b) = r := ⟨_, rfl⟩
  rw [hq, hr] at e
  rw [hq, hr]
  have h1 : b * (q % 4294967296) % 4294967296 = sg b * q % 4294967296 := by
    have e2 : sg b % 4294967296 = b % 4294967296 := by unfold sg; split <;> omega
    rw [Int.mul_emod, Int.emod_emod_of_dvd _ (Int.dvd_refl _), ← e2, ← Int.mul_emod]
  have e3 : sg a % 4294967296 = a % 4294967296 := by unfold sg; split <;> omega
  rw [h1]
  omega
theorem c60 (a b : Int) (ha : 0 ≤ a) (ha' : a < 4294967296) (hb : 0 ≤ b) (hb' : b < 4294967296) (w : World) : Calls Try.prog 60 #[.int .u32 a, .int .u32 b] w fun e w' => e = .returned (.int .u32 (dvS 138 a b)) ∧ w = w' := by
  have hc := c58 a b ha ha' hb hb'
  by_cases h : b = 0
  · subst h
    have e0 : dvS 135 a 0 = 0 := rfl
    have e1 : dvS 138 a 0 = 0 := rfl
    rw [e0] at hc
    rw [e1]
    go_enter Try.func60, Try.ntmps60
    go_wp2_with (first | (go_at_call 43; refine (truth_own _ _).mono ?_; rintro e w' ⟨rfl, rfl⟩) | (go_at_call 58; refine (hc _).mono ?_; rintro e w' ⟨rfl, rfl⟩))
    go_ret
    exact ⟨ret_int (by simp [tr]), rfl⟩
  · have hz : (b != 0) = true := by simpa using h
    have H := hid (rem_word a b ha ha' hb hb' h)
    have e0 : dvS 135 a b = (sg a).tdiv (sg b) % 4294967296 := by simp only [dvS, if_neg h]; rfl
    have e1 : dvS 138 a b = (sg a).tmod (sg b) % 4294967296 := by simp only [dvS, if_neg h]; rfl
    rw [e0] at hc
    rw [e1]
    clear h e0 e1
    have ht : tr true = 1 := rfl
    go_enter Try.func60, Try.ntmps60
    go_wp2_with (first | (go_at_call 43; refine (truth_own _ _).mono ?_; rintro e w' ⟨rfl, rfl⟩) | (go_at_call 58; refine (hc _).mono ?_; rintro e w' ⟨rfl, rfl⟩))
    go_ret
    exact ⟨ret_int (by rw [← H.out]; simp), rfl⟩
/-- The map that 'twos' makes: the function of 137 has caught the division in block B. -/
def twoL (B : Nat) : List (Int × Value) := [(128, .func (.func 55) #[] #[]), (130, .func (.func 56) #[] #[]), (132, .func (.func 57) #[] #[]), (134, .func (.func 54) #[] #[]), (135, .func (.func 58) #[] #[]), (137, .func (.func 59) #[] #[.pointer (some ⟨B, 0, none⟩)]), (138, .func (.func 60) #[] #[]), (139, .func (.func 61) #[] #[]), (164, .func (.func 62) #[] #[]), (165, .func (.func 63) #[] #[]), (166, .func (.func 64) #[] #[]), (167, .func (.func 65) #[] #[]), (170, .func (.func 66) #[] #[]), (171, .func (.func 67) #[] #[]), (172, .func (.func 68) #[] #[]), (173, .func (.func 69) #[] #[]), (174, .func (.func 70) #[] #[]), (175, .func (.func 71) #[] #[]), (176, .func (.func 72) #[] #[]), (177, .func (.func 73) #[] #[]), (178, .func (.func 74) #[] #[]), (179, .func (.func 75) #[] #[]), (194, .func (.func 76) #[] #[]), (195, .func (.func 77) #[] #[]), (196, .func (.func 78) #[] #[]), (197, .func (.func 79) #[] #[]), (198, .func (.func 80) #[] #[]), (199, .func (.func 81) #[] #[])]
def twoW (w : World) : World := (w.alloc (.cells #[.func (.func 54) #[] #[]] 60)).alloc (mapObj .u16 (twoL w.heap.size))
set_option maxHeartbeats 4000000 in
set_option maxRecDepth 100000 in
theorem twos_any (w : World) : Calls Try.prog 36 #[] w fun e w' => e = .returned (.map (some (w.heap.size + 1))) ∧ w' = twoW w := by
  have hmm := @run_makeMap Try.prog
  obtain ⟨W, hW⟩ : ∃ W, W = w.alloc (.cells #[.func (.func 54) #[] #[]] 60) := ⟨_, rfl⟩
  have hs : W.heap.size = w.heap.size + 1 := by rw [hW]; show (w.heap.push _).size = _; simp
  have ins := fun n v es c h => run_ins (P := Try.prog) 62 22 61 .u16 n v es c W Try.underlying62 Try.underlying22 h
  rw [hs, hW] at ins
  clear hs hW
  go_enter Try.func36, Try.ntmps36
  go_wp2
  iterate 28
    (rw [ins _ _ _ _ rfl]
     go_wp2)
  go_ret
  exact ⟨rfl, rfl⟩
end Go.Proofs.Ytlheggnoegedcaa
