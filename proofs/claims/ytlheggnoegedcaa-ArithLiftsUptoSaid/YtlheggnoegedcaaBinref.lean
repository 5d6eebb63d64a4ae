/- The reference's operations of two words. -/
import Derived.Test.YtlheggnoegedcaaBinlaw
namespace Go.Proofs.Ytlheggnoegedcaa
set_option linter.unusedVariables false
open Go.ChangeShapes Go.WideShapes Go.ChangeAt Go.RowKit
theorem ret_T {x y : Int} {w w' : World} (h : x = y) (hb : Below w.heap.size w w') : Ending.returned (.tuple #[.int .u32 x, .bool true]) = .returned (.tuple #[.int .u32 y, .bool true]) ∧ Below w.heap.size w w' := ⟨by rw [h], hb⟩
set_option maxRecDepth 100000 in
theorem bref_128 (a b : Int) (ha : 0 ≤ a) (ha' : a < 4294967296) (hb : 0 ≤ b) (hb' : b < 4294967296) (w : World) : Calls Try.prog 15 #[.int .u16 128, .int .u32 a, .int .u32 b] w fun e w' => e = .returned (.tuple #[.int .u32 (binS 128 a b), .bool true]) ∧ Below w.heap.size w w' := by
  go_enter Try.func15, Try.ntmps15
  go_wp2_with (first | (go_at_call 31; (with_reducible refine (signed_any _ (by omega) (by omega) _).mono ?_); rintro e w' ⟨rfl, rfl⟩) | (go_at_call 29; (with_reducible refine (word_any _ _).mono ?_); rintro e w' ⟨rfl, rfl⟩) | (go_at_call 30; (with_reducible refine (truth_ref _ _).mono ?_); rintro e w' ⟨rfl, rfl⟩))
  go_ret2
  exact ret_T rfl (Below.refl _ _)
set_option maxRecDepth 100000 in
theorem bref_130 (a b : Int) (ha : 0 ≤ a) (ha' : a < 4294967296) (hb : 0 ≤ b) (hb' : b < 4294967296) (w : World) : Calls Try.prog 15 #[.int .u16 130, .int .u32 a, .int .u32 b] w fun e w' => e = .returned (.tuple #[.int .u32 (binS 130 a b), .bool true]) ∧ Below w.heap.size w w' := by
  go_enter Try.func15, Try.ntmps15
  go_wp2_with (first | (go_at_call 31; (with_reducible refine (signed_any _ (by omega) (by omega) _).mono ?_); rintro e w' ⟨rfl, rfl⟩) | (go_at_call 29; (with_reducible refine (word_any _ _).mono ?_); rintro e w' ⟨rfl, rfl⟩) | (go_at_call 30; (with_reducible refine (truth_ref _ _).mono ?_); rintro e w' ⟨rfl, rfl⟩))
  go_ret2
  exact ret_T rfl (Below.refl _ _)
set_option maxRecDepth 100000 in
theorem bref_132 (a b : Int) (ha : 0 ≤ a) (ha' : a < 4294967296) (hb : 0 ≤ b) (hb' : b < 4294967296) (w : World) : Calls Try.prog 15 #[.int .u16 132, .int .u32 a, .int .u32 b] w fun e w' => e = .returned (.tuple #[.int .u32 (binS 132 a b), .bool true]) ∧ Below w.heap.size w w' := by
  have h1 : 0 ≤ a / 65536 * b ∧ a / 65536 * b < 281474976710656 := by
    have h2 := Int.mul_nonneg (show 0 ≤ a / 65536 by omega) hb
    have h3 := Int.mul_le_mul (a := a / 65536) (b := b) (c := 65535) (d := 4294967295) (by omega) (by omega) hb (by omega)
    omega
  have h2 : 0 ≤ a % 65536 * b ∧ a % 65536 * b < 281474976710656 := by
    have h2 := Int.mul_nonneg (show 0 ≤ a % 65536 by omega) hb
    have h3 := Int.mul_le_mul (a := a % 65536) (b := b) (c := 65535) (d := 4294967295) (by omega) (by omega) hb (by omega)
    omega
  have hM := hid (mul_word a b ha ha' hb hb').2
  go_enter Try.func15, Try.ntmps15
  go_wp2_with (first | (go_at_call 31; (with_reducible refine (signed_any _ (by omega) (by omega) _).mono ?_); rintro e w' ⟨rfl, rfl⟩) | (go_at_call 29; (with_reducible refine (word_any _ _).mono ?_); rintro e w' ⟨rfl, rfl⟩) | (go_at_call 30; (with_reducible refine (truth_ref _ _).mono ?_); rintro e w' ⟨rfl, rfl⟩))
  go_ret2
  exact ret_T (by show _ = a * b % 4294967296; rw [← hM.out]; omega) (Below.refl _ _)
set_option maxRecDepth 100000 in
theorem bref_134 (a b : Int) (ha : 0 ≤ a) (ha' : a < 4294967296) (hb : 0 ≤ b) (hb' : b < 4294967296) (w : World) : Calls Try.prog 15 #[.int .u16 134, .int .u32 a, .int .u32 b] w fun e w' => e = .returned (.tuple #[.int .u32 (binS 134 a b), .bool true]) ∧ Below w.heap.size w w' := by
  have hx : ∀ w, Calls Try.prog 33 #[.int .u16 134, .int .u32 a, .int .u32 b] w fun e w' => e = .returned (.int .u32 (dvS 134 a b)) ∧ w = w' := by
    intro w
    by_cases h : b = 0
    · subst h; exact divided_zero 134 a ha ha' w
    · exact divided_any 134 a b (by decide) ha ha' hb hb' h w
  go_enter Try.func15, Try.ntmps15
  go_wp2_with (first | (go_at_call 31; (with_reducible refine (signed_any _ (by omega) (by omega) _).mono ?_); rintro e w' ⟨rfl, rfl⟩) | (go_at_call 29; (with_reducible refine (word_any _ _).mono ?_); rintro e w' ⟨rfl, rfl⟩) | (go_at_call 30; (with_reducible refine (truth_ref _ _).mono ?_); rintro e w' ⟨rfl, rfl⟩) | (go_at_call 33; (with_reducible refine (hx _).mono ?_); rintro e w' ⟨rfl, rfl⟩))
  go_ret2
  exact ret_T rfl (Below.refl _ _)
set_option maxRecDepth 100000 in
theorem bref_135 (a b : Int) (ha : 0 ≤ a) (ha' : a < 4294967296) (hb : 0 ≤ b) (hb' : b < 4294967296) (w : World) : Calls Try.prog 15 #[.int .u16 135, .int .u32 a, .int .u32 b] w fun e w' => e = .returned (.tuple #[.int .u32 (binS 135 a b), .bool true]) ∧ Below w.heap.size w w' := by
  have hx : ∀ w, Calls Try.prog 33 #[.int .u16 135, .int .u32 a, .int .u32 b] w fun e w' => e = .returned (.int .u32 (dvS 135 a b)) ∧ w = w' := by
    intro w
    by_cases h : b = 0
    · subst h; exact divided_zero 135 a ha ha' w
    · exact divided_any 135 a b (by decide) ha ha' hb hb' h w
  go_enter Try.func15, Try.ntmps15
  go_wp2_with (first | (go_at_call 31; (with_reducible refine (signed_any _ (by omega) (by omega) _).mono ?_); rintro e w' ⟨rfl, rfl⟩) | (go_at_call 29; (with_reducible refine (word_any _ _).mono ?_); rintro e w' ⟨rfl, rfl⟩) | (go_at_call 30; (with_reducible refine (truth_ref _ _).mono ?_); rintro e w' ⟨rfl, rfl⟩) | (go_at_call 33; (with_reducible refine (hx _).mono ?_); rintro e w' ⟨rfl, rfl⟩))
  go_ret2
  exact ret_T rfl (Below.refl _ _)
set_option maxRecDepth 100000 in
theorem bref_137 (a b : Int) (ha : 0 ≤ a) (ha' : a < 4294967296) (hb : 0 ≤ b) (hb' : b < 4294967296) (w : World) : Calls Try.prog 15 #[.int .u16 137, .int .u32 a, .int .u32 b] w fun e w' => e = .returned (.tuple #[.int .u32 (binS 137 a b), .bool true]) ∧ Below w.heap.size w w' := by
  have hx : ∀ w, Calls Try.prog 33 #[.int .u16 137, .int .u32 a, .int .u32 b] w fun e w' => e = .returned (.int .u32 (dvS 137 a b)) ∧ w = w' := by
    intro w
    by_cases h : b = 0
    · subst h; exact divided_zero 137 a ha ha' w
    · exact divided_any 137 a b (by decide) ha ha' hb hb' h w
  go_enter Try.func15, Try.ntmps15
  go_wp2_with (first | (go_at_call 31; (with_reducible refine (signed_any _ (by omega) (by omega) _).mono ?_); rintro e w' ⟨rfl, rfl⟩) | (go_at_call 29; (with_reducible refine (word_any _ _).mono ?_); rintro e w' ⟨rfl, rfl⟩) | (go_at_call 30; (with_reducible refine (truth_ref _ _).mono ?_); rintro e w' ⟨rfl, rfl⟩) | (go_at_call 33; (with_reducible refine (hx _).mono ?_); rintro e w' ⟨rfl, rfl⟩))
  go_ret2
  exact ret_T rfl (Below.refl _ _)
set_option maxRecDepth 100000 in
theorem bref_138 (a b : Int) (ha : 0 ≤ a) (ha' : a < 4294967296) (hb : 0 ≤ b) (hb' : b < 4294967296) (w : World) : Calls Try.prog 15 #[.int .u16 138, .int .u32 a, .int .u32 b] w fun e w' => e = .returned (.tuple #[.int .u32 (binS 138 a b), .bool true]) ∧ Below w.heap.size w w' := by
  have hx : ∀ w, Calls Try.prog 33 #[.int .u16 138, .int .u32 a, .int .u32 b] w fun e w' => e = .returned (.int .u32 (dvS 138 a b)) ∧ w = w' := by
    intro w
    by_cases h : b = 0
    · subst h; exact divided_zero 138 a ha ha' w
    · exact divided_any 138 a b (by decide) ha ha' hb hb' h w
  go_enter Try.func15, Try.ntmps15
  go_wp2_with (first | (go_at_call 31; (with_reducible refine (signed_any _ (by omega) (by omega) _).mono ?_); rintro e w' ⟨rfl, rfl⟩) | (go_at_call 29; (with_reducible refine (word_any _ _).mono ?_); rintro e w' ⟨rfl, rfl⟩) | (go_at_call 30; (with_reducible refine (truth_ref _ _).mono ?_); rintro e w' ⟨rfl, rfl⟩) | (go_at_call 33; (with_reducible refine (hx _).mono ?_); rintro e w' ⟨rfl, rfl⟩))
  go_ret2
  exact ret_T rfl (Below.refl _ _)
set_option maxRecDepth 100000 in
theorem bref_139 (a b : Int) (ha : 0 ≤ a) (ha' : a < 4294967296) (hb : 0 ≤ b) (hb' : b < 4294967296) (w : World) : Calls Try.prog 15 #[.int .u16 139, .int .u32 a, .int .u32 b] w fun e w' => e = .returned (.tuple #[.int .u32 (binS 139 a b), .bool true]) ∧ Below w.heap.size w w' := by
  have hx : ∀ w, Calls Try.prog 33 #[.int .u16 139, .int .u32 a, .int .u32 b] w fun e w' => e = .returned (.int .u32 (dvS 139 a b)) ∧ w = w' := by
    intro w
    by_cases h : b = 0
    · subst h; exact divided_zero 139 a ha ha' w
    · exact divided_any 139 a b (by decide) ha ha' hb hb' h w
  go_enter Try.func15, Try.ntmps15
  go_wp2_with (first | (go_at_call 31; (with_reducible refine (signed_any _ (by omega) (by omega) _).mono ?_); rintro e w' ⟨rfl, rfl⟩) | (go_at_call 29; (with_reducible refine (word_any _ _).mono ?_); rintro e w' ⟨rfl, rfl⟩) | (go_at_call 30; (with_reducible refine (truth_ref _ _).mono ?_); rintro e w' ⟨rfl, rfl⟩) | (go_at_call 33; (with_reducible refine (hx _).mono ?_); rintro e w' ⟨rfl, rfl⟩))
  go_ret2
  exact ret_T rfl (Below.refl _ _)
set_option maxRecDepth 100000 in
theorem bref_164 (a b : Int) (ha : 0 ≤ a) (ha' : a < 4294967296) (hb : 0 ≤ b) (hb' : b < 4294967296) (w : World) : Calls Try.prog 15 #[.int .u16 164, .int .u32 a, .int .u32 b] w fun e w' => e = .returned (.tuple #[.int .u32 (binS 164 a b), .bool true]) ∧ Below w.heap.size w w' := by
  go_enter Try.func15, Try.ntmps15
  go_wp2_with (first | (go_at_call 31; (with_reducible refine (signed_any _ (by omega) (by omega) _).mono ?_); rintro e w' ⟨rfl, rfl⟩) | (go_at_call 29; (with_reducible refine (word_any _ _).mono ?_); rintro e w' ⟨rfl, rfl⟩) | (go_at_call 30; (with_reducible refine (truth_ref _ _).mono ?_); rintro e w' ⟨rfl, rfl⟩))
  go_ret2
  exact ret_T rfl (Below.refl _ _)
set_option maxRecDepth 100000 in
theorem bref_165 (a b : Int) (ha : 0 ≤ a) (ha' : a < 4294967296) (hb : 0 ≤ b) (hb' : b < 4294967296) (w : World) : Calls Try.prog 15 #[.int .u16 165, .int .u32 a, .int .u32 b] w fun e w' => e = .returned (.tuple #[.int .u32 (binS 165 a b), .bool true]) ∧ Below w.heap.size w w' := by
  go_enter Try.func15, Try.ntmps15
  go_wp2_with (first | (go_at_call 31; (with_reducible refine (signed_any _ (by omega) (by omega) _).mono ?_); rintro e w' ⟨rfl, rfl⟩) | (go_at_call 29; (with_reducible refine (word_any _ _).mono ?_); rintro e w' ⟨rfl, rfl⟩) | (go_at_call 30; (with_reducible refine (truth_ref _ _).mono ?_); rintro e w' ⟨rfl, rfl⟩))
  go_ret2
  exact ret_T rfl (Below.refl _ _)
set_option maxRecDepth 100000 in
theorem bref_166 (a b : Int) (ha : 0 ≤ a) (ha' : a < 4294967296) (hb : 0 ≤ b) (hb' : b < 4294967296) (w : World) : Calls Try.prog 15 #[.int .u16 166, .int .u32 a, .int .u32 b] w fun e w' => e = .returned (.tuple #[.int .u32 (binS 166 a b), .bool true]) ∧ Below w.heap.size w w' := by
  cases hz : (a != 0) with
  | false =>
    go_enter Try.func15, Try.ntmps15
    go_wp2_with (first | (go_at_call 31; (with_reducible refine (signed_any _ (by omega) (by omega) _).mono ?_); rintro e w' ⟨rfl, rfl⟩) | (go_at_call 29; (with_reducible refine (word_any _ _).mono ?_); rintro e w' ⟨rfl, rfl⟩) | (go_at_call 30; (with_reducible refine (truth_ref _ _).mono ?_); rintro e w' ⟨rfl, rfl⟩))
    go_ret2
    exact ret_T (by simp [binS, hz]) (Below.refl _ _)

  | true =>
    go_enter Try.func15, Try.ntmps15
    go_wp2_with (first | (go_at_call 31; (with_reducible refine (signed_any _ (by omega) (by omega) _).mono ?_); rintro e w' ⟨rfl, rfl⟩) | (go_at_call 29; (with_reducible refine (word_any _ _).mono ?_); rintro e w' ⟨rfl, rfl⟩) | (go_at_call 30; (with_reducible refine (truth_ref _ _).mono ?_); rintro e w' ⟨rfl, rfl⟩))
    go_ret2
    exact ret_T (by simp [binS, hz]) (Below.refl _ _)

set_option maxRecDepth 100000 in
theorem bref_167 (a b : Int) (ha : 0 ≤ a) (ha' : a < 4294967296) (hb : 0 ≤ b) (hb' : b < 4294967296) (w : World) : Calls Try.prog 15 #[.int .u16 167, .int .u32 a, .int .u32 b] w fun e w' => e = .returned (.tuple #[.int .u32 (binS 167 a b), .bool true]) ∧ Below w.heap.size w w' := by
  cases hz : (a != 0) with
  | false =>
    go_enter Try.func15, Try.ntmps15
    go_wp2_with (first | (go_at_call 31; (with_reducible refine (signed_any _ (by omega) (by omega) _).mono ?_); rintro e w' ⟨rfl, rfl⟩) | (go_at_call 29; (with_reducible refine (word_any _ _).mono ?_); rintro e w' ⟨rfl, rfl⟩) | (go_at_call 30; (with_reducible refine (truth_ref _ _).mono ?_); rintro e w' ⟨rfl, rfl⟩))
    go_ret2
    exact ret_T (by simp [binS, hz]) (Below.refl _ _)

  | true =>
    go_enter Try.func15, Try.ntmps15
    go_wp2_with (first | (go_at_call 31; (with_reducible refine (signed_any _ (by omega) (by omega) _).mono ?_); rintro e w' ⟨rfl, rfl⟩) | (go_at_call 29; (with_reducible refine (word_any _ _).mono ?_); rintro e w' ⟨rfl, rfl⟩) | (go_at_call 30; (with_reducible refine (truth_ref _ _).mono ?_); rintro e w' ⟨rfl, rfl⟩))
    go_ret2
    exact ret_T (by simp [binS, hz]) (Below.refl _ _)

set_option maxRecDepth 100000 in
theorem bref_170 (a b : Int) (ha : 0 ≤ a) (ha' : a < 4294967296) (hb : 0 ≤ b) (hb' : b < 4294967296) (w : World) : Calls Try.prog 15 #[.int .u16 170, .int .u32 a, .int .u32 b] w fun e w' => e = .returned (.tuple #[.int .u32 (binS 170 a b), .bool true]) ∧ Below w.heap.size w w' := by
  go_enter Try.func15, Try.ntmps15
  go_wp2_with (first | (go_at_call 31; (with_reducible refine (signed_any _ (by omega) (by omega) _).mono ?_); rintro e w' ⟨rfl, rfl⟩) | (go_at_call 29; (with_reducible refine (word_any _ _).mono ?_); rintro e w' ⟨rfl, rfl⟩) | (go_at_call 30; (with_reducible refine (truth_ref _ _).mono ?_); rintro e w' ⟨rfl, rfl⟩))
  go_ret2
  exact ret_T rfl (Below.refl _ _)
set_option maxRecDepth 100000 in
theorem bref_171 (a b : Int) (ha : 0 ≤ a) (ha' : a < 4294967296) (hb : 0 ≤ b) (hb' : b < 4294967296) (w : World) : Calls Try.prog 15 #[.int .u16 171, .int .u32 a, .int .u32 b] w fun e w' => e = .returned (.tuple #[.int .u32 (binS 171 a b), .bool true]) ∧ Below w.heap.size w w' := by
  go_enter Try.func15, Try.ntmps15
  go_wp2_with (first | (go_at_call 31; (with_reducible refine (signed_any _ (by omega) (by omega) _).mono ?_); rintro e w' ⟨rfl, rfl⟩) | (go_at_call 29; (with_reducible refine (word_any _ _).mono ?_); rintro e w' ⟨rfl, rfl⟩) | (go_at_call 30; (with_reducible refine (truth_ref _ _).mono ?_); rintro e w' ⟨rfl, rfl⟩))
  go_ret2
  exact ret_T rfl (Below.refl _ _)
set_option maxRecDepth 100000 in
theorem bref_172 (a b : Int) (ha : 0 ≤ a) (ha' : a < 4294967296) (hb : 0 ≤ b) (hb' : b < 4294967296) (w : World) : Calls Try.prog 15 #[.int .u16 172, .int .u32 a, .int .u32 b] w fun e w' => e = .returned (.tuple #[.int .u32 (binS 172 a b), .bool true]) ∧ Below w.heap.size w w' := by
  go_enter Try.func15, Try.ntmps15
  go_wp2_with (first | (go_at_call 31; (with_reducible refine (signed_any _ (by omega) (by omega) _).mono ?_); rintro e w' ⟨rfl, rfl⟩) | (go_at_call 29; (with_reducible refine (word_any _ _).mono ?_); rintro e w' ⟨rfl, rfl⟩) | (go_at_call 30; (with_reducible refine (truth_ref _ _).mono ?_); rintro e w' ⟨rfl, rfl⟩))
  go_ret2
  exact ret_T rfl (Below.refl _ _)
set_option maxRecDepth 100000 in
theorem bref_173 (a b : Int) (ha : 0 ≤ a) (ha' : a < 4294967296) (hb : 0 ≤ b) (hb' : b < 4294967296) (w : World) : Calls Try.prog 15 #[.int .u16 173, .int .u32 a, .int .u32 b] w fun e w' => e = .returned (.tuple #[.int .u32 (binS 173 a b), .bool true]) ∧ Below w.heap.size w w' := by
  go_enter Try.func15, Try.ntmps15
  go_wp2_with (first | (go_at_call 31; (with_reducible refine (signed_any _ (by omega) (by omega) _).mono ?_); rintro e w' ⟨rfl, rfl⟩) | (go_at_call 29; (with_reducible refine (word_any _ _).mono ?_); rintro e w' ⟨rfl, rfl⟩) | (go_at_call 30; (with_reducible refine (truth_ref _ _).mono ?_); rintro e w' ⟨rfl, rfl⟩))
  go_ret2
  exact ret_T rfl (Below.refl _ _)
set_option maxRecDepth 100000 in
theorem bref_174 (a b : Int) (ha : 0 ≤ a) (ha' : a < 4294967296) (hb : 0 ≤ b) (hb' : b < 4294967296) (w : World) : Calls Try.prog 15 #[.int .u16 174, .int .u32 a, .int .u32 b] w fun e w' => e = .returned (.tuple #[.int .u32 (binS 174 a b), .bool true]) ∧ Below w.heap.size w w' := by
  go_enter Try.func15, Try.ntmps15
  go_wp2_with (first | (go_at_call 31; (with_reducible refine (signed_any _ (by omega) (by omega) _).mono ?_); rintro e w' ⟨rfl, rfl⟩) | (go_at_call 29; (with_reducible refine (word_any _ _).mono ?_); rintro e w' ⟨rfl, rfl⟩) | (go_at_call 30; (with_reducible refine (truth_ref _ _).mono ?_); rintro e w' ⟨rfl, rfl⟩))
  go_ret2
  exact ret_T rfl (Below.refl _ _)
set_option maxRecDepth 100000 in
theorem bref_175 (a b : Int) (ha : 0 ≤ a) (ha' : a < 4294967296) (hb : 0 ≤ b) (hb' : b < 4294967296) (w : World) : Calls Try.prog 15 #[.int .u16 175, .int .u32 a, .int .u32 b] w fun e w' => e = .returned (.tuple #[.int .u32 (binS 175 a b), .bool true]) ∧ Below w.heap.size w w' := by
  go_enter Try.func15, Try.ntmps15
  go_wp2_with (first | (go_at_call 31; (with_reducible refine (signed_any _ (by omega) (by omega) _).mono ?_); rintro e w' ⟨rfl, rfl⟩) | (go_at_call 29; (with_reducible refine (word_any _ _).mono ?_); rintro e w' ⟨rfl, rfl⟩) | (go_at_call 30; (with_reducible refine (truth_ref _ _).mono ?_); rintro e w' ⟨rfl, rfl⟩))
  go_ret2
  exact ret_T rfl (Below.refl _ _)
set_option maxRecDepth 100000 in
theorem bref_176 (a b : Int) (ha : 0 ≤ a) (ha' : a < 4294967296) (hb : 0 ≤ b) (hb' : b < 4294967296) (w : World) : Calls Try.prog 15 #[.int .u16 176, .int .u32 a, .int .u32 b] w fun e w' => e = .returned (.tuple #[.int .u32 (binS 176 a b), .bool true]) ∧ Below w.heap.size w w' := by
  go_enter Try.func15, Try.ntmps15
  go_wp2_with (first | (go_at_call 31; (with_reducible refine (signed_any _ (by omega) (by omega) _).mono ?_); rintro e w' ⟨rfl, rfl⟩) | (go_at_call 29; (with_reducible refine (word_any _ _).mono ?_); rintro e w' ⟨rfl, rfl⟩) | (go_at_call 30; (with_reducible refine (truth_ref _ _).mono ?_); rintro e w' ⟨rfl, rfl⟩))
  go_ret2
  exact ret_T rfl (Below.refl _ _)
set_option maxRecDepth 100000 in
theorem bref_177 (a b : Int) (ha : 0 ≤ a) (ha' : a < 4294967296) (hb : 0 ≤ b) (hb' : b < 4294967296) (w : World) : Calls Try.prog 15 #[.int .u16 177, .int .u32 a, .int .u32 b] w fun e w' => e = .returned (.tuple #[.int .u32 (binS 177 a b), .bool true]) ∧ Below w.heap.size w w' := by
  go_enter Try.func15, Try.ntmps15
  go_wp2_with (first | (go_at_call 31; (with_reducible refine (signed_any _ (by omega) (by omega) _).mono ?_); rintro e w' ⟨rfl, rfl⟩) | (go_at_call 29; (with_reducible refine (word_any _ _).mono ?_); rintro e w' ⟨rfl, rfl⟩) | (go_at_call 30; (with_reducible refine (truth_ref _ _).mono ?_); rintro e w' ⟨rfl, rfl⟩))
  go_ret2
  exact ret_T rfl (Below.refl _ _)
set_option maxRecDepth 100000 in
theorem bref_178 (a b : Int) (ha : 0 ≤ a) (ha' : a < 4294967296) (hb : 0 ≤ b) (hb' : b < 4294967296) (w : World) : Calls Try.prog 15 #[.int .u16 178, .int .u32 a, .int .u32 b] w fun e w' => e = .returned (.tuple #[.int .u32 (binS 178 a b), .bool true]) ∧ Below w.heap.size w w' := by
  go_enter Try.func15, Try.ntmps15
  go_wp2_with (first | (go_at_call 31; (with_reducible refine (signed_any _ (by omega) (by omega) _).mono ?_); rintro e w' ⟨rfl, rfl⟩) | (go_at_call 29; (with_reducible refine (word_any _ _).mono ?_); rintro e w' ⟨rfl, rfl⟩) | (go_at_call 30; (with_reducible refine (truth_ref _ _).mono ?_); rintro e w' ⟨rfl, rfl⟩))
  go_ret2
  exact ret_T rfl (Below.refl _ _)
set_option maxRecDepth 100000 in
theorem bref_179 (a b : Int) (ha : 0 ≤ a) (ha' : a < 4294967296) (hb : 0 ≤ b) (hb' : b < 4294967296) (w : World) : Calls Try.prog 15 #[.int .u16 179, .int .u32 a, .int .u32 b] w fun e w' => e = .returned (.tuple #[.int .u32 (binS 179 a b), .bool true]) ∧ Below w.heap.size w w' := by
  go_enter Try.func15, Try.ntmps15
  go_wp2_with (first | (go_at_call 31; (with_reducible refine (signed_any _ (by omega) (by omega) _).mono ?_); rintro e w' ⟨rfl, rfl⟩) | (go_at_call 29; (with_reducible refine (word_any _ _).mono ?_); rintro e w' ⟨rfl, rfl⟩) | (go_at_call 30; (with_reducible refine (truth_ref _ _).mono ?_); rintro e w' ⟨rfl, rfl⟩))
  go_ret2
  exact ret_T rfl (Below.refl _ _)
set_option maxRecDepth 100000 in
theorem bref_194 (a b : Int) (ha : 0 ≤ a) (ha' : a < 4294967296) (hb : 0 ≤ b) (hb' : b < 4294967296) (w : World) : Calls Try.prog 15 #[.int .u16 194, .int .u32 a, .int .u32 b] w fun e w' => e = .returned (.tuple #[.int .u32 (binS 194 a b), .bool true]) ∧ Below w.heap.size w w' := by
  have hx := moved_194 a b ha ha' hb hb'
  rw [shr_is a ha ha'] at hx
  go_enter Try.func15, Try.ntmps15
  go_wp2_with (first | (go_at_call 31; (with_reducible refine (signed_any _ (by omega) (by omega) _).mono ?_); rintro e w' ⟨rfl, rfl⟩) | (go_at_call 29; (with_reducible refine (word_any _ _).mono ?_); rintro e w' ⟨rfl, rfl⟩) | (go_at_call 30; (with_reducible refine (truth_ref _ _).mono ?_); rintro e w' ⟨rfl, rfl⟩) | (go_at_call 34; (with_reducible refine (hx _).mono ?_); rintro e w' ⟨rfl, hB⟩))
  go_ret2
  exact ret_T rfl hB
set_option maxRecDepth 100000 in
theorem bref_195 (a b : Int) (ha : 0 ≤ a) (ha' : a < 4294967296) (hb : 0 ≤ b) (hb' : b < 4294967296) (w : World) : Calls Try.prog 15 #[.int .u16 195, .int .u32 a, .int .u32 b] w fun e w' => e = .returned (.tuple #[.int .u32 (binS 195 a b), .bool true]) ∧ Below w.heap.size w w' := by
  have hx := moved_195 a b ha ha' hb hb'
  rw [sar_is a ha ha'] at hx
  go_enter Try.func15, Try.ntmps15
  go_wp2_with (first | (go_at_call 31; (with_reducible refine (signed_any _ (by omega) (by omega) _).mono ?_); rintro e w' ⟨rfl, rfl⟩) | (go_at_call 29; (with_reducible refine (word_any _ _).mono ?_); rintro e w' ⟨rfl, rfl⟩) | (go_at_call 30; (with_reducible refine (truth_ref _ _).mono ?_); rintro e w' ⟨rfl, rfl⟩) | (go_at_call 34; (with_reducible refine (hx _).mono ?_); rintro e w' ⟨rfl, hB⟩))
  go_ret2
  exact ret_T rfl hB
set_option maxRecDepth 100000 in
theorem bref_196 (a b : Int) (ha : 0 ≤ a) (ha' : a < 4294967296) (hb : 0 ≤ b) (hb' : b < 4294967296) (w : World) : Calls Try.prog 15 #[.int .u16 196, .int .u32 a, .int .u32 b] w fun e w' => e = .returned (.tuple #[.int .u32 (binS 196 a b), .bool true]) ∧ Below w.heap.size w w' := by
  have hx := moved_196 a b ha ha' hb hb'
  rw [shl_is a ha ha'] at hx
  go_enter Try.func15, Try.ntmps15
  go_wp2_with (first | (go_at_call 31; (with_reducible refine (signed_any _ (by omega) (by omega) _).mono ?_); rintro e w' ⟨rfl, rfl⟩) | (go_at_call 29; (with_reducible refine (word_any _ _).mono ?_); rintro e w' ⟨rfl, rfl⟩) | (go_at_call 30; (with_reducible refine (truth_ref _ _).mono ?_); rintro e w' ⟨rfl, rfl⟩) | (go_at_call 34; (with_reducible refine (hx _).mono ?_); rintro e w' ⟨rfl, hB⟩))
  go_ret2
  exact ret_T rfl hB
set_option maxRecDepth 100000 in
theorem bref_197 (a b : Int) (ha : 0 ≤ a) (ha' : a < 4294967296) (hb : 0 ≤ b) (hb' : b < 4294967296) (w : World) : Calls Try.prog 15 #[.int .u16 197, .int .u32 a, .int .u32 b] w fun e w' => e = .returned (.tuple #[.int .u32 (binS 197 a b), .bool true]) ∧ Below w.heap.size w w' := by
  have hx := bitwise_197 a b ha ha' hb hb'
  rw [bw_or a b ha ha' hb hb'] at hx
  go_enter Try.func15, Try.ntmps15
  go_wp2_with (first | (go_at_call 31; (with_reducible refine (signed_any _ (by omega) (by omega) _).mono ?_); rintro e w' ⟨rfl, rfl⟩) | (go_at_call 29; (with_reducible refine (word_any _ _).mono ?_); rintro e w' ⟨rfl, rfl⟩) | (go_at_call 30; (with_reducible refine (truth_ref _ _).mono ?_); rintro e w' ⟨rfl, rfl⟩) | (go_at_call 35; (with_reducible refine (hx _).mono ?_); rintro e w' ⟨rfl, hB⟩))
  go_ret2
  exact ret_T rfl hB
set_option maxRecDepth 100000 in
theorem bref_198 (a b : Int) (ha : 0 ≤ a) (ha' : a < 4294967296) (hb : 0 ≤ b) (hb' : b < 4294967296) (w : World) : Calls Try.prog 15 #[.int .u16 198, .int .u32 a, .int .u32 b] w fun e w' => e = .returned (.tuple #[.int .u32 (binS 198 a b), .bool true]) ∧ Below w.heap.size w w' := by
  have hx := bitwise_198 a b ha ha' hb hb'
  rw [bw_xor a b ha ha' hb hb'] at hx
  go_enter Try.func15, Try.ntmps15
  go_wp2_with (first | (go_at_call 31; (with_reducible refine (signed_any _ (by omega) (by omega) _).mono ?_); rintro e w' ⟨rfl, rfl⟩) | (go_at_call 29; (with_reducible refine (word_any _ _).mono ?_); rintro e w' ⟨rfl, rfl⟩) | (go_at_call 30; (with_reducible refine (truth_ref _ _).mono ?_); rintro e w' ⟨rfl, rfl⟩) | (go_at_call 35; (with_reducible refine (hx _).mono ?_); rintro e w' ⟨rfl, hB⟩))
  go_ret2
  exact ret_T rfl hB
set_option maxRecDepth 100000 in
theorem bref_199 (a b : Int) (ha : 0 ≤ a) (ha' : a < 4294967296) (hb : 0 ≤ b) (hb' : b < 4294967296) (w : World) : Calls Try.prog 15 #[.int .u16 199, .int .u32 a, .int .u32 b] w fun e w' => e = .returned (.tuple #[.int .u32 (binS 199 a b), .bool true]) ∧ Below w.heap.size w w' := by
  have hx := bitwise_199 a b ha ha' hb hb'
  rw [bw_and a b ha ha' hb hb'] at hx
  go_enter Try.func15, Try.ntmps15
  go_wp2_with (first | (go_at_call 31; (with_reducible refine (signed_any _ (by omega) (by omega) _).mono ?_); rintro e w' ⟨rfl, rfl⟩) | (go_at_call 29; (with_reducible refine (word_any _ _).mono ?_); rintro e w' ⟨rfl, rfl⟩) | (go_at_call 30; (with_reducible refine (truth_ref _ _).mono ?_); rintro e w' ⟨rfl, rfl⟩) | (go_at_call 35; (with_reducible refine (hx _).mono ?_); rintro e w' ⟨rfl, hB⟩))
  go_ret2
  exact ret_T rfl hB
set_option maxRecDepth 100000 in
theorem bref_none (op a b : Int) (ha : 0 ≤ a) (ha' : a < 4294967296) (hb : 0 ≤ b) (hb' : b < 4294967296) (w : World) (h128 : (op == 128) = false) (h130 : (op == 130) = false) (h132 : (op == 132) = false) (h134 : (op == 134) = false) (h135 : (op == 135) = false) (h137 : (op == 137) = false) (h138 : (op == 138) = false) (h139 : (op == 139) = false) (h164 : (op == 164) = false) (h165 : (op == 165) = false) (h166 : (op == 166) = false) (h167 : (op == 167) = false) (h170 : (op == 170) = false) (h171 : (op == 171) = false) (h172 : (op == 172) = false) (h173 : (op == 173) = false) (h174 : (op == 174) = false) (h175 : (op == 175) = false) (h176 : (op == 176) = false) (h177 : (op == 177) = false) (h178 : (op == 178) = false) (h179 : (op == 179) = false) (h194 : (op == 194) = false) (h195 : (op == 195) = false) (h196 : (op == 196) = false) (h197 : (op == 197) = false) (h198 : (op == 198) = false) (h199 : (op == 199) = false) : Calls Try.prog 15 #[.int .u16 op, .int .u32 a, .int .u32 b] w fun e w' => e = .returned (.tuple #[.int .u32 0, .bool false]) ∧ w = w' := by
  go_enter Try.func15, Try.ntmps15
  go_wp2_with (first | (go_at_call 31; (with_reducible refine (signed_any _ (by omega) (by omega) _).mono ?_); rintro e w' ⟨rfl, rfl⟩) | (go_at_call 29; (with_reducible refine (word_any _ _).mono ?_); rintro e w' ⟨rfl, rfl⟩) | (go_at_call 30; (with_reducible refine (truth_ref _ _).mono ?_); rintro e w' ⟨rfl, rfl⟩))
  go_ret2
  exact ⟨rfl, rfl⟩
theorem binary_ref (op a b : Int) (ha : 0 ≤ a) (ha' : a < 4294967296) (hb : 0 ≤ b) (hb' : b < 4294967296) (w : World) :
    Calls Try.prog 15 #[.int .u16 op, .int .u32 a, .int .u32 b] w fun e w' => e = .returned (.tuple #[.int .u32 (binS op a b), .bool (isBin op)]) ∧ Below w.heap.size w w' := by
  by_cases h128 : op = 128
  · subst h128; exact bref_128 a b ha ha' hb hb' w
  by_cases h130 : op = 130
  · subst h130; exact bref_130 a b ha ha' hb hb' w
  by_cases h132 : op = 132
  · subst h132; exact bref_132 a b ha ha' hb hb' w
  by_cases h134 : op = 134
  · subst h134; exact bref_134 a b ha ha' hb hb' w
  by_cases h135 : op = 135
  · subst h135; exact bref_135 a b ha ha' hb hb' w
  by_cases h137 : op = 137
  · subst h137; exact bref_137 a b ha ha' hb hb' w
  by_cases h138 : op = 138
  · subst h138; exact bref_138 a b ha ha' hb hb' w
  by_cases h139 : op = 139
  · subst h139; exact bref_139 a b ha ha' hb hb' w
  by_cases h164 : op = 164
  · subst h164; exact bref_164 a b ha ha' hb hb' w
  by_cases h165 : op = 165
  · subst h165; exact bref_165 a b ha ha' hb hb' w
  by_cases h166 : op = 166
  · subst h166; exact bref_166 a b ha ha' hb hb' w
  by_cases h167 : op = 167
  · subst h167; exact bref_167 a b ha ha' hb hb' w
  by_cases h170 : op = 170
  · subst h170; exact bref_170 a b ha ha' hb hb' w
  by_cases h171 : op = 171
  · subst h171; exact bref_171 a b ha ha' hb hb' w
  by_cases h172 : op = 172
  · subst h172; exact bref_172 a b ha ha' hb hb' w
  by_cases h173 : op = 173
  · subst h173; exact bref_173 a b ha ha' hb hb' w
  by_cases h174 : op = 174
  · subst h174; exact bref_174 a b ha ha' hb hb' w
  by_cases h175 : op = 175
  · subst h175; exact bref_175 a b ha ha' hb hb' w
  by_cases h176 : op = 176
  · subst h176; exact bref_176 a b ha ha' hb hb' w
  by_cases h177 : op = 177
  · subst h177; exact bref_177 a b ha ha' hb hb' w
  by_cases h178 : op = 178
  · subst h178; exact bref_178 a b ha ha' hb hb' w
  by_cases h179 : op = 179
  · subst h179; exact bref_179 a b ha ha' hb hb' w
  by_cases h194 : op = 194
  · subst h194; exact bref_194 a b ha ha' hb hb' w
  by_cases h195 : op = 195
  · subst h195; exact bref_195 a b ha ha' hb hb' w
  by_cases h196 : op = 196
  · subst h196; exact bref_196 a b ha ha' hb hb' w
  by_cases h197 : op = 197
  · subst h197; exact bref_197 a b ha ha' hb hb' w
  by_cases h198 : op = 198
  · subst h198; exact bref_198 a b ha ha' hb hb' w
  by_cases h199 : op = 199
  · subst h199; exact bref_199 a b ha ha' hb hb' w
  have e1 : binS op a b = 0 := by simp only [binS, if_neg h128, if_neg h130, if_neg h132, if_neg h134, if_neg h135, if_neg h137, if_neg h138, if_neg h139, if_neg h164, if_neg h165, if_neg h166, if_neg h167, if_neg h170, if_neg h171, if_neg h172, if_neg h173, if_neg h174, if_neg h175, if_neg h176, if_neg h177, if_neg h178, if_neg h179, if_neg h194, if_neg h195, if_neg h196, if_neg h197, if_neg h198, if_neg h199]
  have e2 : isBin op = false := by simp [isBin, h128, h130, h132, h134, h135, h137, h138, h139, h164, h165, h166, h167, h170, h171, h172, h173, h174, h175, h176, h177, h178, h179, h194, h195, h196, h197, h198, h199]
  rw [e1, e2]
  exact (bref_none op a b ha ha' hb hb' w (by simpa using h128) (by simpa using h130) (by simpa using h132) (by simpa using h134) (by simpa using h135) (by simpa using h137) (by simpa using h138) (by simpa using h139) (by simpa using h164) (by simpa using h165) (by simpa using h166) (by simpa using h167) (by simpa using h170) (by simpa using h171) (by simpa using h172) (by simpa using h173) (by simpa using h174) (by simpa using h175) (by simpa using h176) (by simpa using h177) (by simpa using h178) (by simpa using h179) (by simpa using h194) (by simpa using h195) (by simpa using h196) (by simpa using h197) (by simpa using h198) (by simpa using h199)).mono fun _ _ h => ⟨h.1, h.2 ▸ Below.refl _ _⟩
theorem walk_binary (op a b : Int) (ha : 0 ≤ a) (ha' : a < 4294967296) (hb : 0 ≤ b) (hb' : b < 4294967296) (w : World) :
    Calls Try.prog 5 #[.int .u16 op, .int .u32 a, .int .u32 b] w fun e w' => e = .returned (.bool true) ∧ Below w.heap.size w w' := by
  have c15 := binary_ref op a b ha ha' hb hb'
  have c16 := binary_own op a b ha ha' hb hb'
  generalize binS op a b = x at c15 c16
  generalize isBin op = z at c15 c16
  go_enter Try.func5, Try.ntmps5
  go_wp2_with (first | (go_at_call 15; refine (c15 _).mono ?_; rintro e w1 ⟨rfl, hB1⟩) | (go_at_call 16; refine (c16 _).mono ?_; rintro e w2 ⟨rfl, hB2⟩))
  go_ret
  exact ⟨rfl, bcall hB1 hB2⟩
end Go.Proofs.Ytlheggnoegedcaa
