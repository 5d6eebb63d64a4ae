/- The program's operations of two words, and the law 'ArithBinary'. -/
import Derived.Test.YtlheggnoegedcaaTwos
import Derived.Deep.QuietTactic
import Derived.BigQuiet
namespace Go.Proofs.Ytlheggnoegedcaa
set_option linter.unusedVariables false
open Go.ChangeShapes Go.WideShapes Go.ChangeAt Go.RowKit
theorem mod_word (a b : Int) (ha : 0 ≤ a) (ha' : a < 4294967296) (hb : 0 ≤ b) (hb' : b < 4294967296) (h : b ≠ 0) : 0 ≤ b * (a / b) ∧ b * (a / b) ≤ a ∧ a - b * (a / b) = dvS 137 a b := by
  have q1 : 0 ≤ b * (a / b) := Int.mul_nonneg hb (Int.ediv_nonneg ha hb)
  have q2 : b * (a / b) ≤ a := Int.mul_ediv_self_le h
  have q3 := Int.emod_add_mul_ediv a b
  have e : dvS 137 a b = a % b := by simp only [dvS, if_neg h]; rfl
  rw [e]
  omega
theorem c59 (a b : Int) (ha : 0 ≤ a) (ha' : a < 4294967296) (hb : 0 ≤ b) (hb' : b < 4294967296) (w : World) (B : Nat) (hB : w.cell? ⟨B, 0, none⟩ = some (.func (.func 54) #[] #[])) :
    Calls Try.prog 59 #[.int .u32 a, .int .u32 b, .pointer (some ⟨B, 0, none⟩)] w fun e w' => e = .returned (.int .u32 (dvS 137 a b)) ∧ Below w.heap.size w w' := by
  have hc := c54 a b ha ha' hb hb'
  have hc' : ∀ w, Calls Try.prog 54 #[.int .u32 a, .int .u32 b] w fun e w' => e = .returned (.int .u32 (dvS 134 a b)) ∧ w' = w := fun w => (hc w).mono fun _ _ ⟨h1, h2⟩ => ⟨h1, h2.symm⟩
  have ht' : ∀ b w, Calls Try.prog 43 #[.bool b] w fun e w' => e = .returned (.int .u32 (tr b)) ∧ w' = w := fun b w => (truth_own b w).mono fun _ _ ⟨h1, h2⟩ => ⟨h1, h2.symm⟩
  by_cases h : b = 0
  · subst h
    have e0 : dvS 134 a 0 = 0 := rfl
    have e1 : dvS 137 a 0 = 0 := rfl
    rw [e0] at hc'
    rw [e1]
    clear hc e0 e1
    go_enter Try.func59, Try.ntmps59
    go_wp2_with fail
    go_quiet (first | (go_at_call 43; exact Calls.quiet_of_same (ht' _ _)) | (go_at_call 54; exact Calls.quiet_of_same (hc' _)))
    go_wp2
    go_ret
    exact ret_B (by simp [tr]) (belowN (Below.refl _ _) _)
  · have hz : (b != 0) = true := by simpa using h
    have hp : 1 ≤ b := by omega
    obtain ⟨m1, m2, m3⟩ := mod_word a b ha ha' hb hb' h
    have e0 : dvS 134 a b = a / b := by simp only [dvS, if_neg h]; rfl
    rw [e0] at hc'
    have hD := hid (show 0 ≤ dvS 137 a b ∧ dvS 137 a b ≤ a by omega)
    clear hc h e0
    go_enter Try.func59, Try.ntmps59
    go_wp2_with fail
    go_quiet (first | (go_at_call 43; exact Calls.quiet_of_same (ht' _ _)) | (go_at_call 54; exact Calls.quiet_of_same (hc' _)))
    go_wp2
    go_ret
    exact ret_B (by have := hD.out; have : tr true = 1 := rfl; rw [this]; omega) (belowN (Below.refl _ _) _)
theorem xor_top (x y : Int) (hx : 0 ≤ x) (hx' : x < 4294967296) (hy : 0 ≤ y) (hy' : y < 4294967296) : wrap32 (bits BinOp.xor IntKind.u32 x y) < 0 ↔ ((2147483648 ≤ x) ≠ (2147483648 ≤ y)) := by
  obtain ⟨m, rfl, hm⟩ := nat_of hx hx'
  obtain ⟨n, rfl, hn⟩ := nat_of hy hy'
  rw [bits_xor m n hm hn]
  have hb := Nat.xor_lt_two_pow (n := 32) hm hn
  have h1 : wrap32 ((m ^^^ n : Nat) : Int) < 0 ↔ (m ^^^ n).testBit 31 = true := by
    rw [Nat.testBit_eq_decide_div_mod_eq]
    unfold wrap32
    simp only [decide_eq_true_eq]
    omega
  have h2 : ∀ k, k < 2 ^ 32 → (k.testBit 31 = true ↔ 2147483648 ≤ k) := by
    intro k hk
    rw [Nat.testBit_eq_decide_div_mod_eq]
    simp only [decide_eq_true_eq]
    omega
  rw [h1, Nat.testBit_xor]
  have a1 := h2 m hm
  have a2 := h2 n hn
  have b1 : ((2147483648 : Int) ≤ (m : Int)) ↔ 2147483648 ≤ m := by omega
  have b2 : ((2147483648 : Int) ≤ (n : Int)) ↔ 2147483648 ≤ n := by omega
  rw [ne_eq, propext b1, propext b2, ← propext a1, ← propext a2]
  cases m.testBit 31 <;> cases n.testBit 31 <;> simp
theorem md_word (a b : Int) (ha : 0 ≤ a) (ha' : a < 4294967296) (hb : 0 ≤ b) (hb' : b < 4294967296) (h : b ≠ 0) :
    (dvS 138 a b ≠ 0 ∧ wrap32 (bits BinOp.xor IntKind.u32 (dvS 138 a b) b) < 0 → (dvS 138 a b + b) % 4294967296 = dvS 139 a b) ∧
    (¬ (dvS 138 a b ≠ 0 ∧ wrap32 (bits BinOp.xor IntKind.u32 (dvS 138 a b) b) < 0) → dvS 138 a b = dvS 139 a b) := by
  have s2 := sg_bd b hb hb'
  have sne := sg_ne hb hb' h
  have t3 := tmod_bd (sg a) (sg b) sne s2.1 s2.2
  have e1 : dvS 138 a b = (sg a).tmod (sg b) % 4294967296 := by simp only [dvS, if_neg h]; rfl
  have e2 : dvS 139 a b = md (sg a) (sg b) % 4294967296 := by simp only [dvS, if_neg h]; rfl
  unfold md at e2
  rw [e2, e1]
  generalize (sg a).tmod (sg b) = m at t3
  rw [xor_top _ _ (by omega) (by omega) hb hb']
  have g1 : (2147483648 ≤ m % 4294967296) ↔ m < 0 := by omega
  have g2 : (2147483648 ≤ b) ↔ sg b < 0 := by unfold sg; split <;> omega
  have g3 : m % 4294967296 ≠ 0 ↔ m ≠ 0 := by omega
  rw [propext g1, propext g2, propext g3]
  have g4 : sg b % 4294967296 = b := by unfold sg; split <;> omega
  constructor
  · intro c
    rw [if_pos c]; omega
  · intro c
    rw [if_neg c]
theorem c61 (a b : Int) (ha : 0 ≤ a) (ha' : a < 4294967296) (hb : 0 ≤ b) (hb' : b < 4294967296) (w : World) : Calls Try.prog 61 #[.int .u32 a, .int .u32 b] w fun e w' => e = .returned (.int .u32 (dvS 139 a b)) ∧ w = w' := by
  have hc := c60 a b ha ha' hb hb'
  by_cases h : b = 0
  · subst h
    have e0 : dvS 138 a 0 = 0 := rfl
    have e1 : dvS 139 a 0 = 0 := rfl
    rw [e0] at hc
    rw [e1]
    clear e0 e1
    go_enter Try.func61, Try.ntmps61
    go_wp2_with (go_at_call 60; refine (hc _).mono ?_; rintro e w' ⟨rfl, rfl⟩)
    go_ret
    exact ⟨rfl, rfl⟩
  · have H := md_word a b ha ha' hb hb' h
    have hD : 0 ≤ dvS 138 a b ∧ dvS 138 a b < 4294967296 := by
      have e1 : dvS 138 a b = (sg a).tmod (sg b) % 4294967296 := by simp only [dvS, if_neg h]; rfl
      omega
    generalize dvS 138 a b = x at hc H hD
    by_cases c : x ≠ 0 ∧ wrap32 (bits BinOp.xor IntKind.u32 x b) < 0
    · have H1 := hid (H.1 c)
      have c0 : (x != 0) = true := by simpa using c.1
      have c1 : decide (wrap32 (bits BinOp.xor IntKind.u32 x b) < 0) = true := by simpa using c.2
      clear H c
      go_enter Try.func61, Try.ntmps61
      go_wp2_with (go_at_call 60; refine (hc _).mono ?_; rintro e w' ⟨rfl, rfl⟩)
      go_ret
      exact ⟨ret_int H1.out, rfl⟩
    · have H2 := hid (H.2 c)
      by_cases c2 : x = 0
      · subst c2
        clear H c
        go_enter Try.func61, Try.ntmps61
        go_wp2_with (go_at_call 60; refine (hc _).mono ?_; rintro e w' ⟨rfl, rfl⟩)
        go_ret
        exact ⟨ret_int H2.out, rfl⟩
      · have c0 : (x != 0) = true := by simpa using c2
        have c1 : decide (wrap32 (bits BinOp.xor IntKind.u32 x b) < 0) = false := by
          simp only [decide_eq_false_iff_not]; exact fun h => c ⟨c2, h⟩
        clear H c c2
        go_enter Try.func61, Try.ntmps61
        go_wp2_with (go_at_call 60; refine (hc _).mono ?_; rintro e w' ⟨rfl, rfl⟩)
        go_ret
        exact ⟨ret_int H2.out, rfl⟩
end Go.Proofs.Ytlheggnoegedcaa
