/- 'ArithBinary': both sides, and the walk of the law. -/
import Derived.Test.YtlheggnoegedcaaBinary
namespace Go.Proofs.Ytlheggnoegedcaa
set_option linter.unusedVariables false
open Go.ChangeShapes Go.WideShapes Go.ChangeAt Go.RowKit
theorem zero61 (w : World) : (zeroValue 61).run Try.prog w = .ok .nilFunc w := by kernel_rfl
theorem eql61_nil (w : World) : (binOp BinOp.eql 61 .nilFunc .nilFunc).run Try.prog w = .ok (.bool true) w := by kernel_rfl
theorem eql61_fv (n : Nat) (c : Array Value) (w : World) : (binOp BinOp.eql 61 (.func (.func n) #[] c) .nilFunc).run Try.prog w = .ok (.bool false) w := by kernel_rfl
theorem twoW_size (w : World) : (w.alloc (.cells #[.func (.func 54) #[] #[]] 60)).heap.size = w.heap.size + 1 := by
  show (w.heap.push _).size = _; simp
theorem twoW_below (w : World) : Below w.heap.size w (twoW w) := bal (bal (Below.refl _ _) _) _
theorem binary_own_none (op a b : Int) (w : World) (h : ∀ B, at_ op (twoL B) = none) :
    Calls Try.prog 16 #[.int .u16 op, .int .u32 a, .int .u32 b] w fun e w' => e = .returned (.tuple #[.int .u32 0, .bool false]) ∧ Below w.heap.size w w' := by
  have hl := look_none (P := Try.prog) 62 22 61 .u16 op .nilFunc (twoL w.heap.size) (w.alloc (.cells #[.func (.func 54) #[] #[]] 60)) Try.underlying62 Try.underlying22 zero61 (h _)
  rw [twoW_size] at hl
  change Sem.run _ _ (twoW w) = Result.ok _ (twoW w) at hl
  have he := eql61_nil
  go_enter Try.func16, Try.ntmps16
  go_wp2_with (go_at_call 36; refine (twos_any _).mono ?_; rintro e w' ⟨rfl, rfl⟩)
  go_ret2
  exact ⟨rfl, twoW_below w⟩
theorem binary_own_some (op a b x : Int) (n : Nat) (c : Array Value) (w : World) (h : at_ op (twoL w.heap.size) = some (.func (.func n) #[] c))
    (hcf : ∀ w, (callFunc n (#[.int .u32 a, .int .u32 b] ++ c)).run Try.prog w = .ok (.enter n (#[.int .u32 a, .int .u32 b] ++ c)) w)
    (hc : Calls Try.prog n (#[.int .u32 a, .int .u32 b] ++ c) (twoW w) fun e w' => e = .returned (.int .u32 x) ∧ Below (twoW w).heap.size (twoW w) w') :
    Calls Try.prog 16 #[.int .u16 op, .int .u32 a, .int .u32 b] w fun e w' => e = .returned (.tuple #[.int .u32 x, .bool true]) ∧ Below w.heap.size w w' := by
  have hl := look_some (P := Try.prog) 62 22 61 .u16 op _ (twoL w.heap.size) (w.alloc (.cells #[.func (.func 54) #[] #[]] 60)) Try.underlying62 Try.underlying22 h
  rw [twoW_size] at hl
  change Sem.run _ _ (twoW w) = Result.ok _ (twoW w) at hl
  have he := eql61_fv n c
  go_enter Try.func16, Try.ntmps16
  go_wp2_with (first | (go_at_call 36; refine (twos_any _).mono ?_; rintro e w' ⟨rfl, rfl⟩) | (refine hc.mono ?_; rintro e w' ⟨rfl, hB⟩))
  go_ret2
  exact ⟨rfl, bcall (twoW_below w) hB⟩
theorem keep {x : Int} {w w' : World} {e : Ending} (h : e = .returned (.int .u32 x) ∧ w = w') : e = .returned (.int .u32 x) ∧ Below w.heap.size w w' := ⟨h.1, h.2 ▸ Below.refl _ _⟩
theorem binary_own (op a b : Int) (ha : 0 ≤ a) (ha' : a < 4294967296) (hb : 0 ≤ b) (hb' : b < 4294967296) (w : World) :
    Calls Try.prog 16 #[.int .u16 op, .int .u32 a, .int .u32 b] w fun e w' => e = .returned (.tuple #[.int .u32 (binS op a b), .bool (isBin op)]) ∧ Below w.heap.size w w' := by
  by_cases h128 : op = 128
  · subst h128; exact binary_own_some _ _ _ _ 55 _ w rfl (fun _ => by kernel_rfl) (c55 a b ha ha' hb hb' _)
  by_cases h130 : op = 130
  · subst h130; exact binary_own_some _ _ _ _ 56 _ w rfl (fun _ => by kernel_rfl) (c56 a b ha ha' hb hb' _)
  by_cases h132 : op = 132
  · subst h132; exact binary_own_some _ _ _ _ 57 _ w rfl (fun _ => by kernel_rfl) (c57 a b ha ha' hb hb' _)
  by_cases h134 : op = 134
  · subst h134; exact binary_own_some _ _ _ _ 54 _ w rfl (fun _ => by kernel_rfl) ((c54 a b ha ha' hb hb' _).mono fun _ _ => keep)
  by_cases h135 : op = 135
  · subst h135; exact binary_own_some _ _ _ _ 58 _ w rfl (fun _ => by kernel_rfl) ((c58 a b ha ha' hb hb' _).mono fun _ _ => keep)
  by_cases h137 : op = 137
  · subst h137; exact binary_own_some _ _ _ _ 59 _ w rfl (fun _ => by kernel_rfl) (c59 a b ha ha' hb hb' _ w.heap.size (by show (World.alloc _ _).cell? _ = _; rw [World.cell?_alloc_past _ _ _ (by rw [twoW_size]; omega), World.cell?_alloc_at _ _ _ _ rfl]; rfl))
  by_cases h138 : op = 138
  · subst h138; exact binary_own_some _ _ _ _ 60 _ w rfl (fun _ => by kernel_rfl) ((c60 a b ha ha' hb hb' _).mono fun _ _ => keep)
  by_cases h139 : op = 139
  · subst h139; exact binary_own_some _ _ _ _ 61 _ w rfl (fun _ => by kernel_rfl) ((c61 a b ha ha' hb hb' _).mono fun _ _ => keep)
  by_cases h164 : op = 164
  · subst h164; exact binary_own_some _ _ _ _ 62 _ w rfl (fun _ => by kernel_rfl) (c62 a b ha ha' hb hb' _)
  by_cases h165 : op = 165
  · subst h165; exact binary_own_some _ _ _ _ 63 _ w rfl (fun _ => by kernel_rfl) (c63 a b ha ha' hb hb' _)
  by_cases h166 : op = 166
  · subst h166; exact binary_own_some _ _ _ _ 64 _ w rfl (fun _ => by kernel_rfl) (c64 a b ha ha' hb hb' _)
  by_cases h167 : op = 167
  · subst h167; exact binary_own_some _ _ _ _ 65 _ w rfl (fun _ => by kernel_rfl) (c65 a b ha ha' hb hb' _)
  by_cases h170 : op = 170
  · subst h170; exact binary_own_some _ _ _ _ 66 _ w rfl (fun _ => by kernel_rfl) (c66 a b ha ha' hb hb' _)
  by_cases h171 : op = 171
  · subst h171; exact binary_own_some _ _ _ _ 67 _ w rfl (fun _ => by kernel_rfl) (c67 a b ha ha' hb hb' _)
  by_cases h172 : op = 172
  · subst h172; exact binary_own_some _ _ _ _ 68 _ w rfl (fun _ => by kernel_rfl) (c68 a b ha ha' hb hb' _)
  by_cases h173 : op = 173
  · subst h173; exact binary_own_some _ _ _ _ 69 _ w rfl (fun _ => by kernel_rfl) (c69 a b ha ha' hb hb' _)
  by_cases h174 : op = 174
  · subst h174; exact binary_own_some _ _ _ _ 70 _ w rfl (fun _ => by kernel_rfl) (c70 a b ha ha' hb hb' _)
  by_cases h175 : op = 175
  · subst h175; exact binary_own_some _ _ _ _ 71 _ w rfl (fun _ => by kernel_rfl) (c71 a b ha ha' hb hb' _)
  by_cases h176 : op = 176
  · subst h176; exact binary_own_some _ _ _ _ 72 _ w rfl (fun _ => by kernel_rfl) (c72 a b ha ha' hb hb' _)
  by_cases h177 : op = 177
  · subst h177; exact binary_own_some _ _ _ _ 73 _ w rfl (fun _ => by kernel_rfl) (c73 a b ha ha' hb hb' _)
  by_cases h178 : op = 178
  · subst h178; exact binary_own_some _ _ _ _ 74 _ w rfl (fun _ => by kernel_rfl) (c74 a b ha ha' hb hb' _)
  by_cases h179 : op = 179
  · subst h179; exact binary_own_some _ _ _ _ 75 _ w rfl (fun _ => by kernel_rfl) (c75 a b ha ha' hb hb' _)
  by_cases h194 : op = 194
  · subst h194; exact binary_own_some _ _ _ _ 76 _ w rfl (fun _ => by kernel_rfl) (c76 a b ha ha' hb hb' _)
  by_cases h195 : op = 195
  · subst h195; exact binary_own_some _ _ _ _ 77 _ w rfl (fun _ => by kernel_rfl) (c77 a b ha ha' hb hb' _)
  by_cases h196 : op = 196
  · subst h196; exact binary_own_some _ _ _ _ 78 _ w rfl (fun _ => by kernel_rfl) (c78 a b ha ha' hb hb' _)
  by_cases h197 : op = 197
  · subst h197; exact binary_own_some _ _ _ _ 79 _ w rfl (fun _ => by kernel_rfl) (c79 a b ha ha' hb hb' _)
  by_cases h198 : op = 198
  · subst h198; exact binary_own_some _ _ _ _ 80 _ w rfl (fun _ => by kernel_rfl) (c80 a b ha ha' hb hb' _)
  by_cases h199 : op = 199
  · subst h199; exact binary_own_some _ _ _ _ 81 _ w rfl (fun _ => by kernel_rfl) (c81 a b ha ha' hb hb' _)
  have e1 : binS op a b = 0 := by simp only [binS, if_neg h128, if_neg h130, if_neg h132, if_neg h134, if_neg h135, if_neg h137, if_neg h138, if_neg h139, if_neg h164, if_neg h165, if_neg h166, if_neg h167, if_neg h170, if_neg h171, if_neg h172, if_neg h173, if_neg h174, if_neg h175, if_neg h176, if_neg h177, if_neg h178, if_neg h179, if_neg h194, if_neg h195, if_neg h196, if_neg h197, if_neg h198, if_neg h199]
  have e2 : isBin op = false := by simp [isBin, h128, h130, h132, h134, h135, h137, h138, h139, h164, h165, h166, h167, h170, h171, h172, h173, h174, h175, h176, h177, h178, h179, h194, h195, h196, h197, h198, h199]
  rw [e1, e2]
  exact binary_own_none op a b w (fun B => by simp only [at_, twoL, if_neg h128, if_neg h130, if_neg h132, if_neg h134, if_neg h135, if_neg h137, if_neg h138, if_neg h139, if_neg h164, if_neg h165, if_neg h166, if_neg h167, if_neg h170, if_neg h171, if_neg h172, if_neg h173, if_neg h174, if_neg h175, if_neg h176, if_neg h177, if_neg h178, if_neg h179, if_neg h194, if_neg h195, if_neg h196, if_neg h197, if_neg h198, if_neg h199])

theorem mul_word (a b : Int) (ha : 0 ≤ a) (ha' : a < 4294967296) (hb : 0 ≤ b) (hb' : b < 4294967296) : ((a / 65536 * b).tmod 4294967296 * 65536).tmod 4294967296 + (a % 65536 * b).tmod 4294967296 = ((a / 65536 * b) % 4294967296 * 65536) % 4294967296 + (a % 65536 * b) % 4294967296 ∧ (((a / 65536 * b) % 4294967296 * 65536) % 4294967296 + (a % 65536 * b) % 4294967296) % 4294967296 = a * b % 4294967296 := by
  have h1 : 0 ≤ a / 65536 * b := Int.mul_nonneg (by omega) hb
  have h2 : 0 ≤ a % 65536 * b := Int.mul_nonneg (by omega) hb
  have h3 : a * b = 65536 * (a / 65536 * b) + a % 65536 * b := by
    conv => lhs; rw [show a = 65536 * (a / 65536) + a % 65536 by omega]
    rw [Int.add_mul, Int.mul_assoc]
  rw [tmod_pos _ _ h1, tmod_pos _ _ h2, tmod_pos _ _ (by omega)]
  refine ⟨rfl, ?_⟩
  rw [h3]
  omega
end Go.Proofs.Ytlheggnoegedcaa
