import Derived.Test.YtlheggnoegedcaaBase
import Derived.Test.YtlheggnoegedcaaPlain
namespace Go.Proofs.Ytlheggnoegedcaa
set_option linter.unusedVariables false
open Go.ChangeShapes Go.WideShapes Go.ChangeAt Go.RowKit
theorem truth_ref (b : Bool) (w : World) : Calls Try.prog 30 #[.bool b] w fun e w' => e = .returned (.int .u32 (tr b)) ∧ w = w' := by
  go_enter Try.func30, Try.ntmps30
  go_wp2
  all_goals go_ret
  all_goals simp_all [tr]
theorem truth_own (b : Bool) (w : World) : Calls Try.prog 43 #[.bool b] w fun e w' => e = .returned (.int .u32 (tr b)) ∧ w = w' := by
  go_enter Try.func43, Try.ntmps43
  go_wp2
  all_goals go_ret
  all_goals simp_all [tr]
theorem word_any (n : Int) (w : World) : Calls Try.prog 29 #[.int .i64 n] w fun e w' => e = .returned (.int .u32 (n % 4294967296)) ∧ w = w' := by
  go_enter Try.func29, Try.ntmps29
  go_wp2
  · go_ret
    exact ⟨ret_int (word_neg n (by assumption)), rfl⟩
  · go_ret
    exact ⟨ret_int (word_pos n (by assumption)), rfl⟩
theorem signed_any (a : Int) (h1 : 0 ≤ a) (h2 : a < 4294967296) (w : World) : Calls Try.prog 31 #[.int .u32 a] w fun e w' => e = .returned (.int .i64 (sg a)) ∧ w = w' := by
  go_enter Try.func31, Try.ntmps31
  go_wp2
  · go_ret
    exact ⟨ret_int (sg_hi (by assumption)).symm, rfl⟩
  · go_ret
    exact ⟨ret_int (sg_lo (by assumption)).symm, rfl⟩
theorem c48 (a b : Int) (ha : 0 ≤ a) (ha' : a < 4294967296) (hb : 0 ≤ b) (hb' : b < 4294967296) (w : World) : Calls Try.prog 48 #[.int .u32 a, .int .u32 b] w fun e w' => e = .returned (.tuple #[.int .u32 ((a + b) % 4294967296), .int .u32 (tr (decide (4294967296 ≤ a + b)))]) ∧ w = w' := by
  go_enter Try.func48, Try.ntmps48
  go_wp2_with (go_at_call 43; refine (truth_own _ _).mono ?_; rintro e w' ⟨rfl, rfl⟩)
  go_ret2
  refine ⟨ret_pair rfl ?_, rfl⟩
  congr 1; simp only [decide_eq_decide]; omega
theorem c49 (a b : Int) (w : World) : Calls Try.prog 49 #[.int .u32 a, .int .u32 b] w fun e w' => e = .returned (.tuple #[.int .u32 ((a - b) % 4294967296), .int .u32 (tr (decide (a < b)))]) ∧ w = w' := by
  go_enter Try.func49, Try.ntmps49
  go_wp2_with (go_at_call 43; refine (truth_own _ _).mono ?_; rintro e w' ⟨rfl, rfl⟩)
  go_ret2
  exact ⟨ret_pair rfl rfl, rfl⟩
theorem c50 (a b : Int) (ha : 0 ≤ a) (ha' : a < 4294967296) (hb : 0 ≤ b) (hb' : b < 4294967296) (w : World) : Calls Try.prog 50 #[.int .u32 a, .int .u32 b] w fun e w' => e = .returned (.tuple #[.int .u32 ((a * b) % 4294967296), .int .u32 (a * b / 4294967296)]) ∧ w = w' := by
  have hm := umul_bd a b ha ha' hb hb'
  go_enter Try.func50, Try.ntmps50
  go_wp2
  go_ret2
  refine ⟨ret_pair ?_ ?_, rfl⟩
  · omega
  · omega
theorem c52 (a b : Int) (ha : 0 ≤ a) (ha' : a < 4294967296) (hb : 0 ≤ b) (hb' : b < 4294967296) (w : World) : Calls Try.prog 52 #[.int .u32 a, .int .u32 b] w fun e w' => e = .returned (.tuple #[.int .u32 ((sg a * sg b) % 4294967296), .int .u32 (sg a * sg b / 4294967296 % 4294967296)]) ∧ w = w' := by
  have H : Hid _ := smul_lo a b ha ha' hb hb'
  go_enter Try.func52, Try.ntmps52
  go_wp2
  go_ret2
  exact ⟨ret_pair H.out.1 H.out.2, rfl⟩

theorem u32_bd {a : Int} (h : (Lit.int .u32 a).wf = true) : 0 ≤ a ∧ a < 4294967296 := by
  simp [Lit.wf, IntKind.min, IntKind.max, IntKind.signed, IntKind.bits] at h; omega
theorem u16_bd {a : Int} (h : (Lit.int .u16 a).wf = true) : 0 ≤ a ∧ a < 65536 := by
  simp [Lit.wf, IntKind.min, IntKind.max, IntKind.signed, IntKind.bits] at h; omega
/-- The map that 'pairs' makes. -/
def pairL : List (Int × Value) := [(149, .func (.func 48) #[] #[]), (150, .func (.func 49) #[] #[]), (151, .func (.func 50) #[] #[]), (152, .func (.func 52) #[] #[])]
theorem pairs_any (w : World) : Calls Try.prog 32 #[] w fun e w' => e = .returned (.map (some w.heap.size)) ∧ w' = w.alloc (mapObj .u16 pairL) := by
  have hmm := @run_makeMap Try.prog
  go_enter Try.func32, Try.ntmps32
  go_wp2
  iterate 4
    (rw [run_ins 57 22 56 .u16 _ _ _ _ _ Try.underlying57 Try.underlying22 rfl]
     go_wp2)
  go_ret
  exact ⟨rfl, rfl⟩
/-- What the pair operations make. -/
def pairS (op a b : Int) : Int × Int × Bool :=
  if op = 149 then ((a + b) % 4294967296, tr (decide (4294967296 ≤ a + b)), true)
  else if op = 150 then ((a - b) % 4294967296, tr (decide (a < b)), true)
  else if op = 151 then ((a * b) % 4294967296, a * b / 4294967296, true)
  else if op = 152 then ((sg a * sg b) % 4294967296, sg a * sg b / 4294967296 % 4294967296, true)
  else (0, 0, false)
def three (p : Int × Int × Bool) : Value := .tuple #[.int .u32 p.1, .int .u32 p.2.1, .bool p.2.2]
theorem ret_three {p : Int × Int × Bool} {a b : Int} {c : Bool} (h1 : a = p.1) (h2 : b = p.2.1) (h3 : c = p.2.2) :
    Ending.returned (.tuple #[.int .u32 a, .int .u32 b, .bool c]) = .returned (three p) := by rw [three, h1, h2, h3]
theorem zero56 (w : World) : (zeroValue 56).run Try.prog w = .ok .nilFunc w := by kernel_rfl
theorem eql56_nil (w : World) : (binOp BinOp.eql 56 .nilFunc .nilFunc).run Try.prog w = .ok (.bool true) w := by kernel_rfl
theorem eql56_fv (n : Nat) (w : World) : (binOp BinOp.eql 56 (.func (.func n) #[] #[]) .nilFunc).run Try.prog w = .ok (.bool false) w := by kernel_rfl
theorem pair_own_none (op a b : Int) (w : World) (h : at_ op pairL = none) :
    Calls Try.prog 14 #[.int .u16 op, .int .u32 a, .int .u32 b] w fun e w' => e = .returned (three (0, 0, false)) ∧ w' = w.alloc (mapObj .u16 pairL) := by
  have hl := look_none (P := Try.prog) 57 22 56 .u16 op .nilFunc pairL w Try.underlying57 Try.underlying22 zero56 h
  have he := eql56_nil
  go_enter Try.func14, Try.ntmps14
  go_wp2_with (go_at_call 32; refine (pairs_any _).mono ?_; rintro e w' ⟨rfl, rfl⟩)
  go_ret3
  exact ⟨rfl, rfl⟩
theorem pair_own_some (op a b x y : Int) (n : Nat) (w : World) (h : at_ op pairL = some (.func (.func n) #[] #[]))
    (hcf : ∀ w, (callFunc n #[.int .u32 a, .int .u32 b]).run Try.prog w = .ok (.enter n #[.int .u32 a, .int .u32 b]) w)
    (hc : ∀ w, Calls Try.prog n #[.int .u32 a, .int .u32 b] w fun e w' => e = .returned (.tuple #[.int .u32 x, .int .u32 y]) ∧ w = w') :
    Calls Try.prog 14 #[.int .u16 op, .int .u32 a, .int .u32 b] w fun e w' => e = .returned (three (x, y, true)) ∧ w' = w.alloc (mapObj .u16 pairL) := by
  have hl := look_some (P := Try.prog) 57 22 56 .u16 op _ pairL w Try.underlying57 Try.underlying22 h
  have he := eql56_fv n
  go_enter Try.func14, Try.ntmps14
  go_wp2_with (first | (go_at_call 32; refine (pairs_any _).mono ?_; rintro e w' ⟨rfl, rfl⟩) | (refine (hc _).mono ?_; rintro e w' ⟨rfl, rfl⟩))
  go_ret3
  exact ⟨rfl, rfl⟩
theorem pair_own (op a b : Int) (ha : 0 ≤ a) (ha' : a < 4294967296) (hb : 0 ≤ b) (hb' : b < 4294967296) (w : World) :
    Calls Try.prog 14 #[.int .u16 op, .int .u32 a, .int .u32 b] w fun e w' => e = .returned (three (pairS op a b)) ∧ w' = w.alloc (mapObj .u16 pairL) := by
  by_cases h1 : op = 149
  · subst h1; exact pair_own_some _ _ _ _ _ 48 w rfl (fun _ => by kernel_rfl) (c48 a b ha ha' hb hb')
  by_cases h2 : op = 150
  · subst h2; exact pair_own_some _ _ _ _ _ 49 w rfl (fun _ => by kernel_rfl) (c49 a b)
  by_cases h3 : op = 151
  · subst h3; exact pair_own_some _ _ _ _ _ 50 w rfl (fun _ => by kernel_rfl) (c50 a b ha ha' hb hb')
  by_cases h4 : op = 152
  · subst h4; exact pair_own_some _ _ _ _ _ 52 w rfl (fun _ => by kernel_rfl) (c52 a b ha ha' hb hb')
  simp only [pairS, if_neg h1, if_neg h2, if_neg h3, if_neg h4]
  exact pair_own_none op a b w (by simp only [at_, pairL, if_neg h1, if_neg h2, if_neg h3, if_neg h4])
theorem pair_ref (op a b : Int) (ha : 0 ≤ a) (ha' : a < 4294967296) (hb : 0 ≤ b) (hb' : b < 4294967296) (w : World) :
    Calls Try.prog 13 #[.int .u16 op, .int .u32 a, .int .u32 b] w fun e w' => e = .returned (three (pairS op a b)) ∧ w = w' := by
  have hu := umul_bd a b ha ha' hb hb'
  have hs := smul_bd a b ha ha' hb hb'
  have s1 := sg_bd a ha ha'
  have s2 := sg_bd b hb hb'
  by_cases h1 : op = 149
  · subst h1
    go_enter Try.func13, Try.ntmps13
    go_wp2_with (first | (go_at_call 29; refine (word_any _ _).mono ?_; rintro e w' ⟨rfl, rfl⟩) | (go_at_call 30; refine (truth_ref _ _).mono ?_; rintro e w' ⟨rfl, rfl⟩))
    go_ret3
    exact ⟨rfl, rfl⟩
  by_cases h2 : op = 150
  · subst h2
    go_enter Try.func13, Try.ntmps13
    go_wp2_with (first | (go_at_call 29; refine (word_any _ _).mono ?_; rintro e w' ⟨rfl, rfl⟩) | (go_at_call 30; refine (truth_ref _ _).mono ?_; rintro e w' ⟨rfl, rfl⟩))
    go_ret3
    exact ⟨rfl, rfl⟩
  by_cases h3 : op = 151
  · subst h3
    go_enter Try.func13, Try.ntmps13
    go_wp2
    go_ret3
    exact ⟨rfl, rfl⟩
  by_cases h4 : op = 152
  · subst h4
    go_enter Try.func13, Try.ntmps13
    go_wp2_with (first | (go_at_call 29; refine (word_any _ _).mono ?_; rintro e w' ⟨rfl, rfl⟩) | (go_at_call 31; refine (signed_any _ (by omega) (by omega) _).mono ?_; rintro e w' ⟨rfl, rfl⟩))
    go_ret3
    exact ⟨ret_three rfl (by show _ = sg a * sg b / 4294967296 % 4294967296; rw [← tdiv_word]) rfl, rfl⟩
  have g1 : (op == 149) = false := by simpa using h1
  have g2 : (op == 150) = false := by simpa using h2
  have g3 : (op == 151) = false := by simpa using h3
  have g4 : (op == 152) = false := by simpa using h4
  simp only [pairS, if_neg h1, if_neg h2, if_neg h3, if_neg h4]
  clear h1 h2 h3 h4
  go_enter Try.func13, Try.ntmps13
  go_wp2
  go_ret3
  exact ⟨rfl, rfl⟩

theorem walk_pairs (op a b : Int) (ha : 0 ≤ a) (ha' : a < 4294967296) (hb : 0 ≤ b) (hb' : b < 4294967296) (w : World) :
    Calls Try.prog 3 #[.int .u16 op, .int .u32 a, .int .u32 b] w fun e w' => e = .returned (.bool true) ∧ Below w.heap.size w w' := by
  have c13 := pair_ref op a b ha ha' hb hb'
  have c14 := pair_own op a b ha ha' hb hb'
  obtain ⟨x, y, z, hp⟩ : ∃ x y z, pairS op a b = (x, y, z) := ⟨_, _, _, rfl⟩
  simp only [hp, three] at c13 c14
  clear hp
  go_enter Try.func3, Try.ntmps3
  go_wp2_with (first | (go_at_call 13; refine (c13 _).mono ?_; rintro e w' ⟨rfl, rfl⟩) | (go_at_call 14; refine (c14 _).mono ?_; rintro e w' ⟨rfl, rfl⟩))
  go_ret
  exact ⟨rfl, (Below.refl _ _).alloc (Nat.le_refl _) _⟩
end Go.Proofs.Ytlheggnoegedcaa
