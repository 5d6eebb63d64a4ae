/- Operations of one word: the program's map of them, and the reference's. -/
import Derived.Test.YtlheggnoegedcaaUnary
import Derived.Test.YtlheggnoegedcaaBinref
namespace Go.Proofs.Ytlheggnoegedcaa
set_option linter.unusedVariables false
open Go.ChangeShapes Go.WideShapes Go.ChangeAt Go.RowKit
/-- What an operation makes of a word. -/
def unS (op a : Int) : Int :=
  if op = 83 then a
  else if op = 124 then a
  else if op = 126 then -a % 4294967296
  else if op = 168 then tr (a == 0)
  else if op = 200 then 4294967295 - a
  else if op = 204 then rv a
  else if op = 205 then pc (bit a) 32
  else 0
/-- Is it one? -/
def isUn (op : Int) : Bool := op == 83 || op == 124 || op == 126 || op == 168 || op == 200 || op == 204 || op == 205
theorem not_word (a : Int) (ha : 0 ≤ a) (ha' : a < 4294967296) : bits BinOp.xor IntKind.u32 IntKind.u32.max a = 4294967295 - a := by
  obtain ⟨n, rfl, hn⟩ := nat_of ha ha'
  have h := bits_xor 4294967295 n (by decide) hn
  have e : 4294967295 ^^^ n = 4294967295 - n := by
    apply Nat.eq_of_testBit_eq
    intro k
    rw [Nat.testBit_xor, show 4294967295 - n = 2 ^ 32 - (n + 1) by omega, Nat.testBit_two_pow_sub_succ hn, show 4294967295 = 2 ^ 32 - 1 from rfl, Nat.testBit_two_pow_sub_one]
    by_cases hk : k < 32
    · simp [hk]
    · rw [out_bit n k hn (by omega)]; simp [hk]
  rw [e] at h
  have hm : IntKind.u32.max = ((4294967295 : Nat) : Int) := by decide
  rw [hm, h]; omega
theorem d82 (a : Int) (ha : 0 ≤ a) (ha' : a < 4294967296) (w : World) : Calls Try.prog 82 #[.int .u32 a] w fun e w' => e = .returned (.int .u32 a) ∧ Below w.heap.size w w' := by
  go_enter Try.func82, Try.ntmps82
  go_wp2
  go_ret
  exact ret_B rfl (Below.refl _ _)
theorem d83 (a : Int) (ha : 0 ≤ a) (ha' : a < 4294967296) (w : World) : Calls Try.prog 83 #[.int .u32 a] w fun e w' => e = .returned (.int .u32 (-a % 4294967296)) ∧ Below w.heap.size w w' := by
  go_enter Try.func83, Try.ntmps83
  go_wp2
  go_ret
  exact ret_B rfl (Below.refl _ _)
theorem d84 (a : Int) (ha : 0 ≤ a) (ha' : a < 4294967296) (w : World) : Calls Try.prog 84 #[.int .u32 a] w fun e w' => e = .returned (.int .u32 (tr (a == 0))) ∧ Below w.heap.size w w' := by
  go_enter Try.func84, Try.ntmps84
  go_wp2_with (go_at_call 43; refine (truth_own _ _).mono ?_; rintro e w' ⟨rfl, rfl⟩)
  go_ret
  exact ret_B rfl (Below.refl _ _)
theorem d85 (a : Int) (ha : 0 ≤ a) (ha' : a < 4294967296) (w : World) : Calls Try.prog 85 #[.int .u32 a] w fun e w' => e = .returned (.int .u32 (4294967295 - a)) ∧ Below w.heap.size w w' := by
  have H := hid (not_word a ha ha')
  go_enter Try.func85, Try.ntmps85
  go_wp2
  go_ret
  exact ret_B H.out (Below.refl _ _)
theorem d86 (a : Int) (ha : 0 ≤ a) (ha' : a < 4294967296) (w : World) : Calls Try.prog 86 #[.int .u32 a] w fun e w' => e = .returned (.int .u32 (rv a)) ∧ Below w.heap.size w w' := by
  obtain ⟨n, rfl, hn⟩ := nat_of ha ha'
  exact (reverse_any n hn w).mono fun _ _ h => ⟨h.1, h.2 ▸ Below.refl _ _⟩
theorem d87 (a : Int) (ha : 0 ≤ a) (ha' : a < 4294967296) (w : World) : Calls Try.prog 87 #[.int .u32 a] w fun e w' => e = .returned (.int .u32 (pc (bit a) 32)) ∧ Below w.heap.size w w' := by
  have hc := ones_count a ha ha'
  have hb := pc_bd (bit a) (bit_bd a) 32
  generalize pc (bit a) 32 = c at *
  go_enter Try.func87, Try.ntmps87
  go_wp2_with (go_at_call 88; refine (hc _).mono ?_; rintro e w1 ⟨rfl, hB⟩)
  go_ret
  exact ret_B rfl hB
/-- The map that 'ones' makes. -/
def oneL : List (Int × Value) := [(83, .func (.func 82) #[] #[]), (124, .func (.func 82) #[] #[]), (126, .func (.func 83) #[] #[]), (168, .func (.func 84) #[] #[]), (200, .func (.func 85) #[] #[]), (204, .func (.func 86) #[] #[]), (205, .func (.func 87) #[] #[])]
theorem ones_any (w : World) : Calls Try.prog 37 #[] w fun e w' => e = .returned (.map (some w.heap.size)) ∧ w' = w.alloc (mapObj .u16 oneL) := by
  have hmm := @run_makeMap Try.prog
  go_enter Try.func37, Try.ntmps37
  go_wp2
  iterate 7
    (rw [run_ins 66 22 65 .u16 _ _ _ _ _ Try.underlying66 Try.underlying22 rfl]
     go_wp2)
  go_ret
  exact ⟨rfl, rfl⟩
theorem zero65 (w : World) : (zeroValue 65).run Try.prog w = .ok .nilFunc w := by kernel_rfl
theorem eql65_nil (w : World) : (binOp BinOp.eql 65 .nilFunc .nilFunc).run Try.prog w = .ok (.bool true) w := by kernel_rfl
theorem eql65_fv (n : Nat) (w : World) : (binOp BinOp.eql 65 (.func (.func n) #[] #[]) .nilFunc).run Try.prog w = .ok (.bool false) w := by kernel_rfl
theorem unary_own_none (op a : Int) (w : World) (h : at_ op oneL = none) :
    Calls Try.prog 18 #[.int .u16 op, .int .u32 a] w fun e w' => e = .returned (.tuple #[.int .u32 0, .bool false]) ∧ Below w.heap.size w w' := by
  have hl := look_none (P := Try.prog) 66 22 65 .u16 op .nilFunc oneL w Try.underlying66 Try.underlying22 zero65 h
  have he := eql65_nil
  go_enter Try.func18, Try.ntmps18
  go_wp2_with (go_at_call 37; refine (ones_any _).mono ?_; rintro e w' ⟨rfl, rfl⟩)
  go_ret2
  exact ⟨rfl, bal (Below.refl _ _) _⟩
theorem unary_own_some (op a x : Int) (n : Nat) (w : World) (h : at_ op oneL = some (.func (.func n) #[] #[]))
    (hcf : ∀ w, (callFunc n #[.int .u32 a]).run Try.prog w = .ok (.enter n #[.int .u32 a]) w)
    (hc : ∀ w, Calls Try.prog n #[.int .u32 a] w fun e w' => e = .returned (.int .u32 x) ∧ Below w.heap.size w w') :
    Calls Try.prog 18 #[.int .u16 op, .int .u32 a] w fun e w' => e = .returned (.tuple #[.int .u32 x, .bool true]) ∧ Below w.heap.size w w' := by
  have hl := look_some (P := Try.prog) 66 22 65 .u16 op _ oneL w Try.underlying66 Try.underlying22 h
  have he := eql65_fv n
  go_enter Try.func18, Try.ntmps18
  go_wp2_with (first | (go_at_call 37; refine (ones_any _).mono ?_; rintro e w' ⟨rfl, rfl⟩) | (refine (hc _).mono ?_; rintro e w' ⟨rfl, hB⟩))
  go_ret2
  exact ⟨rfl, bcall (bal (Below.refl _ _) _) hB⟩
theorem unary_own (op a : Int) (ha : 0 ≤ a) (ha' : a < 4294967296) (w : World) :
    Calls Try.prog 18 #[.int .u16 op, .int .u32 a] w fun e w' => e = .returned (.tuple #[.int .u32 (unS op a), .bool (isUn op)]) ∧ Below w.heap.size w w' := by
  by_cases h83 : op = 83
  · subst h83; exact unary_own_some _ _ _ 82 w rfl (fun _ => by kernel_rfl) (d82 a ha ha')
  by_cases h124 : op = 124
  · subst h124; exact unary_own_some _ _ _ 82 w rfl (fun _ => by kernel_rfl) (d82 a ha ha')
  by_cases h126 : op = 126
  · subst h126; exact unary_own_some _ _ _ 83 w rfl (fun _ => by kernel_rfl) (d83 a ha ha')
  by_cases h168 : op = 168
  · subst h168; exact unary_own_some _ _ _ 84 w rfl (fun _ => by kernel_rfl) (d84 a ha ha')
  by_cases h200 : op = 200
  · subst h200; exact unary_own_some _ _ _ 85 w rfl (fun _ => by kernel_rfl) (d85 a ha ha')
  by_cases h204 : op = 204
  · subst h204; exact unary_own_some _ _ _ 86 w rfl (fun _ => by kernel_rfl) (d86 a ha ha')
  by_cases h205 : op = 205
  · subst h205; exact unary_own_some _ _ _ 87 w rfl (fun _ => by kernel_rfl) (d87 a ha ha')
  have e1 : unS op a = 0 := by simp only [unS, if_neg h83, if_neg h124, if_neg h126, if_neg h168, if_neg h200, if_neg h204, if_neg h205]
  have e2 : isUn op = false := by simp [isUn, h83, h124, h126, h168, h200, h204, h205]
  rw [e1, e2]
  exact unary_own_none op a w (by simp only [at_, oneL, if_neg h83, if_neg h124, if_neg h126, if_neg h168, if_neg h200, if_neg h204, if_neg h205])
theorem pc_zero (a : Int) (ha : 0 ≤ a) (ha' : a < 4294967296) : (pc (bit a) 32 == 0) = (a == 0) := by
  by_cases h : a = 0
  · subst h; decide
  · have h1 : ¬ pc (bit a) 32 = 0 := by
      intro h2
      have key : ∀ n, pc (bit a) n = 0 → ∀ k, k < n → bit a k = 0 := by
        intro n
        induction n with
        | zero => intro _ k hk; omega
        | succ n ih =>
          intro hn k hk
          have b1 := pc_bd (bit a) (bit_bd a) n
          have b2 := bit_bd a n
          rw [pc] at hn
          by_cases e : k = n
          · subst e; omega
          · exact ih (by omega) k (by omega)
      have h3 := hv_bit a (bit a) ha ha' (fun _ _ => rfl)
      have h4 := hv_bit 0 (bit a) (by omega) (by omega) (fun k hk => by rw [key 32 h2 k hk]; unfold bit; simp)
      omega
    have e1 : (pc (bit a) 32 == 0) = false := by simpa using h1
    have e2 : (a == 0) = false := by simpa using h
    rw [e1, e2]
theorem not_is (a : Int) (ha : 0 ≤ a) (ha' : a < 4294967296) : hv (fun k => 1 - bit a k) 32 = 4294967295 - a := by
  refine hv_bit _ _ (by omega) (by omega) (fun k hk => ?_)
  obtain ⟨n, rfl, hn⟩ := nat_of ha ha'
  rw [show (4294967295 : Int) - (n : Int) = ((2 ^ 32 - (n + 1) : Nat) : Int) by omega, bit_nat, bit_nat, Nat.testBit_two_pow_sub_succ hn]
  cases n.testBit k <;> simp [hk]
set_option maxRecDepth 100000 in
theorem uref_83 (a : Int) (ha : 0 ≤ a) (ha' : a < 4294967296) (w : World) : Calls Try.prog 19 #[.int .u16 83, .int .u32 a] w fun e w' => e = .returned (.tuple #[.int .u32 (unS 83 a), .bool true]) ∧ Below w.heap.size w w' := by
  have hbits := bits_B a ha ha' w
  have hpb := pc_bd (bit a) (bit_bd a)
  go_enter Try.func19, Try.ntmps19
  go_wp2_with (first | (go_at_call 38; refine hbits.mono ?_; rintro e W1 ⟨rfl, hB⟩) | (refine wpList_store_row rfl 68 _ _ rfl W1.heap.size rfl 68 (row (fun _ => 0)) (row (bit a)) rfl (alloc_at _ _) (by rw [row_size]; exact info68) rfl (row_one _) ?_; rw [setRow_alloc]))
  clear hbits
  go_loop [8, 9] (fun n i => ∃ k : Nat, k ≤ 32 ∧ i = .int .i64 k ∧ n = .int .u32 (pc (bit a) k)) (fun _ i => 32 - (intOf i).toNat)
  case atStart =>
    exact ⟨0, by omega, rfl, rfl⟩
  case round =>
    obtain ⟨k, hk, rfl, rfl⟩ := hrel
    by_cases hlt : k < 32
    · have hcell := row_get (bit a) k hlt
      have hbb := bit_bd a k
      have hpk := hpb k
      go_wp2
      go_round
      case rel => exact ⟨k + 1, by omega, by go_num, rfl⟩
      case measure => simp [intOf]; omega
    · obtain rfl : k = 32 := by omega
      have hp32 := hpb 32
      clear hlt hk hpb
      go_wp2_with fail
      go_ret2
      exact ret_T rfl (bal (bal hB _) _)
set_option maxRecDepth 100000 in
theorem uref_124 (a : Int) (ha : 0 ≤ a) (ha' : a < 4294967296) (w : World) : Calls Try.prog 19 #[.int .u16 124, .int .u32 a] w fun e w' => e = .returned (.tuple #[.int .u32 (unS 124 a), .bool true]) ∧ Below w.heap.size w w' := by
  have hbits := bits_B a ha ha' w
  have hpb := pc_bd (bit a) (bit_bd a)
  go_enter Try.func19, Try.ntmps19
  go_wp2_with (first | (go_at_call 38; refine hbits.mono ?_; rintro e W1 ⟨rfl, hB⟩) | (refine wpList_store_row rfl 68 _ _ rfl W1.heap.size rfl 68 (row (fun _ => 0)) (row (bit a)) rfl (alloc_at _ _) (by rw [row_size]; exact info68) rfl (row_one _) ?_; rw [setRow_alloc]))
  clear hbits
  go_loop [8, 9] (fun n i => ∃ k : Nat, k ≤ 32 ∧ i = .int .i64 k ∧ n = .int .u32 (pc (bit a) k)) (fun _ i => 32 - (intOf i).toNat)
  case atStart =>
    exact ⟨0, by omega, rfl, rfl⟩
  case round =>
    obtain ⟨k, hk, rfl, rfl⟩ := hrel
    by_cases hlt : k < 32
    · have hcell := row_get (bit a) k hlt
      have hbb := bit_bd a k
      have hpk := hpb k
      go_wp2
      go_round
      case rel => exact ⟨k + 1, by omega, by go_num, rfl⟩
      case measure => simp [intOf]; omega
    · obtain rfl : k = 32 := by omega
      have hp32 := hpb 32
      clear hlt hk hpb
      go_wp2_with fail
      go_ret2
      exact ret_T rfl (bal (bal hB _) _)
set_option maxRecDepth 100000 in
theorem uref_126 (a : Int) (ha : 0 ≤ a) (ha' : a < 4294967296) (w : World) : Calls Try.prog 19 #[.int .u16 126, .int .u32 a] w fun e w' => e = .returned (.tuple #[.int .u32 (unS 126 a), .bool true]) ∧ Below w.heap.size w w' := by
  have hbits := bits_B a ha ha' w
  have hpb := pc_bd (bit a) (bit_bd a)
  go_enter Try.func19, Try.ntmps19
  go_wp2_with (first | (go_at_call 38; refine hbits.mono ?_; rintro e W1 ⟨rfl, hB⟩) | (refine wpList_store_row rfl 68 _ _ rfl W1.heap.size rfl 68 (row (fun _ => 0)) (row (bit a)) rfl (alloc_at _ _) (by rw [row_size]; exact info68) rfl (row_one _) ?_; rw [setRow_alloc]))
  clear hbits
  go_loop [8, 9] (fun n i => ∃ k : Nat, k ≤ 32 ∧ i = .int .i64 k ∧ n = .int .u32 (pc (bit a) k)) (fun _ i => 32 - (intOf i).toNat)
  case atStart =>
    exact ⟨0, by omega, rfl, rfl⟩
  case round =>
    obtain ⟨k, hk, rfl, rfl⟩ := hrel
    by_cases hlt : k < 32
    · have hcell := row_get (bit a) k hlt
      have hbb := bit_bd a k
      have hpk := hpb k
      go_wp2
      go_round
      case rel => exact ⟨k + 1, by omega, by go_num, rfl⟩
      case measure => simp [intOf]; omega
    · obtain rfl : k = 32 := by omega
      have hp32 := hpb 32
      clear hlt hk hpb
      go_wp2_with (go_at_call 29; refine (word_any _ _).mono ?_; rintro e w' ⟨rfl, rfl⟩)
      go_ret2
      exact ret_T rfl (bal (bal hB _) _)
set_option maxRecDepth 100000 in
theorem uref_168 (a : Int) (ha : 0 ≤ a) (ha' : a < 4294967296) (w : World) : Calls Try.prog 19 #[.int .u16 168, .int .u32 a] w fun e w' => e = .returned (.tuple #[.int .u32 (unS 168 a), .bool true]) ∧ Below w.heap.size w w' := by
  have hbits := bits_B a ha ha' w
  have hpb := pc_bd (bit a) (bit_bd a)
  go_enter Try.func19, Try.ntmps19
  go_wp2_with (first | (go_at_call 38; refine hbits.mono ?_; rintro e W1 ⟨rfl, hB⟩) | (refine wpList_store_row rfl 68 _ _ rfl W1.heap.size rfl 68 (row (fun _ => 0)) (row (bit a)) rfl (alloc_at _ _) (by rw [row_size]; exact info68) rfl (row_one _) ?_; rw [setRow_alloc]))
  clear hbits
  go_loop [8, 9] (fun n i => ∃ k : Nat, k ≤ 32 ∧ i = .int .i64 k ∧ n = .int .u32 (pc (bit a) k)) (fun _ i => 32 - (intOf i).toNat)
  case atStart =>
    exact ⟨0, by omega, rfl, rfl⟩
  case round =>
    obtain ⟨k, hk, rfl, rfl⟩ := hrel
    by_cases hlt : k < 32
    · have hcell := row_get (bit a) k hlt
      have hbb := bit_bd a k
      have hpk := hpb k
      go_wp2
      go_round
      case rel => exact ⟨k + 1, by omega, by go_num, rfl⟩
      case measure => simp [intOf]; omega
    · obtain rfl : k = 32 := by omega
      have hp32 := hpb 32
      clear hlt hk hpb
      go_wp2_with (go_at_call 30; refine (truth_ref _ _).mono ?_; rintro e w' ⟨rfl, rfl⟩)
      go_ret2
      exact ret_T (by show tr _ = tr (a == 0); rw [← pc_zero a ha ha']) (bal (bal hB _) _)
set_option maxRecDepth 100000 in
theorem uref_205 (a : Int) (ha : 0 ≤ a) (ha' : a < 4294967296) (w : World) : Calls Try.prog 19 #[.int .u16 205, .int .u32 a] w fun e w' => e = .returned (.tuple #[.int .u32 (unS 205 a), .bool true]) ∧ Below w.heap.size w w' := by
  have hbits := bits_B a ha ha' w
  have hpb := pc_bd (bit a) (bit_bd a)
  go_enter Try.func19, Try.ntmps19
  go_wp2_with (first | (go_at_call 38; refine hbits.mono ?_; rintro e W1 ⟨rfl, hB⟩) | (refine wpList_store_row rfl 68 _ _ rfl W1.heap.size rfl 68 (row (fun _ => 0)) (row (bit a)) rfl (alloc_at _ _) (by rw [row_size]; exact info68) rfl (row_one _) ?_; rw [setRow_alloc]))
  clear hbits
  go_loop [8, 9] (fun n i => ∃ k : Nat, k ≤ 32 ∧ i = .int .i64 k ∧ n = .int .u32 (pc (bit a) k)) (fun _ i => 32 - (intOf i).toNat)
  case atStart =>
    exact ⟨0, by omega, rfl, rfl⟩
  case round =>
    obtain ⟨k, hk, rfl, rfl⟩ := hrel
    by_cases hlt : k < 32
    · have hcell := row_get (bit a) k hlt
      have hbb := bit_bd a k
      have hpk := hpb k
      go_wp2
      go_round
      case rel => exact ⟨k + 1, by omega, by go_num, rfl⟩
      case measure => simp [intOf]; omega
    · obtain rfl : k = 32 := by omega
      have hp32 := hpb 32
      clear hlt hk hpb
      go_wp2_with fail
      go_ret2
      exact ret_T rfl (bal (bal hB _) _)
set_option maxRecDepth 100000 in
set_option maxHeartbeats 400000 in
theorem uref_200 (a : Int) (ha : 0 ≤ a) (ha' : a < 4294967296) (w : World) : Calls Try.prog 19 #[.int .u16 200, .int .u32 a] w fun e w' => e = .returned (.tuple #[.int .u32 (unS 200 a), .bool true]) ∧ Below w.heap.size w w' := by
  have hbits := bits_B a ha ha' w
  have hpb := pc_bd (bit a) (bit_bd a)
  go_enter Try.func19, Try.ntmps19
  go_wp2_with (first | (go_at_call 38; refine hbits.mono ?_; rintro e W1 ⟨rfl, hB⟩) | (refine wpList_store_row rfl 68 _ _ rfl W1.heap.size rfl 68 (row (fun _ => 0)) (row (bit a)) rfl (alloc_at _ _) (by rw [row_size]; exact info68) rfl (row_one _) ?_; rw [setRow_alloc]))
  clear hbits
  go_loop [8, 9] (fun n i => ∃ k : Nat, k ≤ 32 ∧ i = .int .i64 k ∧ n = .int .u32 (pc (bit a) k)) (fun _ i => 32 - (intOf i).toNat)
  case atStart =>
    exact ⟨0, by omega, rfl, rfl⟩
  case round =>
    obtain ⟨k, hk, rfl, rfl⟩ := hrel
    by_cases hlt : k < 32
    · have hcell := row_get (bit a) k hlt
      have hbb := bit_bd a k
      have hpk := hpb k
      go_wp2
      go_round
      case rel => exact ⟨k + 1, by omega, by go_num, rfl⟩
      case measure => simp [intOf]; omega
    · obtain rfl : k = 32 := by omega
      have hp32 := hpb 32
      clear hlt hk hpb
      go_wp2
      go_loopw [10] (fun i wr => ∃ k : Nat, k ≤ 32 ∧ i = .int .i64 k ∧ wr = (W1.alloc (.cells (row (bit a)) 68)).alloc (.cells (row (fun j => if j < k then (fun k => 1 - bit a k) j else 0)) 68)) (fun i _ => 32 - (intOf i).toNat)
      case atStart =>
        exact ⟨0, by omega, rfl, by rw [fill_none]; rfl⟩
      case round =>
        obtain ⟨k, hk, rfl, rfl⟩ := hrel
        by_cases hlt : k < 32
        · have hbb := bit_bd a (k)
          have hcell : (row (bit a))[k]? = some (.int .u32 (bit a (k))) := row_get _ _ (by omega)
          have hcell2 := row_get (fun j => if j < k then (fun k => 1 - bit a k) j else 0) k hlt
          have hset := row_set (fun j => if j < k then (fun k => 1 - bit a k) j else 0) k (1 - bit a k)
          have hnext := hid (fill_next (fun k => 1 - bit a k) k)
          go_wp2
          go_roundw
          case rel => exact ⟨k + 1, by omega, by go_num, by rw [hnext.out]⟩
          case measure => simp [intOf]; omega
        · obtain rfl : k = 32 := by omega
          rw [fill_whole]
          clear hlt hk
          have hof := of_B (fun k => 1 - bit a k) (fun k => by have := bit_bd a (k); omega)
          go_wp2_with (first | (go_at_call 39; refine (hof _).mono ?_; rintro e W2 ⟨rfl, hB2⟩) | (refine wpList_load_row rfl 68 _ rfl (W1.heap.size + 1) rfl 68 (row (fun k => 1 - bit a k)) _ _ (heap_alloc2_new _ _ _) Try.underlying68 rfl (by rw [row_size]; exact info68) ?_))
          go_ret2
          exact ret_T (not_is a ha ha') (bcall (bal (bal hB _) _) hB2)
set_option maxRecDepth 100000 in
set_option maxHeartbeats 400000 in
theorem uref_204 (a : Int) (ha : 0 ≤ a) (ha' : a < 4294967296) (w : World) : Calls Try.prog 19 #[.int .u16 204, .int .u32 a] w fun e w' => e = .returned (.tuple #[.int .u32 (unS 204 a), .bool true]) ∧ Below w.heap.size w w' := by
  have hbits := bits_B a ha ha' w
  have hpb := pc_bd (bit a) (bit_bd a)
  go_enter Try.func19, Try.ntmps19
  go_wp2_with (first | (go_at_call 38; refine hbits.mono ?_; rintro e W1 ⟨rfl, hB⟩) | (refine wpList_store_row rfl 68 _ _ rfl W1.heap.size rfl 68 (row (fun _ => 0)) (row (bit a)) rfl (alloc_at _ _) (by rw [row_size]; exact info68) rfl (row_one _) ?_; rw [setRow_alloc]))
  clear hbits
  go_loop [8, 9] (fun n i => ∃ k : Nat, k ≤ 32 ∧ i = .int .i64 k ∧ n = .int .u32 (pc (bit a) k)) (fun _ i => 32 - (intOf i).toNat)
  case atStart =>
    exact ⟨0, by omega, rfl, rfl⟩
  case round =>
    obtain ⟨k, hk, rfl, rfl⟩ := hrel
    by_cases hlt : k < 32
    · have hcell := row_get (bit a) k hlt
      have hbb := bit_bd a k
      have hpk := hpb k
      go_wp2
      go_round
      case rel => exact ⟨k + 1, by omega, by go_num, rfl⟩
      case measure => simp [intOf]; omega
    · obtain rfl : k = 32 := by omega
      have hp32 := hpb 32
      clear hlt hk hpb
      go_wp2
      go_loopw [11] (fun i wr => ∃ k : Nat, k ≤ 32 ∧ i = .int .i64 k ∧ wr = (W1.alloc (.cells (row (bit a)) 68)).alloc (.cells (row (fun j => if j < k then (fun k => bit a (31 - k)) j else 0)) 68)) (fun i _ => 32 - (intOf i).toNat)
      case atStart =>
        exact ⟨0, by omega, rfl, by rw [fill_none]; rfl⟩
      case round =>
        obtain ⟨k, hk, rfl, rfl⟩ := hrel
        by_cases hlt : k < 32
        · have hbb := bit_bd a (31 - k)
          have hcell : (row (bit a))[31 - k]? = some (.int .u32 (bit a (31 - k))) := row_get _ _ (by omega)
          have hidx : ((31 : Int) - k).toNat = 31 - k := by omega
          have hcell2 := row_get (fun j => if j < k then (fun k => bit a (31 - k)) j else 0) k hlt
          have hset := row_set (fun j => if j < k then (fun k => bit a (31 - k)) j else 0) k (bit a (31 - k))
          have hnext := hid (fill_next (fun k => bit a (31 - k)) k)
          go_wp2
          go_roundw
          case rel => exact ⟨k + 1, by omega, by go_num, by rw [hnext.out]⟩
          case measure => simp [intOf]; omega
        · obtain rfl : k = 32 := by omega
          rw [fill_whole]
          clear hlt hk
          have hof := of_B (fun k => bit a (31 - k)) (fun k => by have := bit_bd a (31 - k); omega)
          go_wp2_with (first | (go_at_call 39; refine (hof _).mono ?_; rintro e W2 ⟨rfl, hB2⟩) | (refine wpList_load_row rfl 68 _ rfl (W1.heap.size + 1) rfl 68 (row (fun k => bit a (31 - k))) _ _ (heap_alloc2_new _ _ _) Try.underlying68 rfl (by rw [row_size]; exact info68) ?_))
          go_ret2
          exact ret_T (rfl) (bcall (bal (bal hB _) _) hB2)
set_option maxRecDepth 100000 in
theorem uref_none (op a : Int) (ha : 0 ≤ a) (ha' : a < 4294967296) (w : World) (h83 : (op == 83) = false) (h124 : (op == 124) = false) (h126 : (op == 126) = false) (h168 : (op == 168) = false) (h200 : (op == 200) = false) (h204 : (op == 204) = false) (h205 : (op == 205) = false) : Calls Try.prog 19 #[.int .u16 op, .int .u32 a] w fun e w' => e = .returned (.tuple #[.int .u32 0, .bool false]) ∧ Below w.heap.size w w' := by
  have hbits := bits_B a ha ha' w
  have hpb := pc_bd (bit a) (bit_bd a)
  go_enter Try.func19, Try.ntmps19
  go_wp2_with (first | (go_at_call 38; refine hbits.mono ?_; rintro e W1 ⟨rfl, hB⟩) | (refine wpList_store_row rfl 68 _ _ rfl W1.heap.size rfl 68 (row (fun _ => 0)) (row (bit a)) rfl (alloc_at _ _) (by rw [row_size]; exact info68) rfl (row_one _) ?_; rw [setRow_alloc]))
  clear hbits
  go_loop [8, 9] (fun n i => ∃ k : Nat, k ≤ 32 ∧ i = .int .i64 k ∧ n = .int .u32 (pc (bit a) k)) (fun _ i => 32 - (intOf i).toNat)
  case atStart =>
    exact ⟨0, by omega, rfl, rfl⟩
  case round =>
    obtain ⟨k, hk, rfl, rfl⟩ := hrel
    by_cases hlt : k < 32
    · have hcell := row_get (bit a) k hlt
      have hbb := bit_bd a k
      have hpk := hpb k
      go_wp2
      go_round
      case rel => exact ⟨k + 1, by omega, by go_num, rfl⟩
      case measure => simp [intOf]; omega
    · obtain rfl : k = 32 := by omega
      have hp32 := hpb 32
      clear hlt hk hpb
      go_wp2
      go_ret2
      exact ⟨rfl, bal (bal hB _) _⟩
theorem unary_ref (op a : Int) (ha : 0 ≤ a) (ha' : a < 4294967296) (w : World) :
    Calls Try.prog 19 #[.int .u16 op, .int .u32 a] w fun e w' => e = .returned (.tuple #[.int .u32 (unS op a), .bool (isUn op)]) ∧ Below w.heap.size w w' := by
  by_cases h83 : op = 83
  · subst h83; exact uref_83 a ha ha' w
  by_cases h124 : op = 124
  · subst h124; exact uref_124 a ha ha' w
  by_cases h126 : op = 126
  · subst h126; exact uref_126 a ha ha' w
  by_cases h168 : op = 168
  · subst h168; exact uref_168 a ha ha' w
  by_cases h200 : op = 200
  · subst h200; exact uref_200 a ha ha' w
  by_cases h204 : op = 204
  · subst h204; exact uref_204 a ha ha' w
  by_cases h205 : op = 205
  · subst h205; exact uref_205 a ha ha' w
  have e1 : unS op a = 0 := by simp only [unS, if_neg h83, if_neg h124, if_neg h126, if_neg h168, if_neg h200, if_neg h204, if_neg h205]
  have e2 : isUn op = false := by simp [isUn, h83, h124, h126, h168, h200, h204, h205]
  rw [e1, e2]
  exact uref_none op a ha ha' w (by simpa using h83) (by simpa using h124) (by simpa using h126) (by simpa using h168) (by simpa using h200) (by simpa using h204) (by simpa using h205)
end Go.Proofs.Ytlheggnoegedcaa
