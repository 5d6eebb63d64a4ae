/- The walk of 'ArithOrders'. -/
import Derived.Test.YtlheggnoegedcaaDivides
namespace Go.Proofs.Ytlheggnoegedcaa
set_option linter.unusedVariables false
open Go.ChangeShapes Go.WideShapes Go.ChangeAt Go.RowKit
theorem top_lt (a b : Int) (ha : 0 ≤ a) (ha' : a < 4294967296) (hb : 0 ≤ b) (hb' : b < 4294967296) : ((a + 2147483648) % 4294967296 < (b + 2147483648) % 4294967296) ↔ sg a < sg b := by
  unfold sg; split <;> split <;> omega
theorem lits2 (w : World) : Two 176 1 2 1 ∧ Two 177 4294967295 0 1 :=
  ⟨two_any _ _ _ _ (by decide) (by decide) (by decide) (by decide) (by decide), two_any _ _ _ _ (by decide) (by decide) (by decide) (by decide) (by decide)⟩
theorem tr_t {p : Prop} [Decidable p] (h : p) : tr (decide p) = 1 := by simp [tr, h]
theorem tr_f {p : Prop} [Decidable p] (h : ¬ p) : tr (decide p) = 0 := by simp [tr, h]
theorem trb_t {b : Bool} (h : b = true) : tr b = 1 := by simp [tr, h]
theorem trb_f {b : Bool} (h : b = false) : tr b = 0 := by simp [tr, h]
set_option maxRecDepth 100000 in
set_option maxHeartbeats 2000000 in
theorem orders_0 (a b : Int) (ha : 0 ≤ a) (ha' : a < 4294967296) (hb : 0 ≤ b) (hb' : b < 4294967296) (hu : a < b) (hv : sg a < sg b) (w : World) :
    Calls Try.prog 7 #[.int .u32 a, .int .u32 b] w fun e w' => e = .returned (.bool true) ∧ Below w.heap.size w w' := by
  obtain ⟨l1, l2⟩ := lits2 w
  have ht := top_lt a b ha ha' hb hb'
  have k170 := two_any 170 a b 0 ha ha' hb hb' (by show tr (a == b) = _; exact trb_f (by simp; omega))
  have k171 := two_any 171 a b 1 ha ha' hb hb' (by show tr (a != b) = _; exact trb_t (by simp; omega))
  have k172 := two_any 172 a b 0 ha ha' hb hb' (by show tr (decide (b < a)) = _; exact trb_f (by simp; omega))
  have k174 := two_any 174 a b 0 ha ha' hb hb' (by show tr (decide (b ≤ a)) = _; exact trb_f (by simp; omega))
  have k176 := two_any 176 a b 1 ha ha' hb hb' (by show tr (decide (a < b)) = _; exact trb_t (by simp; omega))
  have k178 := two_any 178 a b 1 ha ha' hb hb' (by show tr (decide (a ≤ b)) = _; exact trb_t (by simp; omega))
  have k173 := two_any 173 a b 0 ha ha' hb hb' (by show tr (decide (sg b < sg a)) = _; exact trb_f (by simp; omega))
  have k175 := two_any 175 a b 0 ha ha' hb hb' (by show tr (decide (sg b ≤ sg a)) = _; exact trb_f (by simp; omega))
  have k177 := two_any 177 a b 1 ha ha' hb hb' (by show tr (decide (sg a < sg b)) = _; exact trb_t (by simp; omega))
  have k179 := two_any 179 a b 1 ha ha' hb hb' (by show tr (decide (sg a ≤ sg b)) = _; exact trb_t (by simp; omega))
  have j1 := two_any 128 a 2147483648 _ ha ha' (by decide) (by decide) rfl
  have j2 := two_any 128 b 2147483648 _ hb hb' (by decide) (by decide) rfl
  have j3 := two_any 176 ((a + 2147483648) % 4294967296) ((b + 2147483648) % 4294967296) 1 (by omega) (by omega) (by omega) (by omega) (by show tr (decide _) = _; exact tr_t (by omega))
  change Two 128 a _ ((a + 2147483648) % 4294967296) at j1
  change Two 128 b _ ((b + 2147483648) % 4294967296) at j2
  have j4 := two_any 176 b a 0 hb hb' ha ha' (by show tr (decide _) = _; exact tr_f (by omega))
  generalize (a + 2147483648) % 4294967296 = x at j1 j3 ht
  generalize (b + 2147483648) % 4294967296 = y at j2 j3 ht
  clear ht hu hv
  have hB := Below.refl w.heap.size w
  go_enter Try.func7, Try.ntmps7
  go_wp2_with (first | (go_at_call 17; (with_reducible refine (Two.call l1 _).mono ?_); rintro e w1 ⟨rfl, hn⟩; replace hB := bcall hB hn; clear hn) | (go_at_call 17; (with_reducible refine (Two.call l2 _).mono ?_); rintro e w1 ⟨rfl, hn⟩; replace hB := bcall hB hn; clear hn) | (go_at_call 17; (with_reducible refine (Two.call k170 _).mono ?_); rintro e w1 ⟨rfl, hn⟩; replace hB := bcall hB hn; clear hn) | (go_at_call 17; (with_reducible refine (Two.call k171 _).mono ?_); rintro e w1 ⟨rfl, hn⟩; replace hB := bcall hB hn; clear hn) | (go_at_call 17; (with_reducible refine (Two.call k172 _).mono ?_); rintro e w1 ⟨rfl, hn⟩; replace hB := bcall hB hn; clear hn) | (go_at_call 17; (with_reducible refine (Two.call k174 _).mono ?_); rintro e w1 ⟨rfl, hn⟩; replace hB := bcall hB hn; clear hn) | (go_at_call 17; (with_reducible refine (Two.call k176 _).mono ?_); rintro e w1 ⟨rfl, hn⟩; replace hB := bcall hB hn; clear hn) | (go_at_call 17; (with_reducible refine (Two.call k178 _).mono ?_); rintro e w1 ⟨rfl, hn⟩; replace hB := bcall hB hn; clear hn) | (go_at_call 17; (with_reducible refine (Two.call k173 _).mono ?_); rintro e w1 ⟨rfl, hn⟩; replace hB := bcall hB hn; clear hn) | (go_at_call 17; (with_reducible refine (Two.call k175 _).mono ?_); rintro e w1 ⟨rfl, hn⟩; replace hB := bcall hB hn; clear hn) | (go_at_call 17; (with_reducible refine (Two.call k177 _).mono ?_); rintro e w1 ⟨rfl, hn⟩; replace hB := bcall hB hn; clear hn) | (go_at_call 17; (with_reducible refine (Two.call k179 _).mono ?_); rintro e w1 ⟨rfl, hn⟩; replace hB := bcall hB hn; clear hn) | (go_at_call 17; (with_reducible refine (Two.call j1 _).mono ?_); rintro e w1 ⟨rfl, hn⟩; replace hB := bcall hB hn; clear hn) | (go_at_call 17; (with_reducible refine (Two.call j2 _).mono ?_); rintro e w1 ⟨rfl, hn⟩; replace hB := bcall hB hn; clear hn) | (go_at_call 17; (with_reducible refine (Two.call j3 _).mono ?_); rintro e w1 ⟨rfl, hn⟩; replace hB := bcall hB hn; clear hn) | (go_at_call 17; (with_reducible refine (Two.call j4 _).mono ?_); rintro e w1 ⟨rfl, hn⟩; replace hB := bcall hB hn; clear hn))
  go_ret
  exact ⟨rfl, hB⟩
set_option maxRecDepth 100000 in
set_option maxHeartbeats 2000000 in
theorem orders_1 (a b : Int) (ha : 0 ≤ a) (ha' : a < 4294967296) (hb : 0 ≤ b) (hb' : b < 4294967296) (hu : a < b) (hv : sg b < sg a) (w : World) :
    Calls Try.prog 7 #[.int .u32 a, .int .u32 b] w fun e w' => e = .returned (.bool true) ∧ Below w.heap.size w w' := by
  obtain ⟨l1, l2⟩ := lits2 w
  have ht := top_lt a b ha ha' hb hb'
  have k170 := two_any 170 a b 0 ha ha' hb hb' (by show tr (a == b) = _; exact trb_f (by simp; omega))
  have k171 := two_any 171 a b 1 ha ha' hb hb' (by show tr (a != b) = _; exact trb_t (by simp; omega))
  have k172 := two_any 172 a b 0 ha ha' hb hb' (by show tr (decide (b < a)) = _; exact trb_f (by simp; omega))
  have k174 := two_any 174 a b 0 ha ha' hb hb' (by show tr (decide (b ≤ a)) = _; exact trb_f (by simp; omega))
  have k176 := two_any 176 a b 1 ha ha' hb hb' (by show tr (decide (a < b)) = _; exact trb_t (by simp; omega))
  have k178 := two_any 178 a b 1 ha ha' hb hb' (by show tr (decide (a ≤ b)) = _; exact trb_t (by simp; omega))
  have k173 := two_any 173 a b 1 ha ha' hb hb' (by show tr (decide (sg b < sg a)) = _; exact trb_t (by simp; omega))
  have k175 := two_any 175 a b 1 ha ha' hb hb' (by show tr (decide (sg b ≤ sg a)) = _; exact trb_t (by simp; omega))
  have k177 := two_any 177 a b 0 ha ha' hb hb' (by show tr (decide (sg a < sg b)) = _; exact trb_f (by simp; omega))
  have k179 := two_any 179 a b 0 ha ha' hb hb' (by show tr (decide (sg a ≤ sg b)) = _; exact trb_f (by simp; omega))
  have j1 := two_any 128 a 2147483648 _ ha ha' (by decide) (by decide) rfl
  have j2 := two_any 128 b 2147483648 _ hb hb' (by decide) (by decide) rfl
  have j3 := two_any 176 ((a + 2147483648) % 4294967296) ((b + 2147483648) % 4294967296) 0 (by omega) (by omega) (by omega) (by omega) (by show tr (decide _) = _; exact tr_f (by omega))
  change Two 128 a _ ((a + 2147483648) % 4294967296) at j1
  change Two 128 b _ ((b + 2147483648) % 4294967296) at j2
  have j4 := two_any 176 b a 0 hb hb' ha ha' (by show tr (decide _) = _; exact tr_f (by omega))
  generalize (a + 2147483648) % 4294967296 = x at j1 j3 ht
  generalize (b + 2147483648) % 4294967296 = y at j2 j3 ht
  clear ht hu hv
  have hB := Below.refl w.heap.size w
  go_enter Try.func7, Try.ntmps7
  go_wp2_with (first | (go_at_call 17; (with_reducible refine (Two.call l1 _).mono ?_); rintro e w1 ⟨rfl, hn⟩; replace hB := bcall hB hn; clear hn) | (go_at_call 17; (with_reducible refine (Two.call l2 _).mono ?_); rintro e w1 ⟨rfl, hn⟩; replace hB := bcall hB hn; clear hn) | (go_at_call 17; (with_reducible refine (Two.call k170 _).mono ?_); rintro e w1 ⟨rfl, hn⟩; replace hB := bcall hB hn; clear hn) | (go_at_call 17; (with_reducible refine (Two.call k171 _).mono ?_); rintro e w1 ⟨rfl, hn⟩; replace hB := bcall hB hn; clear hn) | (go_at_call 17; (with_reducible refine (Two.call k172 _).mono ?_); rintro e w1 ⟨rfl, hn⟩; replace hB := bcall hB hn; clear hn) | (go_at_call 17; (with_reducible refine (Two.call k174 _).mono ?_); rintro e w1 ⟨rfl, hn⟩; replace hB := bcall hB hn; clear hn) | (go_at_call 17; (with_reducible refine (Two.call k176 _).mono ?_); rintro e w1 ⟨rfl, hn⟩; replace hB := bcall hB hn; clear hn) | (go_at_call 17; (with_reducible refine (Two.call k178 _).mono ?_); rintro e w1 ⟨rfl, hn⟩; replace hB := bcall hB hn; clear hn) | (go_at_call 17; (with_reducible refine (Two.call k173 _).mono ?_); rintro e w1 ⟨rfl, hn⟩; replace hB := bcall hB hn; clear hn) | (go_at_call 17; (with_reducible refine (Two.call k175 _).mono ?_); rintro e w1 ⟨rfl, hn⟩; replace hB := bcall hB hn; clear hn) | (go_at_call 17; (with_reducible refine (Two.call k177 _).mono ?_); rintro e w1 ⟨rfl, hn⟩; replace hB := bcall hB hn; clear hn) | (go_at_call 17; (with_reducible refine (Two.call k179 _).mono ?_); rintro e w1 ⟨rfl, hn⟩; replace hB := bcall hB hn; clear hn) | (go_at_call 17; (with_reducible refine (Two.call j1 _).mono ?_); rintro e w1 ⟨rfl, hn⟩; replace hB := bcall hB hn; clear hn) | (go_at_call 17; (with_reducible refine (Two.call j2 _).mono ?_); rintro e w1 ⟨rfl, hn⟩; replace hB := bcall hB hn; clear hn) | (go_at_call 17; (with_reducible refine (Two.call j3 _).mono ?_); rintro e w1 ⟨rfl, hn⟩; replace hB := bcall hB hn; clear hn) | (go_at_call 17; (with_reducible refine (Two.call j4 _).mono ?_); rintro e w1 ⟨rfl, hn⟩; replace hB := bcall hB hn; clear hn))
  go_ret
  exact ⟨rfl, hB⟩
set_option maxRecDepth 100000 in
set_option maxHeartbeats 2000000 in
theorem orders_2 (a b : Int) (ha : 0 ≤ a) (ha' : a < 4294967296) (hb : 0 ≤ b) (hb' : b < 4294967296) (hu : b < a) (hv : sg a < sg b) (w : World) :
    Calls Try.prog 7 #[.int .u32 a, .int .u32 b] w fun e w' => e = .returned (.bool true) ∧ Below w.heap.size w w' := by
  obtain ⟨l1, l2⟩ := lits2 w
  have ht := top_lt a b ha ha' hb hb'
  have k170 := two_any 170 a b 0 ha ha' hb hb' (by show tr (a == b) = _; exact trb_f (by simp; omega))
  have k171 := two_any 171 a b 1 ha ha' hb hb' (by show tr (a != b) = _; exact trb_t (by simp; omega))
  have k172 := two_any 172 a b 1 ha ha' hb hb' (by show tr (decide (b < a)) = _; exact trb_t (by simp; omega))
  have k174 := two_any 174 a b 1 ha ha' hb hb' (by show tr (decide (b ≤ a)) = _; exact trb_t (by simp; omega))
  have k176 := two_any 176 a b 0 ha ha' hb hb' (by show tr (decide (a < b)) = _; exact trb_f (by simp; omega))
  have k178 := two_any 178 a b 0 ha ha' hb hb' (by show tr (decide (a ≤ b)) = _; exact trb_f (by simp; omega))
  have k173 := two_any 173 a b 0 ha ha' hb hb' (by show tr (decide (sg b < sg a)) = _; exact trb_f (by simp; omega))
  have k175 := two_any 175 a b 0 ha ha' hb hb' (by show tr (decide (sg b ≤ sg a)) = _; exact trb_f (by simp; omega))
  have k177 := two_any 177 a b 1 ha ha' hb hb' (by show tr (decide (sg a < sg b)) = _; exact trb_t (by simp; omega))
  have k179 := two_any 179 a b 1 ha ha' hb hb' (by show tr (decide (sg a ≤ sg b)) = _; exact trb_t (by simp; omega))
  have j1 := two_any 128 a 2147483648 _ ha ha' (by decide) (by decide) rfl
  have j2 := two_any 128 b 2147483648 _ hb hb' (by decide) (by decide) rfl
  have j3 := two_any 176 ((a + 2147483648) % 4294967296) ((b + 2147483648) % 4294967296) 1 (by omega) (by omega) (by omega) (by omega) (by show tr (decide _) = _; exact tr_t (by omega))
  change Two 128 a _ ((a + 2147483648) % 4294967296) at j1
  change Two 128 b _ ((b + 2147483648) % 4294967296) at j2
  have j4 := two_any 176 b a 1 hb hb' ha ha' (by show tr (decide _) = _; exact tr_t (by omega))
  generalize (a + 2147483648) % 4294967296 = x at j1 j3 ht
  generalize (b + 2147483648) % 4294967296 = y at j2 j3 ht
  clear ht hu hv
  have hB := Below.refl w.heap.size w
  go_enter Try.func7, Try.ntmps7
  go_wp2_with (first | (go_at_call 17; (with_reducible refine (Two.call l1 _).mono ?_); rintro e w1 ⟨rfl, hn⟩; replace hB := bcall hB hn; clear hn) | (go_at_call 17; (with_reducible refine (Two.call l2 _).mono ?_); rintro e w1 ⟨rfl, hn⟩; replace hB := bcall hB hn; clear hn) | (go_at_call 17; (with_reducible refine (Two.call k170 _).mono ?_); rintro e w1 ⟨rfl, hn⟩; replace hB := bcall hB hn; clear hn) | (go_at_call 17; (with_reducible refine (Two.call k171 _).mono ?_); rintro e w1 ⟨rfl, hn⟩; replace hB := bcall hB hn; clear hn) | (go_at_call 17; (with_reducible refine (Two.call k172 _).mono ?_); rintro e w1 ⟨rfl, hn⟩; replace hB := bcall hB hn; clear hn) | (go_at_call 17; (with_reducible refine (Two.call k174 _).mono ?_); rintro e w1 ⟨rfl, hn⟩; replace hB := bcall hB hn; clear hn) | (go_at_call 17; (with_reducible refine (Two.call k176 _).mono ?_); rintro e w1 ⟨rfl, hn⟩; replace hB := bcall hB hn; clear hn) | (go_at_call 17; (with_reducible refine (Two.call k178 _).mono ?_); rintro e w1 ⟨rfl, hn⟩; replace hB := bcall hB hn; clear hn) | (go_at_call 17; (with_reducible refine (Two.call k173 _).mono ?_); rintro e w1 ⟨rfl, hn⟩; replace hB := bcall hB hn; clear hn) | (go_at_call 17; (with_reducible refine (Two.call k175 _).mono ?_); rintro e w1 ⟨rfl, hn⟩; replace hB := bcall hB hn; clear hn) | (go_at_call 17; (with_reducible refine (Two.call k177 _).mono ?_); rintro e w1 ⟨rfl, hn⟩; replace hB := bcall hB hn; clear hn) | (go_at_call 17; (with_reducible refine (Two.call k179 _).mono ?_); rintro e w1 ⟨rfl, hn⟩; replace hB := bcall hB hn; clear hn) | (go_at_call 17; (with_reducible refine (Two.call j1 _).mono ?_); rintro e w1 ⟨rfl, hn⟩; replace hB := bcall hB hn; clear hn) | (go_at_call 17; (with_reducible refine (Two.call j2 _).mono ?_); rintro e w1 ⟨rfl, hn⟩; replace hB := bcall hB hn; clear hn) | (go_at_call 17; (with_reducible refine (Two.call j3 _).mono ?_); rintro e w1 ⟨rfl, hn⟩; replace hB := bcall hB hn; clear hn) | (go_at_call 17; (with_reducible refine (Two.call j4 _).mono ?_); rintro e w1 ⟨rfl, hn⟩; replace hB := bcall hB hn; clear hn))
  go_ret
  exact ⟨rfl, hB⟩
set_option maxRecDepth 100000 in
set_option maxHeartbeats 2000000 in
theorem orders_3 (a b : Int) (ha : 0 ≤ a) (ha' : a < 4294967296) (hb : 0 ≤ b) (hb' : b < 4294967296) (hu : b < a) (hv : sg b < sg a) (w : World) :
    Calls Try.prog 7 #[.int .u32 a, .int .u32 b] w fun e w' => e = .returned (.bool true) ∧ Below w.heap.size w w' := by
  obtain ⟨l1, l2⟩ := lits2 w
  have ht := top_lt a b ha ha' hb hb'
  have k170 := two_any 170 a b 0 ha ha' hb hb' (by show tr (a == b) = _; exact trb_f (by simp; omega))
  have k171 := two_any 171 a b 1 ha ha' hb hb' (by show tr (a != b) = _; exact trb_t (by simp; omega))
  have k172 := two_any 172 a b 1 ha ha' hb hb' (by show tr (decide (b < a)) = _; exact trb_t (by simp; omega))
  have k174 := two_any 174 a b 1 ha ha' hb hb' (by show tr (decide (b ≤ a)) = _; exact trb_t (by simp; omega))
  have k176 := two_any 176 a b 0 ha ha' hb hb' (by show tr (decide (a < b)) = _; exact trb_f (by simp; omega))
  have k178 := two_any 178 a b 0 ha ha' hb hb' (by show tr (decide (a ≤ b)) = _; exact trb_f (by simp; omega))
  have k173 := two_any 173 a b 1 ha ha' hb hb' (by show tr (decide (sg b < sg a)) = _; exact trb_t (by simp; omega))
  have k175 := two_any 175 a b 1 ha ha' hb hb' (by show tr (decide (sg b ≤ sg a)) = _; exact trb_t (by simp; omega))
  have k177 := two_any 177 a b 0 ha ha' hb hb' (by show tr (decide (sg a < sg b)) = _; exact trb_f (by simp; omega))
  have k179 := two_any 179 a b 0 ha ha' hb hb' (by show tr (decide (sg a ≤ sg b)) = _; exact trb_f (by simp; omega))
  have j1 := two_any 128 a 2147483648 _ ha ha' (by decide) (by decide) rfl
  have j2 := two_any 128 b 2147483648 _ hb hb' (by decide) (by decide) rfl
  have j3 := two_any 176 ((a + 2147483648) % 4294967296) ((b + 2147483648) % 4294967296) 0 (by omega) (by omega) (by omega) (by omega) (by show tr (decide _) = _; exact tr_f (by omega))
  change Two 128 a _ ((a + 2147483648) % 4294967296) at j1
  change Two 128 b _ ((b + 2147483648) % 4294967296) at j2
  have j4 := two_any 176 b a 1 hb hb' ha ha' (by show tr (decide _) = _; exact tr_t (by omega))
  generalize (a + 2147483648) % 4294967296 = x at j1 j3 ht
  generalize (b + 2147483648) % 4294967296 = y at j2 j3 ht
  clear ht hu hv
  have hB := Below.refl w.heap.size w
  go_enter Try.func7, Try.ntmps7
  go_wp2_with (first | (go_at_call 17; (with_reducible refine (Two.call l1 _).mono ?_); rintro e w1 ⟨rfl, hn⟩; replace hB := bcall hB hn; clear hn) | (go_at_call 17; (with_reducible refine (Two.call l2 _).mono ?_); rintro e w1 ⟨rfl, hn⟩; replace hB := bcall hB hn; clear hn) | (go_at_call 17; (with_reducible refine (Two.call k170 _).mono ?_); rintro e w1 ⟨rfl, hn⟩; replace hB := bcall hB hn; clear hn) | (go_at_call 17; (with_reducible refine (Two.call k171 _).mono ?_); rintro e w1 ⟨rfl, hn⟩; replace hB := bcall hB hn; clear hn) | (go_at_call 17; (with_reducible refine (Two.call k172 _).mono ?_); rintro e w1 ⟨rfl, hn⟩; replace hB := bcall hB hn; clear hn) | (go_at_call 17; (with_reducible refine (Two.call k174 _).mono ?_); rintro e w1 ⟨rfl, hn⟩; replace hB := bcall hB hn; clear hn) | (go_at_call 17; (with_reducible refine (Two.call k176 _).mono ?_); rintro e w1 ⟨rfl, hn⟩; replace hB := bcall hB hn; clear hn) | (go_at_call 17; (with_reducible refine (Two.call k178 _).mono ?_); rintro e w1 ⟨rfl, hn⟩; replace hB := bcall hB hn; clear hn) | (go_at_call 17; (with_reducible refine (Two.call k173 _).mono ?_); rintro e w1 ⟨rfl, hn⟩; replace hB := bcall hB hn; clear hn) | (go_at_call 17; (with_reducible refine (Two.call k175 _).mono ?_); rintro e w1 ⟨rfl, hn⟩; replace hB := bcall hB hn; clear hn) | (go_at_call 17; (with_reducible refine (Two.call k177 _).mono ?_); rintro e w1 ⟨rfl, hn⟩; replace hB := bcall hB hn; clear hn) | (go_at_call 17; (with_reducible refine (Two.call k179 _).mono ?_); rintro e w1 ⟨rfl, hn⟩; replace hB := bcall hB hn; clear hn) | (go_at_call 17; (with_reducible refine (Two.call j1 _).mono ?_); rintro e w1 ⟨rfl, hn⟩; replace hB := bcall hB hn; clear hn) | (go_at_call 17; (with_reducible refine (Two.call j2 _).mono ?_); rintro e w1 ⟨rfl, hn⟩; replace hB := bcall hB hn; clear hn) | (go_at_call 17; (with_reducible refine (Two.call j3 _).mono ?_); rintro e w1 ⟨rfl, hn⟩; replace hB := bcall hB hn; clear hn) | (go_at_call 17; (with_reducible refine (Two.call j4 _).mono ?_); rintro e w1 ⟨rfl, hn⟩; replace hB := bcall hB hn; clear hn))
  go_ret
  exact ⟨rfl, hB⟩
set_option maxRecDepth 100000 in
set_option maxHeartbeats 2000000 in
theorem orders_eq (a : Int) (ha : 0 ≤ a) (ha' : a < 4294967296) (w : World) :
    Calls Try.prog 7 #[.int .u32 a, .int .u32 a] w fun e w' => e = .returned (.bool true) ∧ Below w.heap.size w w' := by
  obtain ⟨l1, l2⟩ := lits2 w
  have k170 := two_any 170 a a 1 ha ha' ha ha' (by show tr (a == a) = _; exact trb_t (by simp))
  have k171 := two_any 171 a a 0 ha ha' ha ha' (by show tr (a != a) = _; exact trb_f (by simp))
  have k172 := two_any 172 a a 0 ha ha' ha ha' (by show tr (decide (a < a)) = _; exact trb_f (by simp))
  have k174 := two_any 174 a a 1 ha ha' ha ha' (by show tr (decide (a ≤ a)) = _; exact trb_t (by simp))
  have k176 := two_any 176 a a 0 ha ha' ha ha' (by show tr (decide (a < a)) = _; exact trb_f (by simp))
  have k178 := two_any 178 a a 1 ha ha' ha ha' (by show tr (decide (a ≤ a)) = _; exact trb_t (by simp))
  have k173 := two_any 173 a a 0 ha ha' ha ha' (by show tr (decide (sg a < sg a)) = _; exact trb_f (by simp))
  have k175 := two_any 175 a a 1 ha ha' ha ha' (by show tr (decide (sg a ≤ sg a)) = _; exact trb_t (by simp))
  have k177 := two_any 177 a a 0 ha ha' ha ha' (by show tr (decide (sg a < sg a)) = _; exact trb_f (by simp))
  have k179 := two_any 179 a a 1 ha ha' ha ha' (by show tr (decide (sg a ≤ sg a)) = _; exact trb_t (by simp))
  have j1 := two_any 128 a 2147483648 _ ha ha' (by decide) (by decide) rfl
  change Two 128 a _ ((a + 2147483648) % 4294967296) at j1
  have j3 := two_any 176 ((a + 2147483648) % 4294967296) ((a + 2147483648) % 4294967296) 0 (by omega) (by omega) (by omega) (by omega) (by show tr (decide _) = _; exact tr_f (by omega))
  generalize (a + 2147483648) % 4294967296 = x at j1 j3
  have hB := Below.refl w.heap.size w
  go_enter Try.func7, Try.ntmps7
  go_wp2_with (first | (go_at_call 17; (with_reducible refine (Two.call l1 _).mono ?_); rintro e w1 ⟨rfl, hn⟩; replace hB := bcall hB hn; clear hn) | (go_at_call 17; (with_reducible refine (Two.call l2 _).mono ?_); rintro e w1 ⟨rfl, hn⟩; replace hB := bcall hB hn; clear hn) | (go_at_call 17; (with_reducible refine (Two.call k170 _).mono ?_); rintro e w1 ⟨rfl, hn⟩; replace hB := bcall hB hn; clear hn) | (go_at_call 17; (with_reducible refine (Two.call k171 _).mono ?_); rintro e w1 ⟨rfl, hn⟩; replace hB := bcall hB hn; clear hn) | (go_at_call 17; (with_reducible refine (Two.call k172 _).mono ?_); rintro e w1 ⟨rfl, hn⟩; replace hB := bcall hB hn; clear hn) | (go_at_call 17; (with_reducible refine (Two.call k174 _).mono ?_); rintro e w1 ⟨rfl, hn⟩; replace hB := bcall hB hn; clear hn) | (go_at_call 17; (with_reducible refine (Two.call k176 _).mono ?_); rintro e w1 ⟨rfl, hn⟩; replace hB := bcall hB hn; clear hn) | (go_at_call 17; (with_reducible refine (Two.call k178 _).mono ?_); rintro e w1 ⟨rfl, hn⟩; replace hB := bcall hB hn; clear hn) | (go_at_call 17; (with_reducible refine (Two.call k173 _).mono ?_); rintro e w1 ⟨rfl, hn⟩; replace hB := bcall hB hn; clear hn) | (go_at_call 17; (with_reducible refine (Two.call k175 _).mono ?_); rintro e w1 ⟨rfl, hn⟩; replace hB := bcall hB hn; clear hn) | (go_at_call 17; (with_reducible refine (Two.call k177 _).mono ?_); rintro e w1 ⟨rfl, hn⟩; replace hB := bcall hB hn; clear hn) | (go_at_call 17; (with_reducible refine (Two.call k179 _).mono ?_); rintro e w1 ⟨rfl, hn⟩; replace hB := bcall hB hn; clear hn) | (go_at_call 17; (with_reducible refine (Two.call j1 _).mono ?_); rintro e w1 ⟨rfl, hn⟩; replace hB := bcall hB hn; clear hn) | (go_at_call 17; (with_reducible refine (Two.call j3 _).mono ?_); rintro e w1 ⟨rfl, hn⟩; replace hB := bcall hB hn; clear hn))
  go_ret
  exact ⟨rfl, hB⟩
theorem walk_orders (a b : Int) (ha : 0 ≤ a) (ha' : a < 4294967296) (hb : 0 ≤ b) (hb' : b < 4294967296) (w : World) :
    Calls Try.prog 7 #[.int .u32 a, .int .u32 b] w fun e w' => e = .returned (.bool true) ∧ Below w.heap.size w w' := by
  rcases Int.lt_trichotomy a b with h | rfl | h
  · rcases Int.lt_trichotomy (sg a) (sg b) with g | g | g
    · exact orders_0 a b ha ha' hb hb' h g w
    · exfalso; unfold sg at g; split at g <;> split at g <;> omega
    · exact orders_1 a b ha ha' hb hb' h g w
  · exact orders_eq a ha ha' w
  · rcases Int.lt_trichotomy (sg a) (sg b) with g | g | g
    · exact orders_2 a b ha ha' hb hb' h g w
    · exfalso; unfold sg at g; split at g <;> split at g <;> omega
    · exact orders_3 a b ha ha' hb hb' h g w
end Go.Proofs.Ytlheggnoegedcaa
