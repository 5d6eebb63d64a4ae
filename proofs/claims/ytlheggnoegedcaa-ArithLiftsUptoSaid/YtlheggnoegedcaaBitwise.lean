/- The reference's operations bit by bit. -/
import Derived.Test.YtlheggnoegedcaaMoved
import Derived.Deep.QuietTactic
import Derived.BigQuiet
namespace Go.Proofs.Ytlheggnoegedcaa
set_option linter.unusedVariables false
open Go.ChangeShapes Go.WideShapes Go.ChangeAt Go.RowKit
/-- A bit of two. -/
def bw (op a b : Int) (k : Nat) : Int := tr (op == 197 && decide (0 < bit a k + bit b k) || op == 198 && bit a k + bit b k == 1 || op == 199 && bit a k + bit b k == 2)
theorem bw_bd (op a b : Int) (k : Nat) : 0 ≤ bw op a b k ∧ bw op a b k ≤ 1 := by unfold bw tr; split <;> omega
theorem fill_next (f : Nat → Int) (k : Nat) : row (fun j => if j < k + 1 then f j else 0) = row (fun j => if j = k then f k else if j < k then f j else 0) := by
  refine row_congr (fun j _ => ?_)
  by_cases e : j = k
  · subst e; simp
  · by_cases e2 : j < k <;> simp [e, e2] <;> omega
theorem fill_whole (f : Nat → Int) : row (fun j => if j < 32 then f j else 0) = row f := row_congr (fun j hj => by simp [hj])
theorem fill_none (f : Nat → Int) : row (fun j => if j < 0 then f j else 0) = row (fun _ => 0) := row_congr (fun j hj => by simp)
theorem belowN {B : Nat} {a w : World} (h : Below B a w) (n : Nat) : Below B a (w.drewN n) := h.trans ⟨rfl, rfl, rfl, Nat.le_refl _, fun _ _ => rfl⟩
/-- A store into a row that is filled from the front. -/
theorem fill_store (wr : World) (q g k : Nat) (f : Nat → Int) (v : Int) (hk : k < 32) (hv : v = f k) (hg : wr.heap[g]? = some (.cells (row (fun j => if j < k then f j else 0)) 68 (0, 0))) :
    ((wr.drewN q).setCell ⟨g, k, none⟩ (.int .u32 v)).heap[g]? = some (.cells (row (fun j => if j < k + 1 then f j else 0)) 68 (0, 0)) := by
  rw [heap_setCell_same (wr.drewN q) g k _ 68 _ hg, row_set, fill_next, hv]
theorem bitwise_197 (a b : Int) (ha : 0 ≤ a) (ha' : a < 4294967296) (hb : 0 ≤ b) (hb' : b < 4294967296) (w : World) :
    Calls Try.prog 35 #[.int .u16 197, .int .u32 a, .int .u32 b] w fun e w' => e = .returned (.int .u32 (hv (bw 197 a b) 32)) ∧ Below w.heap.size w w' := by
  have h1 := bits_B a ha ha'
  have h2 := bits_B b hb hb'
  go_enter Try.func35, Try.ntmps35
  go_wp2_with (first | (go_at_call 38; (with_reducible refine (h1 _).mono ?_); rintro e W1 ⟨rfl, hB1⟩) | (go_at_call 38; (with_reducible refine (h2 _).mono ?_); rintro e W2 ⟨rfl, hB2⟩) | (refine wpList_store_row rfl 68 _ _ rfl W1.heap.size rfl 68 (row (fun _ => 0)) (row (bit a)) rfl (alloc_at _ _) (by rw [row_size]; exact info68) rfl (row_one _) ?_; rw [setRow_alloc]) | (refine wpList_store_row rfl 68 _ _ rfl W2.heap.size rfl 68 (row (fun _ => 0)) (row (bit b)) rfl (alloc_at _ _) (by rw [row_size]; exact info68) rfl (row_one _) ?_; rw [setRow_alloc]))
  clear h1 h2
  have hlt12 : W1.heap.size < W2.heap.size := by have := hB2.size; have e : (W1.alloc (.cells (row (bit a)) 68)).heap.size = W1.heap.size + 1 := by (show (W1.heap.push _).size = _); simp
                                                 omega
  have hA : W2.heap[W1.heap.size]? = some (.cells (row (bit a)) 68 (0, 0)) := by
    rw [hB2.block _ (by show _ < (W1.heap.push _).size; simp)]; exact alloc_at _ _
  have hBB : Below w.heap.size w W2 := bcall (bal hB1 _) hB2
  go_loopw [10] (fun i wr => ∃ k : Nat, k ≤ 32 ∧ i = .int .i64 k ∧ wr.heap[W1.heap.size]? = some (.cells (row (bit a)) 68 (0, 0)) ∧ wr.heap[W2.heap.size]? = some (.cells (row (bit b)) 68 (0, 0)) ∧ wr.heap[W2.heap.size + 1]? = some (.cells (row (fun j => if j < k then bw 197 a b j else 0)) 68 (0, 0)) ∧ Below w.heap.size w wr) (fun i _ => 32 - (intOf i).toNat)
  case atStart =>
    refine ⟨0, by omega, rfl, ?_, ?_, ?_, bal (bal hBB _) _⟩
    · rw [heap_alloc_old _ _ (by show _ < (W2.heap.push _).size; simp; omega), heap_alloc_old _ _ hlt12]; exact hA
    · rw [heap_alloc_old _ _ (by show _ < (W2.heap.push _).size; simp)]; exact alloc_at _ _
    · rw [fill_none]; exact heap_alloc2_new _ _ _
  case round =>
    obtain ⟨k, hk, rfl, g1, g2, g3, hB⟩ := hrel
    clear hA
    by_cases hlt : k < 32
    · have hc1 : wr.cell? ⟨W1.heap.size, k, none⟩ = some (.int .u32 (bit a k)) := by rw [cell_of_row wr _ _ _ _ _ g1]; exact row_get _ _ hlt
      have hc2 : wr.cell? ⟨W2.heap.size, k, none⟩ = some (.int .u32 (bit b k)) := by rw [cell_of_row wr _ _ _ _ _ g2]; exact row_get _ _ hlt
      have hc3 : wr.cell? ⟨W2.heap.size + 1, k, none⟩ = some (.int .u32 0) := by rw [cell_of_row wr _ _ _ _ _ g3, row_get _ _ hlt, if_neg (Nat.lt_irrefl k)]
      have hf3 := frozen_of_row wr (W2.heap.size + 1) k _ _ g3
      have hx : Hid (tr (197 == 197 && decide (0 < bit a k + bit b k) || 197 == 198 && bit a k + bit b k == 1 || 197 == 199 && bit a k + bit b k == 2) = bw 197 a b k) := rfl
      have hu : bit a k = 0 ∨ bit a k = 1 := by have := bit_bd a k; omega
      have hv : bit b k = 0 ∨ bit b k = 1 := by have := bit_bd b k; omega
      have G1 := hid g1
      have G2 := hid g2
      have G3 := hid g3
      clear g1 g2 g3
      generalize bit a k = u at hc1 hx hu
      generalize bit b k = v at hc2 hx hv
      rcases hu with rfl | rfl <;> rcases hv with rfl | rfl
      all_goals
        go_wp2
        go_quiet (fail)
        go_wp2_with (go_at_call 30; refine (truth_ref _ _).mono ?_; rintro e w' ⟨rfl, rfl⟩)
        refine ⟨⟨k + 1, by omega, by go_num, ?_, ?_, ?_, ?_⟩, by simp [intOf]; omega⟩
        · rw [heap_setCell_other _ _ _ _ (show W1.heap.size ≠ W2.heap.size + 1 by omega)]; exact G1.out
        · rw [heap_setCell_other _ _ _ _ (show W2.heap.size ≠ W2.heap.size + 1 by omega)]; exact G2.out
        · exact fill_store wr nq _ k _ _ hlt (by rw [← hx.out]; rfl) G3.out
        · exact Below.setCell (belowN hB nq) (by show w.heap.size ≤ W2.heap.size + 1; have := hBB.size; omega) _
    · obtain rfl : k = 32 := by omega
      rw [fill_whole] at g3
      clear hlt hk
      have hof := of_B (bw 197 a b) (bw_bd 197 a b)
      go_wp2_with (first | (go_at_call 39; refine (hof _).mono ?_; rintro e W3 ⟨rfl, hB3⟩) | (refine wpList_load_row rfl 68 _ rfl (W2.heap.size + 1) rfl 68 (row (bw 197 a b)) _ _ g3 Try.underlying68 rfl (by rw [row_size]; exact info68) ?_))
      go_ret
      exact ⟨rfl, bcall hB hB3⟩
theorem bitwise_198 (a b : Int) (ha : 0 ≤ a) (ha' : a < 4294967296) (hb : 0 ≤ b) (hb' : b < 4294967296) (w : World) :
    Calls Try.prog 35 #[.int .u16 198, .int .u32 a, .int .u32 b] w fun e w' => e = .returned (.int .u32 (hv (bw 198 a b) 32)) ∧ Below w.heap.size w w' := by
  have h1 := bits_B a ha ha'
  have h2 := bits_B b hb hb'
  go_enter Try.func35, Try.ntmps35
  go_wp2_with (first | (go_at_call 38; (with_reducible refine (h1 _).mono ?_); rintro e W1 ⟨rfl, hB1⟩) | (go_at_call 38; (with_reducible refine (h2 _).mono ?_); rintro e W2 ⟨rfl, hB2⟩) | (refine wpList_store_row rfl 68 _ _ rfl W1.heap.size rfl 68 (row (fun _ => 0)) (row (bit a)) rfl (alloc_at _ _) (by rw [row_size]; exact info68) rfl (row_one _) ?_; rw [setRow_alloc]) | (refine wpList_store_row rfl 68 _ _ rfl W2.heap.size rfl 68 (row (fun _ => 0)) (row (bit b)) rfl (alloc_at _ _) (by rw [row_size]; exact info68) rfl (row_one _) ?_; rw [setRow_alloc]))
  clear h1 h2
  have hlt12 : W1.heap.size < W2.heap.size := by have := hB2.size; have e : (W1.alloc (.cells (row (bit a)) 68)).heap.size = W1.heap.size + 1 := by (show (W1.heap.push _).size = _); simp
                                                 omega
  have hA : W2.heap[W1.heap.size]? = some (.cells (row (bit a)) 68 (0, 0)) := by
    rw [hB2.block _ (by show _ < (W1.heap.push _).size; simp)]; exact alloc_at _ _
  have hBB : Below w.heap.size w W2 := bcall (bal hB1 _) hB2
  go_loopw [10] (fun i wr => ∃ k : Nat, k ≤ 32 ∧ i = .int .i64 k ∧ wr.heap[W1.heap.size]? = some (.cells (row (bit a)) 68 (0, 0)) ∧ wr.heap[W2.heap.size]? = some (.cells (row (bit b)) 68 (0, 0)) ∧ wr.heap[W2.heap.size + 1]? = some (.cells (row (fun j => if j < k then bw 198 a b j else 0)) 68 (0, 0)) ∧ Below w.heap.size w wr) (fun i _ => 32 - (intOf i).toNat)
  case atStart =>
    refine ⟨0, by omega, rfl, ?_, ?_, ?_, bal (bal hBB _) _⟩
    · rw [heap_alloc_old _ _ (by show _ < (W2.heap.push _).size; simp; omega), heap_alloc_old _ _ hlt12]; exact hA
    · rw [heap_alloc_old _ _ (by show _ < (W2.heap.push _).size; simp)]; exact alloc_at _ _
    · rw [fill_none]; exact heap_alloc2_new _ _ _
  case round =>
    obtain ⟨k, hk, rfl, g1, g2, g3, hB⟩ := hrel
    clear hA
    by_cases hlt : k < 32
    · have hc1 : wr.cell? ⟨W1.heap.size, k, none⟩ = some (.int .u32 (bit a k)) := by rw [cell_of_row wr _ _ _ _ _ g1]; exact row_get _ _ hlt
      have hc2 : wr.cell? ⟨W2.heap.size, k, none⟩ = some (.int .u32 (bit b k)) := by rw [cell_of_row wr _ _ _ _ _ g2]; exact row_get _ _ hlt
      have hc3 : wr.cell? ⟨W2.heap.size + 1, k, none⟩ = some (.int .u32 0) := by rw [cell_of_row wr _ _ _ _ _ g3, row_get _ _ hlt, if_neg (Nat.lt_irrefl k)]
      have hf3 := frozen_of_row wr (W2.heap.size + 1) k _ _ g3
      have hx : Hid (tr (198 == 197 && decide (0 < bit a k + bit b k) || 198 == 198 && bit a k + bit b k == 1 || 198 == 199 && bit a k + bit b k == 2) = bw 198 a b k) := rfl
      have hu : bit a k = 0 ∨ bit a k = 1 := by have := bit_bd a k; omega
      have hv : bit b k = 0 ∨ bit b k = 1 := by have := bit_bd b k; omega
      have G1 := hid g1
      have G2 := hid g2
      have G3 := hid g3
      clear g1 g2 g3
      generalize bit a k = u at hc1 hx hu
      generalize bit b k = v at hc2 hx hv
      rcases hu with rfl | rfl <;> rcases hv with rfl | rfl
      all_goals
        go_wp2
        go_quiet (fail)
        go_wp2_with (go_at_call 30; refine (truth_ref _ _).mono ?_; rintro e w' ⟨rfl, rfl⟩)
        refine ⟨⟨k + 1, by omega, by go_num, ?_, ?_, ?_, ?_⟩, by simp [intOf]; omega⟩
        · rw [heap_setCell_other _ _ _ _ (show W1.heap.size ≠ W2.heap.size + 1 by omega)]; exact G1.out
        · rw [heap_setCell_other _ _ _ _ (show W2.heap.size ≠ W2.heap.size + 1 by omega)]; exact G2.out
        · exact fill_store wr nq _ k _ _ hlt (by rw [← hx.out]; rfl) G3.out
        · exact Below.setCell (belowN hB nq) (by show w.heap.size ≤ W2.heap.size + 1; have := hBB.size; omega) _
    · obtain rfl : k = 32 := by omega
      rw [fill_whole] at g3
      clear hlt hk
      have hof := of_B (bw 198 a b) (bw_bd 198 a b)
      go_wp2_with (first | (go_at_call 39; refine (hof _).mono ?_; rintro e W3 ⟨rfl, hB3⟩) | (refine wpList_load_row rfl 68 _ rfl (W2.heap.size + 1) rfl 68 (row (bw 198 a b)) _ _ g3 Try.underlying68 rfl (by rw [row_size]; exact info68) ?_))
      go_ret
      exact ⟨rfl, bcall hB hB3⟩
theorem bitwise_199 (a b : Int) (ha : 0 ≤ a) (ha' : a < 4294967296) (hb : 0 ≤ b) (hb' : b < 4294967296) (w : World) :
    Calls Try.prog 35 #[.int .u16 199, .int .u32 a, .int .u32 b] w fun e w' => e = .returned (.int .u32 (hv (bw 199 a b) 32)) ∧ Below w.heap.size w w' := by
  have h1 := bits_B a ha ha'
  have h2 := bits_B b hb hb'
  go_enter Try.func35, Try.ntmps35
  go_wp2_with (first | (go_at_call 38; (with_reducible refine (h1 _).mono ?_); rintro e W1 ⟨rfl, hB1⟩) | (go_at_call 38; (with_reducible refine (h2 _).mono ?_); rintro e W2 ⟨rfl, hB2⟩) | (refine wpList_store_row rfl 68 _ _ rfl W1.heap.size rfl 68 (row (fun _ => 0)) (row (bit a)) rfl (alloc_at _ _) (by rw [row_size]; exact info68) rfl (row_one _) ?_; rw [setRow_alloc]) | (refine wpList_store_row rfl 68 _ _ rfl W2.heap.size rfl 68 (row (fun _ => 0)) (row (bit b)) rfl (alloc_at _ _) (by rw [row_size]; exact info68) rfl (row_one _) ?_; rw [setRow_alloc]))
  clear h1 h2
  have hlt12 : W1.heap.size < W2.heap.size := by have := hB2.size; have e : (W1.alloc (.cells (row (bit a)) 68)).heap.size = W1.heap.size + 1 := by (show (W1.heap.push _).size = _); simp
                                                 omega
  have hA : W2.heap[W1.heap.size]? = some (.cells (row (bit a)) 68 (0, 0)) := by
    rw [hB2.block _ (by show _ < (W1.heap.push _).size; simp)]; exact alloc_at _ _
  have hBB : Below w.heap.size w W2 := bcall (bal hB1 _) hB2
  go_loopw [10] (fun i wr => ∃ k : Nat, k ≤ 32 ∧ i = .int .i64 k ∧ wr.heap[W1.heap.size]? = some (.cells (row (bit a)) 68 (0, 0)) ∧ wr.heap[W2.heap.size]? = some (.cells (row (bit b)) 68 (0, 0)) ∧ wr.heap[W2.heap.size + 1]? = some (.cells (row (fun j => if j < k then bw 199 a b j else 0)) 68 (0, 0)) ∧ Below w.heap.size w wr) (fun i _ => 32 - (intOf i).toNat)
  case atStart =>
    refine ⟨0, by omega, rfl, ?_, ?_, ?_, bal (bal hBB _) _⟩
    · rw [heap_alloc_old _ _ (by show _ < (W2.heap.push _).size; simp; omega), heap_alloc_old _ _ hlt12]; exact hA
    · rw [heap_alloc_old _ _ (by show _ < (W2.heap.push _).size; simp)]; exact alloc_at _ _
    · rw [fill_none]; exact heap_alloc2_new _ _ _
  case round =>
    obtain ⟨k, hk, rfl, g1, g2, g3, hB⟩ := hrel
    clear hA
    by_cases hlt : k < 32
    · have hc1 : wr.cell? ⟨W1.heap.size, k, none⟩ = some (.int .u32 (bit a k)) := by rw [cell_of_row wr _ _ _ _ _ g1]; exact row_get _ _ hlt
      have hc2 : wr.cell? ⟨W2.heap.size, k, none⟩ = some (.int .u32 (bit b k)) := by rw [cell_of_row wr _ _ _ _ _ g2]; exact row_get _ _ hlt
      have hc3 : wr.cell? ⟨W2.heap.size + 1, k, none⟩ = some (.int .u32 0) := by rw [cell_of_row wr _ _ _ _ _ g3, row_get _ _ hlt, if_neg (Nat.lt_irrefl k)]
      have hf3 := frozen_of_row wr (W2.heap.size + 1) k _ _ g3
      have hx : Hid (tr (199 == 197 && decide (0 < bit a k + bit b k) || 199 == 198 && bit a k + bit b k == 1 || 199 == 199 && bit a k + bit b k == 2) = bw 199 a b k) := rfl
      have hu : bit a k = 0 ∨ bit a k = 1 := by have := bit_bd a k; omega
      have hv : bit b k = 0 ∨ bit b k = 1 := by have := bit_bd b k; omega
      have G1 := hid g1
      have G2 := hid g2
      have G3 := hid g3
      clear g1 g2 g3
      generalize bit a k = u at hc1 hx hu
      generalize bit b k = v at hc2 hx hv
      rcases hu with rfl | rfl <;> rcases hv with rfl | rfl
      all_goals
        go_wp2
        go_quiet (fail)
        go_wp2_with (go_at_call 30; refine (truth_ref _ _).mono ?_; rintro e w' ⟨rfl, rfl⟩)
        refine ⟨⟨k + 1, by omega, by go_num, ?_, ?_, ?_, ?_⟩, by simp [intOf]; omega⟩
        · rw [heap_setCell_other _ _ _ _ (show W1.heap.size ≠ W2.heap.size + 1 by omega)]; exact G1.out
        · rw [heap_setCell_other _ _ _ _ (show W2.heap.size ≠ W2.heap.size + 1 by omega)]; exact G2.out
        · exact fill_store wr nq _ k _ _ hlt (by rw [← hx.out]; rfl) G3.out
        · exact Below.setCell (belowN hB nq) (by show w.heap.size ≤ W2.heap.size + 1; have := hBB.size; omega) _
    · obtain rfl : k = 32 := by omega
      rw [fill_whole] at g3
      clear hlt hk
      have hof := of_B (bw 199 a b) (bw_bd 199 a b)
      go_wp2_with (first | (go_at_call 39; refine (hof _).mono ?_; rintro e W3 ⟨rfl, hB3⟩) | (refine wpList_load_row rfl 68 _ rfl (W2.heap.size + 1) rfl 68 (row (bw 199 a b)) _ _ g3 Try.underlying68 rfl (by rw [row_size]; exact info68) ?_))
      go_ret
      exact ⟨rfl, bcall hB hB3⟩
end Go.Proofs.Ytlheggnoegedcaa
