/- Rows: the program's own refusals. -/
import Derived.Test.YtlheggnoegedcaaLiftuneven
namespace Go.Proofs.Ytlheggnoegedcaa
set_option linter.unusedVariables false
open Go.ChangeShapes Go.WideShapes Go.ChangeAt Go.RowKit
theorem box_cell (w : World) (v : Value) (t : TypeId) : (w.alloc (.cells #[v] t)).cell? ⟨w.heap.size, 0, none⟩ = some v := by
  rw [cell_of_row _ _ _ _ _ _ (alloc_at w _)]; rfl
/-- A call behind a box and a draw. -/
theorem unbox {w w' : World} {o : Obj} (h : Below (w.alloc o).drew.heap.size (w.alloc o).drew w') : Below w.heap.size w w' := bcall (bal (Below.refl _ _) o) (undrew h)
theorem unbox_lt {w w' : World} {o : Obj} (h : Below (w.alloc o).drew.heap.size (w.alloc o).drew w') : w.heap.size < w'.heap.size := by
  have h1 := (undrew h).size
  have h2 : (w.alloc o).heap.size = w.heap.size + 1 := by simp
  omega
theorem unbox_cell {w w' : World} {v : Value} {t : TypeId} (h : Below (w.alloc (.cells #[v] t)).drew.heap.size (w.alloc (.cells #[v] t)).drew w') : w'.cell? ⟨w.heap.size, 0, none⟩ = some v :=
  ((undrew h).cell (p := ⟨w.heap.size, 0, none⟩) (by simp)).trans (box_cell w v t)
theorem rows_cells {w w' : World} {b o m : Nat} {A : Nat → Option Addr} {n c : Nat → Nat} (hb : b < w.heap.size) (h : Below w.heap.size w w') (hc : ∀ i, i < m → w.cell? ⟨b, o + i, none⟩ = some (.slice (A i) (n i) (c i))) :
    ∀ i, i < m → w'.cell? ⟨b, o + i, none⟩ = some (.slice (A i) (n i) (c i)) := fun i hi => (h.cell (p := ⟨b, o + i, none⟩) hb).trans (hc i hi)
set_option maxRecDepth 100000 in
set_option maxHeartbeats 4000000 in
theorem lift_own_none (op : Int) (a : Option Addr) (cap : Nat) (w : World) :
    Calls Try.prog 26 #[.int .u16 op, .slice a 0 cap] w fun e w' => e = .returned (.tuple #[.slice none 0 0, .int .i64 2]) ∧ Below w.heap.size w w' := by
  go_enter Try.func26, Try.ntmps26
  go_wp2
  go_quiet (fail)
  go_wp2
  go_ret2
  exact ⟨rfl, belowN (bal (Below.refl _ _) _) _⟩
set_option maxRecDepth 100000 in
set_option maxHeartbeats 4000000 in
theorem lift_own_arity (op : Int) (a : Option Addr) (m cap : Nat) (w : World) (h : (m : Int) ≠ arS op) (hm : m ≠ 0) (hmany : m ≤ 1048576) :
    Calls Try.prog 26 #[.int .u16 op, .slice a m cap] w fun e w' => e = .returned (.tuple #[.slice none 0 0, .int .i64 2]) ∧ Below w.heap.size w w' := by
  have c0 := arity_own op
  have h1 : ((m : Int) == 0) = false := by simp; omega
  have h2 : ((m : Int) != arS op) = true := by simpa using h
  clear h hm
  generalize arS op = n at c0 h2
  go_enter Try.func26, Try.ntmps26
  go_wp2_with fail
  go_region_with (first | (go_at_call 20; (with_reducible refine (c0 _).mono ?_); rintro e w4 ⟨rfl, hn4⟩; have k0 := unbox_cell hn4))
  all_goals
    go_wp2
    go_ret2
    exact ⟨rfl, unbox hn4⟩
set_option maxRecDepth 100000 in
set_option maxHeartbeats 4000000 in
theorem lift_own_uneven (op : Int) (b o m cap : Nat) (A : Nat → Option Addr) (n c : Nat → Nat) (w : World)
    (hb : b < w.heap.size) (hc0 : ∀ i, i < m → w.cell? ⟨b, o + i, none⟩ = some (.slice (A i) (n i) (c i))) (hmany : m ≤ 1048576)
    (hm : (m : Int) = arS op) (hm0 : 0 < m) (hex : ∃ i, i < m ∧ n i ≠ n 0) :
    Calls Try.prog 26 #[.int .u16 op, .slice (some ⟨b, o, none⟩) m cap] w fun e w' => e = .returned (.tuple #[.slice none 0 0, .int .i64 2]) ∧ Below w.heap.size w w' := by
  have c0 := arity_own op
  rw [← hm] at c0
  have h1 : ((m : Int) == 0) = false := by simp; omega
  have hc := hid hc0
  have hx := hid hex
  have c1 := fun (w4 : World) (hn4 : Below (w.alloc (.cells #[.slice (some ⟨b, o, none⟩) m cap] 44)).drew.heap.size (w.alloc (.cells #[.slice (some ⟨b, o, none⟩) m cap] 44)).drew w4) =>
    uneven_yes w.heap.size b o m cap A n c w4 (unbox_lt hn4) (unbox_cell hn4) (Nat.lt_of_lt_of_le hb (unbox hn4).size) (rows_cells hb (unbox hn4) hc0) hmany hex
  clear hm hc0 hex
  unfold fuv at c1
  go_enter Try.func26, Try.ntmps26
  go_wp2_with fail
  go_region_held3 (fun w' => w'.cell? ⟨w.heap.size, 0, none⟩ = some (.slice (some ⟨b, o, none⟩) m cap)) (go_keep)
    (first | (go_at_call 20; (with_reducible refine (c0 _).mono ?_); rintro e w4 ⟨rfl, hn4⟩; have k0 := unbox_cell hn4) | (go_at_call 41; (with_reducible refine (c1 _ hn4).mono ?_); rintro e w5 ⟨rfl, hn5⟩; have k1 := (hn5.cell (p := ⟨w.heap.size, 0, none⟩) (unbox_lt hn4)).trans k0))
  go_wp2
  go_ret2
  exact ⟨rfl, bcall (unbox hn4) hn5⟩
end Go.Proofs.Ytlheggnoegedcaa
