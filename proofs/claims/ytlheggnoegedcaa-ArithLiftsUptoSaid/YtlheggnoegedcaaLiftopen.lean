/- Rows: what the walk is told of them, out of what was read. -/
import Derived.Test.YtlheggnoegedcaaLiftwalk
import Derived.Deep.Matrix
namespace Go.Proofs.Ytlheggnoegedcaa
set_option linter.unusedVariables false
open Go.ChangeShapes Go.WideShapes Go.ChangeAt Go.RowKit
/-! ### The bulk -/
theorem bulk_one {H : Type} (d : DataW H) : 1 ≤ Rows.uptoBulk d := by
  cases d with
  | lit l => cases l <;> simp [Rows.uptoBulk]
  | nil => simp [Rows.uptoBulk]
  | ptr d => simp [Rows.uptoBulk]
  | slice elems spare => simp [Rows.uptoBulk]
  | agg parts => simp [Rows.uptoBulk]
  | iface t d => simp [Rows.uptoBulk]
  | map entries => simp [Rows.uptoBulk]
  | held h => simp [Rows.uptoBulk]
theorem bulk_part {H : Type} {d : DataW H} {l : List (DataW H)} (h : d ∈ l) : Rows.uptoBulk d ≤ Rows.uptoBulkAll l := by
  induction l with
  | nil => cases h
  | cons x r ih =>
    simp only [Rows.uptoBulkAll]
    cases List.mem_cons.1 h with
    | inl e => subst e; omega
    | inr e => have := ih e; omega
theorem bulk_length {H : Type} (l : List (DataW H)) : l.length ≤ Rows.uptoBulkAll l := by
  induction l with
  | nil => simp [Rows.uptoBulkAll]
  | cons x r ih => have := bulk_one x; simp only [Rows.uptoBulkAll, List.length_cons]; omega
/-- An address whose cells stand there is a plain one. -/
theorem addr_plain {w : World} {x : Addr} {len : Nat} {f : Nat → Value} (hp : 0 < len) (hcell : ∀ i, i < len → w.cell? (x.add i) = some (f i)) :
    ∃ b o, x = ⟨b, o, none⟩ ∧ b < w.heap.size ∧ ∀ i, i < len → w.cell? ⟨b, o + i, none⟩ = some (f i) := by
  obtain ⟨b, o, sp⟩ := x
  have h0 := hcell 0 hp
  have hsp : sp = none := by
    cases sp with
    | none => rfl
    | some s =>
      simp only [Addr.add, if_true, World.cell?] at h0
      split at h0
      · simp at h0
      · cases h0
  subst hsp
  refine ⟨b, o, rfl, block_lt_of_cell (a := ⟨b, o, none⟩) h0, fun i hi => ?_⟩
  have h1 := hcell i hi
  rw [add_none] at h1
  exact h1
theorem bulk_row {H : Type} {A : Option Addr} {L : Nat} {z : List Int} (hA : ∃ x, A = some x) (hL : L ≤ z.length) : L ≤ Rows.uptoBulk (Go.Deep.intRow (H := H) .u32 A L z) := by
  obtain ⟨x, rfl⟩ := hA
  simp only [Go.Deep.intRow, Rows.uptoBulk]
  have h5 := bulk_length (Go.ChangeShapes.lits (H := H) .u32 (z.take L))
  simp only [Go.ChangeShapes.lits, List.length_map, List.length_take] at h5 ⊢
  omega
theorem rows_of {H : Type} {enc : TypeId × Value → H} {W : World} {a : Option Addr} {m cap : Nat} {d0 d1 : DataW H} {p1 : List MemPlace}
    (h : ∃ fuel, DataW.trod enc Try.prog W 0 (fun _ => true) true fuel 44 (Value.slice a m cap).cells.toList = some (d1, p1)) (hb : Rows.uptoBulkAll [d0, d1] ≤ 1048576) :
    ∃ A n c g, Rws W a m A n c g := by
  obtain ⟨fuel, hf⟩ := h
  have hd1 : Rows.uptoBulk d1 ≤ 1048576 := Nat.le_trans (bulk_part (by simp)) hb
  rcases Go.Deep.open_int_rows Try.underlying44 Try.underlying36 Try.underlying23 (by kernel_rfl) (by kernel_rfl) hf with ⟨hcs, _⟩ | ⟨x, l, cp, A, L, C, Z, hcs, _, hl, hm, hx, hrow⟩
  · simp [Value.cells] at hcs
    obtain ⟨rfl, rfl, rfl⟩ := hcs
    exact ⟨fun _ => none, fun _ => 0, fun _ => 0, fun _ _ => 0, by omega, fun _ h => by omega, fun _ h => by omega, fun h => by omega⟩
  · simp [Value.cells] at hcs
    obtain ⟨rfl, rfl, rfl⟩ := hcs
    simp only [Prod.mk.injEq] at hx
    rw [hx.1] at hd1
    simp only [Rows.uptoBulk] at hd1
    have hmany : m ≤ 1048576 := by
      have := bulk_length ((List.range m).map fun r => Go.Deep.intRow (H := H) .u32 (A r) (L r) (Z r))
      simp only [List.length_map, List.length_range] at this
      omega
    have hfew : ∀ i, i < m → L i ≤ 1048576 := by
      intro i hi
      have h1 := bulk_part (d := Go.Deep.intRow (H := H) .u32 (A i) (L i) (Z i)) (l := (List.range m).map fun r => Go.Deep.intRow (H := H) .u32 (A r) (L r) (Z r)) (List.mem_map.2 ⟨i, by simpa using hi, rfl⟩)
      obtain ⟨_, h2, _, h3, _, h4, _⟩ := hrow i (by omega)
      cases hA : A i with
      | none => have := h4 hA; omega
      | some x =>
        have h5 := bulk_row (H := H) (A := A i) (L := L i) (z := Z i) ⟨x, hA⟩ (by omega)
        omega
    refine ⟨A, L, C, fun i j => (Z i).getD j 0, hmany, hfew, fun i hi => ?_, fun hp => ?_⟩
    · obtain ⟨_, h2, _, h3, h6, h4, h5⟩ := hrow i (by omega)
      have hf := hfew i hi
      cases hA : A i with
      | none =>
        have e : L i = 0 := by have := h4 hA; omega
        rw [e]
        exact ⟨by omega, fun _ h => by omega, fun _ h => by omega, fun h => by omega⟩
      | some y => exact wd_row W y (L i) (Z i) (by omega) (by omega) (fun j hj => (h5 y hA).2 j (by omega)) h6
    · obtain ⟨b, o, rfl, h1, h2⟩ := addr_plain hp (fun i hi => (hrow i (by omega)).1)
      exact ⟨b, o, rfl, h1, h2⟩
end Go.Proofs.Ytlheggnoegedcaa
