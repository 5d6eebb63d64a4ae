/- The law's lines: a slice of rows of three numbers, opened. -/
import Derived.Test.YtbhijdmlonplgaaGreatDoorBd
import Derived.Deep.SlicePairs
import Derived.OpenShut
import Derived.ProofKit
namespace Go.Proofs.YtbhijdmlonplgaaGreatDoor
set_option linter.unusedVariables false
set_option linter.unusedSimpArgs false
set_option maxRecDepth 100000
open Go.ChangeShapes Go.WideShapes Go.ChangeAt Go.RowKit Go.Deep
theorem open_triples {H : Type} {enc : TypeId × Value → H} {P : Program} {w : World} {base : Nat} {spare : Nat → Bool} {held : Bool} {t e : TypeId} {f0 f1 f2 : Field} {k0 k1 k2 : IntKind} {fuel : Nat} {cs : List Value} {x : DataW H × List MemPlace} (ht : P.underlying t = some (.slice e)) (he : P.underlying e = some (.struct #[f0, f1, f2]))
  (ce : P.cellsOf e = 3) (o0 : f0.offset = 0) (o1 : f1.offset = 1) (o2 : f2.offset = 2) (c0 : P.cellsOf f0.type = 1) (c1 : P.cellsOf f1.type = 1) (c2 : P.cellsOf f2.type = 1)
  (u0 : P.underlying f0.type = some (.int k0)) (u1 : P.underlying f1.type = some (.int k1)) (u2 : P.underlying f2.type = some (.int k2))
  (h : DataW.trod enc P w base spare held fuel t cs = some x) :
  cs = [.slice none 0 0] ∨ ∃ (a : Addr) (len cap : Nat) (z : Nat → Int × Int × Int), cs = [.slice (some a) len cap] ∧ len ≤ cap ∧ cap ≤ maxLen ∧
   ∀ i, i < len → w.cell? (a.add (i * 3)) = some (.int k0 (z i).1) ∧ w.cell? (a.add (i * 3 + 1)) = some (.int k1 (z i).2.1) ∧ w.cell? (a.add (i * 3 + 2)) = some (.int k2 (z i).2.2) ∧ (Lit.int k0 (z i).1).wf = true ∧ (Lit.int k1 (z i).2.1).wf = true ∧ (Lit.int k2 (z i).2.2).wf = true := by
 rcases open_slice ht h with h0 | ⟨a, len, cap, m, n, D, Pl, rfl, hb, hl, hm, hmm, rfl, hx⟩
 ·exact Or.inl h0.1
 right
 have hlm : len ≤ m := by rw [hmm]; split <;> omega
 have each : ∀ i, i < len → ∃ q : Int × Int × Int, w.cell? (a.add (i * 3)) = some (.int k0 q.1) ∧ w.cell? (a.add (i * 3 + 1)) = some (.int k1 q.2.1) ∧ w.cell? (a.add (i * 3 + 2)) = some (.int k2 q.2.2) ∧ (Lit.int k0 q.1).wf = true ∧ (Lit.int k1 q.2.1).wf = true ∧ (Lit.int k2 q.2.2).wf = true := by
  intro i hi
  obtain ⟨cs', h1, h2⟩ := hx i (by omega)
  rw [ce] at h1
  obtain ⟨_, hlen, hcell⟩ := World.cells?_some h1
  obtain ⟨xs, k, hk, hxy, _, hxl, hf⟩ := DataW.trod_struct he h2
  match xs, hxl, cs', hlen with
  | [y0, y1, y2], _, [v0, v1, v2], _ =>
   have g0 := hf 0 f0 rfl
   have g1 := hf 1 f1 rfl
   have g2 := hf 2 f2 rfl
   simp [o0, o1, o2, c0, c1, c2] at g0 g1 g2
   have e0 := hcell 0 (by omega)
   have e1 := hcell 1 (by omega)
   have e2 := hcell 2 (by omega)
   rw [add_add] at e0 e1 e2
   obtain ⟨n0, a0, _, w0⟩ := DataW.trod_int u0 g0
   obtain ⟨n1, a1, _, w1⟩ := DataW.trod_int u1 g1
   obtain ⟨n2, a2, _, w2⟩ := DataW.trod_int u2 g2
   simp only [List.cons.injEq, and_true] at a0 a1 a2
   subst a0 a1 a2
   exact ⟨(n0, n1, n2), by simpa using e0, by simpa using e1, by simpa using e2, w0, w1, w2⟩
 obtain ⟨q, hq⟩ := choose_lt each
 exact ⟨a, len, cap, q, rfl, hl, hm, hq⟩
theorem addr_one {w : World} {x : Addr} {v : Value} (h0 : w.cell? (x.add 0) = some v) : ∃ b o, x = ⟨b, o, none⟩ := by
 obtain ⟨b, o, sp⟩ := x
 cases sp with
 | none => exact ⟨b, o, rfl⟩
 | some s =>
  simp only [Addr.add, if_true, World.cell?] at h0
  split at h0
  ·simp at h0
  ·cases h0
theorem lines_of {H : Type} {enc : TypeId × Value → H} {W : World} {a : Option Addr} {m cap : Nat} {d : DataW H} {p1 : List MemPlace}
  (h : ∃ fuel, DataW.trod enc Tryz.prog W 0 (fun _ => true) true fuel 22 (Value.slice a m cap).cells.toList = some (d, p1)) :
  ∃ b o ln, (0 < m → a = some ⟨b, o, none⟩) ∧ LnAt W b o m ln := by
 obtain ⟨fuel, hf⟩ := h
 rcases open_triples (f0 := { name := "Op", type := 24, offset := 0, embedded := false, tag := "", pkgPath := "", byteOffset := 0 }) (f1 := { name := "A", type := 3, offset := 1, embedded := false, tag := "", pkgPath := "", byteOffset := 8 }) (f2 := { name := "B", type := 3, offset := 2, embedded := false, tag := "", pkgPath := "", byteOffset := 16 }) Tryz.underlying22 Tryz.underlying26 (by kernel_rfl) rfl rfl rfl (by kernel_rfl) (by kernel_rfl) (by kernel_rfl) Tryz.underlying24 Tryz.underlying3 Tryz.underlying3 hf with hcs | ⟨x, len, cp, z, hcs, hl, hm, hx⟩
 ·simp only [Value.cells, List.cons.injEq, Value.slice.injEq, and_true] at hcs
  obtain ⟨rfl, rfl, rfl⟩ := hcs
  exact ⟨0, 0, fun _ => (0, 0, 0), fun h => absurd h (Nat.lt_irrefl _), ⟨fun h => absurd h (Nat.lt_irrefl _), fun k h => absurd h (Nat.not_lt_zero _), fun k h => absurd h (Nat.not_lt_zero _), fun k h => absurd h (Nat.not_lt_zero _), fun k h => absurd h (Nat.not_lt_zero _), fun k h => absurd h (Nat.not_lt_zero _), fun k h => absurd h (Nat.not_lt_zero _)⟩⟩
 ·simp only [Value.cells, List.cons.injEq, Value.slice.injEq, and_true] at hcs
  obtain ⟨rfl, rfl, rfl⟩ := hcs
  rcases Nat.eq_zero_or_pos m with rfl | hpos
  ·exact ⟨0, 0, fun _ => (0, 0, 0), fun h => absurd h (Nat.lt_irrefl _), ⟨fun h => absurd h (Nat.lt_irrefl _), fun k h => absurd h (Nat.not_lt_zero _), fun k h => absurd h (Nat.not_lt_zero _), fun k h => absurd h (Nat.not_lt_zero _), fun k h => absurd h (Nat.not_lt_zero _), fun k h => absurd h (Nat.not_lt_zero _), fun k h => absurd h (Nat.not_lt_zero _)⟩⟩
  ·obtain ⟨b, o, rfl⟩ := addr_one (w := W) (hx 0 hpos).1
   have hz : ∀ i, i < m → 0 ≤ (z i).1 ∧ (z i).1 < 65536 ∧ (-9223372036854775808 ≤ (z i).2.1 ∧ (z i).2.1 < 9223372036854775808) ∧ (-9223372036854775808 ≤ (z i).2.2 ∧ (z i).2.2 < 9223372036854775808) := fun i hi => by
    obtain ⟨_, _, _, w0, w1, w2⟩ := hx i hi
    simp [Lit.wf, IntKind.min, IntKind.max, IntKind.signed, IntKind.bits] at w0 w1 w2
    omega
   refine ⟨b, o, fun k => ((z k).1.toNat, (z k).2.1, (z k).2.2), fun _ => rfl, ⟨fun _ => ?_, fun k hk => ?_, fun k hk => ?_, fun k hk => ?_, fun k hk => ?_, fun k hk => (hz k hk).2.2.1, fun k hk => (hz k hk).2.2.2⟩⟩
   ·have := (hx 0 hpos).1
    rw [add_none] at this
    exact block_lt_of_cell this
   ·have := (hx k hk).1
    rw [add_none] at this
    rw [this]
    simp only [Int.toNat_of_nonneg (hz k hk).1]
   ·have := (hx k hk).2.1
    rw [add_none] at this
    exact this
   ·have := (hx k hk).2.2.1
    rw [add_none] at this
    exact this
   ·have := hz k hk
    simp only
    omega
end Go.Proofs.YtbhijdmlonplgaaGreatDoor
