/- Slices of words: told alike ('kit.Words'), written over ('kit.SpoilWords'). -/
import Derived.Test.YtlheggnoegedcaaFieldwalk
namespace Go.Proofs.Ytlheggnoegedcaa
set_option linter.unusedVariables false
open Go.ChangeShapes Go.WideShapes Go.ChangeAt Go.RowKit
/-- What a walk is told of a slice of words: where they lie. -/
structure Cw (w : World) (a : Option Addr) (len : Nat) (g : Nat → Int) : Prop where
  bytes : 4 * len ≤ 140737488355328
  at_ : 0 < len → ∃ b o, a = some ⟨b, o, none⟩ ∧ b < w.heap.size ∧ ∀ i, i < len → w.cell? ⟨b, o + i, none⟩ = some (.int .u32 (g i))
theorem Wd.cw {w : World} {a : Option Addr} {len : Nat} {g : Nat → Int} (h : Wd w a len g) : Cw w a len g := ⟨h.bytes, h.at_⟩
theorem Cw.below {w w' : World} {a : Option Addr} {len : Nat} {g : Nat → Int} (h : Cw w a len g) (hb : Below w.heap.size w w') : Cw w' a len g :=
  ⟨h.bytes, fun hp => by
    obtain ⟨b, o, rfl, hlt, hc⟩ := h.at_ hp
    exact ⟨b, o, rfl, Nat.lt_of_lt_of_le hlt hb.size, fun i hi => (hb.cell (p := ⟨b, o + i, none⟩) hlt).trans (hc i hi)⟩⟩
/-- A row of the call's own is such a slice. -/
theorem Cw.own {w : World} {base len : Nat} {v : Value} {g : Nat → Int} (h : w.ownsRow base 23 1 v len (wl g len)) (hb : 4 * len ≤ 140737488355328) : ∃ a cap, v = .slice a len cap ∧ Cw w a len g := by
  rcases h.2 with ⟨rfl, rfl⟩ | ⟨g0, cap, cur, rfl, h2, h3, h4⟩
  · exact ⟨none, 0, rfl, hb, fun hp => by omega⟩
  · refine ⟨_, cap, rfl, hb, fun _ => ⟨g0, 0, rfl, (h.lt g0 rfl).2, fun i hi => ?_⟩⟩
    rw [Nat.zero_add, h.cellAt i (by omega), wl_get _ _ _ hi]
set_option maxHeartbeats 400000 in
/-- Two slices with the same words are told to be the same. -/
theorem words_same (a b : Option Addr) (len ca cb : Nat) (g : Nat → Int) (w : World) (ha : Cw w a len g) (hb : Cw w b len g) :
    Calls Try.prog 27 #[.slice a len ca, .slice b len cb] w fun e w' => e = .returned (.bool true) ∧ Below w.heap.size w w' := by
  have hby := ha.bytes
  have hlen : len ≤ 9223372036854775807 := by omega
  have HA := hid ha
  have HB := hid hb
  clear ha hb
  go_enter Try.func27, Try.ntmps27
  go_wp2
  go_loopw [5] (fun i wr => ∃ k : Nat, k ≤ len ∧ i = .int .i64 k ∧ Below w.heap.size w wr) (fun i _ => len - (intOf i).toNat)
  case atStart => exact ⟨0, by omega, rfl, Below.refl _ _⟩
  case round =>
    obtain ⟨k, hk, rfl, hBl⟩ := hrel
    by_cases hlt : k < len
    · obtain ⟨b1, o1, rfl, hb1, hc1⟩ := HA.out.at_ (by omega)
      obtain ⟨b2, o2, rfl, hb2, hc2⟩ := HB.out.at_ (by omega)
      have d1 : wr.cell? ⟨b1, o1 + k, none⟩ = some (.int .u32 (g k)) := (hBl.cell (p := ⟨b1, o1 + k, none⟩) hb1).trans (hc1 k hlt)
      have d2 : wr.cell? ⟨b2, o2 + k, none⟩ = some (.int .u32 (g k)) := (hBl.cell (p := ⟨b2, o2 + k, none⟩) hb2).trans (hc2 k hlt)
      clear hc1 hc2
      go_wp2
      go_quiet (fail)
      go_wp2
      go_roundw
      case rel => exact ⟨k + 1, by omega, by go_num, belowN hBl _⟩
      case measure => simp [intOf]; omega
    · obtain rfl : k = len := by omega
      clear hlt
      go_wp2
      go_ret
      exact ⟨rfl, hBl⟩
/-- What a writer into one block leaves. -/
structure Only (b : Nat) (w w' : World) : Prop where
  os : w'.os = w.os
  tape : w'.tape = w.tape
  output : w'.output = w.output
  size : w'.heap.size = w.heap.size
  block : ∀ k, k ≠ b → w'.heap[k]? = w.heap[k]?
theorem Only.refl (b : Nat) (w : World) : Only b w w := ⟨rfl, rfl, rfl, rfl, fun _ _ => rfl⟩
theorem Only.set {b : Nat} {w w' : World} (h : Only b w w') (j : Nat) (v : Value) : Only b w (w'.setCell ⟨b, j, none⟩ v) :=
  ⟨h.os, h.tape, h.output, (by show (w'.heap.modify _ _).size = _; simp [h.size]), fun k hk => (heap_setCell_other w' ⟨b, j, none⟩ k v hk).trans (h.block k hk)⟩
theorem Only.below {b : Nat} {w0 w w' : World} (h : Only b w w') (hb : Below w0.heap.size w0 w) (hlt : w0.heap.size ≤ b) : Below w0.heap.size w0 w' :=
  ⟨h.os.trans hb.os, h.tape.trans hb.tape, h.output.trans hb.output, by rw [h.size]; exact hb.size, fun k hk => (h.block k (by omega)).trans (hb.block k hk)⟩
set_option maxHeartbeats 400000 in
/-- A row of the call's own is written over. -/
theorem spoil_words (b len cap : Nat) (cs : Array Value) (w : World) (hlen : len ≤ 1099511627776) (hs : len ≤ cs.size) (hg : w.heap[b]? = some (.cells cs 23 (0, 0))) :
    Calls Try.prog 28 #[.slice (some ⟨b, 0, none⟩) len cap] w fun e w' => e = .returned (.tuple #[]) ∧ Only b w w' := by
  go_enter Try.func28, Try.ntmps28
  go_wp2
  go_loopw [2] (fun i wr => ∃ k : Nat, k ≤ len ∧ i = .int .i64 k ∧ Only b w wr ∧ ∃ cs', wr.heap[b]? = some (.cells cs' 23 (0, 0)) ∧ cs'.size = cs.size) (fun i _ => len - (intOf i).toNat)
  case atStart => exact ⟨0, by omega, rfl, Only.refl _ _, cs, hg, rfl⟩
  case round =>
    clear hg
    obtain ⟨k, hk, rfl, ho, cs', hg, hz⟩ := hrel
    by_cases hlt : k < len
    · obtain ⟨v, hcell⟩ : ∃ v, wr.cell? ⟨b, k, none⟩ = some v := ⟨cs'[k]'(by omega), by rw [cell_of_row wr b k cs' _ _ hg]; exact Array.getElem?_eq_getElem (by omega)⟩
      have hfz := frozen_of_row wr b k cs' _ hg
      have HG := hid hg
      have HZ := hid hz
      clear hg hz
      go_wp2
      go_roundw
      case rel => exact ⟨k + 1, by omega, by go_num, ho.set k _, cs'.setIfInBounds k (.int .u32 1515870810), heap_setCell_same wr b k cs' 23 _ HG.out, by rw [Array.size_setIfInBounds]; exact HZ.out⟩
      case measure => simp [intOf]; omega
    · obtain rfl : k = len := by omega
      clear hlt
      go_wp2
      go_end0
      exact ⟨rfl, ho⟩
end Go.Proofs.Ytlheggnoegedcaa
