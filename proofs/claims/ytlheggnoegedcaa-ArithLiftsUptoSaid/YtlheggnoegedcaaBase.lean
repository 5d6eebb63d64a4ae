/- Small laws used by the walks of this seat: maps with integer keys that a call makes. -/
import Derived.Test.YtlheggnoegedcaaRows
import Derived.WalkKit
import Derived.Outline
import Derived.ProofKit
import Derived.OpenShut
import Derived.Below
namespace Go.Proofs.Ytlheggnoegedcaa
open Go.ChangeShapes Go.WideShapes Go.ChangeAt Go.RowKit
theorem hid {p : Prop} (h : p) : Hid p := h
/-- A new block behind: nothing that was there has turned. -/
theorem bal {w w1 : World} (h : Below w.heap.size w w1) (o : Obj) : Below w.heap.size w (w1.alloc o) := h.alloc h.size o
/-- A call behind that makes memory alone. -/
theorem bcall {w w1 w2 : World} (h : Below w.heap.size w w1) (k : Below w1.heap.size w1 w2) : Below w.heap.size w w2 := h.trans (k.mono h.size)
/-- An entry with an integer key of kind k. -/
def ent (k : IntKind) (n : Int) (v : Value) (c : Nat) : MapEntry := { key := .int k n, val := v, born := c }
/-- A function's value. -/
def fv (n : Nat) : Value := .func (.func n) #[] #[]
theorem alloc_at (w : World) (o : Obj) : (w.alloc o).heap[w.heap.size]? = some o := by
  show (w.heap.push o)[w.heap.size]? = some o
  simp
theorem alloc_set (w : World) (o o' : Obj) : (w.alloc o).heap.setIfInBounds w.heap.size o' = (w.alloc o').heap := by
  show (w.heap.push o).setIfInBounds w.heap.size o' = w.heap.push o'
  apply Array.ext'
  simp
theorem run_ins {P : Program} (t kt et : TypeId) (k : IntKind) (n : Int) (v : Value) (es : Array MapEntry) (c : Nat) (w : World)
    (ht : P.underlying t = some (.map kt et)) (hk : P.underlying kt = some (.int k))
    (hf : Instr.findNow (.int k) (.int k n) es.toList 0 = some none) :
    (Instr.mapUpdate t (.map (some w.heap.size)) (.int k n) v).run P (w.alloc (.map es c)) = .ok () (w.alloc (.map (es.push (ent k n v c)) (c + 1))) := by
  have hc : (Instr.checkKey false 10000 kt (.int k n)).run P (w.alloc (.map es c)) = .ok () (w.alloc (.map es c)) := MapKept.run_checkKey (k := .int k n) hk (by simp [MapKept.IsKey]) false 9999
  simp [Instr.mapUpdate, run_underlying ht, MapKept.run_getObj_map (alloc_at w _), hc, MapKept.run_findKey hk hf, MapKept.run_setObj_map _ (alloc_at w _), Result.andThen, ent]
  rw [alloc_set]
  rfl
theorem run_look {P : Program} (t kt et : TypeId) (k : IntKind) (n : Int) (v : Value) (i r : Nat) (es : Array MapEntry) (c : Nat) (w : World)
    (ht : P.underlying t = some (.map kt et)) (hk : P.underlying kt = some (.int k)) (hr : w.heap[r]? = some (.map es c))
    (hf : Instr.findNow (.int k) (.int k n) es.toList 0 = some (some (i, v))) :
    (Instr.lookup t (.map (some r)) (.int k n) false).run P w = .ok v w := by
  have hc : (Instr.checkKey es.isEmpty 10000 kt (.int k n)).run P w = .ok () w := MapKept.run_checkKey (k := .int k n) hk (by simp [MapKept.IsKey]) _ 9999
  simp [Instr.lookup, run_underlying ht, MapKept.run_getObj_map hr, hc, MapKept.run_findKey hk hf, Result.andThen]
  done
theorem run_look_none {P : Program} (t kt et : TypeId) (k : IntKind) (n : Int) (z : Value) (r : Nat) (es : Array MapEntry) (c : Nat) (w : World)
    (ht : P.underlying t = some (.map kt et)) (hk : P.underlying kt = some (.int k)) (hr : w.heap[r]? = some (.map es c))
    (hz : (zeroValue et).run P w = .ok z w)
    (hf : Instr.findNow (.int k) (.int k n) es.toList 0 = some none) :
    (Instr.lookup t (.map (some r)) (.int k n) false).run P w = .ok z w := by
  have hc : (Instr.checkKey es.isEmpty 10000 kt (.int k n)).run P w = .ok () w := MapKept.run_checkKey (k := .int k n) hk (by simp [MapKept.IsKey]) _ 9999
  simp [Instr.lookup, run_underlying ht, MapKept.run_getObj_map hr, hc, MapKept.run_findKey hk hf, Result.andThen, hz]
  done

/-- Entries with integer keys, born one behind the other. -/
def ents (k : IntKind) : List (Int × Value) → Nat → List MapEntry
  | [], _ => []
  | (n, v) :: l, c => ent k n v c :: ents k l (c + 1)
/-- What stands at a key. -/
def at_ (n : Int) : List (Int × Value) → Option Value
  | [] => none
  | (m, v) :: l => if n = m then some v else at_ n l
theorem findNow_none (k : IntKind) (n : Int) (l : List (Int × Value)) : ∀ c i, at_ n l = none → Instr.findNow (.int k) (.int k n) (ents k l c) i = some none := by
  induction l with
  | nil => intro c i _; rfl
  | cons p l ih =>
    obtain ⟨m, v⟩ := p
    intro c i h
    by_cases e : n = m
    · simp [at_, e] at h
    · simp only [at_, if_neg e] at h
      have hb : (n == m) = false := by simpa using e
      simp only [ents, ent, Instr.findNow, Instr.sameNow, if_true, hb]
      exact ih _ _ h
theorem findNow_some (k : IntKind) (n : Int) (v : Value) (l : List (Int × Value)) : ∀ c i, at_ n l = some v → ∃ j, Instr.findNow (.int k) (.int k n) (ents k l c) i = some (some (j, v)) := by
  induction l with
  | nil => intro c i h; cases h
  | cons p l ih =>
    obtain ⟨m, u⟩ := p
    intro c i h
    by_cases e : n = m
    · simp only [at_, if_pos e, Option.some.injEq] at h
      exact ⟨i, by simp [ents, ent, Instr.findNow, Instr.sameNow, e, h]⟩
    · simp only [at_, if_neg e] at h
      have hb : (n == m) = false := by simpa using e
      simp only [ents, ent, Instr.findNow, Instr.sameNow, if_true, hb]
      exact ih _ _ h
/-- The map that such a list makes. -/
def mapObj (k : IntKind) (l : List (Int × Value)) : Obj := .map (ents k l 0).toArray l.length
theorem look_some {P : Program} (t kt et : TypeId) (k : IntKind) (n : Int) (v : Value) (l : List (Int × Value)) (w : World)
    (ht : P.underlying t = some (.map kt et)) (hk : P.underlying kt = some (.int k)) (hf : at_ n l = some v) :
    (Instr.lookup t (.map (some w.heap.size)) (.int k n) false).run P (w.alloc (mapObj k l)) = .ok v (w.alloc (mapObj k l)) := by
  obtain ⟨j, hj⟩ := findNow_some k n v l 0 0 hf
  exact run_look t kt et k n v j _ _ _ _ ht hk (alloc_at w _) hj
theorem look_none {P : Program} (t kt et : TypeId) (k : IntKind) (n : Int) (z : Value) (l : List (Int × Value)) (w : World)
    (ht : P.underlying t = some (.map kt et)) (hk : P.underlying kt = some (.int k)) (hz : ∀ w, (zeroValue et).run P w = .ok z w) (hf : at_ n l = none) :
    (Instr.lookup t (.map (some w.heap.size)) (.int k n) false).run P (w.alloc (mapObj k l)) = .ok z (w.alloc (mapObj k l)) :=
  run_look_none t kt et k n z _ _ _ _ ht hk (alloc_at w _) (hz _) (findNow_none k n l 0 0 hf)
end Go.Proofs.Ytlheggnoegedcaa
