/- Rows of slices of words, and appending to rows of the call's own. -/
import Derived.Test.YtlheggnoegedcaaWords
import Derived.Deep.AppendLies
import Derived.Laws.AppendOwnNone
namespace Go.Proofs.Ytlheggnoegedcaa
set_option linter.unusedVariables false
open Go.ChangeShapes Go.WideShapes Go.ChangeAt Go.RowKit
/-- What a walk is told of a slice of slices of words. -/
structure Rws (w : World) (a : Option Addr) (m : Nat) (A : Nat → Option Addr) (n c : Nat → Nat) (g : Nat → Nat → Int) : Prop where
  many : m ≤ 1048576
  few : ∀ i, i < m → n i ≤ 1048576
  words : ∀ i, i < m → Wd w (A i) (n i) (g i)
  at_ : 0 < m → ∃ b o, a = some ⟨b, o, none⟩ ∧ b < w.heap.size ∧ ∀ i, i < m → w.cell? ⟨b, o + i, none⟩ = some (.slice (A i) (n i) (c i))
theorem Rws.below {w w' : World} {a : Option Addr} {m : Nat} {A : Nat → Option Addr} {n c : Nat → Nat} {g : Nat → Nat → Int} (h : Rws w a m A n c g) (hb : Below w.heap.size w w') : Rws w' a m A n c g :=
  ⟨h.many, h.few, fun i hi => (h.words i hi).below hb, fun hp => by
    obtain ⟨b, o, rfl, hlt, hc⟩ := h.at_ hp
    exact ⟨b, o, rfl, Nat.lt_of_lt_of_le hlt hb.size, fun i hi => (hb.cell (p := ⟨b, o + i, none⟩) hlt).trans (hc i hi)⟩⟩
theorem wl_append (g f : Nat → Int) (n m : Nat) : wl g n ++ wl f m = wl (fun j => if j < n then g j else f (j - n)) (n + m) := by
  apply List.ext_getElem?
  intro i
  by_cases h : i < n
  · rw [List.getElem?_append_left (by rw [wl_length]; exact h), wl_get _ _ _ h, wl_get _ _ _ (by omega), if_pos h]
  · rw [List.getElem?_append_right (by rw [wl_length]; omega), wl_length]
    by_cases h2 : i < n + m
    · rw [wl_get _ _ _ (by omega), wl_get _ _ _ h2, if_neg h]
    · rw [List.getElem?_eq_none (by rw [wl_length]; omega), List.getElem?_eq_none (by rw [wl_length]; omega)]
theorem wl_next (F : Nat → Int) (n : Nat) : wl F n ++ [Value.int .u32 (F n)] = wl F (n + 1) := by
  simp [wl, List.range_succ]
theorem wl_one (z : Int) : wl (fun _ => z) 1 = [Value.int .u32 z] := rfl
theorem add_none (b j i : Nat) : (⟨b, j, none⟩ : Addr).add i = ⟨b, j + i, none⟩ := by
  unfold Addr.add
  split
  · rename_i h; subst h; rfl
  · rfl
theorem wl_cells (g : Nat → Int) (n : Nat) : ∀ u ∈ wl g n, u.oneCell' = true := by
  intro u hu
  simp only [wl, List.mem_map] at hu
  obtain ⟨j, _, rfl⟩ := hu
  rfl
/-- More words behind words. -/
theorem push_words {w : World} {ops : Array Oper} {rest : List Oper} {o : Oper} {a : Act} {Q : Exit → Act → World → Prop} (hgd : o.guard = none) (s x : Operand)
    (ho : o.op = .call { callee := .builtin .append, args := #[s, x], argTypes := #[36, 36] })
    (base : Nat) (v : Value) (n : Nat) (g : Nat → Int) (hs : a.eval s = v) (hown : w.ownsRow base 23 1 v n (wl g n))
    (B j0 m c : Nat) (f : Nat → Int) (hx : a.eval x = .slice (some ⟨B, j0, none⟩) m c) (hnews : ∀ j, j < m → w.cell? ⟨B, j0 + j, none⟩ = some (.int .u32 (f j)))
    (hm : 0 < m) (hsmall : (n + m) * 4 ≤ 140737488355328) (hbase : base ≤ w.heap.size)
    (h : ∀ g' cap w', w'.ownsRow base 23 1 (.slice (some ⟨g', 0, none⟩) (n + m) cap) (n + m) (wl (fun j => if j < n then g j else f (j - n)) (n + m)) → w.grownBy w' v.ownBlock → (v.ownBlock = some g' ∨ g' = w.heap.size) → g' < w'.heap.size →
      wpList Try.prog ops Q rest (a.put o.dst (.slice (some ⟨g', 0, none⟩) (n + m) cap)) w') : wpList Try.prog ops Q (o :: rest) a w := by
  obtain ⟨i0, hi, hz0, hz1, hz2⟩ := info_parts info23
  refine wpList_append_lies w hgd s x 36 ho base 23 i0 (.int .u32 0) 1 4 Try.underlying36 hi hz0 hz1 hz2 rfl (by omega) v n (wl g n) hs hown ⟨B, j0, none⟩ m c (wl f m) hx (by rw [wl_length]; omega) ?_ (wl_cells f m) hm (by unfold maxLen; omega) hsmall hbase w.heap.size rfl ?_
  · intro j u hu
    have hj : j < m := by
      have := (List.getElem?_eq_some_iff.1 hu).1
      rw [wl_length] at this
      exact this
    rw [wl_get _ _ _ hj] at hu
    cases hu
    rw [add_none]
    exact hnews j hj
  · rw [wl_append]
    exact h
/-- One word more, out of a block made for it. -/
theorem push_one {w : World} {ops : Array Oper} {rest : List Oper} {o : Oper} {a : Act} {Q : Exit → Act → World → Prop} (hgd : o.guard = none) (s x : Operand)
    (ho : o.op = .call { callee := .builtin .append, args := #[s, x], argTypes := #[36, 36] })
    (base : Nat) (v : Value) (n : Nat) (F : Nat → Int) (hs : a.eval s = v) (hown : w.ownsRow base 23 1 v n (wl F n))
    (z : Int) (hx : a.eval x = .slice (some ⟨w.heap.size, 0, none⟩) 1 1) (hz : z = F n) (hsmall : (n + 1) * 4 ≤ 140737488355328) (hbase : base ≤ w.heap.size)
    (h : ∀ g' cap w', w'.ownsRow base 23 1 (.slice (some ⟨g', 0, none⟩) (n + 1) cap) (n + 1) (wl F (n + 1)) → w.grownBy w' v.ownBlock → (v.ownBlock = some g' ∨ w.heap.size < g') → g' < w'.heap.size →
      wpList Try.prog ops Q rest (a.put o.dst (.slice (some ⟨g', 0, none⟩) (n + 1) cap)) w') : wpList Try.prog ops Q (o :: rest) a (w.alloc (.cells #[.int .u32 z] 23)) := by
  subst hz
  refine push_words hgd s x ho base v n F hs (hown.alloc _) w.heap.size 0 1 1 (fun _ => F n) hx ?_ (by omega) hsmall (by simp; omega) ?_
  · intro j hj
    obtain rfl : j = 0 := by omega
    rw [cell_of_row _ _ _ _ _ _ (alloc_at _ _)]
    rfl
  · intro g' cap w' h1 h2 h3 h4
    refine h g' cap w' ?_ ?_ ?_ h4
    · rw [wl_congr (g := F) (n + 1) (fun j hj => by
        by_cases e : j < n
        · rw [if_pos e]
        · rw [if_neg e, show j = n by omega])] at h1
      exact h1
    · exact ⟨h2.os, h2.tape, h2.output, Nat.le_trans (by simp) h2.size, fun k hk hne => (h2.block k (by simp; omega) hne).trans (heap_alloc_old w _ hk)⟩
    · rcases h3 with h3 | h3
      · exact .inl h3
      · right; rw [h3]; simp
/-- A call that makes memory alone leaves a row as it was. -/
theorem own_below {w w' : World} {base n : Nat} {v : Value} {xs : List Value} (h : w.ownsRow base 23 1 v n xs) (hb : Below w.heap.size w w') : w'.ownsRow base 23 1 v n xs :=
  h.kept (row := none) ⟨hb.os, hb.tape, hb.output, hb.size, fun k hk _ => hb.block k hk⟩ (by cases v.ownBlock <;> simp)
/-- Growth of a row of the call's own, seen from the call's start. -/
theorem below_grown {w w1 w2 : World} {row : Option Nat} (h : Below w.heap.size w w1) (hg : w1.grownBy w2 row) (hrow : ∀ k, row = some k → w.heap.size ≤ k) : Below w.heap.size w w2 :=
  h.grown hg h.size hrow
end Go.Proofs.Ytlheggnoegedcaa
