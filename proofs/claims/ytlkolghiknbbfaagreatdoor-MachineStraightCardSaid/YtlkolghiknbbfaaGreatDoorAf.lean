/- What a call owns, fact by fact, each on memory of its own. -/
import Derived.Test.YtlkolghiknbbfaaGreatDoorAa
import Derived.Deep.RegionHeld3
set_option linter.unusedVariables false
set_option linter.unusedSimpArgs false
namespace Go.Proofs.YtlkolghiknbbfaaGreatDoor
open Go.RowKit
structure As where
 dom : Nat → Prop
 holds : World → Prop
 loc : ∀ W W', holds W → (∀ k, dom k → W'.heap[k]? = W.heap[k]?) → holds W'
def blk (g : Nat) (o : Obj) : As := ⟨fun k => k = g, fun W => W.heap[g]? = some o, fun _ _ h k => (k g rfl).trans h⟩
abbrev aP (g : Nat) (cs : Array Value) (t : TypeId) : As := blk g (.cells cs t (0, 0))
def bM (base : Nat) (e : TypeId) (sz : Nat) (v : Value) (n : Nat) (xs : List Value) : As := ⟨fun k => v.ownBlock = some k, fun W => W.ownsRow base e sz v n xs, fun W W' h k => by
 refine ⟨h.1, ?_⟩;rcases h.2 with hn | ⟨g, cap, cur, rfl, hb, hgg, rest⟩
 ·exact .inl hn
 ·exact .inr ⟨g, cap, cur, rfl, hb, (k g rfl).trans hgg, rest⟩⟩
def iO {κ α : Type} (d : TypeDesc) (key : κ → Value) (enc : α → Value) (b : Nat) (f : κ → Option α) : As := ⟨fun k => k = b, fun W => Mp d key (fun _ v x => v = enc x) W b f, fun _ _ h k => h.other (k b rfl) (fun _ _ e => e)⟩
def jo (P : Nat → World → Prop) : Prop := ∀ lo W W', P lo W → (∀ k, lo ≤ k → k < W.heap.size → W'.heap[k]? = W.heap[k]?) → P lo W'
structure aO (P : Nat → World → Prop) (lo hi : Nat) (W : World) : Prop where
 at_ : ∃ U : World, U.heap.size = hi ∧ P lo U ∧ ∀ k, lo ≤ k → k < hi → W.heap[k]? = U.heap[k]?
def deep (lo hi : Nat) (P : Nat → World → Prop) : As := ⟨fun k => lo ≤ k ∧ k < hi, fun W => aO P lo hi W, fun W W' h k => by
 obtain ⟨U, h1, h2, h3⟩ := h.at_
 exact ⟨U, h1, h2, fun i a b => (k i ⟨a, b⟩).trans (h3 i a b)⟩⟩
theorem aO.out {P : Nat → World → Prop} {lo hi : Nat} {W : World} (h : aO P lo hi W) (hP : jo P) : P lo W := by
 obtain ⟨U, h1, h2, h3⟩ := h.at_;exact hP lo U W h2 (fun k a b => h3 k a (by omega))
structure Own (X : Nat → Prop) (w : World) (L : List As) (W : World) : Prop where
 os : W.os = w.os
 tape : W.tape = w.tape
 output : W.output = w.output
 size : w.heap.size ≤ W.heap.size
 keep : ∀ k, k < w.heap.size → ¬ X k → W.heap[k]? = w.heap[k]?
 low : ∀ A ∈ L, ∀ k, A.dom k → (w.heap.size ≤ k ∨ X k) ∧ k < W.heap.size
 has : ∀ A ∈ L, A.holds W
 apart : L.Pairwise (fun A B => ∀ k, A.dom k → ¬ B.dom k)
def aK : Nat → Prop := fun _ => False
structure Step (A A' : As) (W W' : World) : Prop where
 os : W'.os = W.os
 tape : W'.tape = W.tape
 output : W'.output = W.output
 size : W.heap.size ≤ W'.heap.size
 other : ∀ k, k < W.heap.size → ¬ A.dom k → W'.heap[k]? = W.heap[k]?
 dom : ∀ k, A'.dom k → k < W'.heap.size ∧ (A.dom k ∨ W.heap.size ≤ k)
 holds : A'.holds W'
section
variable {X : Nat → Prop} {w W W' : World} {L : List As} {A A' : As}
theorem Own.nil (w : World) : Own aK w [] w := ⟨rfl, rfl, rfl, Nat.le_refl _, fun _ _ _ => rfl, fun p h => (by cases h), fun p h => (by cases h), .nil⟩
theorem Own.start (ha : A.holds w) (hd : ∀ k, A.dom k → k < w.heap.size) : Own A.dom w [A] w :=
 ⟨rfl, rfl, rfl, Nat.le_refl _, fun _ _ _ => rfl, fun p h k hk => (by cases List.mem_singleton.1 h; exact ⟨.inr hk, hd k hk⟩), fun p h => (by cases List.mem_singleton.1 h; exact ha), List.pairwise_singleton _ _⟩
theorem Own.below (h : Own aK w L W) : Bl w W := ⟨h.os, h.tape, h.output, h.size, fun k hk => h.keep k hk id⟩
theorem Own.then (h : Own X w L W) (hb : Bl W W') : Own X w L W' :=
 ⟨hb.os.trans h.os, hb.tape.trans h.tape, hb.output.trans h.output, Nat.le_trans h.size hb.size, fun k hk hx => (hb.block k (Nat.lt_of_lt_of_le hk h.size)).trans (h.keep k hk hx), fun A hA k hk => ⟨(h.low A hA k hk).1, Nat.lt_of_lt_of_le (h.low A hA k hk).2 hb.size⟩, fun A hA => A.loc _ _ (h.has A hA) (fun k hk => hb.block _ (h.low A hA k hk).2), h.apart⟩
theorem Own.cons (h : Own X w L W) (hb : Bl W W') (hd : ∀ k, A.dom k → W.heap.size ≤ k ∧ k < W'.heap.size) (ha : A.holds W') : Own X w (A :: L) W' := by
 have h2 := h.then hb
 refine ⟨h2.os, h2.tape, h2.output, h2.size, h2.keep, fun B hB k hk => ?_, fun B hB => ?_, List.Pairwise.cons (fun B hB k hk hk2 => ?_) h.apart⟩
 ·rcases List.mem_cons.1 hB with rfl | hB
  ·exact ⟨.inl (Nat.le_trans h.size (hd k hk).1), (hd k hk).2⟩
  ·exact h2.low B hB k hk
 ·rcases List.mem_cons.1 hB with rfl | hB
  ·exact ha
  ·exact h2.has B hB
 ·have := (h.low B hB k hk2).2
  have := (hd k hk).1;omega
theorem Own.alloc (h : Own X w L W) (o : Obj) : Own X w (blk W.heap.size o :: L) (W.alloc o) :=
 h.cons (bP (Below.refl _ _) o) (fun k hk => by cases hk; simp) (alloc_at W o)
theorem Own.free (h : Own X w L W) (hd : ∀ k, ¬ A.dom k) (ha : A.holds W) : Own X w (A :: L) W := h.cons (Below.refl _ _) (fun k hk => absurd hk (hd k)) ha
theorem Own.row (h : Own X w L W) (base : Nat) (e : TypeId) (sz : Nat) : Own X w (bM base e sz (.slice none 0 0) 0 [] :: L) W := h.free (fun k hk => by cases hk) (World.ownsRow_nil _ _ _ _)
theorem Own.deep {P : Nat → World → Prop} (h : Own X w L W) (hb : Bl W W') (hp : P W.heap.size W') : Own X w (deep W.heap.size W'.heap.size P :: L) W' :=
 h.cons hb (fun k hk => hk) ⟨W', rfl, hp, fun _ _ _ => rfl⟩
theorem Own.drew (h : Own X w L W) : Own X w L W.drew := h.then ⟨rfl, rfl, rfl, Nat.le_refl _, fun _ _ => rfl⟩
theorem Own.drewN (h : Own X w L W) (n : Nat) : Own X w L (W.drewN n) := h.then ⟨rfl, rfl, rfl, Nat.le_refl _, fun _ _ => rfl⟩
theorem Own.at (h : Own X w L W) (i : Nat) (hi : L[i]? = some A) : A.holds W := h.has _ (List.mem_of_getElem? hi)
theorem Own.blk (h : Own X w L W) (i : Nat) {g : Nat} {o : Obj} (hi : L[i]? = some (blk g o)) : W.heap[g]? = some o := h.at i hi
theorem Own.cells (h : Own X w L W) (i : Nat) {g : Nat} {cs : Array Value} {t : TypeId} {fr : Nat × Nat} (hi : L[i]? = some (Go.Proofs.YtlkolghiknbbfaaGreatDoor.blk g (.cells cs t fr))) : ∀ j, W.cell? ⟨g, j, none⟩ = cs[j]? := fun j => cell_of_row _ _ _ _ _ _ (h.blk i hi)
theorem Own.melt (h : Own X w L W) (i : Nat) {g : Nat} {cs : Array Value} {t : TypeId} (hi : L[i]? = some (aP g cs t)) : ∀ j, W.frozen? ⟨g, j, none⟩ = false := fun j => frozen_of_row _ _ j _ _ (h.blk i hi)
theorem Own.lt (h : Own X w L W) (i : Nat) {g : Nat} {o : Obj} (hi : L[i]? = some (Go.Proofs.YtlkolghiknbbfaaGreatDoor.blk g o)) : g < W.heap.size := (h.low _ (List.mem_of_getElem? hi) g rfl).2
theorem Own.le (h : Own aK w L W) (i : Nat) {g : Nat} {o : Obj} (hi : L[i]? = some (Go.Proofs.YtlkolghiknbbfaaGreatDoor.blk g o)) : w.heap.size ≤ g := (h.low _ (List.mem_of_getElem? hi) g rfl).1.elim id False.elim
theorem Own.step (h : Own X w L W) (i : Nat) (hi : L[i]? = some A) (s : Step A A' W W') : Own X w (L.set i A') W' := by
 have hm := List.mem_of_getElem? hi;have hap : ∀ j B, L[j]? = some B → j ≠ i → ∀ k, B.dom k → ¬ A.dom k := fun j B hj hne k hk hk2 => by
  have hr := List.pairwise_iff_getElem.1 h.apart;obtain ⟨h1, h2⟩ := List.getElem?_eq_some_iff.1 hi;obtain ⟨h3, h4⟩ := List.getElem?_eq_some_iff.1 hj;rcases Nat.lt_or_gt_of_ne hne with hlt | hlt
  ·exact hr j i h3 h1 hlt k (by rw [h4]; exact hk) (by rw [h2]; exact hk2)
  ·exact hr i j h1 h3 hlt k (by rw [h2]; exact hk2) (by rw [h4]; exact hk)
 have hfar : ∀ j B, L[j]? = some B → j ≠ i → ∀ k, B.dom k → ¬ A'.dom k := fun j B hj hne k hk hk2 => by
  rcases (s.dom k hk2).2 with h5 | h5
  ·exact hap j B hj hne k hk h5
  ·have := (h.low B (List.mem_of_getElem? hj) k hk).2
   omega
 refine ⟨s.os.trans h.os, s.tape.trans h.tape, s.output.trans h.output, Nat.le_trans h.size s.size, fun k hk hx => (s.other k (Nat.lt_of_lt_of_le hk h.size) (fun hd => ?_)).trans (h.keep k hk hx), fun B hB k hk => ?_, fun B hB => ?_, ?_⟩
 ·rcases (h.low A hm k hd).1 with h5 | h5
  ·omega
  ·exact hx h5
 ·obtain ⟨j, hj⟩ := List.mem_iff_getElem?.1 hB
  rw [List.getElem?_set] at hj
  split at hj
  ·split at hj
   ·cases hj
    refine ⟨?_, (s.dom k hk).1⟩;rcases (s.dom k hk).2 with h5 | h5
    ·exact (h.low A hm k h5).1
    ·exact .inl (Nat.le_trans h.size h5)
   ·cases hj
  ·have := h.low B (List.mem_of_getElem? hj) k hk
   exact ⟨this.1, Nat.lt_of_lt_of_le this.2 s.size⟩
 ·obtain ⟨j, hj⟩ := List.mem_iff_getElem?.1 hB
  rw [List.getElem?_set] at hj
  split at hj
  ·split at hj
   ·cases hj; exact s.holds
   ·cases hj
  ·rename_i hne
   exact B.loc _ _ (h.has B (List.mem_of_getElem? hj)) (fun k hk => s.other k (h.low B (List.mem_of_getElem? hj) k hk).2 (hap j B hj (Ne.symm hne) k hk))
 ·refine List.pairwise_iff_getElem.2 fun x y hx hy hlt k hk hk2 => ?_
  rw [List.length_set] at hx hy;rw [List.getElem_set] at hk hk2
  split at hk <;> split at hk2
  ·omega
  ·rename_i e1 e2
   exact hfar y L[y] (List.getElem?_eq_getElem hy) (Ne.symm e2) k hk2 hk
  ·rename_i e1 e2
   exact hfar x L[x] (List.getElem?_eq_getElem hx) (Ne.symm e1) k hk hk2
  ·exact List.pairwise_iff_getElem.1 h.apart x y hx hy hlt k hk hk2
theorem Own.done (h : Own A.dom w (A' :: L) W) : Step A A' w W :=
 ⟨h.os, h.tape, h.output, h.size, h.keep, fun k hk => ⟨(h.low A' (List.mem_cons_self ..) k hk).2, (h.low A' (List.mem_cons_self ..) k hk).1.symm⟩, h.has A' (List.mem_cons_self ..)⟩
theorem Own.perm {L' : List As} (h : Own X w L W) (hp : L.Perm L') : Own X w L' W :=
 ⟨h.os, h.tape, h.output, h.size, h.keep, fun A hA => h.low A (hp.mem_iff.2 hA), fun A hA => h.has A (hp.mem_iff.2 hA), hp.pairwise h.apart (fun h1 k hb ha => h1 k ha hb)⟩
theorem Step.set {g j : Nat} {cs : Array Value} {t : TypeId} (v : Value) (h : W.heap[g]? = some (.cells cs t (0, 0))) : Step (aP g cs t) (aP g (cs.setIfInBounds j v) t) W (W.setCell ⟨g, j, none⟩ v) :=
 ⟨rfl, rfl, rfl, by rw [World.size_setCell]; exact Nat.le_refl _, fun k _ hk => heap_setCell_other W ⟨g, j, none⟩ k v hk, fun k hk => ⟨by cases hk; rw [World.size_setCell]; exact (Array.getElem?_eq_some_iff.1 h).1, .inl hk⟩, heap_setCell_same _ _ _ _ _ _ h⟩
theorem Step.put {g : Nat} {old : Array Value} {t : TypeId} (cs : Array Value) (h : W.heap[g]? = some (.cells old t (0, 0))) : Step (aP g old t) (aP g cs t) W (W.setRow g cs) :=
 ⟨rfl, rfl, rfl, by simp, fun k _ hk => dL cs hk, fun k hk => ⟨by cases hk; simp; exact (Array.getElem?_eq_some_iff.1 h).1, .inl hk⟩, dH cs h⟩
theorem Own.set (h : Own X w L W) (i : Nat) {g : Nat} {cs : Array Value} {t : TypeId} (j : Nat) (v : Value) (hi : L[i]? = some (aP g cs t)) : Own X w (L.set i (aP g (cs.setIfInBounds j v) t)) (W.setCell ⟨g, j, none⟩ v) := h.step i hi (Step.set v (h.blk i hi))
theorem Own.put (h : Own X w L W) (i : Nat) {g : Nat} {old : Array Value} {t : TypeId} (cs : Array Value) (hi : L[i]? = some (aP g old t)) : Own X w (L.set i (aP g cs t)) (W.setRow g cs) := h.step i hi (Step.put cs (h.blk i hi))
theorem Own.map (h : Own X w L W) (i : Nat) {κ α : Type} {d : TypeDesc} {key : κ → Value} {enc : α → Value} {b : Nat} {f f' : κ → Option α} (o : Obj) (hi : L[i]? = some (iO d key enc b f)) (hm : Mp d key (fun _ v x => v = enc x) (aT W b o) b f') : Own X w (L.set i (iO d key enc b f')) (aT W b o) :=
 h.step i hi ⟨rfl, rfl, rfl, by rw [jg]; exact Nat.le_refl _, fun k _ hk => jw W o hk, fun k hk => ⟨by cases hk; exact hm.lt, .inl hk⟩, hm⟩
theorem Own.grown (h : Own X w L W) (i : Nat) {base base' : Nat} {e e' : TypeId} {sz : Nat} {v v' : Value} {n n' : Nat} {xs ys : List Value} (hi : L[i]? = some (bM base e sz v n xs)) (hg : W.grownBy W' v.ownBlock) (ho : W'.ownsRow base' e' sz v' n' ys) (hv : ∀ k, v'.ownBlock = some k → v.ownBlock = some k ∨ W.heap.size ≤ k) : Own X w (L.set i (bM base' e' sz v' n' ys)) W' :=
 h.step i hi ⟨hg.os, hg.tape, hg.output, hg.size, fun k hk hd => hg.block k hk (fun e => hd e.symm), fun k hk => ⟨(ho.lt k hk).2, hv k hk⟩, ho⟩
theorem Own.sub {L' : List As} (h : Own X w L W) (hs : L'.Sublist L) : Own X w L' W :=
 ⟨h.os, h.tape, h.output, h.size, h.keep, fun p hp => h.low p (hs.subset hp), fun p hp => h.has p (hs.subset hp), h.apart.sublist hs⟩
theorem Own.drop (h : Own X w L W) (i : Nat) : Own X w (L.drop i) W := h.sub (List.drop_sublist _ _)
theorem Own.old (h : Own aK w L W) : ∀ b o, b < w.heap.size → W.cell? ⟨b, o, none⟩ = w.cell? ⟨b, o, none⟩ := fun b o hb => h.below.cell (p := ⟨b, o, none⟩) hb
end
section
variable {P : Program} {ops : Array Oper} {Q : Exit → Act → World → Prop} {l : List Oper} {c : Code} {a : Act} {X : Nat → Prop} {w W W' : World} {L : List As}
theorem aM {o : Obj} (h : Own X w L W) (k : ∀ g W', Hid (g = W.heap.size) → Own X w (blk g o :: L) W' → wpList P ops Q l a W') : wpList P ops Q l a (W.alloc o) := k _ _ (hid rfl) (h.alloc o)
theorem Mm (h : Own X w L W) (k : ∀ W', Own X w L W' → wpList P ops Q l a W') : wpList P ops Q l a W.drew := k _ h.drew
theorem Kv (h : Own X w L W) (k : ∀ W', Own X w L W' → c.wp P Q a W') : c.wp P Q a W.drew := k _ h.drew
theorem EN {n : Nat} (h : Own X w L W) (k : ∀ W', Own X w L W' → c.wp P Q a W') : c.wp P Q a (W.drewN n) := k _ (h.drewN n)
theorem JF (i : Nat) {g j : Nat} {cs : Array Value} {t : TypeId} {v : Value} (h : Own X w L W) (hi : L[i]? = some (aP g cs t)) (k : ∀ W', Own X w (L.set i (aP g (cs.setIfInBounds j v) t)) W' → wpList P ops Q l a W') : wpList P ops Q l a (W.setCell ⟨g, j, none⟩ v) := k _ (h.set i j v hi)
theorem LP {o : Oper} (i : Nat) {rest : List Oper} {g : Nat} {cs : Array Value} {t : TypeId} (h : Own X w L W) (hi : L[i]? = some (aP g cs t)) (hgd : o.guard = none) (ty : TypeId) (x : Operand) (ho : o.op = .load ty x) (hx : a.eval x = .pointer (some ⟨g, 0, none⟩)) (d : TypeDesc) (hu : P.underlying ty = some d) (hd : (match d with | .struct _ | .array _ _ => true | _ => false) = true) (hs : (P.info? ty).map (·.size) = some cs.size)
  (k : wpList P ops Q rest (a.put o.dst (.agg cs)) W) : wpList P ops Q (o :: rest) a W := wpList_load_row hgd ty x ho g hx t cs _ d (h.blk i hi) hu hd hs k
theorem tu {o : Oper} (i : Nat) {rest : List Oper} {g : Nat} {old cs : Array Value} {t : TypeId} (h : Own X w L W) (hi : L[i]? = some (aP g old t)) (hgd : o.guard = none) (ty : TypeId) (x y : Operand) (ho : o.op = .store ty x y) (hx : a.eval x = .pointer (some ⟨g, 0, none⟩)) (hy : a.eval y = .agg cs) (hs : (P.info? ty).map (·.size) = some cs.size) (hold : old.size = cs.size) (h1 : cs.all (·.oneCell') = true)
  (k : ∀ W', Own X w (L.set i (aP g cs t)) W' → wpList P ops Q rest (a.put o.dst undef) W') : wpList P ops Q (o :: rest) a W := wpList_store_row hgd ty x y ho g cs hx hy t old (h.blk i hi) hs hold h1 (k _ (h.put i cs hi))
end
theorem Own.upto {X : Nat → Prop} {w W W' : World} {L : List As} {B : Nat} (h : Own X w L W) (hd : ∀ A ∈ L, ∀ k, A.dom k → k < B) (hw : w.heap.size ≤ B) (hb : Below B W W') : Own X w L W' :=
 ⟨hb.os.trans h.os, hb.tape.trans h.tape, hb.output.trans h.output, Nat.le_trans h.size hb.size, fun k hk hx => (hb.block k (Nat.lt_of_lt_of_le hk hw)).trans (h.keep k hk hx), fun A hA k hk => ⟨(h.low A hA k hk).1, Nat.lt_of_lt_of_le (h.low A hA k hk).2 hb.size⟩, fun A hA => A.loc _ _ (h.has A hA) (fun k hk => hb.block _ (hd A hA k hk)), h.apart⟩
section
variable {F : Fence} {n : Nat} {P : Program} {ops : Array Oper} {Q : Exit → Act → World → Prop} {l : List Oper} {c : Code} {a : Act} {X : Nat → Prop} {w W W' : World} {L : List As}
theorem gD {rest : List Oper} {o : Oper} (hgd : o.guard = none) (ty : TypeId) (x y : Operand) (ho : o.op = .store ty x y)
  (g : Nat) (cells : Array Value) (hx : a.eval x = .pointer (some ⟨g, 0, none⟩)) (hy : a.eval y = .agg cells)
  (t : TypeId) (old : Array Value) (hg : w.heap[g]? = some (.cells old t (0, 0))) (hi : (P.info? ty).map (·.size) = some cells.size)
  (hold : old.size = cells.size) (h1 : cells.all (·.oneCell') = true)
  (h : wpListIn F n P ops Q rest (a.put o.dst undef) (w.setRow g cells)) : wpListIn F n P ops Q (o :: rest) a w := by
 refine wpListIn_plain hgd fun K hK => ?_
 unfold Oper.wpIn;refine ⟨by simp [Oper.about, ho], ?_⟩;rw [Oper.semAt_plain F _ _ (by rw [ho]; intro c hc'; cases hc')];unfold execOp;simp only [ho, hx, hy, Instr.storeAt, Instr.sureAddr, Sem.run_bind, Sem.run_pure, Result.andThen_ok, run_storeVar_row w g t ty old cells hg hi hold h1];exact hK _ _ h
theorem pu {o : Obj} (h : Own X w L W) (k : ∀ g W', Hid (g = W.heap.size) → Own X w (blk g o :: L) W' → wpListIn F n P ops Q l a W') : wpListIn F n P ops Q l a (W.alloc o) := k _ _ (hid rfl) (h.alloc o)
theorem iw (i : Nat) {g j : Nat} {cs : Array Value} {t : TypeId} {v : Value} (h : Own X w L W) (hi : L[i]? = some (aP g cs t)) (k : ∀ W', Own X w (L.set i (aP g (cs.setIfInBounds j v) t)) W' → wpListIn F n P ops Q l a W') : wpListIn F n P ops Q l a (W.setCell ⟨g, j, none⟩ v) := k _ (h.set i j v hi)
theorem jI {o : Oper} (i : Nat) {rest : List Oper} {g : Nat} {old cs : Array Value} {t : TypeId} (h : Own X w L W) (hi : L[i]? = some (aP g old t)) (hgd : o.guard = none) (ty : TypeId) (x y : Operand) (ho : o.op = .store ty x y) (hx : a.eval x = .pointer (some ⟨g, 0, none⟩)) (hy : a.eval y = .agg cs) (hs : (P.info? ty).map (·.size) = some cs.size) (hold : old.size = cs.size) (h1 : cs.all (·.oneCell') = true)
  (k : ∀ W', Own X w (L.set i (aP g cs t)) W' → wpListIn F n P ops Q rest (a.put o.dst undef) W') : wpListIn F n P ops Q (o :: rest) a W := gD hgd ty x y ho g cs hx hy t old (h.blk i hi) hs hold h1 (k _ (h.put i cs hi))
end
def As.and (A B : As) : As := ⟨fun k => A.dom k ∨ B.dom k, fun W => A.holds W ∧ B.holds W ∧ ∀ k, A.dom k → ¬ B.dom k, fun W W' h k => ⟨A.loc _ _ h.1 (fun i hi => k i (.inl hi)), B.loc _ _ h.2.1 (fun i hi => k i (.inr hi)), h.2.2⟩⟩
theorem Own.join {X : Nat → Prop} {w W : World} {L : List As} {A B : As} (h : Own X w (A :: B :: L) W) : Own X w (A.and B :: L) W := by
 have h1 := List.pairwise_cons.1 h.apart;have h2 := List.pairwise_cons.1 h1.2;have mA : A ∈ A :: B :: L := List.mem_cons_self ..;have mB : B ∈ A :: B :: L := List.mem_cons_of_mem _ (List.mem_cons_self ..);refine ⟨h.os, h.tape, h.output, h.size, h.keep, fun C hC k hk => ?_, fun C hC => ?_, List.Pairwise.cons (fun C hC k hk => ?_) h2.2⟩
 ·rcases List.mem_cons.1 hC with rfl | hC
  ·exact hk.elim (h.low A mA k) (h.low B mB k)
  ·exact h.low C (List.mem_cons_of_mem _ (List.mem_cons_of_mem _ hC)) k hk
 ·rcases List.mem_cons.1 hC with rfl | hC
  ·exact ⟨h.has A mA, h.has B mB, h1.1 B (List.mem_cons_self ..)⟩
  ·exact h.has C (List.mem_cons_of_mem _ (List.mem_cons_of_mem _ hC))
 ·exact hk.elim (h1.1 C (List.mem_cons_of_mem _ hC) k) (h2.1 C hC k)
theorem Own.split {X : Nat → Prop} {w W : World} {L : List As} {A B : As} (h : Own X w (A.and B :: L) W) : Own X w (A :: B :: L) W := by
 have h1 := List.pairwise_cons.1 h.apart;have mA : A.and B ∈ A.and B :: L := List.mem_cons_self ..;have hh := h.has _ mA;refine ⟨h.os, h.tape, h.output, h.size, h.keep, fun C hC k hk => ?_, fun C hC => ?_, List.Pairwise.cons (fun C hC k hk => ?_) (List.Pairwise.cons (fun C hC k hk => h1.1 C hC k (.inr hk)) h1.2)⟩
 ·rcases List.mem_cons.1 hC with rfl | hC
  ·exact h.low _ mA k (.inl hk)
  ·rcases List.mem_cons.1 hC with rfl | hC
   ·exact h.low _ mA k (.inr hk)
   ·exact h.low C (List.mem_cons_of_mem _ hC) k hk
 ·rcases List.mem_cons.1 hC with rfl | hC
  ·exact hh.1
  ·rcases List.mem_cons.1 hC with rfl | hC
   ·exact hh.2.1
   ·exact h.has C (List.mem_cons_of_mem _ hC)
 ·rcases List.mem_cons.1 hC with rfl | hC
  ·exact hh.2.2 k hk
  ·exact h1.1 C hC k (.inl hk)
theorem Own.oldX {X : Nat → Prop} {w W : World} {L : List As} (h : Own X w L W) {b o : Nat} {v : Value} (hc : w.cell? ⟨b, o, none⟩ = some v) (hx : ¬ X b) : W.cell? ⟨b, o, none⟩ = some v :=
 (World.cell?_of_block (a := ⟨b, o, none⟩) (h.keep b (block_lt_of_cell hc) hx)).trans hc
theorem Own.cell {X : Nat → Prop} {w W : World} {L : List As} (h : Own X w L W) (i j : Nat) {g : Nat} {cs : Array Value} {t : TypeId} {fr : Nat × Nat} {v : Value} (hi : L[i]? = some (Go.Proofs.YtlkolghiknbbfaaGreatDoor.blk g (.cells cs t fr))) (hv : cs[j]? = some v) : W.cell? ⟨g, j, none⟩ = some v := (h.cells i hi j).trans hv
theorem xL {base g c n n' sz k : Nat} {e : TypeId} {xs : List Value} (h : (bM base e sz (.slice (some ⟨g, 0, none⟩) n c) n' xs).dom k) : k = g := (Option.some.inj h).symm
theorem Own.ne {X : Nat → Prop} {w W : World} {L : List As} (h : Own X w L W) (i j : Nat) {g g' : Nat} {o o' : Obj} (hi : L[i]? = some (Go.Proofs.YtlkolghiknbbfaaGreatDoor.blk g o)) (hj : L[j]? = some (Go.Proofs.YtlkolghiknbbfaaGreatDoor.blk g' o')) (hij : i < j) : g ≠ g' := by
 have hr := List.pairwise_iff_getElem.1 h.apart;obtain ⟨h1, h2⟩ := List.getElem?_eq_some_iff.1 hi;obtain ⟨h3, h4⟩ := List.getElem?_eq_some_iff.1 hj;intro e;exact hr i j h1 h3 hij g (by rw [h2]; rfl) (by rw [h4]; exact e)
theorem Own.rowcell {X : Nat → Prop} {w W : World} {L : List As} (h : Own X w L W) (i j : Nat) {base g c n n' sz : Nat} {e : TypeId} {xs : List Value} {v : Value} (hi : L[i]? = some (bM base e sz (.slice (some ⟨g, 0, none⟩) n c) n' xs)) (hv : xs[j]? = some v) : W.cell? ⟨g, j, none⟩ = some v := by
 have h1 : W.ownsRow base e sz (.slice (some ⟨g, 0, none⟩) n c) n' xs := h.at i hi;have := h1.cells (g := g) rfl j v hv
 rwa [bH, Nat.zero_add] at this
theorem Own.rowle {w W : World} {L : List As} (h : Own aK w L W) (i : Nat) {base g c n n' sz : Nat} {e : TypeId} {xs : List Value} (hi : L[i]? = some (bM base e sz (.slice (some ⟨g, 0, none⟩) n c) n' xs)) : w.heap.size ≤ g := (h.low _ (List.mem_of_getElem? hi) g rfl).1.elim id False.elim
theorem ku {cs : Array Value} {i j : Nat} {u v : Value} (h : cs[j]? = some v) (hij : i ≠ j := by omega) : (cs.setIfInBounds i u)[j]? = some v := (Array.getElem?_setIfInBounds_ne hij).trans h
theorem uu {cs : Array Value} {i : Nat} {u : Value} (h : i < cs.size) : (cs.setIfInBounds i u)[i]? = some u := Array.getElem?_setIfInBounds_self_of_lt h
theorem Own.of_blocks {w W : World} {L : List (Nat × Obj)} (hb : Bl w W) (h : ∀ p ∈ L, w.heap.size ≤ p.1 ∧ W.heap[p.1]? = some p.2) (hd : (L.map Prod.fst).Pairwise (· ≠ ·)) : Own aK w (L.map fun p => Go.Proofs.YtlkolghiknbbfaaGreatDoor.blk p.1 p.2) W := by
 refine ⟨hb.os, hb.tape, hb.output, hb.size, fun k hk _ => hb.block k hk, fun A hA k hk => ?_, fun A hA => ?_, ?_⟩
 ·obtain ⟨p, hp, rfl⟩ := List.mem_map.1 hA
  cases hk
  exact ⟨.inl (h p hp).1, (Array.getElem?_eq_some_iff.1 (h p hp).2).1⟩
 ·obtain ⟨p, hp, rfl⟩ := List.mem_map.1 hA
  exact (h p hp).2
 ·rw [List.pairwise_map] at hd ⊢
  exact hd.imp fun hne k hk hk2 => hne (hk.symm.trans hk2)
theorem jh {w : World} {o : Obj} {k : Nat} (h : k = w.heap.size) : (w.alloc o).heap[k]? = some o := by subst h; exact alloc_at w o
theorem fe {w : World} {o : Obj} {k : Nat} (h : k < w.heap.size) : (w.alloc o).heap[k]? = w.heap[k]? := Below.heap_alloc w o k h
theorem fu {w : World} {k : Nat} : w.drew.heap[k]? = w.heap[k]? := rfl
theorem aN {w : World} : w.drew.heap.size = w.heap.size := rfl
theorem aQ {B : Nat} {w W : World} (h : Below B w W) : Below B w W.drew := ⟨h.os, h.tape, h.output, h.size, h.block⟩
theorem Own.neDom {X : Nat → Prop} {w W : World} {L : List As} {A : As} (h : Own X w L W) (i j : Nat) {g k : Nat} {o : Obj} (hi : L[i]? = some A) (hj : L[j]? = some (Go.Proofs.YtlkolghiknbbfaaGreatDoor.blk g o)) (hij : i ≠ j) (hk : A.dom k) : k ≠ g := by
 have hr := List.pairwise_iff_getElem.1 h.apart;obtain ⟨h1, h2⟩ := List.getElem?_eq_some_iff.1 hi;obtain ⟨h3, h4⟩ := List.getElem?_eq_some_iff.1 hj;intro e;rcases Nat.lt_or_gt_of_ne hij with hlt | hlt
 ·exact hr i j h1 h3 hlt k (by rw [h2]; exact hk) (by rw [h4]; exact e)
 ·exact hr j i h3 h1 hlt k (by rw [h4]; exact e) (by rw [h2]; exact hk)
class DD (L : List As) (P : outParam (World → Prop)) : Prop where
 ok : ∀ W, (∀ A ∈ L, A.holds W) → P W
theorem Au {g : Nat} {cs : Array Value} {t : TypeId} {L : List As} {W : World} (h : ∀ A ∈ blk g (.cells cs t (0, 0)) :: L, A.holds W) : (∀ j, W.cell? ⟨g, j, none⟩ = cs[j]?) ∧ ∀ j, W.frozen? ⟨g, j, none⟩ = false := by
 have h0 : W.heap[g]? = some (.cells cs t (0, 0)) := h _ (List.mem_cons_self ..);exact ⟨fun j => cell_of_row _ _ _ _ _ _ h0, fun j => frozen_of_row _ _ j _ _ h0⟩
instance (priority := high) lay_both {g : Nat} {cs : Array Value} {t : TypeId} {L : List As} {Q : World → Prop} [i : DD L Q] : DD (blk g (.cells cs t (0, 0)) :: L) (fun W => ((∀ j, W.cell? ⟨g, j, none⟩ = cs[j]?) ∧ ∀ j, W.frozen? ⟨g, j, none⟩ = false) ∧ Q W) := ⟨fun W h => ⟨Au h, i.ok W fun A hA => h A (List.mem_cons_of_mem _ hA)⟩⟩
instance (priority := default) lay_one {g : Nat} {cs : Array Value} {t : TypeId} {L : List As} : DD (blk g (.cells cs t (0, 0)) :: L) (fun W => (∀ j, W.cell? ⟨g, j, none⟩ = cs[j]?) ∧ ∀ j, W.frozen? ⟨g, j, none⟩ = false) := ⟨fun W h => Au h⟩
instance (priority := low) lay_skip {A : As} {L : List As} {Q : World → Prop} [i : DD L Q] : DD (A :: L) Q := ⟨fun W h => i.ok W fun B hB => h B (List.mem_cons_of_mem _ hB)⟩
/-- A name that a rewrite of `w.heap.size` does not see. -/
abbrev hsz (w : World) : Nat := w.heap.size
class pR (X : Nat → Prop) (L : List As) (P : outParam (World → World → Prop)) : Prop where
 ok : ∀ w W, Own X w L W → P w W
instance (priority := high) layx_no {L : List As} {Q : World → Prop} [i : DD L Q] : pR aK L (fun w W => (∀ b o, b < hsz w → W.cell? ⟨b, o, none⟩ = w.cell? ⟨b, o, none⟩) ∧ Q W) := ⟨fun w W h => ⟨h.old, i.ok W h.has⟩⟩
instance (priority := default) layx_old {L : List As} : pR aK L (fun w W => ∀ b o, b < hsz w → W.cell? ⟨b, o, none⟩ = w.cell? ⟨b, o, none⟩) := ⟨fun w W h => h.old⟩
instance (priority := low) layx_l {X : Nat → Prop} {L : List As} {Q : World → Prop} [i : DD L Q] : pR X L (fun _ W => Q W) := ⟨fun w W h => i.ok W h.has⟩
theorem Own.kk {X : Nat → Prop} {w W : World} {L : List As} {P : World → World → Prop} [i : pR X L P] (h : Own X w L W) : P w W := i.ok w W h
class qR (L : List As) (g : Nat) (i : outParam Nat) (cs : outParam (Array Value)) (t : outParam TypeId) : Prop where
 ok : L[i]? = some (blk g (.cells cs t (0, 0)))
instance (priority := high) has_head {g : Nat} {cs : Array Value} {t : TypeId} {L : List As} : qR (blk g (.cells cs t (0, 0)) :: L) g 0 cs t := ⟨rfl⟩
instance (priority := low) has_tail {A : As} {L : List As} {g i : Nat} {cs : Array Value} {t : TypeId} [h : qR L g i cs t] : qR (A :: L) g (i + 1) cs t := ⟨by rw [List.getElem?_cons_succ]; exact h.ok⟩
section
variable {P : Program} {ops : Array Oper} {Q : Exit → Act → World → Prop} {l : List Oper} {c : Code} {a : Act} {X : Nat → Prop} {w W : World} {L : List As} {i g j : Nat} {cs : Array Value} {t : TypeId}
theorem dM {v : Value} [q : qR L g i cs t] (h : Own X w L W) (k : ∀ W', Own X w (L.set i (aP g (cs.setIfInBounds j v) t)) W' → wpList P ops Q l a W') : wpList P ops Q l a (W.setCell ⟨g, j, none⟩ v) := k _ (h.set i j v q.ok)
theorem bT {v : Value} [q : qR L g i cs t] (h : Own X w L W) (k : ∀ W', Own X w (L.set i (aP g (cs.setIfInBounds j v) t)) W' → c.wp P Q a W') : c.wp P Q a (W.setCell ⟨g, j, none⟩ v) := k _ (h.set i j v q.ok)
theorem dQ {o : Obj} (h : Own X w L W) (k : ∀ g, Hid (g = W.heap.size) → ∀ W', Own X w (blk g o :: L) W' → wpList P ops Q l a W') : wpList P ops Q l a (W.alloc o) := k _ (hid rfl) _ (h.alloc o)
theorem qc {o : Obj} (h : Own X w L W) (k : ∀ g, Hid (g = W.heap.size) → ∀ W', Own X w (blk g o :: L) W' → c.wp P Q a W') : c.wp P Q a (W.alloc o) := k _ (hid rfl) _ (h.alloc o)
theorem sp_lk {o : Oper} {rest : List Oper} (h : Own X w L W) (hgd : o.guard = none) (ty : TypeId) (x : Operand) (ho : o.op = .load ty x) (hx : a.eval x = .pointer (some ⟨g, 0, none⟩)) (d : TypeDesc) (hu : P.underlying ty = some d) (hd : (match d with | .struct _ | .array _ _ => true | _ => false) = true) [q : qR L g i cs t] (hs : (P.info? ty).map (·.size) = some cs.size)
  (k : wpList P ops Q rest (a.put o.dst (.agg cs)) W) : wpList P ops Q (o :: rest) a W := LP i h q.ok hgd ty x ho hx d hu hd hs k
theorem gW {o : Oper} {rest : List Oper} {old : Array Value} (h : Own X w L W) (hgd : o.guard = none) (ty : TypeId) (x y : Operand) (ho : o.op = .store ty x y) (hx : a.eval x = .pointer (some ⟨g, 0, none⟩)) (hy : a.eval y = .agg cs) [q : qR L g i old t] (hs : (P.info? ty).map (·.size) = some cs.size) (hold : old.size = cs.size) (h1 : cs.all (·.oneCell') = true)
  (k : ∀ W', Own X w (L.set i (aP g cs t)) W' → wpList P ops Q rest (a.put o.dst undef) W') : wpList P ops Q (o :: rest) a W := tu i h q.ok hgd ty x y ho hx hy hs hold h1 k
end
theorem KV {α : Type _} {a b : α} {l : List α} : (a :: l).set 0 b = b :: l := rfl
theorem KT {α : Type _} {a b : α} {l : List α} {n : Nat} : (a :: l).set (n + 1) b = a :: l.set n b := rfl
theorem Hw {α : Type _} {l : List α} {n : Nat} {a : α} : l.toArray.setIfInBounds n a = (l.set n a).toArray := List.setIfInBounds_toArray ..
theorem zDz {α : Type _} {l : List α} : l.drop 0 = l := rfl
theorem zDs {α : Type _} {l : List α} {a : α} {n : Nat} : (a :: l).drop (n + 1) = l.drop n := rfl
theorem Nb {α : Type _} {a : α} {l : List α} : (a :: l)[0]? = some a := rfl
theorem Nr {α : Type _} {a : α} {l : List α} {n : Nat} : (a :: l)[n + 1]? = l[n]? := rfl
theorem MO {α : Type _} {l : List α} {n : Nat} : l.toArray[n]? = l[n]? := List.getElem?_toArray ..
theorem Own.recast {X : Nat → Prop} {w W : World} {L : List As} {A A' : As} (h : Own X w L W) (i : Nat) (hi : L[i]? = some A) (hd : ∀ k, A'.dom k → A.dom k) (ha : A'.holds W) : Own X w (L.set i A') W :=
 h.step i hi ⟨rfl, rfl, rfl, Nat.le_refl _, fun _ _ _ => rfl, fun k hk => ⟨(h.low A (List.mem_of_getElem? hi) k (hd k hk)).2, .inl (hd k hk)⟩, ha⟩
theorem Aside.below {B : Nat} {W W' : World} (h : Bl W W') : Aside B W W' := ⟨h.size, fun b _ hlt => h.block b hlt⟩
theorem Aside.map {B : Nat} (W : World) (b : Nat) (o : Obj) (hb : b < B) : Aside B W (aT W b o) := ⟨by rw [jg]; exact Nat.le_refl _, fun k hk _ => jw W o (by omega)⟩
theorem Own.app {X : Nat → Prop} {w W W' : World} {L L' : List As} (h : Own X w L W) (h2 : Own aK W L' W') : Own X w (L' ++ L) W' := by
 have h1 := h.then h2.below
 refine ⟨h1.os, h1.tape, h1.output, h1.size, h1.keep, fun A hA k hk => ?_, fun A hA => ?_, List.pairwise_append.2 ⟨h2.apart, h1.apart, fun A hA B hB k hk hk2 => ?_⟩⟩
 ·rcases List.mem_append.1 hA with hA | hA
  ·have := h2.low A hA k hk
   exact ⟨.inl (Nat.le_trans h.size (this.1.elim id False.elim)), this.2⟩
  ·exact h1.low A hA k hk
 ·rcases List.mem_append.1 hA with hA | hA
  ·exact h2.has A hA
  ·exact h1.has A hA
 ·have e1 := (h2.low A hA k hk).1.elim id False.elim
  have e2 := (h.low B hB k hk2).2;omega
theorem Own.called_ {X : Nat → Prop} {w W W' : World} {L : List As} {e : TypeId} {sz g n c : Nat} {xs : List Value} (h : Own X w L W) (hb : Bl W W') (ho : W'.ownsRow W.heap.size e sz (.slice (some ⟨g, 0, none⟩) n c) n xs) : Own X w (bM W.heap.size e sz (.slice (some ⟨g, 0, none⟩) n c) n xs :: L) W' :=
 h.cons hb (fun k hk => ho.lt k hk) ho
theorem ru {X : Nat → Prop} {w W : World} {L : List As} {ops : Array Oper} {rest : List Oper} {o : Oper} {a : Act} {Q : Exit → Act → World → Prop} {t e : TypeId} {sz bytes : Nat} (h : Own X w L W) (E : El t e sz bytes) (i : Nat) {H : Nat} {news : Array Value} (hi : L[i]? = some (aP H news e)) (hgd : o.guard = none) (s x : Operand)
  (ho : o.op = .call { callee := .builtin .append, args := #[s, x], argTypes := #[t, t] }) (hs : a.eval s = .slice none 0 0) (hx : a.eval x = .slice (some ⟨H, 0, none⟩) 1 1) (hl : news.size = sz) (h1 : news.all (·.oneCell') = true) (hsmall : bytes ≤ 140737488355328)
  (k : ∀ g c W', Own X w (bM W.heap.size e sz (.slice (some ⟨g, 0, none⟩) 1 c) 1 news.toList :: L) W' → wpList Tryz.prog ops Q rest (a.put o.dst (.slice (some ⟨g, 0, none⟩) 1 c)) W') : wpList Tryz.prog ops Q (o :: rest) a W := by
 obtain ⟨j, z, hj, hz0, hz1, hz2, hz3⟩ := E.info;refine wpList_append_lies W hgd s x t ho W.heap.size e j z sz bytes E.slice hj hz0 hz1 hz2 hz3 E.pos (.slice none 0 0) 0 [] hs (World.ownsRow_nil _ _ _ _) ⟨H, 0, none⟩ 1 1 news.toList hx (by simpa using hl) ?_ (fun u hu => Array.all_eq_true'.1 h1 u (by simpa using hu)) (by omega) (by unfold maxLen; omega) (by omega) (Nat.le_refl _) _ rfl ?_
 ·intro j u hu
  rw [bH, Nat.zero_add];exact (h.cells i hi j).trans (by simpa using hu)
 ·intro g c w' q1 q2 q3 q4
  refine k g c w' (h.called_ ?_ ?_)
  ·exact (Below.refl _ W).grown q2 (Nat.le_refl _) (fun k e => by cases e)
  ·simpa using q1
theorem Own.made {X : Nat → Prop} {w W W' : World} {L : List As} (h : Own X w L W) (hb : Bl W W') {g : Nat} {o : Obj} (hg : W.heap.size ≤ g) (ho : W'.heap[g]? = some o) : Own X w (Go.Proofs.YtlkolghiknbbfaaGreatDoor.blk g o :: L) W' :=
 h.cons hb (fun k hk => by cases hk; exact ⟨hg, (Array.getElem?_eq_some_iff.1 ho).1⟩) ho
theorem Own.made3 {X : Nat → Prop} {w W W' : World} {L : List As} (h : Own X w L W) (hb : Bl W W') {g1 g2 g3 : Nat} {o1 o2 o3 : Obj} (h1 : W.heap.size ≤ g1 ∧ W'.heap[g1]? = some o1) (h2 : W.heap.size ≤ g2 ∧ W'.heap[g2]? = some o2) (h3 : W.heap.size ≤ g3 ∧ W'.heap[g3]? = some o3) (hne : g1 ≠ g2 ∧ g1 ≠ g3 ∧ g2 ≠ g3) : Own X w (Go.Proofs.YtlkolghiknbbfaaGreatDoor.blk g1 o1 :: Go.Proofs.YtlkolghiknbbfaaGreatDoor.blk g2 o2 :: Go.Proofs.YtlkolghiknbbfaaGreatDoor.blk g3 o3 :: L) W' :=
 h.app (Own.of_blocks (L := [(g1, o1), (g2, o2), (g3, o3)]) hb (fun p hp => by
  simp only [List.mem_cons, List.not_mem_nil, or_false] at hp;rcases hp with rfl | rfl | rfl
  ·exact h1
  ·exact h2
  ·exact h3) (by
  simp only [List.map_cons, List.map_nil, List.pairwise_cons, List.mem_cons, List.not_mem_nil, or_false, forall_eq_or_imp, forall_eq, false_implies, implies_true, and_true, List.Pairwise.nil]
  exact ⟨⟨hne.1, hne.2.1⟩, hne.2.2⟩))
theorem Ay {W W' : World} {o : Obj} (hn : Below (W.alloc o).heap.size (W.alloc o) W') : W'.heap[W.heap.size]? = some o := (hn.block _ (by simp)).trans (alloc_at W o)
theorem vz {W W' : World} {o o' : Obj} (hn : Below ((W.alloc o).alloc o').heap.size ((W.alloc o).alloc o') W') : W'.heap[W.heap.size]? = some o := (hn.block _ (by simp <;> omega)).trans ((heap_alloc_old _ _ (by simp)).trans (alloc_at W o))
theorem vF {W W' : World} {o : Obj} (hn : Below (W.alloc o).drew.heap.size (W.alloc o).drew W') : W'.heap[W.heap.size]? = some o := Ay (W := W) (o := o) ⟨hn.os, hn.tape, hn.output, hn.size, hn.block⟩
theorem ul {W W' : World} {o o' : Obj} (hn : Below ((W.alloc o).alloc o').drew.heap.size ((W.alloc o).alloc o').drew W') : W'.heap[W.heap.size]? = some o := vz (W := W) (o := o) (o' := o') ⟨hn.os, hn.tape, hn.output, hn.size, hn.block⟩
theorem vC {w : World} {g : Nat} {v : Value} {t : TypeId} {fr : Nat × Nat} (h : w.heap[g]? = some (.cells #[v] t fr)) : w.cell? ⟨g, 0, none⟩ = some v := (cell_of_row _ _ 0 _ _ _ h).trans rfl
theorem pM {w : World} {g : Nat} {o : Obj} (h : w.heap[g]? = some o) : g < w.heap.size := (Array.getElem?_eq_some_iff.1 h).1
theorem mq {w : World} {b j k : Nat} {v : Value} (h : k ≠ b) : (w.setCell ⟨b, j, none⟩ v).heap[k]? = w.heap[k]? := heap_setCell_other w ⟨b, j, none⟩ k v h
theorem fT {w : World} {g : Nat} {cs : Array Value} {t : TypeId} (h : w.heap[g]? = some (.cells cs t (0, 0))) (j : Nat) (v : Value) : (w.setCell ⟨g, j, none⟩ v).heap[g]? = some (.cells (cs.setIfInBounds j v) t (0, 0)) := heap_setCell_same w g j _ _ v h
theorem fw {w : World} {g j : Nat} {v : Value} : (w.setCell ⟨g, j, none⟩ v).heap.size = w.heap.size := World.size_setCell _ _ _
theorem aR {B : Nat} {w0 W : World} {g j : Nat} {v : Value} (h : Below B w0 W) (hg : B ≤ g) : Below B w0 (W.setCell ⟨g, j, none⟩ v) := h.setCell hg v
theorem Own.slice2 {X : Nat → Prop} {w W : World} {L : List As} (h : Own X w L W) (i : Nat) {base n sz c : Nat} {a : Option Addr} {e : TypeId} {xs : List Value} (hi : L[i]? = some (bM base e sz (.slice a n c) n xs)) (hn : 0 < n) : ∃ g, a = some ⟨g, 0, none⟩ ∧ base ≤ g ∧ g < W.heap.size ∧ n ≤ c ∧ ∀ j u, xs[j]? = some u → W.cell? ⟨g, j, none⟩ = some u := by
 have h1 : W.ownsRow base e sz (.slice a n c) n xs := h.at i hi;rcases h1.2 with ⟨h2, h3⟩ | ⟨g, cap, cur, h2, hb, hg, hnc, hm, hs, ht⟩
 ·injection h2 with _ q _; omega
 ·injection h2 with q1 q2 q3
  subst q1 q3;refine ⟨g, rfl, hb, (Array.getElem?_eq_some_iff.1 hg).1, by omega, fun j u hu => ?_⟩;have := h1.cells (g := g) rfl j u hu
  rwa [bH, Nat.zero_add] at this
theorem qV {P : Program} {fn : Func} {p u u2 : Tmp} {ty : TypeId} (h : fn.results = #[.tmp u, .tmp u2, .cell p ty]) (tmps : Array Value) (w : World) (g : Nat) (t : TypeId) (cs : Array Value) (fr : Nat × Nat) (d : TypeDesc)
  (hp : tmps.getD p undef = .pointer (some ⟨g, 0, none⟩)) (hg : w.heap[g]? = some (.cells cs t fr)) (hu : P.underlying ty = some d) (hd : (match d with | .struct _ | .array _ _ => true | _ => false) = true) (hi : (P.info? ty).map (·.size) = some cs.size) :
  (results fn tmps).run P w = .ok (.tuple #[tmps.getD u undef, tmps.getD u2 undef, .agg cs]) w := by
 have e : (results fn tmps).run P w = ((asAddr (tmps.getD p undef)).run P w).andThen fun a w₁ => ((loadVar ty a).run P w₁).andThen fun x w₂ => .ok (.tuple #[tmps.getD u undef, tmps.getD u2 undef, x]) w₂ := by
  simp only [results, h];simp [Sem.run_bind, Result.andThen]
 rw [e, hp];simp [asAddr, run_loadVar_row w g t ty cs fr d hg hu hd hi, Result.andThen]
theorem dG {P : Program} {fn : Func} {p u u2 : Tmp} {ty : TypeId} (h : fn.results = #[.cell p ty, .tmp u, .tmp u2]) (tmps : Array Value) (w : World) (g : Nat) (t : TypeId) (cs : Array Value) (fr : Nat × Nat) (d : TypeDesc)
  (hp : tmps.getD p undef = .pointer (some ⟨g, 0, none⟩)) (hg : w.heap[g]? = some (.cells cs t fr)) (hu : P.underlying ty = some d) (hd : (match d with | .struct _ | .array _ _ => true | _ => false) = true) (hi : (P.info? ty).map (·.size) = some cs.size) :
  (results fn tmps).run P w = .ok (.tuple #[.agg cs, tmps.getD u undef, tmps.getD u2 undef]) w := by
 have e : (results fn tmps).run P w = ((asAddr (tmps.getD p undef)).run P w).andThen fun a w₁ => ((loadVar ty a).run P w₁).andThen fun x w₂ => .ok (.tuple #[x, tmps.getD u undef, tmps.getD u2 undef]) w₂ := by
  simp only [results, h];simp [Sem.run_bind, Result.andThen]
 rw [e, hp];simp [asAddr, run_loadVar_row w g t ty cs fr d hg hu hd hi, Result.andThen]
def kX (l : List (Nat × Nat × Value)) : Nat → World → Prop := fun lo W => ∀ x ∈ l, lo ≤ x.1 ∧ W.cell? ⟨x.1, x.2.1, none⟩ = some x.2.2
theorem kX.keeps (l : List (Nat × Nat × Value)) : jo (kX l) := fun lo W W' h hk x hx =>
 ⟨(h x hx).1, (World.cell?_of_block (a := ⟨x.1, x.2.1, none⟩) (hk x.1 (h x hx).1 (block_lt_of_cell (h x hx).2))).trans (h x hx).2⟩
theorem kX.at {l : List (Nat × Nat × Value)} {lo : Nat} {W : World} (h : kX l lo W) (i : Nat) {b j : Nat} {v : Value} (hi : l[i]? = some (b, j, v)) : W.cell? ⟨b, j, none⟩ = some v := (h _ (List.mem_of_getElem? hi)).2
theorem Own.cellsAt {X : Nat → Prop} {w W : World} {L : List As} (h : Own X w L W) (i k : Nat) {lo hi : Nat} {l : List (Nat × Nat × Value)} {b j : Nat} {v : Value} (hi' : L[i]? = some (Go.Proofs.YtlkolghiknbbfaaGreatDoor.deep lo hi (kX l))) (hk : l[k]? = some (b, j, v)) : W.cell? ⟨b, j, none⟩ = some v :=
 ((h.at i hi' : aO _ _ _ _).out (kX.keeps l)).at k hk
theorem mkS (W0 : World) : ∀ W, Bl W0 W → (∀ b j, b < W0.heap.size → W.cell? ⟨b, j, none⟩ = W0.cell? ⟨b, j, none⟩) ∧ Bl W0 W := fun W h => ⟨fun b j hb => h.cell (p := ⟨b, j, none⟩) hb, h⟩
theorem bg {X : Nat → Prop} {w W : World} {L : List As} {ops : Array Oper} {rest : List Oper} {o : Oper} {a : Act} {Q : Exit → Act → World → Prop} {t e : TypeId} {sz bytes base n : Nat} {v : Value} {xs : List Value} (h : Own X w L W) (E : El t e sz bytes) (i j : Nat) {H : Nat} {news : Array Value} (hi : L[i]? = some (bM base e sz v n xs)) (hj : L[j]? = some (aP H news e)) (hgd : o.guard = none) (s x : Operand)
  (ho : o.op = .call { callee := .builtin .append, args := #[s, x], argTypes := #[t, t] }) (hs : a.eval s = v) (hx : a.eval x = .slice (some ⟨H, 0, none⟩) 1 1) (hl : news.size = sz) (h1 : news.all (·.oneCell') = true) (hsmall : (n + 1) * bytes ≤ 140737488355328) (h63 : n + 1 ≤ 140737488355328) (hb : base ≤ w.heap.size)
  (k : ∀ g c W', Own X w (L.set i (bM base e sz (.slice (some ⟨g, 0, none⟩) (n + 1) c) (n + 1) (xs ++ news.toList))) W' → wpList Tryz.prog ops Q rest (a.put o.dst (.slice (some ⟨g, 0, none⟩) (n + 1) c)) W') : wpList Tryz.prog ops Q (o :: rest) a W := by
 obtain ⟨q, z, hq, hz0, hz1, hz2, hz3⟩ := E.info;refine wpList_append_lies W hgd s x t ho base e q z sz bytes E.slice hq hz0 hz1 hz2 hz3 E.pos v n xs hs (h.at i hi) ⟨H, 0, none⟩ 1 1 news.toList hx (by simpa using hl) ?_ (fun u hu => Array.all_eq_true'.1 h1 u (by simpa using hu)) (by omega) (by unfold maxLen; omega) hsmall (Nat.le_trans hb h.size) _ rfl ?_
 ·intro j' u hu
  rw [bH, Nat.zero_add];exact (h.cells j hj j').trans (by simpa using hu)
 ·intro g c w' q1 q2 q3 q4
  refine k g c w' (h.grown i hi q2 q1 (fun k hk => ?_))
  cases hk
  exact q3.imp id (fun e => by rw [e]; exact Nat.le_refl _)
theorem bY {X : Nat → Prop} {w W : World} {L : List As} {ops : Array Oper} {o : Oper} {a : Act} {K : Act → World → Prop} {Q : Exit → Act → World → Prop} {Ec : Prop} {t e : TypeId} {sz bytes base n : Nat} {v : Value} {xs : List Value} (h : Own X w L W) (E : El t e sz bytes) (i j : Nat) {H : Nat} {news : Array Value} (hi : L[i]? = some (bM base e sz v n xs)) (hj : L[j]? = some (aP H news e)) (hgd : o.guard = none) (s x : Operand)
  (ho : o.op = .call { callee := .builtin .append, args := #[s, x], argTypes := #[t, t] }) (hs : a.eval s = v) (hx : a.eval x = .slice (some ⟨H, 0, none⟩) 1 1) (hl : news.size = sz) (h1 : news.all (·.oneCell') = true) (hsmall : (n + 1) * bytes ≤ 140737488355328) (h63 : n + 1 ≤ 140737488355328) (hb : base ≤ w.heap.size)
  (k : ∀ g c W', Own X w (L.set i (bM base e sz (.slice (some ⟨g, 0, none⟩) (n + 1) c) (n + 1) (xs ++ news.toList))) W' → K (a.put o.dst (.slice (some ⟨g, 0, none⟩) (n + 1) c)) W') : if Region.wanted o (yielded ops a.tmps) = true then Oper.wp Tryz.prog o a W K Q else Ec := by
 obtain ⟨q, z, hq, hz0, hz1, hz2, hz3⟩ := E.info;refine step_append_lies W hgd s x t ho base e q z sz bytes E.slice hq hz0 hz1 hz2 hz3 E.pos v n xs hs (h.at i hi) ⟨H, 0, none⟩ 1 1 news.toList hx (by simpa using hl) ?_ (fun u hu => Array.all_eq_true'.1 h1 u (by simpa using hu)) (by omega) (by unfold maxLen; omega) hsmall (Nat.le_trans hb h.size) _ rfl ?_
 ·intro j' u hu
  rw [bH, Nat.zero_add];exact (h.cells j hj j').trans (by simpa using hu)
 ·intro g c w' q1 q2 q3 q4
  refine k g c w' (h.grown i hi q2 q1 (fun k hk => ?_))
  cases hk
  exact q3.imp id (fun e => by rw [e]; exact Nat.le_refl _)
theorem vM {α : Type} : ∀ (L : List α) (i : Nat) (h : i < L.length), (L[i] :: L.eraseIdx i).Perm L
 | a :: l, 0, _ => List.Perm.refl _
 | a :: l, i + 1, h => (List.Perm.swap _ _ _).trans ((vM l i (by simpa using h)).cons a)
theorem Own.pull {X : Nat → Prop} {w W : World} {L : List As} {A : As} (h : Own X w L W) (i : Nat) (hi : L[i]? = some A) : Own X w (A :: L.eraseIdx i) W := by
 obtain ⟨h1, h2⟩ := List.getElem?_eq_some_iff.1 hi;subst h2;exact h.perm (vM L i h1).symm
theorem Own.slice {X : Nat → Prop} {w W : World} {L : List As} (h : Own X w L W) (i : Nat) {base n sz : Nat} {e : TypeId} {v : Value} {xs : List Value} (hi : L[i]? = some (bM base e sz v n xs)) : ∃ a c, v = .slice a n c ∧ (0 < n → ∃ g, a = some ⟨g, 0, none⟩ ∧ base ≤ g ∧ g < W.heap.size ∧ ∀ j u, xs[j]? = some u → W.cell? ⟨g, j, none⟩ = some u) := fA (h.at i hi)
theorem dA {P : Program} {md : Region.Mode} {ops : Array Oper} {Q : Exit → Act → World → Prop} {S : World → Prop} (i : Nat) {oi : Oper} {v : Value} {b : Act} {li : Array Bool} {fuel : Nat} {listed : Array Bool} {a : Act} {w : World} (h : wpAnyH P md ops Q S fuel li b w) (hS : S w := by assumption) (hi : ops[i]? = some oi := by simp only [MO, Nr, Nb]; rfl) (hs : Region.noSelect ops = true := by kernel_rfl) (hf : Region.free md ops listed i = true := by kernel_rfl) (hr : (Region.ready md ops listed).contains i = true := by kernel_rfl)
  (ho : Region.wanted oi (yielded ops a.tmps) = true := by rfl) (hv : ∀ w, S w → (execOp a.eval oi).run P w = .ok (.value v) w := by (intro w hSw; (try dsimp only at hSw); go_simp; first | done | with_reducible rfl)) (hQ : ∀ c a w, Q (.panic c) (a.put oi.dst v) w → Q (.panic c) a w := by exact fun _ _ _ h => h) (hb : a.put oi.dst v = b := by (try simp only [Act.put, Hw, KV, KT]); with_reducible rfl) (hl : listed.setIfInBounds i true = li := by (try simp only [Hw, KV, KT]); with_reducible rfl) : wpAnyH P md ops Q S (fuel + 1) listed a w := wpAnyH_take hi hs hf hr hQ (Or.inl ⟨ho, hv⟩) hS (by rw [hb, hl]; exact h)
section
variable {P : Program} {ops : Array Oper} {Q : Exit → Act → World → Prop} {md : Region.Mode}
structure Ht (P : Program) (ops : Array Oper) (o : Oper) (v : Value) (a : Act) : Prop where
 on : Region.wanted o (yielded ops a.tmps) = true
 run : (∀ w, (execOp a.eval o).run P w = .ok (.value v) w) ∨ ∃ f args, (∀ w, (execOp a.eval o).run P w = .ok (.enter f args) w) ∧ ∀ w, Calls P f args w fun e w' => e = .returned v ∧ Bl w w'
theorem Ht.same {o : Oper} {v : Value} {a a' : Act} (h : Ht P ops o v a) (he : execOp a'.eval o = execOp a.eval o) (hw : Region.wanted o (yielded ops a'.tmps) = Region.wanted o (yielded ops a.tmps)) : Ht P ops o v a' :=
 ⟨hw.trans h.on, by rw [he]; exact h.run⟩
theorem Ht.wpOp {i : Nat} {o : Oper} {v : Value} {a : Act} (hi : ops[i]? = some o) (h : Ht P ops o v a) {K : Act → World → Prop} {w : World} (hK : ∀ w', Bl w w' → K (a.put o.dst v) w') : wpOp P ops Q i K a w := by
 unfold Go.wpOp;simp only [hi, h.on, if_true];refine .inl ?_;unfold Oper.wp;rcases h.run with hr | ⟨f, args, hr, hc⟩
 ·rw [hr w]; exact hK w (Below.refl _ _)
 ·rw [hr w]
  refine Calls.mono (hc w) ?_;rintro e w' ⟨rfl, hb⟩;exact hK w' hb
theorem Ht.apart {j : Nat} {oi oj : Oper} {v : Value} (hj : ops[j]? = some oj) (hap : oi.apart ops oj = true) (hsi : ∀ cs b, oi.op ≠ .select cs b) (hsj : ∀ cs b, oj.op ≠ .select cs b)
  (hQ : ∀ c a w, Q (.panic c) (a.put oi.dst v) w → Q (.panic c) a w) {K : Act → World → Prop} {a : Act} {w : World} (hm : Ht P ops oi v a) (h : Go.wpOp P ops Q j K (a.put oi.dst v) w) :
  Go.wpOp P ops Q j (fun a' w' => Ht P ops oi v a' ∧ K (a'.put oi.dst v) w') a w := by
 obtain ⟨h1, h2, h3⟩ := Oper.apart_spec hap;have hk : ∀ u, Ht P ops oi v (a.put oj.dst u) := fun u => hm.same (execOp_put oi hsi a oj.dst u h3) (wanted_put oi a oj.dst u h3)
 have hd : ∀ d, Ht P ops oi v (({ a with defers := d :: a.defers } : Act).put oj.dst undef) := fun d =>
  (hm.same (a' := { a with defers := d :: a.defers }) rfl rfl).same (execOp_put oi hsi _ oj.dst undef h3) (wanted_put oi _ oj.dst undef h3)
 have hc : ∀ u, (a.put oi.dst v).put oj.dst u = (a.put oj.dst u).put oi.dst v := fun u => Act.put_comm a v u h2
 unfold Go.wpOp at h ⊢;simp only [hj] at h ⊢;rw [wanted_put oj a oi.dst v h1] at h;by_cases hw : Region.wanted oj (yielded ops a.tmps) = true
 ·rw [if_pos hw] at h ⊢
  unfold Oper.wp Oper.asks at *
  rw [execOp_put oj hsj a oi.dst v h1] at h;refine h.imp (fun h => ?_) id
  revert h
  cases (execOp a.eval oj).run P w with
  | ok n w' =>
   intro h
   cases n with
   | value u => exact ⟨hk u, (hc u) ▸ h⟩
   | skip => exact ⟨hk _, (hc undef) ▸ h⟩
   | defer d =>
    refine ⟨hd d, ?_⟩;have e : (({ a with defers := d :: a.defers } : Act).put oj.dst undef).put oi.dst v = ({ a.put oi.dst v with defers := d :: (a.put oi.dst v).defers } : Act).put oj.dst undef := by
     rw [Act.put_defers]; exact (Act.put_comm _ v undef h2).symm
    show K _ w'
    rw [e];exact h
   | enter f args =>
    refine Calls.mono h fun e w2 he => ?_
    cases e with
    | returned u => exact ⟨hk u, (hc u) ▸ he⟩
    | panicked c => exact hQ _ _ _ he
    | outgrown => exact he
   | row r args => exact Rows.mono h fun u w2 he => ⟨hk u, (hc u) ▸ he⟩
   | _ => exact h
  | halt x w' =>
   intro h
   cases x with
   | panic u => exact hQ _ _ _ h
   | _ => exact h
 ·rw [if_neg hw] at h ⊢
  exact ⟨hk _, (hc undef) ▸ h⟩
def nZ (P : Program) (md : Region.Mode) (ops : Array Oper) (Q : Exit → Act → World → Prop) : Nat → Array Bool → Act → World → Prop
 | 0, listed, a, w => Region.ready md ops listed = [] ∧ ∀ w', Bl w w' → Q .normal a w'
 | fuel + 1, listed, a, w => ∀ w', Bl w w' → (Region.ready md ops listed = [] → Q .normal a w') ∧ ∀ i ∈ Region.ready md ops listed, Go.wpOp P ops Q i (nZ P md ops Q fuel (listed.setIfInBounds i true)) a w'
theorem kr {w w1 w2 : World} (h : Bl w w1) (k : Bl w1 w2) : Bl w w2 := h.trans (k.mono h.size)
theorem nZ.ext {listed : Array Bool} {a : Act} {w w' : World} (hb : Bl w w') : ∀ fuel, nZ P md ops Q fuel listed a w → nZ P md ops Q fuel listed a w'
 | 0, h => ⟨h.1, fun w2 h2 => h.2 w2 (kr hb h2)⟩
 | _ + 1, h => fun w2 h2 => h w2 (kr hb h2)
theorem nZ.any : ∀ (fuel : Nat) (listed : Array Bool) (a : Act) (w : World), nZ P md ops Q fuel listed a w → wpAny P md ops Q fuel listed a w
 | 0, _, _, w, h => ⟨h.1, h.2 w (Below.refl _ _)⟩
 | fuel + 1, _, _, w, h => ⟨(h w (Below.refl _ _)).1, fun i hi => wpOp_mono (fun a' w' h' => nZ.any fuel _ a' w' h') ((h w (Below.refl _ _)).2 i hi)⟩
theorem FZ {i : Nat} {oi : Oper} {v : Value} (hi : ops[i]? = some oi) (hsel : ∀ (j : Nat) (o : Oper) cs b, ops[j]? = some o → o.op ≠ .select cs b) (hQ : ∀ c a w, Q (.panic c) (a.put oi.dst v) w → Q (.panic c) a w) :
  ∀ (fuel : Nat) (listed : Array Bool) (a : Act) (w : World), (∀ j oj, ops[j]? = some oj → j ≠ i → listed.getD j true = false → (∀ e ∈ oj.after, Region.binds md e = true → e.on ≠ i) → oi.apart ops oj = true) →
   i ∈ Region.ready md ops listed → Ht P ops oi v a → nZ P md ops Q fuel (listed.setIfInBounds i true) (a.put oi.dst v) w → nZ P md ops Q (fuel + 1) listed a w := by
 intro fuel
 induction fuel with
 | zero =>
  intro listed a w hfree hr hm H w' hb;refine ⟨fun h => (by rw [h] at hr; cases hr), fun j hj => ?_⟩;by_cases hji : j = i
  ·subst hji
   exact hm.wpOp hi fun w2 h2 => H.ext (kr hb h2)
  ·have := ready_mono hj hji
   rw [H.1] at this
   cases this
 | succ fuel ih =>
  intro listed a w hfree hr hm H w' hb;refine ⟨fun h => (by rw [h] at hr; cases hr), fun j hj => ?_⟩;by_cases hji : j = i
  ·subst hji
   exact hm.wpOp hi fun w2 h2 => H.ext (kr hb h2)
  ·have h1 := (H w' hb).2 j (ready_mono hj hji)
   obtain ⟨hjun, oj, hoj, hall⟩ := mem_ready.1 hj;have hnot : ∀ e ∈ oj.after, Region.binds md e = true → e.on ≠ i := fun e he hb2 heq => by
    have q1 := hall e he hb2;have q0 := (mem_ready.1 hr).1;rw [heq] at q1;rcases Nat.lt_or_ge i listed.size with h' | h'
    ·simp [h'] at q0 q1; rw [q0] at q1; cases q1
    ·simp [Array.getElem?_eq_none h'] at q1
   refine wpOp_mono (fun a' w2 h3 => ?_) (hm.apart hoj (hfree j oj hoj hji hjun hnot) (fun cs b => hsel i oi cs b hi) (fun cs b => hsel j oj cs b hoj) hQ h1);refine ih (listed.setIfInBounds j true) a' w2 (fun k ok hk hki hun hno => ?_) (ready_mono hr (Ne.symm hji)) h3.1 ?_
   ·refine hfree k ok hk hki ?_ hno
    by_cases hjk : j = k
    ·subst hjk; exact hjun
    ·rw [getD_set_ne true hjk] at hun; exact hun
   ·rw [Array.setIfInBounds_comm _ _ hji]
    exact h3.2
theorem AV {i : Nat} {oi : Oper} {v : Value} {fuel : Nat} {listed : Array Bool} {a : Act} {w : World} (hi : ops[i]? = some oi) (hs : Region.noSelect ops = true) (hf : Region.free md ops listed i = true) (hr : (Region.ready md ops listed).contains i = true)
  (hQ : ∀ c a w, Q (.panic c) (a.put oi.dst v) w → Q (.panic c) a w) (hm : Ht P ops oi v a) (h : nZ P md ops Q fuel (listed.setIfInBounds i true) (a.put oi.dst v) w) : nZ P md ops Q (fuel + 1) listed a w :=
 FZ hi (Region.noSelect_spec hs) hQ fuel listed a w (Region.free_spec hi hf) (by simpa using hr) hm h
def dE (P : Program) (md : Region.Mode) (ops : Array Oper) (Q : Exit → Act → World → Prop) (fuel : Nat) (listed : Array Bool) (a : Act) (w : World) (rs : List Nat) : Prop := ∀ i ∈ rs, Go.wpOp P ops Q i (nZ P md ops Q fuel (listed.setIfInBounds i true)) a w
theorem dE.nil {fuel : Nat} {listed : Array Bool} {a : Act} {w : World} : dE P md ops Q fuel listed a w [] := fun _ h => by cases h
theorem dE.cons {fuel : Nat} {listed : Array Bool} {a : Act} {w : World} {i : Nat} {o : Oper} {rs : List Nat} (ho : ops[i]? = some o)
  (h : ∀ K' : Act → World → Prop, Shut (∀ a w, nZ P md ops Q fuel (listed.setIfInBounds i true) a w → K' a w) → if Region.wanted o (yielded ops a.tmps) = true then Oper.wp P o a w K' Q else K' (a.put o.dst undef) w)
  (hs : dE P md ops Q fuel listed a w rs) : dE P md ops Q fuel listed a w (i :: rs) := fun j hj => by
 rcases List.mem_cons.1 hj with rfl | hj
 ·exact wpOp_step ho (fun K' hK => h K' hK)
 ·exact hs j hj
theorem jP (i : Nat) {oi : Oper} {v : Value} {b : Act} {li : Array Bool} {fuel : Nat} {listed : Array Bool} {a : Act} {w : World} (h : nZ P md ops Q fuel li b w) (hi : ops[i]? = some oi := by simp only [MO, Nr, Nb]; rfl) (hs : Region.noSelect ops = true := by kernel_rfl) (hf : Region.free md ops listed i = true := by kernel_rfl) (hr : (Region.ready md ops listed).contains i = true := by kernel_rfl)
  (ho : Region.wanted oi (yielded ops a.tmps) = true := by rfl) (hv : ∀ w, (execOp a.eval oi).run P w = .ok (.value v) w := by (intro w; go_simp; first | done | with_reducible rfl)) (hQ : ∀ c a w, Q (.panic c) (a.put oi.dst v) w → Q (.panic c) a w := by exact fun _ _ _ h => h) (hb : a.put oi.dst v = b := by (try simp only [Act.put, Hw, KV, KT]); with_reducible rfl) (hl : listed.setIfInBounds i true = li := by (try simp only [Hw, KV, KT]); with_reducible rfl) : nZ P md ops Q (fuel + 1) listed a w := AV hi hs hf hr hQ ⟨ho, .inl hv⟩ (by rw [hb, hl]; exact h)
theorem jM (i : Nat) (F : FuncId) {oi : Oper} {v : Value} {b : Act} {li : Array Bool} {fuel : Nat} {listed : Array Bool} {a : Act} {w : World} {args : Array Value} (hc : ∀ w, Calls P F args w fun e w' => e = .returned v ∧ Bl w w') (h : nZ P md ops Q fuel li b w) (hi : ops[i]? = some oi := by simp only [MO, Nr, Nb]; rfl) (hs : Region.noSelect ops = true := by kernel_rfl) (hf : Region.free md ops listed i = true := by kernel_rfl) (hr : (Region.ready md ops listed).contains i = true := by kernel_rfl)
  (ho : Region.wanted oi (yielded ops a.tmps) = true := by rfl) (hv : ∀ w, (execOp a.eval oi).run P w = .ok (.enter F args) w := by (intro w; go_simp; (try exact u32_in _ (by omega)))) (hQ : ∀ c a w, Q (.panic c) (a.put oi.dst v) w → Q (.panic c) a w := by exact fun _ _ _ h => h) (hb : a.put oi.dst v = b := by (try simp only [Act.put, Hw, KV, KT]); with_reducible rfl) (hl : listed.setIfInBounds i true = li := by (try simp only [Hw, KV, KT]); with_reducible rfl) : nZ P md ops Q (fuel + 1) listed a w := AV hi hs hf hr hQ ⟨ho, .inr ⟨F, args, hv, hc⟩⟩ (by rw [hb, hl]; exact h)
theorem dV {fuel : Nat} {listed : Array Bool} {a : Act} {w : World} {i : Nat} {o : Oper}
  (h : ∀ K' : Act → World → Prop, Shut (∀ a w, nZ P md ops Q fuel (listed.setIfInBounds i true) a w → K' a w) → if Region.wanted o (yielded ops a.tmps) = true then Oper.wp P o a w K' Q else K' (a.put o.dst undef) w) (ho : ops[i]? = some o := by simp only [MO, Nr, Nb]; rfl) : dE P md ops Q fuel listed a w [i] := dE.cons ho h dE.nil
theorem Fa {rs : List Nat} {fuel : Nat} {listed : Array Bool} {a : Act} {w : World} (hr : Region.ready md ops listed = rs) (hne : rs ≠ []) (h : ∀ w', Bl w w' → dE P md ops Q fuel listed a w' rs) : nZ P md ops Q (fuel + 1) listed a w :=
 fun w' hb => ⟨fun h0 => absurd (hr ▸ h0) hne, hr ▸ h w' hb⟩
theorem IU {listed : Array Bool} {a : Act} {w : World} (hr : Region.ready md ops listed = []) (h : ∀ w', Bl w w' → Q .normal a w') : ∀ fuel, nZ P md ops Q fuel listed a w
 | 0 => ⟨hr, h⟩
 | _ + 1 => fun w' hb => ⟨fun _ => h w' hb, by rw [hr]; simp⟩
theorem aU {id : Nat} {a : Act} {w : World} (hm : P.follows .mixedOrders = true) (h : nZ P .any ops Q ops.size (Array.replicate ops.size false) a w.drew) : (Code.region id ops true).wp P Q a w :=
 wp_region_any hm (nZ.any _ _ _ _ h)
end
section
variable {P : Program} {ops : Array Oper} {Q : Exit → Act → World → Prop} {md : Region.Mode} {S : World → Prop}
structure Fv (P : Program) (ops : Array Oper) (S : World → Prop) (o : Oper) (v : Value) (a : Act) : Prop where
 on : Region.wanted o (yielded ops a.tmps) = true
 run : (∀ w, S w → (execOp a.eval o).run P w = .ok (.value v) w) ∨ ∃ f args, (∀ w, S w → (execOp a.eval o).run P w = .ok (.enter f args) w) ∧ ∀ w, S w → Calls P f args w fun e w' => e = .returned v ∧ Bl w w'
theorem Fv.same {o : Oper} {v : Value} {a a' : Act} (h : Fv P ops S o v a) (he : execOp a'.eval o = execOp a.eval o) (hw : Region.wanted o (yielded ops a'.tmps) = Region.wanted o (yielded ops a.tmps)) : Fv P ops S o v a' :=
 ⟨hw.trans h.on, by rw [he]; exact h.run⟩
theorem Fv.wpOp {i : Nat} {o : Oper} {v : Value} {a : Act} (hi : ops[i]? = some o) (h : Fv P ops S o v a) {K : Act → World → Prop} {w : World} (hS : S w) (hK : ∀ w', Bl w w' → K (a.put o.dst v) w') : wpOp P ops Q i K a w := by
 unfold Go.wpOp;simp only [hi, h.on, if_true];refine .inl ?_;unfold Oper.wp;rcases h.run with hr | ⟨f, args, hr, hc⟩
 ·rw [hr w hS]; exact hK w (Below.refl _ _)
 ·rw [hr w hS]
  refine Calls.mono (hc w hS) ?_;rintro e w' ⟨rfl, hb⟩;exact hK w' hb
theorem Fv.apart {j : Nat} {oi oj : Oper} {v : Value} (hj : ops[j]? = some oj) (hap : oi.apart ops oj = true) (hsi : ∀ cs b, oi.op ≠ .select cs b) (hsj : ∀ cs b, oj.op ≠ .select cs b)
  (hQ : ∀ c a w, Q (.panic c) (a.put oi.dst v) w → Q (.panic c) a w) {K : Act → World → Prop} {a : Act} {w : World} (hm : Fv P ops S oi v a) (h : Go.wpOp P ops Q j K (a.put oi.dst v) w) :
  Go.wpOp P ops Q j (fun a' w' => Fv P ops S oi v a' ∧ K (a'.put oi.dst v) w') a w := by
 obtain ⟨h1, h2, h3⟩ := Oper.apart_spec hap;have hk : ∀ u, Fv P ops S oi v (a.put oj.dst u) := fun u => hm.same (execOp_put oi hsi a oj.dst u h3) (wanted_put oi a oj.dst u h3)
 have hd : ∀ d, Fv P ops S oi v (({ a with defers := d :: a.defers } : Act).put oj.dst undef) := fun d =>
  (hm.same (a' := { a with defers := d :: a.defers }) rfl rfl).same (execOp_put oi hsi _ oj.dst undef h3) (wanted_put oi _ oj.dst undef h3)
 have hc : ∀ u, (a.put oi.dst v).put oj.dst u = (a.put oj.dst u).put oi.dst v := fun u => Act.put_comm a v u h2
 unfold Go.wpOp at h ⊢;simp only [hj] at h ⊢;rw [wanted_put oj a oi.dst v h1] at h;by_cases hw : Region.wanted oj (yielded ops a.tmps) = true
 ·rw [if_pos hw] at h ⊢
  unfold Oper.wp Oper.asks at *
  rw [execOp_put oj hsj a oi.dst v h1] at h;refine h.imp (fun h => ?_) id
  revert h
  cases (execOp a.eval oj).run P w with
  | ok n w' =>
   intro h
   cases n with
   | value u => exact ⟨hk u, (hc u) ▸ h⟩
   | skip => exact ⟨hk _, (hc undef) ▸ h⟩
   | defer d =>
    refine ⟨hd d, ?_⟩;have e : (({ a with defers := d :: a.defers } : Act).put oj.dst undef).put oi.dst v = ({ a.put oi.dst v with defers := d :: (a.put oi.dst v).defers } : Act).put oj.dst undef := by
     rw [Act.put_defers]; exact (Act.put_comm _ v undef h2).symm
    show K _ w'
    rw [e];exact h
   | enter f args =>
    refine Calls.mono h fun e w2 he => ?_
    cases e with
    | returned u => exact ⟨hk u, (hc u) ▸ he⟩
    | panicked c => exact hQ _ _ _ he
    | outgrown => exact he
   | row r args => exact Rows.mono h fun u w2 he => ⟨hk u, (hc u) ▸ he⟩
   | _ => exact h
  | halt x w' =>
   intro h
   cases x with
   | panic u => exact hQ _ _ _ h
   | _ => exact h
 ·rw [if_neg hw] at h ⊢
  exact ⟨hk _, (hc undef) ▸ h⟩
def wpS (P : Program) (md : Region.Mode) (ops : Array Oper) (Q : Exit → Act → World → Prop) (S : World → Prop) : Nat → Array Bool → Act → World → Prop
 | 0, listed, a, w => Region.ready md ops listed = [] ∧ ∀ w', Bl w w' → Q .normal a w'
 | fuel + 1, listed, a, w => ∀ w', Bl w w' → (Region.ready md ops listed = [] → Q .normal a w') ∧ ∀ i ∈ Region.ready md ops listed, Go.wpOp P ops Q i (fun a' w2 => S w2 ∧ wpS P md ops Q S fuel (listed.setIfInBounds i true) a' w2) a w'
theorem wpS.ext {listed : Array Bool} {a : Act} {w w' : World} (hb : Bl w w') : ∀ fuel, wpS P md ops Q S fuel listed a w → wpS P md ops Q S fuel listed a w'
 | 0, h => ⟨h.1, fun w2 h2 => h.2 w2 (kr hb h2)⟩
 | _ + 1, h => fun w2 h2 => h w2 (kr hb h2)
theorem wpS.any : ∀ (fuel : Nat) (listed : Array Bool) (a : Act) (w : World), wpS P md ops Q S fuel listed a w → wpAny P md ops Q fuel listed a w
 | 0, _, _, w, h => ⟨h.1, h.2 w (Below.refl _ _)⟩
 | fuel + 1, _, _, w, h => ⟨(h w (Below.refl _ _)).1, fun i hi => wpOp_mono (fun a' w' h' => wpS.any fuel _ a' w' h'.2) ((h w (Below.refl _ _)).2 i hi)⟩
theorem Hg (hcl : ∀ w w', S w → Bl w w' → S w') {i : Nat} {oi : Oper} {v : Value} (hi : ops[i]? = some oi) (hsel : ∀ (j : Nat) (o : Oper) cs b, ops[j]? = some o → o.op ≠ .select cs b) (hQ : ∀ c a w, Q (.panic c) (a.put oi.dst v) w → Q (.panic c) a w) :
  ∀ (fuel : Nat) (listed : Array Bool) (a : Act) (w : World), (∀ j oj, ops[j]? = some oj → j ≠ i → listed.getD j true = false → (∀ e ∈ oj.after, Region.binds md e = true → e.on ≠ i) → oi.apart ops oj = true) →
   i ∈ Region.ready md ops listed → Fv P ops S oi v a → S w → wpS P md ops Q S fuel (listed.setIfInBounds i true) (a.put oi.dst v) w → wpS P md ops Q S (fuel + 1) listed a w := by
 intro fuel
 induction fuel with
 | zero =>
  intro listed a w hfree hr hm hSw H w' hb;refine ⟨fun h => (by rw [h] at hr; cases hr), fun j hj => ?_⟩;by_cases hji : j = i
  ·subst hji
   exact hm.wpOp hi (hcl _ _ hSw hb) fun w2 h2 => ⟨hcl _ _ hSw (kr hb h2), H.ext (kr hb h2)⟩
  ·have := ready_mono hj hji
   rw [H.1] at this
   cases this
 | succ fuel ih =>
  intro listed a w hfree hr hm hSw H w' hb;refine ⟨fun h => (by rw [h] at hr; cases hr), fun j hj => ?_⟩;by_cases hji : j = i
  ·subst hji
   exact hm.wpOp hi (hcl _ _ hSw hb) fun w2 h2 => ⟨hcl _ _ hSw (kr hb h2), H.ext (kr hb h2)⟩
  ·have h1 := (H w' hb).2 j (ready_mono hj hji)
   obtain ⟨hjun, oj, hoj, hall⟩ := mem_ready.1 hj;have hnot : ∀ e ∈ oj.after, Region.binds md e = true → e.on ≠ i := fun e he hb2 heq => by
    have q1 := hall e he hb2;have q0 := (mem_ready.1 hr).1;rw [heq] at q1;rcases Nat.lt_or_ge i listed.size with h' | h'
    ·simp [h'] at q0 q1; rw [q0] at q1; cases q1
    ·simp [Array.getElem?_eq_none h'] at q1
   refine wpOp_mono (fun a' w2 h3 => ?_) (hm.apart hoj (hfree j oj hoj hji hjun hnot) (fun cs b => hsel i oi cs b hi) (fun cs b => hsel j oj cs b hoj) hQ h1);refine ⟨h3.2.1, ih (listed.setIfInBounds j true) a' w2 (fun k ok hk hki hun hno => ?_) (ready_mono hr (Ne.symm hji)) h3.1 h3.2.1 ?_⟩
   ·refine hfree k ok hk hki ?_ hno
    by_cases hjk : j = k
    ·subst hjk; exact hjun
    ·rw [getD_set_ne true hjk] at hun; exact hun
   ·rw [Array.setIfInBounds_comm _ _ hji]
    exact h3.2.2
theorem rP (hcl : ∀ w w', S w → Bl w w' → S w') {i : Nat} {oi : Oper} {v : Value} {fuel : Nat} {listed : Array Bool} {a : Act} {w : World} (hi : ops[i]? = some oi) (hs : Region.noSelect ops = true) (hf : Region.free md ops listed i = true) (hr : (Region.ready md ops listed).contains i = true)
  (hQ : ∀ c a w, Q (.panic c) (a.put oi.dst v) w → Q (.panic c) a w) (hm : Fv P ops S oi v a) (hSw : S w) (h : wpS P md ops Q S fuel (listed.setIfInBounds i true) (a.put oi.dst v) w) : wpS P md ops Q S (fuel + 1) listed a w :=
 Hg hcl hi (Region.noSelect_spec hs) hQ fuel listed a w (Region.free_spec hi hf) (by simpa using hr) hm hSw h
def dD (P : Program) (md : Region.Mode) (ops : Array Oper) (Q : Exit → Act → World → Prop) (S : World → Prop) (fuel : Nat) (listed : Array Bool) (a : Act) (w : World) (rs : List Nat) : Prop := ∀ i ∈ rs, Go.wpOp P ops Q i (fun a' w2 => S w2 ∧ wpS P md ops Q S fuel (listed.setIfInBounds i true) a' w2) a w
theorem dD.nil {fuel : Nat} {listed : Array Bool} {a : Act} {w : World} : dD P md ops Q S fuel listed a w [] := fun _ h => by cases h
theorem dD.cons {fuel : Nat} {listed : Array Bool} {a : Act} {w : World} {i : Nat} {o : Oper} {rs : List Nat} (ho : ops[i]? = some o)
  (h : ∀ K' : Act → World → Prop, Shut (∀ a w, S w → wpS P md ops Q S fuel (listed.setIfInBounds i true) a w → K' a w) → if Region.wanted o (yielded ops a.tmps) = true then Oper.wp P o a w K' Q else K' (a.put o.dst undef) w)
  (hs : dD P md ops Q S fuel listed a w rs) : dD P md ops Q S fuel listed a w (i :: rs) := fun j hj => by
 rcases List.mem_cons.1 hj with rfl | hj
 ·exact wpOp_step ho (fun K' hK => h K' (fun a w hS hW => hK a w ⟨hS, hW⟩))
 ·exact hs j hj
theorem sTk (hcl : ∀ w w', S w → Bl w w' → S w') (i : Nat) {oi : Oper} {v : Value} {fuel : Nat} {listed : Array Bool} {a : Act} {w : World} (hi : ops[i]? = some oi := by simp only [MO, Nr, Nb]; rfl) (hs : Region.noSelect ops = true := by kernel_rfl) (hf : Region.free md ops listed i = true := by kernel_rfl) (hr : (Region.ready md ops listed).contains i = true := by kernel_rfl)
  (hQ : ∀ c a w, Q (.panic c) (a.put oi.dst v) w → Q (.panic c) a w := by exact fun _ _ _ h => h) (hm : Fv P ops S oi v a) (hSw : S w) (h : wpS P md ops Q S fuel (listed.setIfInBounds i true) (a.put oi.dst v) w) : wpS P md ops Q S (fuel + 1) listed a w := rP hcl hi hs hf hr hQ hm hSw h
theorem ag (hcl : ∀ w w', S w → Bl w w' → S w') (i : Nat) {oi : Oper} {v : Value} {b : Act} {li : Array Bool} {fuel : Nat} {listed : Array Bool} {a : Act} {w : World} (h : wpS P md ops Q S fuel li b w) (hSw : S w := by assumption) (hi : ops[i]? = some oi := by simp only [MO, Nr, Nb]; rfl) (hs : Region.noSelect ops = true := by kernel_rfl) (hf : Region.free md ops listed i = true := by kernel_rfl) (hr : (Region.ready md ops listed).contains i = true := by kernel_rfl)
  (ho : Region.wanted oi (yielded ops a.tmps) = true := by rfl) (hv : ∀ w, S w → (execOp a.eval oi).run P w = .ok (.value v) w := by (intro w hw; go_simp; first | done | with_reducible rfl)) (hQ : ∀ c a w, Q (.panic c) (a.put oi.dst v) w → Q (.panic c) a w := by exact fun _ _ _ h => h) (hb : a.put oi.dst v = b := by (try simp only [Act.put, Hw, KV, KT]); with_reducible rfl) (hl : listed.setIfInBounds i true = li := by (try simp only [Hw, KV, KT]); with_reducible rfl) : wpS P md ops Q S (fuel + 1) listed a w := rP hcl hi hs hf hr hQ ⟨ho, .inl hv⟩ hSw (by rw [hb, hl]; exact h)
theorem tV (hcl : ∀ w w', S w → Bl w w' → S w') (i : Nat) (F : FuncId) {oi : Oper} {v : Value} {b : Act} {li : Array Bool} {fuel : Nat} {listed : Array Bool} {a : Act} {w : World} {args : Array Value} (hc : ∀ w, S w → Calls P F args w fun e w' => e = .returned v ∧ Bl w w') (h : wpS P md ops Q S fuel li b w) (hSw : S w := by assumption) (hi : ops[i]? = some oi := by simp only [MO, Nr, Nb]; rfl) (hs : Region.noSelect ops = true := by kernel_rfl) (hf : Region.free md ops listed i = true := by kernel_rfl) (hr : (Region.ready md ops listed).contains i = true := by kernel_rfl)
  (ho : Region.wanted oi (yielded ops a.tmps) = true := by rfl) (hv : ∀ w, S w → (execOp a.eval oi).run P w = .ok (.enter F args) w := by (intro w hw; go_simp; (try exact u32_in _ (by omega)))) (hQ : ∀ c a w, Q (.panic c) (a.put oi.dst v) w → Q (.panic c) a w := by exact fun _ _ _ h => h) (hb : a.put oi.dst v = b := by (try simp only [Act.put, Hw, KV, KT]); with_reducible rfl) (hl : listed.setIfInBounds i true = li := by (try simp only [Hw, KV, KT]); with_reducible rfl) : wpS P md ops Q S (fuel + 1) listed a w := rP hcl hi hs hf hr hQ ⟨ho, .inr ⟨F, args, hv, hc⟩⟩ hSw (by rw [hb, hl]; exact h)
theorem dO {fuel : Nat} {listed : Array Bool} {a : Act} {w : World} {i : Nat} {o : Oper}
  (h : ∀ K' : Act → World → Prop, Shut (∀ a w, S w → wpS P md ops Q S fuel (listed.setIfInBounds i true) a w → K' a w) → if Region.wanted o (yielded ops a.tmps) = true then Oper.wp P o a w K' Q else K' (a.put o.dst undef) w) (ho : ops[i]? = some o := by simp only [MO, Nr, Nb]; rfl) : dD P md ops Q S fuel listed a w [i] := dD.cons ho h dD.nil
theorem GD {rs : List Nat} {fuel : Nat} {listed : Array Bool} {a : Act} {w : World} (hr : Region.ready md ops listed = rs) (hne : rs ≠ []) (h : ∀ w', Bl w w' → dD P md ops Q S fuel listed a w' rs) : wpS P md ops Q S (fuel + 1) listed a w :=
 fun w' hb => ⟨fun h0 => absurd (hr ▸ h0) hne, hr ▸ h w' hb⟩
theorem KO {listed : Array Bool} {a : Act} {w : World} (hr : Region.ready md ops listed = []) (h : ∀ w', Bl w w' → Q .normal a w') : ∀ fuel, wpS P md ops Q S fuel listed a w
 | 0 => ⟨hr, h⟩
 | _ + 1 => fun w' hb => ⟨fun _ => h w' hb, by rw [hr]; simp⟩
theorem au {id : Nat} {a : Act} {w : World} (hm : P.follows .mixedOrders = true) (h : wpS P .any ops Q S ops.size (Array.replicate ops.size false) a w.drew) : (Code.region id ops true).wp P Q a w :=
 wp_region_any hm (wpS.any _ _ _ _ h)
end
theorem yT.{u} {α : Type u} : (∀ (a b : α) (l : List α), (a :: l).set 0 b = b :: l) ∧ (∀ (a b : α) (l : List α) (n : Nat), (a :: l).set (n + 1) b = a :: l.set n b) ∧ ∀ (l : List α) (n : Nat) (a : α), l.toArray.setIfInBounds n a = (l.set n a).toArray := ⟨fun _ _ _ => rfl, fun _ _ _ _ => rfl, fun _ _ _ => Hw⟩
theorem yD.{u} {α : Type u} : (∀ (a b : α) (l : List α), (a :: l).set 0 b = b :: l) ∧ (∀ (a b : α) (l : List α) (n : Nat), (a :: l).set (n + 1) b = a :: l.set n b) ∧ (∀ (l : List α) (n : Nat) (a : α), l.toArray.setIfInBounds n a = (l.set n a).toArray) ∧ (∀ l : List α, l.drop 0 = l) ∧ ∀ (l : List α) (a : α) (n : Nat), (a :: l).drop (n + 1) = l.drop n := ⟨fun _ _ _ => rfl, fun _ _ _ _ => rfl, fun _ _ _ => Hw, fun _ => rfl, fun _ _ _ => rfl⟩
theorem yE.{u} {α : Type u} : (∀ (a : α) (l : List α), (a :: l).eraseIdx 0 = l) ∧ ∀ (a : α) (l : List α) (n : Nat), (a :: l).eraseIdx (n + 1) = a :: l.eraseIdx n := ⟨fun _ _ => rfl, fun _ _ _ => rfl⟩
theorem yG.{u} {α : Type u} : (∀ (a : α) (l : List α), (a :: l)[0]? = some a) ∧ (∀ (a : α) (l : List α) (n : Nat), (a :: l)[n + 1]? = l[n]?) ∧ ∀ (l : List α) (n : Nat), l.toArray[n]? = l[n]? := ⟨fun _ _ => rfl, fun _ _ _ => rfl, fun _ _ => MO⟩
instance (priority := 10) layx_none {X : Nat → Prop} {L : List As} : pR X L (fun _ _ => True) := ⟨fun _ _ _ => trivial⟩
class WpL (T : Prop) (W : outParam World) (R : outParam (World → Prop)) : Prop where
  eq : T = R W
instance wpl_l {P : Program} {ops : Array Oper} {Q : Exit → Act → World → Prop} {l : List Oper} {a : Act} {W : World} : WpL (wpList P ops Q l a W) W (fun W => wpList P ops Q l a W) := ⟨rfl⟩
instance wpl_c {P : Program} {Q : Exit → Act → World → Prop} {c : Code} {a : Act} {W : World} : WpL (c.wp P Q a W) W (fun W => c.wp P Q a W) := ⟨rfl⟩
section
variable {P : Program} {X : Nat → Prop} {w W : World} {L L' : List As} {i g j : Nat} {cs : Array Value} {t : TypeId} {T : Prop} {W0 : World} {R : World → Prop}
theorem ah [r : WpL T W0 R] {v : Value} (h : Own X w L W) {F : World → World → Prop} (k : ∀ W', Own X w L' W' → F w W' → R W') (hW : W0 = W.setCell ⟨g, j, none⟩ v := by exact rfl) (q : qR L g i cs t := by infer_instance) (e : L.set i (aP g (cs.setIfInBounds j v) t) = L' := by (try simp only [yT]); rfl) (f : pR X L' F := by infer_instance) : T := by rw [r.eq, hW]; subst e; exact k _ (h.set i j v q.ok) (f.ok _ _ (h.set i j v q.ok))
theorem aB [r : WpL T W0 R] {o : Obj} (h : Own X w L W) {F : Nat → World → World → Prop} (k : ∀ g, Hid (g = W.heap.size) → ∀ W', Own X w (blk g o :: L) W' → F g w W' → R W') (hW : W0 = W.alloc o := by exact rfl) (f : ∀ g, pR X (blk g o :: L) (F g) := by intro g; infer_instance) : T := by rw [r.eq, hW]; exact k _ (hid rfl) _ (h.alloc o) ((f _).ok _ _ (h.alloc o))
end
section
variable {P : Program} {ops : Array Oper} {Q : Exit → Act → World → Prop} {l : List Oper} {c : Code} {a : Act} {X : Nat → Prop} {w W : World} {L L' : List As} {i g j : Nat} {cs : Array Value} {t : TypeId}
theorem sp_s {v : Value} (h : Own X w L W) {F : World → World → Prop} (k : ∀ W', Own X w L' W' → F w W' → wpList P ops Q l a W') (q : qR L g i cs t := by infer_instance) (e : L.set i (aP g (cs.setIfInBounds j v) t) = L' := by (try simp only [yT]); rfl) (f : pR X L' F := by infer_instance) : wpList P ops Q l a (W.setCell ⟨g, j, none⟩ v) := by subst e; exact k _ (h.set i j v q.ok) (f.ok _ _ (h.set i j v q.ok))
theorem sp_sc {v : Value} (h : Own X w L W) {F : World → World → Prop} (k : ∀ W', Own X w L' W' → F w W' → c.wp P Q a W') (q : qR L g i cs t := by infer_instance) (e : L.set i (aP g (cs.setIfInBounds j v) t) = L' := by (try simp only [yT]); rfl) (f : pR X L' F := by infer_instance) : c.wp P Q a (W.setCell ⟨g, j, none⟩ v) := by subst e; exact k _ (h.set i j v q.ok) (f.ok _ _ (h.set i j v q.ok))
theorem bf {o : Obj} (h : Own X w L W) {F : Nat → World → World → Prop} (k : ∀ g, Hid (g = W.heap.size) → ∀ W', Own X w (blk g o :: L) W' → F g w W' → wpList P ops Q l a W') (f : ∀ g, pR X (blk g o :: L) (F g) := by intro g; infer_instance) : wpList P ops Q l a (W.alloc o) := k _ (hid rfl) _ (h.alloc o) ((f _).ok _ _ (h.alloc o))
theorem sp_ac {o : Obj} (h : Own X w L W) {F : Nat → World → World → Prop} (k : ∀ g, Hid (g = W.heap.size) → ∀ W', Own X w (blk g o :: L) W' → F g w W' → c.wp P Q a W') (f : ∀ g, pR X (blk g o :: L) (F g) := by intro g; infer_instance) : c.wp P Q a (W.alloc o) := k _ (hid rfl) _ (h.alloc o) ((f _).ok _ _ (h.alloc o))
theorem ay {o : Oper} {rest : List Oper} {old : Array Value} {x y : Operand} (ty : TypeId) (h : Own X w L W) {F : World → World → Prop} (k : ∀ W', Own X w L' W' → F w W' → wpList P ops Q rest (a.put o.dst undef) W') (hgd : o.guard = none := by exact rfl) (ho : o.op = .store ty x y := by exact rfl) (hx : a.eval x = .pointer (some ⟨g, 0, none⟩) := by exact rfl) (hy : a.eval y = .agg cs := by exact rfl) (q : qR L g i old t := by infer_instance) (hs : (P.info? ty).map (·.size) = some cs.size := by kernel_rfl) (hold : old.size = cs.size := by rfl) (h1 : cs.all (·.oneCell') = true := by simp [Value.oneCell']) (e : L.set i (aP g cs t) = L' := by (try simp only [yT]); rfl) (f : pR X L' F := by infer_instance) : wpList P ops Q (o :: rest) a W := by subst e; exact gW h hgd ty x _ ho hx hy hs hold h1 (fun W' hW => k W' hW (f.ok _ _ hW))
theorem bG {o : Oper} {rest : List Oper} {x : Operand} {d : TypeDesc} (ty : TypeId) (h : Own X w L W) (hu : P.underlying ty = some d) (k : wpList P ops Q rest (a.put o.dst (.agg cs)) W) (hgd : o.guard = none := by exact rfl) (ho : o.op = .load ty x := by exact rfl) (hx : a.eval x = .pointer (some ⟨g, 0, none⟩) := by exact rfl) (hd : (match d with | .struct _ | .array _ _ => true | _ => false) = true := by rfl) (q : qR L g i cs t := by infer_instance) (hs : (P.info? ty).map (·.size) = some cs.size := by kernel_rfl) : wpList P ops Q (o :: rest) a W := sp_lk h hgd ty x ho hx d hu hd hs k
end
section
variable {P : Program} {ops : Array Oper} {Q : Exit → Act → World → Prop} {md : Region.Mode} {S : World → Prop} {fuel : Nat} {listed : Array Bool} {a : Act} {w : World}
theorem dC (rs : List Nat) (h : ∀ w', Bl w w' → dD P md ops Q S fuel listed a w' rs) (hr : Region.ready md ops listed = rs := by kernel_rfl) (hne : rs ≠ [] := by simp) : wpS P md ops Q S (fuel + 1) listed a w := GD hr hne h
theorem dz (rs : List Nat) (h : ∀ w', Bl w w' → dE P md ops Q fuel listed a w' rs) (hr : Region.ready md ops listed = rs := by kernel_rfl) (hne : rs ≠ [] := by simp) : nZ P md ops Q (fuel + 1) listed a w := Fa hr hne h
theorem kS (h : ∀ w', Bl w w' → Q .normal a w') {fuel : Nat} (hr : Region.ready md ops listed = [] := by kernel_rfl) : wpS P md ops Q S fuel listed a w := KO hr h fuel
theorem uC (h : ∀ w', Bl w w' → Q .normal a w') {fuel : Nat} (hr : Region.ready md ops listed = [] := by kernel_rfl) : nZ P md ops Q fuel listed a w := IU hr h fuel
theorem BF {i i2 : Nat} {o o2 : Oper}
    (h : ∀ K' : Act → World → Prop, Shut (∀ a w, S w → wpS P md ops Q S fuel (listed.setIfInBounds i true) a w → K' a w) → if Region.wanted o (yielded ops a.tmps) = true then Oper.wp P o a w K' Q else K' (a.put o.dst undef) w)
    (h2 : ∀ K' : Act → World → Prop, Shut (∀ a w, S w → wpS P md ops Q S fuel (listed.setIfInBounds i2 true) a w → K' a w) → if Region.wanted o2 (yielded ops a.tmps) = true then Oper.wp P o2 a w K' Q else K' (a.put o2.dst undef) w) (ho : ops[i]? = some o := by simp only [yG]; rfl) (ho2 : ops[i2]? = some o2 := by simp only [yG]; rfl) : dD P md ops Q S fuel listed a w [i, i2] := dD.cons ho h (dD.cons ho2 h2 dD.nil)
theorem uA {i i2 : Nat} {o o2 : Oper}
    (h : ∀ K' : Act → World → Prop, Shut (∀ a w, nZ P md ops Q fuel (listed.setIfInBounds i true) a w → K' a w) → if Region.wanted o (yielded ops a.tmps) = true then Oper.wp P o a w K' Q else K' (a.put o.dst undef) w)
    (h2 : ∀ K' : Act → World → Prop, Shut (∀ a w, nZ P md ops Q fuel (listed.setIfInBounds i2 true) a w → K' a w) → if Region.wanted o2 (yielded ops a.tmps) = true then Oper.wp P o2 a w K' Q else K' (a.put o2.dst undef) w) (ho : ops[i]? = some o := by simp only [yG]; rfl) (ho2 : ops[i2]? = some o2 := by simp only [yG]; rfl) : dE P md ops Q fuel listed a w [i, i2] := dE.cons ho h (dE.cons ho2 h2 dE.nil)
end
section
variable {P : Program} {X : Nat → Prop} {w : World} {W : World} {L : List As}
theorem bL {ops : Array Oper} {Q : Exit → Act → World → Prop} {md : Region.Mode} {fuel : Nat} {listed li : Array Bool} {K : Act → World → Prop} {a b : Act} (hK : Shut (∀ a w, nZ P md ops Q fuel listed a w → K a w)) (h : nZ P md ops Q fuel li b w) (hb : a = b := by (try simp only [Act.put, yT]); with_reducible rfl) (hl : listed = li := by (try simp only [yT]); with_reducible rfl) : K a w := by subst hb; subst hl; exact hK.out _ _ h
theorem bX {ops : Array Oper} {Q : Exit → Act → World → Prop} {md : Region.Mode} {S : World → Prop} {fuel : Nat} {listed li : Array Bool} {K : Act → World → Prop} {a b : Act} (hK : Shut (∀ a w, S w → wpS P md ops Q S fuel listed a w → K a w)) (hs : S w) (h : wpS P md ops Q S fuel li b w) (hb : a = b := by (try simp only [Act.put, yT]); with_reducible rfl) (hl : listed = li := by (try simp only [yT]); with_reducible rfl) : K a w := by subst hb; subst hl; exact hK.out _ _ hs h
theorem bq {n : FuncId} {args : Array Value} {v : Value} {F : World → World → Prop} {Post : Ending → World → Prop} (h : Own X w L W) (c : Calls P n args W fun e w' => e = .returned v ∧ Below W.heap.size W w') (k : ∀ W', Own X w L W' → F w W' → Post (.returned v) W') (f : pR X L F := by infer_instance) : Calls P n args W Post := c.mono fun e w' q => q.1 ▸ k w' (h.then q.2) (f.ok _ _ (h.then q.2))
theorem fF {n : FuncId} {args : Array Value} {v : Value} {Post : Ending → World → Prop} (h : Own X w L W) (c : Calls P n args W fun e w' => e = .returned v ∧ Below W.heap.size W w') (k : ∀ W', Own X w L W' → Post (.returned v) W') : Calls P n args W Post := c.mono fun e w' q => q.1 ▸ k w' (h.then q.2)
end
end Go.Proofs.YtlkolghiknbbfaaGreatDoor
