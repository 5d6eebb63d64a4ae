/- The straight module out of the law's lines; one line turned; the module in memory. -/
import Derived.Test.YtbhijdmlonplgaaGreatDoorBd
import Derived.Test.YtbhijdmlonplgaaGreatDoorBg
import Derived.Test.YtbhijdmlonplgaaGreatDoorAh
import Derived.Deep.MidRow
namespace Go.Proofs.YtbhijdmlonplgaaGreatDoor
set_option linter.unusedVariables false
set_option linter.unusedSimpArgs false
set_option maxRecDepth 100000
set_option maxHeartbeats 4000000
open Go.RowKit
section
variable {n : Nat} {f : Nat → Ln}
theorem headL_len : headL.length = 23 := rfl
theorem strL_app : strL n f = headL ++ ((List.range n).map (fun j => lineI j (f j)) ++ tailL n) := by
 refine List.ext_getElem? fun k => ?_
 by_cases hk : k < 27 + n
 ·rw [List.getElem?_eq_getElem (by rw [strL_len]; exact hk), strL_get]
  by_cases a : k < 23
  ·rw [strAt_head a, List.getElem?_append_left (by rw [headL_len]; exact a), List.getD_eq_getElem?_getD, List.getElem?_eq_getElem (show k < headL.length by rw [headL_len]; exact a)]; rfl
  ·rw [List.getElem?_append_right (by rw [headL_len]; omega), headL_len]
   by_cases b : k < 23 + n
   ·rw [strAt_line (j := k - 23) (by omega) (by omega), List.getElem?_append_left (by simp; omega), List.getElem?_map, List.getElem?_range (by omega)]; rfl
   ·obtain ⟨j, rfl⟩ : ∃ j, k = 23 + n + j := ⟨k - (23 + n), by omega⟩
    have e : 23 + n + j - 23 = n + j := by omega
    rw [strAt_tail rfl, e, List.getElem?_append_right (by simp), List.length_map, List.length_range, Nat.add_sub_cancel_left]
    rcases (show j = 0 ∨ j = 1 ∨ j = 2 ∨ j = 3 by omega) with rfl | rfl | rfl | rfl <;> rfl
 ·rw [List.getElem?_eq_none (by rw [strL_len]; omega), List.getElem?_eq_none (by rw [List.length_append, List.length_append, headL_len, List.length_map, List.length_range, show (tailL n).length = 4 from rfl]; omega)]
theorem preL_str (ln : Nat → Nat × Int × Int) : preL ln n ++ [⟨62, 0, 0, [idA 12, idA (23 + n)]⟩] ++ [⟨62, 0, 0, [idA 13, idA 9]⟩] ++ [⟨253, 0, 0, []⟩] ++ [⟨56, 0, 0, []⟩] = strL n (lnF ln) := by
 rw [strL_app]
 simp [preL, tailL]
theorem str_lnF (ln : Nat → Nat × Int × Int) (hn : n ≤ 1000) (h : ∀ k, k < n → isTwo (ln k).1 = true) : StrOk n (lnF ln) :=
 ⟨hn, h, fun _ _ => .inl rfl, fun k _ => ⟨Nat.le_add_right _ _, by have := bh_lt (ln k).2.1 (k + 2) (by omega); show 22 + bh _ _ < _; omega⟩, fun k _ => ⟨Nat.le_add_right _ _, by have := bh_lt (ln k).2.2 (k + 2) (by omega); show 22 + bh _ _ < _; omega⟩⟩
theorem bad_none (ln : Nat → Nat × Int × Int) : Bad n (lnF ln) (27 + n) := ⟨Nat.le_refl _, fun _ _ _ => rfl, fun h => absurd h (Nat.lt_irrefl _)⟩
def atF (f : Nat → Ln) (q : Nat) : Nat → Ln := fun j => if j = q then ⟨(f j).op, 5, (f j).x, (f j).y⟩ else f j
theorem str_atF (h : StrOk n f) (q : Nat) : StrOk n (atF f q) := by
 have e : ∀ j, (atF f q j).op = (f j).op ∧ (atF f q j).x = (f j).x ∧ (atF f q j).y = (f j).y ∧ ((atF f q j).ty = (f j).ty ∨ (atF f q j).ty = 5) := fun j => by
  unfold atF; split
  ·exact ⟨rfl, rfl, rfl, .inr rfl⟩
  ·exact ⟨rfl, rfl, rfl, .inl rfl⟩
 refine ⟨h.small, fun k hk => ?_, fun k hk => ?_, fun k hk => ?_, fun k hk => ?_⟩
 ·rw [(e k).1]; exact h.op k hk
 ·rcases (e k).2.2.2 with q | q
  ·rw [q]; exact h.ty k hk
  ·exact .inr q
 ·rw [(e k).2.1]; exact h.x k hk
 ·rw [(e k).2.2.1]; exact h.y k hk
theorem bad_atF (ln : Nat → Nat × Int × Int) {q : Nat} (hq : q < n) : Bad n (atF (lnF ln) q) (23 + q) := by
 refine ⟨by omega, fun j hj h => ?_, fun _ => ⟨q, hq, rfl, ?_⟩⟩
 ·unfold atF; rw [if_neg (by omega)]; rfl
 ·unfold atF; rw [if_pos rfl]
theorem strAt_atF {q k : Nat} (hq : q < n) (hk : k ≠ 23 + q) : strAt n (atF f q) k = strAt n f k := by
 unfold strAt
 split
 ·rfl
 ·split
  ·have : k - 23 ≠ q := by omega
   unfold atF; rw [if_neg this]
  ·rfl
theorem strAt_atF_at {q : Nat} (hq : q < n) : strAt n (atF f q) (23 + q) = ⟨(f q).op, 5, 24 + q, [idA (f q).x, idA (f q).y]⟩ := by
 rw [strAt_line hq rfl]
 unfold atF lineI
 rw [if_pos rfl]
structure InFit (i : In) : Prop where
 op : i.op < 65536
 ty : i.ty < 4294967296
 res : i.res < 4294967296
 len : i.args.length ≤ 1000
 arg : ∀ a ∈ i.args, a.kind < 256 ∧ a.n < 4294967296 ∧ a.s.size ≤ 1000
theorem head_fit : ((List.range 23).all fun k => decide ((headL.getD k noIn).op < 65536) && decide ((headL.getD k noIn).ty < 4294967296) && decide ((headL.getD k noIn).res < 4294967296) && decide ((headL.getD k noIn).args.length ≤ 1000) && (headL.getD k noIn).args.all fun a => decide (a.kind < 256) && decide (a.n < 4294967296) && decide (a.s.size ≤ 1000)) = true := by kernel_rfl
theorem idA_fit {x : Nat} (h : x < 4294967296) : (idA x).kind < 256 ∧ (idA x).n < 4294967296 ∧ (idA x).s.size ≤ 1000 := ⟨by show 1 < 256; omega, h, by show 0 ≤ 1000; omega⟩
theorem isTwo_lt {op : Nat} (h : isTwo op = true) : op < 65536 := by
 have := isTwo_mem h
 simp only [List.mem_cons, List.not_mem_nil, or_false] at this
 omega
theorem str_fit (hs : StrOk n f) {k : Nat} (hk : k < 27 + n) : InFit (strAt n f k) := by
 have hc := str_case (n := n) (f := f) k hk
 have hsm := hs.small
 generalize strAt n f k = i at hc ⊢
 cases hc with
 | head h =>
  have := List.all_eq_true.1 head_fit k (List.mem_range.2 h)
  simp only [Bool.and_eq_true, decide_eq_true_eq, List.all_eq_true] at this
  exact ⟨this.1.1.1.1, this.1.1.1.2, this.1.1.2, this.1.2, fun a ha => by have := this.2 a ha; exact ⟨this.1.1, this.1.2, this.2⟩⟩
 | line j h hk =>
  have e1 := hs.x j h
  have e2 := hs.y j h
  have e3 := hs.ty j h
  refine ⟨isTwo_lt (hs.op j h), by show (f j).ty < _; omega, by show 24 + j < _; omega, by show 2 ≤ 1000; omega, fun a ha => ?_⟩
  rcases List.mem_cons.1 ha with rfl | ha
  ·exact idA_fit (by omega)
  ·rcases List.mem_cons.1 ha with rfl | ha
   ·exact idA_fit (by omega)
   ·cases ha
 | tail j h hk =>
  have hid : ∀ {x y : Nat}, x < 4294967296 → y < 4294967296 → InFit ⟨62, 0, 0, [idA x, idA y]⟩ := fun {x y} hx hy => ⟨by show 62 < 65536; omega, by show 0 < _; omega, by show 0 < _; omega, by show 2 ≤ 1000; omega, fun a ha => by
   rcases List.mem_cons.1 ha with rfl | ha
   ·exact idA_fit hx
   ·rcases List.mem_cons.1 ha with rfl | ha
    ·exact idA_fit hy
    ·cases ha⟩
  rcases (show j = 0 ∨ j = 1 ∨ j = 2 ∨ j = 3 by omega) with rfl | rfl | rfl | rfl
  ·exact hid (x := 12) (y := 23 + n) (by omega) (by omega)
  ·exact hid (x := 13) (y := 9) (by omega) (by omega)
  ·exact ⟨by show 253 < 65536; omega, by show 0 < _; omega, by show 0 < _; omega, by show 0 ≤ 1000; omega, fun a ha => (by cases ha)⟩
  ·exact ⟨by show 56 < 65536; omega, by show 0 < _; omega, by show 0 < _; omega, by show 0 ≤ 1000; omega, fun a ha => (by cases ha)⟩
theorem agCells_at : ∀ (l : List Ag) (j : Nat) (h : j < l.length), (l.flatMap agCells)[j * 3]? = some (.int .u8 l[j].kind) ∧ (l.flatMap agCells)[j * 3 + 1]? = some (.int .u32 l[j].n) ∧ (l.flatMap agCells)[j * 3 + 2]? = some (.string l[j].s)
 | [], j, h => absurd h (Nat.not_lt_zero _)
 | a :: l, 0, _ => ⟨rfl, rfl, rfl⟩
 | a :: l, j + 1, h => by
  have ih := agCells_at l j (Nat.lt_of_succ_lt_succ h)
  have e : ∀ q, ((a :: l).flatMap agCells)[(j + 1) * 3 + q]? = (l.flatMap agCells)[j * 3 + q]? := fun q => by
   rw [show (j + 1) * 3 + q = (j * 3 + q) + 1 + 1 + 1 by omega]; rfl
  exact ⟨(e 0).trans ih.1, (e 1).trans ih.2.1, (e 2).trans ih.2.2⟩
theorem flatI_at : ∀ (p : List Pr) (k : Nat) (h : k < p.length), (flatI p)[k * 4]? = some (.int .u16 p[k].1.op) ∧ (flatI p)[k * 4 + 1]? = some (.int .u32 p[k].1.ty) ∧ (flatI p)[k * 4 + 2]? = some (.int .u32 p[k].1.res) ∧ (flatI p)[k * 4 + 3]? = some (.slice p[k].2.1 p[k].1.args.length p[k].2.2)
 | [], k, h => absurd h (Nat.not_lt_zero _)
 | a :: l, 0, _ => ⟨rfl, rfl, rfl, rfl⟩
 | a :: l, k + 1, h => by
  have ih := flatI_at l k (Nat.lt_of_succ_lt_succ h)
  have e : ∀ q, (flatI (a :: l))[(k + 1) * 4 + q]? = (flatI l)[k * 4 + q]? := fun q => by
   rw [show (k + 1) * 4 + q = (k * 4 + q) + 1 + 1 + 1 + 1 by omega]; rfl
  exact ⟨(e 0).trans ih.1, (e 1).trans ih.2.1, (e 2).trans ih.2.2.1, (e 3).trans ih.2.2.2⟩
theorem flatI_set : ∀ (p : List Pr) (k : Nat) (h : k < p.length) (u : Nat), (flatI p).set (k * 4 + 1) (.int .u32 u) = flatI (p.set k (⟨p[k].1.op, u, p[k].1.res, p[k].1.args⟩, p[k].2))
 | [], k, h, _ => absurd h (Nat.not_lt_zero _)
 | a :: l, 0, _, u => rfl
 | a :: l, k + 1, h, u => by
  have ih := flatI_set l k (Nat.lt_of_succ_lt_succ h) u
  show (flatI (a :: l)).set ((k + 1) * 4 + 1) _ = flatI (a :: l.set k _)
  rw [show (k + 1) * 4 + 1 = (k * 4 + 1) + 1 + 1 + 1 + 1 by omega]
  exact congrArg (fun t => (Value.int .u16 a.1.op) :: (Value.int .u32 a.1.ty) :: (Value.int .u32 a.1.res) :: (Value.slice a.2.1 a.1.args.length a.2.2) :: t) ih
theorem ms_gen {W : World} {p : List Pr} {D : Nat → Prop} {g : Nat} (hr0 : ∀ q v, (flatI p)[q]? = some v → W.cell? ⟨g, q, none⟩ = some v) (hA : (argsA D p).holds W) (l : List In) (hl : p.map Prod.fst = l) (hp : 0 < l.length) (hf : ∀ k (hk : k < l.length), InFit l[k]) (hD : ∀ b, D b → b < W.heap.size) :
  Ms W g 0 l (fun k => (p.getD k (noIn, none, 0)).2) := by
 subst hl
 have hlen : (p.map Prod.fst).length = p.length := List.length_map ..
 have hfl := flatI_at p
 have e : ∀ k (hk : k < (p.map Prod.fst).length), (p.map Prod.fst)[k] = (p[k]'(by rw [← hlen]; exact hk)).1 := fun k hk => List.getElem_map ..
 have es : ∀ k (hk : k < (p.map Prod.fst).length), (p.getD k (noIn, none, 0)).2 = (p[k]'(by rw [← hlen]; exact hk)).2 := fun k hk => by
  rw [List.getD_eq_getElem?_getD, List.getElem?_eq_getElem (by rw [← hlen]; exact hk)]; rfl
 have hr : ∀ q v, (flatI p)[q]? = some v → W.cell? ⟨g, 0 + q, none⟩ = some v := fun q v hv => by rw [Nat.zero_add]; exact hr0 q v hv
 have hc : ∀ k (hk : k < (p.map Prod.fst).length), _ := fun k hk => hfl k (by rw [← hlen]; exact hk)
 have hz : g < W.heap.size := block_lt_of_cell (hr _ _ (hc 0 hp).1)
 refine ⟨hz, fun k hk => ?_, fun k hk => ?_, fun k hk => ?_, fun k hk => ?_, fun k hk => ⟨fun h0 => ?_⟩, fun k hk => (hf k hk).op, fun k hk => (hf k hk).ty, fun k hk => (hf k hk).res, fun k hk => Nat.le_trans (hf k hk).len (by omega)⟩
 ·rw [e k hk]; exact hr _ _ (hc k hk).1
 ·rw [e k hk]; exact hr _ _ (hc k hk).2.1
 ·rw [e k hk]; exact hr _ _ (hc k hk).2.2.1
 ·rw [e k hk, es k hk]; exact hr _ _ (hc k hk).2.2.2
 ·have hfk := hf k hk
  simp only [e k hk] at h0 hfk ⊢
  rw [es k hk]
  obtain ⟨b, e1, hb, hcc⟩ := hA (p[k]'(by rw [← hlen]; exact hk)) (List.getElem_mem _) h0
  refine ⟨b, 0, e1, hD b hb, fun q hq => ?_⟩
  have h3 := agCells_at _ q hq
  have h4 := hfk.arg _ (List.getElem_mem hq)
  exact ⟨by rw [Nat.zero_add]; exact hcc _ _ h3.1, by rw [Nat.zero_add]; exact hcc _ _ h3.2.1, by rw [Nat.zero_add]; exact hcc _ _ h3.2.2, h4.1, h4.2.1, Nat.le_trans h4.2.2 (by omega)⟩
theorem ms_of {X : Nat → Prop} {w W : World} {L : List As} {p : List Pr} {D : Nat → Prop} {base g c m : Nat} (h : Own X w L W) (i j : Nat) (hi : L[i]? = some (rw_ base 41 4 (.slice (some ⟨g, 0, none⟩) m c) m (flatI p))) (hj : L[j]? = some (argsA D p)) (l : List In) (hl : p.map Prod.fst = l) (hp : 0 < l.length) (hf : ∀ k (hk : k < l.length), InFit l[k]) : Ms W g 0 l (fun k => (p.getD k (noIn, none, 0)).2) :=
 ms_gen (fun q v hv => h.rowcell i q hi hv) (h.at j hj) l hl hp hf (fun b hb => (h.low _ (List.mem_of_getElem? hj) b hb).2)
end
structure StrEnd (n : Nat) (f : Nat → Ln) (w : World) (e : Ending) (w' : World) : Prop where
 at_ : ∃ g c p D, e = .returned (.agg #[.int .u32 0, .int .u32 (30 + n : Nat), .slice (some ⟨g, 0, none⟩) (strL n f).length c]) ∧ (strL n f).length ≤ c ∧ p.map Prod.fst = strL n f ∧ Own noX w [rw_ w.heap.size 41 4 (.slice (some ⟨g, 0, none⟩) (strL n f).length c) (strL n f).length (flatI p), argsA D p] w'
theorem args_none {D : Nat → Prop} {p : List Pr} {W : World} (h : (argsA D p).holds W) (i : In) (hi : i.args = []) : (argsA D (p ++ [(i, none, 0)])).holds W := fun x hx h0 => by
 rcases List.mem_append.1 hx with hx | hx
 ·exact h x hx h0
 ·rw [List.mem_singleton.1 hx] at h0
  simp [hi] at h0
theorem knumbers_own (op : Nat) (w : World) : Calls Tryz.prog 4 #[.int .u16 op] w fun e w' => e = .returned (.bool (isTwo op)) ∧ w' = w := by
 cases h : isTwo op with
 | true =>
  have hm := isTwo_mem h
  simp only [List.mem_cons, List.not_mem_nil, or_false] at hm
  clear h
  rcases hm with rfl | rfl | rfl | rfl | rfl | rfl | rfl | rfl | rfl | rfl | rfl | rfl | rfl | rfl
  all_goals
   go_enter Tryz.func4, Tryz.ntmps4
   go_wp2_with fail
   go_ret
   exact ⟨rfl, rfl⟩
 | false =>
  have hn : ∀ x : Nat, isTwo x = true → ((op : Int) == (x : Int)) = false := fun x hx => by
   rw [beq_eq_false_iff_ne]
   intro e
   have : op = x := by omega
   subst this
   rw [h] at hx
   cases hx
  have i0 : ((op : Int) == 128) = false := hn 128 rfl
  have i1 : ((op : Int) == 130) = false := hn 130 rfl
  have i2 : ((op : Int) == 132) = false := hn 132 rfl
  have i3 : ((op : Int) == 134) = false := hn 134 rfl
  have i4 : ((op : Int) == 135) = false := hn 135 rfl
  have i5 : ((op : Int) == 137) = false := hn 137 rfl
  have i6 : ((op : Int) == 138) = false := hn 138 rfl
  have i7 : ((op : Int) == 139) = false := hn 139 rfl
  have i8 : ((op : Int) == 194) = false := hn 194 rfl
  have i9 : ((op : Int) == 195) = false := hn 195 rfl
  have i10 : ((op : Int) == 196) = false := hn 196 rfl
  have i11 : ((op : Int) == 197) = false := hn 197 rfl
  have i12 : ((op : Int) == 198) = false := hn 198 rfl
  have i13 : ((op : Int) == 199) = false := hn 199 rfl
  clear hn h
  go_enter Tryz.func4, Tryz.ntmps4
  go_wp2_with fail
  go_ret
  exact ⟨rfl, rfl⟩
def prA (g : Nat) (t : TypeId) (N : Nat) (pre : List Value) : As := ⟨fun k => k = g, fun W => ∃ cs : Array Value, W.heap[g]? = some (.cells cs t (0, 0)) ∧ cs.size = N ∧ ∀ (j : Nat) (v : Value), pre[j]? = some v → cs[j]? = some v, fun _ _ h k => by
 obtain ⟨cs, h1, h2, h3⟩ := h
 exact ⟨cs, (k g rfl).trans h1, h2, h3⟩⟩
theorem setCells_heap (g : Nat) (t : TypeId) : ∀ (vs : List Value) (o : Nat) (W : World) (cs : Array Value), W.heap[g]? = some (.cells cs t (0, 0)) → ∃ cs', (W.setCells g o vs).heap[g]? = some (.cells cs' t (0, 0)) ∧ cs'.size = cs.size ∧ (∀ j, j < o → cs'[j]? = cs[j]?) ∧ ∀ j v, vs[j]? = some v → o + j < cs.size → cs'[o + j]? = some v
 | [], o, W, cs, h => ⟨cs, h, rfl, fun _ _ => rfl, fun j v hv => by simp at hv⟩
 | u :: vs, o, W, cs, h => by
  obtain ⟨cs', h1, h2, h3, h4⟩ := setCells_heap g t vs (o + 1) (W.setCell ⟨g, o, none⟩ u) (cs.setIfInBounds o u) (heap_setCell_same W g o cs t u h)
  refine ⟨cs', h1, by rw [h2]; simp, fun j hj => ?_, fun j v hv hlt => ?_⟩
  ·rw [h3 j (by omega), Array.getElem?_setIfInBounds, if_neg (by omega)]
  ·cases j with
   | zero =>
    simp only [List.getElem?_cons_zero, Option.some.injEq] at hv
    subst hv
    rw [Nat.add_zero, h3 o (by omega), Array.getElem?_setIfInBounds, if_pos rfl, if_pos (by omega)]
   | succ j =>
    rw [show o + (j + 1) = o + 1 + j by omega]
    exact h4 j v hv (by simp; omega)
theorem setCells_size (g : Nat) : ∀ (vs : List Value) (o : Nat) (W : World), (W.setCells g o vs).heap.size = W.heap.size ∧ (∀ k, k ≠ g → (W.setCells g o vs).heap[k]? = W.heap[k]?) ∧ (W.setCells g o vs).os = W.os ∧ (W.setCells g o vs).tape = W.tape ∧ (W.setCells g o vs).output = W.output
 | [], _, _ => ⟨rfl, fun _ _ => rfl, rfl, rfl, rfl⟩
 | u :: vs, o, W => by
  obtain ⟨h1, h2, h3, h4, h5⟩ := setCells_size g vs (o + 1) (W.setCell ⟨g, o, none⟩ u)
  exact ⟨h1.trans (World.size_setCell _ _ _), fun k hk => (h2 k hk).trans (heap_setCell_other W ⟨g, o, none⟩ k u hk), h3, h4, h5⟩
theorem Own.fill {X : Nat → Prop} {w W : World} {L : List As} (h : Own X w L W) (i : Nat) {g N : Nat} {t : TypeId} {pre : List Value} (hi : L[i]? = some (prA g t N pre)) (vs : List Value) (hN : pre.length + vs.length ≤ N) : Own X w (L.set i (prA g t N (pre ++ vs))) (W.setCells g pre.length vs) := by
 obtain ⟨cs, h1, h2, h3⟩ := h.at i hi
 obtain ⟨cs', q1, q2, q3, q4⟩ := setCells_heap g t vs pre.length W cs h1
 obtain ⟨z1, z2, z3, z4, z5⟩ := setCells_size g vs pre.length W
 refine h.step i hi ⟨z3, z4, z5, by rw [z1]; exact Nat.le_refl _, fun k _ hk => z2 k hk, fun k hk => ⟨by cases hk; rw [z1]; exact (Array.getElem?_eq_some_iff.1 h1).1, .inl hk⟩, ⟨cs', q1, by rw [q2, h2], fun j v hv => ?_⟩⟩
 by_cases hj : j < pre.length
 ·rw [List.getElem?_append_left hj] at hv
  rw [q3 j hj]; exact h3 j v hv
 ·rw [List.getElem?_append_right (by omega)] at hv
  have hl := (List.getElem?_eq_some_iff.1 hv).1
  have := q4 (j - pre.length) v hv (by omega)
  rwa [show pre.length + (j - pre.length) = j by omega] at this
theorem Own.there {X : Nat → Prop} {w W : World} {L : List As} (h : Own X w L W) (i : Nat) {g N : Nat} {t : TypeId} {pre : List Value} (hi : L[i]? = some (prA g t N pre)) (o m : Nat) (hm : o + m ≤ N) : W.there g o m := fun j hj => by
 obtain ⟨cs, h1, h2, h3⟩ := h.at i hi
 refine ⟨?_, frozen_of_row W g (o + j) cs t h1⟩
 rw [cell_of_row _ _ _ _ _ _ h1, Array.getElem?_eq_getElem (by omega)]; rfl
theorem Own.made_pr {X : Nat → Prop} {w W : World} {L : List As} {g N : Nat} {t : TypeId} {cs : Array Value} (h : Own X w (cls g cs t :: L) W) (hN : cs.size = N) : Own X w (prA g t N [] :: L) W := by
 have := h.recast 0 (A' := prA g t N []) rfl (fun k hk => hk) ⟨cs, h.blk 0 rfl, hN, fun j v hv => by simp at hv⟩
 exact this
theorem Own.prcell {X : Nat → Prop} {w W : World} {L : List As} (h : Own X w L W) (i : Nat) {g N : Nat} {t : TypeId} {pre : List Value} (hi : L[i]? = some (prA g t N pre)) (j : Nat) (v : Value) (hv : pre[j]? = some v) : W.cell? ⟨g, j, none⟩ = some v := by
 obtain ⟨cs, h1, h2, h3⟩ := h.at i hi
 exact (cell_of_row _ _ _ _ _ _ h1).trans (h3 j v hv)
theorem sp_fill {P : Program} {ops : Array Oper} {Q : Exit → Act → World → Prop} {rest : List Oper} {o : Oper} {a : Act} {X : Nat → Prop} {w W : World} {L : List As} (i : Nat) {g N : Nat} {t : TypeId} {pre : List Value} (h : Own X w L W) (hi : L[i]? = some (prA g t N pre)) (hgd : o.guard = none) (ty : TypeId) (x y : Operand) (ho : o.op = .store ty x y) (off : Nat) (cells : Array Value) (hx : a.eval x = .pointer (some ⟨g, off, none⟩)) (hy : a.eval y = .agg cells) (hoff : off = pre.length) (hs : (P.info? ty).map (·.size) = some cells.size) (hN : pre.length + cells.size ≤ N) (h1 : cells.all (·.oneCell') = true)
  (k : ∀ W', Own X w (L.set i (prA g t N (pre ++ cells.toList))) W' → wpList P ops Q rest (a.put o.dst undef) W') : wpList P ops Q (o :: rest) a W := by
 subst hoff
 exact Go.wpList_store_mid hgd ty x y ho g pre.length cells hx hy (h.there i hi _ _ hN) hs h1 (k _ (h.fill i hi cells.toList (by simpa using hN)))
theorem run_args (n : Nat) (h : n ≤ 2000000) (W : World) : (Instr.makeSlice 39 (.int .i64 n) (.int .i64 n)).run Tryz.prog W = .ok (.slice (some ⟨W.heap.size, 0, none⟩) n n) (W.alloc (.cells (madeCells #[.int .u8 0, .int .u32 0, .string ⟨#[]⟩] (n * 3)) 45)) := by
 obtain ⟨i0, hi, hz0, hz1, hz2⟩ := info_parts (P := Tryz.prog) (e := 45) (z := .agg #[.int .u8 0, .int .u32 0, .string ⟨#[]⟩]) (size := 3) (bytes := 24) (by kernel_rfl)
 have := run_makeSlice (P := Tryz.prog) (w := W) 39 45 i0 (.agg #[.int .u8 0, .int .u32 0, .string ⟨#[]⟩]) rfl hi hz0 .i64 .i64 n n (by omega) (by omega) (by rw [hz1]; omega) (by rw [hz2]; omega) (by omega)
 rw [this, hz1]
 simp [Value.cells]
theorem run_insts (n : Nat) (h : n ≤ 2000000) (W : World) : (Instr.makeSlice 28 (.int .i64 n) (.int .i64 n)).run Tryz.prog W = .ok (.slice (some ⟨W.heap.size, 0, none⟩) n n) (W.alloc (.cells (madeCells #[.int .u16 0, .int .u32 0, .int .u32 0, .slice none 0 0] (n * 4)) 41)) := by
 obtain ⟨i0, hi, hz0, hz1, hz2⟩ := info_parts (P := Tryz.prog) (e := 41) (z := .agg #[.int .u16 0, .int .u32 0, .int .u32 0, .slice none 0 0]) (size := 4) (bytes := 40) (by kernel_rfl)
 have := run_makeSlice (P := Tryz.prog) (w := W) 28 41 i0 (.agg #[.int .u16 0, .int .u32 0, .int .u32 0, .slice none 0 0]) rfl hi hz0 .i64 .i64 n n (by omega) (by omega) (by rw [hz1]; omega) (by rw [hz2]; omega) (by omega)
 rw [this, hz1]
 simp [Value.cells]
theorem agCells_len (l : List Ag) : (l.flatMap agCells).length = l.length * 3 := by
 induction l with
 | nil => rfl
 | cons a l ih => simp only [List.flatMap_cons, List.length_append, ih, List.length_cons]; show 3 + _ = _; omega
theorem agCells_snoc (l : List Ag) (k : Nat) (h : k < l.length) : (l.take (k + 1)).flatMap agCells = (l.take k).flatMap agCells ++ [.int .u8 l[k].kind, .int .u32 l[k].n, .string l[k].s] := by
 rw [List.take_add_one, List.getElem?_eq_getElem h, List.flatMap_append]
 rfl
theorem kcopyinst_own (op ty res : Nat) (xs : List Ag) (a : Option Addr) (c : Nat) (w : World) (hS : Sl 3 AgAt w a xs) (hl : xs.length ≤ 1000) :
  Calls Tryz.prog 15 #[.agg #[.int .u16 op, .int .u32 ty, .int .u32 res, .slice a xs.length c]] w fun e w' => ∃ g, e = .returned (.agg #[.int .u16 op, .int .u32 ty, .int .u32 res, .slice (some ⟨g, 0, none⟩) xs.length xs.length]) ∧ Own noX w [prA g 45 (xs.length * 3) (xs.flatMap agCells)] w' := by
 have HO := Own.nil w
 have HS := hid hS
 clear hS
 have hm := run_args xs.length (by omega)
 go_enter Tryz.func15, Tryz.ntmps15
 go_wp2_with (first | ((first | (with_reducible refine sp_al HO ?_; intro g hg; rw [← hg.out]; clear hg) | (with_reducible refine sp_alc HO ?_; intro g hg; rw [← hg.out]; clear hg) | (with_reducible refine sp_sk HO ?_) | (with_reducible refine sp_skc HO ?_) | (refine sp_wk HO rfl 41 _ _ rfl rfl rfl (by kernel_rfl) (by rfl) (by simp [Value.oneCell']) ?_)); intro W' HO'; clear HO; (try clear kk); have HO := HO'; clear HO'; (try simp only [zTz, zTs, zTa] at HO); (try have kk := HO.kk); skip))
 clear hm
 replace HO := HO.made_pr (N := xs.length * 3) (by rw [size_madeCells])
 (try clear kk); skip
 obtain ⟨gA, rfl⟩ : ∃ q, q = g := ⟨_, rfl⟩
 have gI := HO.lt 2 rfl
 obtain ⟨gR, hgR⟩ : ∃ q, q = g := ⟨_, rfl⟩
 obtain ⟨L0, hL0, H0⟩ : ∃ L0, Hid (L0 = [cls g #[.int .u16 0, .int .u32 0, .int .u32 0, .slice none 0 0] 41, cls _ #[.int .u16 op, .int .u32 ty, .int .u32 res, .slice a xs.length c] 41]) ∧ Own noX w (prA gA 45 (xs.length * 3) ((xs.take 0).flatMap agCells) :: L0) W' := ⟨_, hid rfl, HO⟩
 replace H0 := hid H0
 clear HO gI hgR
 go_loopw [4] (fun x4 wv => ∃ k : Nat, k ≤ xs.length ∧ x4 = .int .i64 k ∧ Own noX w (prA gA 45 (xs.length * 3) ((xs.take k).flatMap agCells) :: L0) wv) (fun x _ => xs.length - (intOf x).toNat)
 case atStart => exact ⟨0, by omega, rfl, H0.out⟩
 case round =>
  obtain ⟨k, hk, rfl, HO⟩ := hrel
  clear H0
  by_cases hkl : k < xs.length
  ·obtain ⟨b, o, rfl, zb, hc⟩ := HS.out.at_ (by omega)
   have q := hc k hkl
   have q0 := cell_last q.kind zb HO.below
   have q1 := cell_last q.n zb HO.below
   have q2 := cell_last q.s zb HO.below
   have hsn := hid (agCells_snoc xs k hkl)
   have hplen : Hid (k * 3 = ((xs.take k).flatMap agCells).length) := hid (by rw [agCells_len, List.length_take]; omega)
   have hN : Hid (((xs.take k).flatMap agCells).length + 3 ≤ xs.length * 3) := hid (by rw [agCells_len, List.length_take]; omega)
   have i4 : (k : Int) < xs.length := by omega
   have HK := hid hkl
   clear q hc
   rw [hL0.out] at HO
   generalize xs[k].kind = x0 at q0 hsn
   generalize xs[k].n = x1 at q1 hsn
   generalize xs[k].s = x2 at q2 hsn
   clear hkl hk
   (try simp only [zTz, zTs, zTa, zDs, zDz] at HO); (try have kk := HO.kk); skip
   go_wp2_with (first | ((first | (with_reducible refine sp_al HO ?_; intro g hg; rw [← hg.out]; clear hg) | (with_reducible refine sp_sk HO ?_) | (with_reducible refine sp_skc HO ?_)); intro W' HO'; clear HO; (try clear kk); have HO := HO'; clear HO'; (try simp only [zTz, zTs, zTa] at HO); (try have kk := HO.kk); skip) | (refine sp_fill 0 HO rfl rfl 45 _ _ rfl (k * 3) #[.int .u8 x0, .int .u32 x1, .string x2] rfl rfl hplen.out infoArg hN.out (by simp [Value.oneCell']) ?_; intro W2 HO2; clear HO; have HO := HO2; clear HO2; (try simp only [List.set_cons_zero] at HO); (try clear kk); skip; (try simp only [zTz, zTs, zTa, zDs, zDz] at HO); (try have kk := HO.kk); skip))
   exact ⟨⟨k + 1, HK.out, by go_num, by rw [hL0.out, hsn.out]; exact HO⟩, by have := HK.out; simp [intOf]; omega⟩
  ·obtain rfl : k = xs.length := by omega
   have i4 : ¬ (((xs.length : Nat) : Int) < xs.length) := by omega
   rw [hL0.out, List.take_length] at HO
   clear hkl hk
   (try simp only [zTz, zTs, zTa, zDs, zDz] at HO); (try have kk := HO.kk); skip
   go_wp2_with (first | ((first | (with_reducible refine sp_al HO ?_; intro g hg; rw [← hg.out]; clear hg) | (with_reducible refine sp_sk HO ?_) | (with_reducible refine sp_skc HO ?_) | (refine sp_wk HO rfl 41 _ _ rfl rfl rfl (by kernel_rfl) (by rfl) (by simp [Value.oneCell']) ?_)); intro W' HO'; clear HO; (try clear kk); have HO := HO'; clear HO'; (try simp only [zTz, zTs, zTa] at HO); (try have kk := HO.kk); skip) | (refine sp_lk HO rfl 41 _ rfl rfl _ Tryz.underlying41 rfl (by kernel_rfl) ?_))
   refine bodyPost_ret_by (res_row rfl _ _ _ 41 #[.int .u16 op, .int .u32 ty, .int .u32 res, .slice (some ⟨gA, 0, none⟩) xs.length xs.length] _ _ rfl (HO.blk 1 rfl) Tryz.underlying41 rfl infoIns) rfl ?_
   exact ⟨_, rfl, HO.sub (.cons_cons _ (.cons _ (.cons _ .slnil)))⟩
theorem flatI_len (p : List Pr) : (flatI p).length = p.length * 4 := by
 induction p with
 | nil => rfl
 | cons a p ih => unfold flatI at ih ⊢; simp only [List.flatMap_cons, List.length_append, ih, List.length_cons]; show 4 + _ = _; omega
theorem args_push {w W : World} {D : Nat → Prop} {p : List Pr} {L : List As} {g N : Nat} {t : TypeId} {i : In} (c : Nat) (h : Own noX w (prA g t N (i.args.flatMap agCells) :: argsA D p :: L) W) : Own noX w (argsA (fun k => k = g ∨ D k) (p ++ [(i, some ⟨g, 0, none⟩, c)]) :: L) W := by
 have hA := h.at 0 rfl
 have hB := h.at 1 rfl
 have h5 := h.join.recast 0 (A' := argsA (fun k => k = g ∨ D k) (p ++ [(i, some ⟨g, 0, none⟩, c)])) rfl (fun k hk => hk) (fun x hx h0 => by
  rcases List.mem_append.1 hx with hx | hx
  ·obtain ⟨b, e, hb, hcc⟩ := hB x hx h0
   exact ⟨b, e, .inr hb, hcc⟩
  ·rw [List.mem_singleton.1 hx]
   exact ⟨g, rfl, .inl rfl, fun j v hv => h.prcell 0 rfl j v hv⟩)
 exact h5
structure CpP (w : World) (gc N : Nat) (L : List As) (l : List In) (W : World) : Prop where
 at_ : ∃ p D, p.map Prod.fst = l ∧ (∀ x ∈ p, x.2.2 = x.1.args.length) ∧ Own noX w (prA gc 41 N (flatI p) :: argsA D p :: L) W
structure CpEnd (gen bound : Nat) (l : List In) (w : World) (e : Ending) (w' : World) : Prop where
 at_ : ∃ g sv', e = .returned (.agg #[.int .u32 gen, .int .u32 bound, .slice (some ⟨g, 0, none⟩) l.length l.length]) ∧ Below w.heap.size w w' ∧ Ms w' g 0 l sv' ∧ ∀ k (hk : k < l.length), (sv' k).2 = l[k].args.length
theorem kcopymod_own (gen bound b o cap : Nat) (l : List In) (sv : Nat → Option Addr × Nat) (w : World) (hM : Ms w b o l sv) (hn : l.length ≤ 2000) (hf : ∀ k (hk : k < l.length), InFit l[k]) (hp : 0 < l.length) :
  Calls Tryz.prog 7 #[.agg #[.int .u32 gen, .int .u32 bound, .slice (some ⟨b, o, none⟩) l.length cap]] w fun e w' => CpEnd gen bound l w e w' := by
 have HO := Own.nil w
 have HM := hid hM
 have HF := hid hf
 have HP := hid hp
 have zb := hM.lt
 clear hM hf hp
 have hm := run_insts l.length (by omega)
 go_enter Tryz.func7, Tryz.ntmps7
 go_wp2_with (first | ((first | (with_reducible refine sp_al HO ?_; intro g hg; rw [← hg.out]; clear hg) | (with_reducible refine sp_alc HO ?_; intro g hg; rw [← hg.out]; clear hg) | (with_reducible refine sp_sk HO ?_) | (with_reducible refine sp_skc HO ?_) | (refine sp_wk HO rfl 30 _ _ rfl rfl rfl (by kernel_rfl) (by rfl) (by simp [Value.oneCell']) ?_)); intro W' HO'; clear HO; (try clear kk); have HO := HO'; clear HO'; (try simp only [zTz, zTs, zTa] at HO); (try have kk := HO.kk); skip))
 clear hm
 replace HO := HO.made_pr (N := l.length * 4) (by rw [size_madeCells])
 (try clear kk); skip
 obtain ⟨gC, rfl⟩ : ∃ q, q = g := ⟨_, rfl⟩
 replace HO := (HO.free (A := argsA (fun _ => False) []) (fun k hk => hk) (fun x h => by cases h)).perm (List.Perm.swap _ _ _)
 obtain ⟨L0, hL0, H0⟩ : ∃ L0, Hid (L0 = [cls g #[.int .u32 0, .int .u32 0, .slice none 0 0] 30, cls _ #[.int .u32 gen, .int .u32 bound, .slice (some ⟨b, o, none⟩) l.length cap] 30]) ∧ CpP w gC (l.length * 4) L0 (l.take 0) W' := ⟨_, hid rfl, ⟨[], _, rfl, fun x hx => (by cases hx), HO⟩⟩
 replace H0 := hid H0
 clear HO
 go_loopw [4] (fun x4 wv => ∃ k : Nat, k ≤ l.length ∧ x4 = .int .i64 k ∧ CpP w gC (l.length * 4) L0 (l.take k) wv) (fun x _ => l.length - (intOf x).toNat)
 case atStart => exact ⟨0, by omega, rfl, H0.out⟩
 case round =>
  obtain ⟨k, hk, rfl, HC⟩ := hrel
  clear H0
  obtain ⟨p, D, hp, hc, HO⟩ := HC.at_
  have hpl : p.length = k := by
   have := congrArg List.length hp
   rw [List.length_map, List.length_take] at this
   omega
  have Hp := hid hp
  have Hc := hid hc
  clear HC hp hc
  by_cases hkl : k < l.length
  ·have hMM := HM.out.below HO.below
   have e0 := hMM.op k hkl
   have e1 := hMM.ty k hkl
   have e2 := hMM.res k hkl
   have e3 := hMM.args k hkl
   have hsl := hMM.sl k hkl
   have zb2 := hMM.lt
   have hfit := hid (HF.out k hkl)
   have htk : Hid (l.take (k + 1) = l.take k ++ [l[k]]) := hid (by rw [List.take_add_one, List.getElem?_eq_getElem hkl]; rfl)
   clear hMM
   have i4 : (k : Int) < l.length := by omega
   have HK := hid hkl
   have hplen : Hid (k * 4 = (flatI p).length) := hid (by rw [flatI_len, hpl])
   have hN : Hid ((flatI p).length + 4 ≤ l.length * 4) := hid (by rw [flatI_len, hpl]; omega)
   generalize l[k] = i at e0 e1 e2 e3 hsl htk hfit
   generalize sv k = s at e3 hsl
   obtain ⟨op, ty, res, xs⟩ := i
   obtain ⟨sa, sc⟩ := s
   simp only at e0 e1 e2 e3 hsl
   have cI : ∀ W, Below wr.heap.size wr W → _ := fun W hb => kcopyinst_own op ty res xs sa sc W (hsl.below AgAt.lasts hb) hfit.out.len
   have cI2 := cI wr (Below.refl _ _)
   clear cI hsl hkl hk hpl
   rw [hL0.out] at HO
   (try simp only [zTz, zTs, zTa, zDs, zDz] at HO); (try have kk := HO.kk); skip
   go_wp2_with (first | ((first | (with_reducible refine sp_al HO ?_; intro g hg; rw [← hg.out]; clear hg) | (with_reducible refine sp_sk HO ?_) | (with_reducible refine sp_skc HO ?_)); intro W' HO'; clear HO; (try clear kk); have HO := HO'; clear HO'; (try simp only [zTz, zTs, zTa] at HO); (try have kk := HO.kk); skip) | (go_at_call 15; (with_reducible refine cI2.mono ?_); rintro e w1 ⟨ga, rfl, h2⟩; replace HO := HO.app h2; clear h2; (try simp only [List.cons_append, List.nil_append] at HO); (try clear kk); skip; (try simp only [zTz, zTs, zTa, zDs, zDz] at HO); (try have kk := HO.kk); skip) | (refine sp_fill 1 HO rfl rfl 41 _ _ rfl (k * 4) #[.int .u16 op, .int .u32 ty, .int .u32 res, .slice (some ⟨ga, 0, none⟩) xs.length xs.length] rfl rfl hplen.out infoIns hN.out (by simp [Value.oneCell']) ?_; intro W2 HO2; clear HO; have HO := HO2; clear HO2; (try simp only [List.set_cons_zero, List.set_cons_succ] at HO); (try clear kk); skip; (try simp only [zTz, zTs, zTa, zDs, zDz] at HO); (try have kk := HO.kk); skip))
   have h3 := (args_push (i := ⟨op, ty, res, xs⟩) xs.length (HO.perm (.cons _ (.swap _ _ _)))).perm (.swap _ _ _)
   refine ⟨⟨k + 1, HK.out, by go_num, ⟨p ++ [(⟨op, ty, res, xs⟩, some ⟨ga, 0, none⟩, xs.length)], _, by rw [htk.out, List.map_append, Hp.out]; rfl, fun x hx => ?_, by rw [hL0.out, flatI_snoc]; exact h3⟩⟩, by have := HK.out; simp [intOf]; omega⟩
   rcases List.mem_append.1 hx with hx | hx
   ·exact Hc.out x hx
   ·rw [List.mem_singleton.1 hx]
  ·obtain rfl : k = l.length := by omega
   have i4 : ¬ (((l.length : Nat) : Int) < l.length) := by omega
   rw [hL0.out] at HO
   clear hkl hk
   (try simp only [zTz, zTs, zTa, zDs, zDz] at HO); (try have kk := HO.kk); skip
   go_wp2_with (first | ((first | (with_reducible refine sp_al HO ?_; intro g hg; rw [← hg.out]; clear hg) | (with_reducible refine sp_sk HO ?_) | (with_reducible refine sp_skc HO ?_) | (refine sp_wk HO rfl 30 _ _ rfl rfl rfl (by kernel_rfl) (by rfl) (by simp [Value.oneCell']) ?_)); intro W' HO'; clear HO; (try clear kk); have HO := HO'; clear HO'; (try simp only [zTz, zTs, zTa] at HO); (try have kk := HO.kk); skip) | (refine sp_lk HO rfl 30 _ rfl rfl _ Tryz.underlying30 rfl (by kernel_rfl) ?_))
   refine bodyPost_ret_by (res_row rfl _ _ _ 30 #[.int .u32 gen, .int .u32 bound, .slice (some ⟨gC, 0, none⟩) l.length l.length] _ _ rfl (HO.blk 2 rfl) Tryz.underlying30 rfl infoMdl) rfl ?_
   have hpm := Hp.out
   rw [List.take_length] at hpm
   refine ⟨⟨_, _, rfl, HO.below, ms_gen (fun q v hv => HO.prcell 0 rfl q v hv) (HO.at 1 rfl) l hpm HP.out HF.out (fun b hb => (HO.low _ (List.mem_of_getElem? (i := 1) rfl) b hb).2), fun k hk => ?_⟩⟩
   have hk2 : k < p.length := by rw [hpl]; exact hk
   rw [List.getD_eq_getElem?_getD, List.getElem?_eq_getElem hk2]
   have e1 := Hc.out p[k] (List.getElem_mem hk2)
   have e2 : p[k].1 = l[k] := by
    have : (p.map Prod.fst)[k]'(by rw [List.length_map]; exact hk2) = l[k] := by simp only [hpm]
    rw [List.getElem_map] at this
    exact this
   rw [← e2]
   exact e1
end Go.Proofs.YtbhijdmlonplgaaGreatDoor
