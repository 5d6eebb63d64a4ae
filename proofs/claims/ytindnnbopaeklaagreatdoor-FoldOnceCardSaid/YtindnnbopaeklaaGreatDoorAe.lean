/- An instruction as words. -/
import Derived.Test.YtindnnbopaeklaaGreatDoorAd
import Derived.Laws.Rows
import Derived.BigQuiet
namespace Go.Proofs.YtindnnbopaeklaaGreatDoor
set_option linter.unusedVariables false
set_option linter.unusedSimpArgs false
open Go.RowKit
def noAg : Ag := ⟨0, 0, ⟨#[]⟩⟩
def rawTo (f : Fm) (bound : Nat) (l : List Ag) (s0 : Nat × Nat × Nat) : Nat → Nat × Nat × Nat
 | 0 => s0
 | k + 1 =>
  let s := rawTo f bound l s0 k
  let a := l.getD k noAg
  if s.1 = 0 then (argErr f bound k a, s.2.1 + argPut f k a, s.2.2 + argRoom f k a) else s
def rawHead (f : Fm) (i : In) (bound : Nat) : Nat × Nat × Nat :=
 let n0 := if f.ty && decide (i.ty ≠ 0) then 1 else 0
 let n1 := if f.res && decide (i.res ≠ 0) then 1 else 0
 let e0 := headErr f.ty i.ty bound 40
 if e0 = 0 then (headErr f.res i.res bound 41, n0 + n1, n0 + n1) else (e0, n0, n0)
def rawTail (s : Nat × Nat × Nat) (we : Nat) : Nat × Nat :=
 let e1 := if s.1 = 0 then we else s.1
 let e2 := if e1 = 0 ∧ 65535 ≤ s.2.2 then 25 else e1
 if e2 = 0 then (0, s.2.1) else (e2, 0)
def rawOf (i : In) (bound : Nat) : Nat × Nat :=
 if isForm i.op then
  rawTail (rawTo (formOf i.op) bound i.args (rawHead (formOf i.op) i bound) i.args.length) (wholeErr (formOf i.op).op i.args)
 else (30, 0)
theorem textPut_le {s : ByteArray} (h : s.size ≤ 1048576) : textPut s ≤ 262145 := by
 unfold textPut room
 split <;> omega
theorem textRoom_le {s : ByteArray} (h : s.size ≤ 1048576) : textRoom s ≤ 262145 := by
 unfold textRoom room
 split <;> omega
theorem argPut_le {f : Fm} {k : Nat} {a : Ag} (h : a.s.size ≤ 1048576) : argPut f k a ≤ 262145 := by
 have := textPut_le h
 unfold argPut
 split
 ·omega
 ·split <;> omega
theorem argRoom_le {f : Fm} {k : Nat} {a : Ag} (h : a.s.size ≤ 1048576) : argRoom f k a ≤ 262145 := by
 have := textRoom_le h
 unfold argRoom
 split
 ·omega
 ·split <;> omega
theorem rawTo_le (f : Fm) (bound : Nat) (l : List Ag) (s0 : Nat × Nat × Nat) (h : ∀ k (h : k < l.length), l[k].s.size ≤ 1048576) (h1 : s0.2.1 ≤ 2) (h2 : s0.2.2 ≤ 2) :
  ∀ k, k ≤ l.length → (rawTo f bound l s0 k).2.1 ≤ 2 + k * 262145 ∧ (rawTo f bound l s0 k).2.2 ≤ 2 + k * 262145
 | 0, _ => ⟨by simp only [rawTo]; omega, by simp only [rawTo]; omega⟩
 | k + 1, hk => by
  have ih := rawTo_le f bound l s0 h h1 h2 k (by omega)
  have e : l.getD k noAg = l[k] := by rw [List.getD_eq_getElem?_getD, List.getElem?_eq_getElem hk]; rfl
  have a1 := argPut_le (f := f) (k := k) (h k hk)
  have a2 := argRoom_le (f := f) (k := k) (h k hk)
  simp only [rawTo, e]
  split
  ·exact ⟨by show (rawTo f bound l s0 k).2.1 + _ ≤ _; omega, by show (rawTo f bound l s0 k).2.2 + _ ≤ _; omega⟩
  ·exact ⟨by omega, by omega⟩
theorem rawHead_le (f : Fm) (i : In) (bound : Nat) : (rawHead f i bound).2.1 ≤ 2 ∧ (rawHead f i bound).2.2 ≤ 2 := by
 unfold rawHead
 simp only
 split <;> (constructor <;> (simp only; repeat' split) <;> omega)
def inVal (i : In) (a : Option Addr) (cap : Nat) : Value := .agg #[.int .u16 i.op, .int .u32 i.ty, .int .u32 i.res, .slice a i.args.length cap]
theorem infoRaw : (Tryz.prog.info? 151).map (·.size) = some 2 := by kernel_rfl
structure RawEnd (i : In) (bound : Nat) (w w' : World) (e : Ending) : Prop where
 out : ∃ (op : Nat) (v : Value) (xs : List Value), e = .returned (.tuple #[.agg #[.int .u16 op, v], .int .i64 (rawOf i bound).1]) ∧ w'.ownsRow w.heap.size 23 1 v (rawOf i bound).2 xs
 below : Below w.heap.size w w'
def inCells (i : In) (a : Option Addr) (cap : Nat) : Array Value := #[.int .u16 i.op, .int .u32 i.ty, .int .u32 i.res, .slice a i.args.length cap]
structure RawSt (p q : Nat) (i : In) (a : Option Addr) (cap : Nat) (f : Fm) (bound n rm : Nat) (v : Value) (w W : World) : Prop where
 ib : W.heap[p]? = some (.cells (inCells i a cap) 43 (0, 0))
 rb : W.heap[p + 1]? = some (.cells #[.int .u16 0, .slice none 0 0] 151 (0, 0))
 fb : W.heap[q]? = some (.cells f.cells 192 (0, 0))
 wr : Wr (q + 1) (q + 1) f bound n rm v W
 below : Below p w W
 lt : p + 1 < q
 eq : w.heap.size = p
theorem RawSt.keep {p q : Nat} {i : In} {a : Option Addr} {cap : Nat} {f : Fm} {bound n rm n' rm' : Nat} {v v' : Value} {w W W' : World} (h : RawSt p q i a cap f bound n rm v w W) (hb : Below (q + 1) W W') (hw : Wr (q + 1) (q + 1) f bound n' rm' v' W') : RawSt p q i a cap f bound n' rm' v' w W' :=
 have := h.lt
 ⟨(hb.block _ (by omega)).trans h.ib, (hb.block _ (by omega)).trans h.rb, (hb.block _ (by omega)).trans h.fb, hw, h.below.trans (hb.mono (by omega)), h.lt, h.eq⟩
theorem RawSt.more {p q : Nat} {i : In} {a : Option Addr} {cap : Nat} {f : Fm} {bound n rm : Nat} {v : Value} {w W W' : World} (h : RawSt p q i a cap f bound n rm v w W) (hb : Below W.heap.size W W') : RawSt p q i a cap f bound n rm v w W' :=
 h.keep (hb.mono (by have := h.wr.lt; omega)) (h.wr.below hb)
theorem RawSt.turn {p q : Nat} {i : In} {a : Option Addr} {cap : Nat} {f : Fm} {bound n rm n' rm' : Nat} {v v' : Value} {w W W' : World} (h : RawSt p q i a cap f bound n rm v w W) (ht : Turn (q + 1) v v' W W') (hw : Wr (q + 1) (q + 1) f bound n' rm' v' W') : RawSt p q i a cap f bound n' rm' v' w W' :=
 h.keep (ht.below h.wr (by have := h.wr.lt; omega)) hw
theorem in_cells {W : World} {p : Nat} {i : In} {a : Option Addr} {cap : Nat} {t : TypeId} (h : W.heap[p]? = some (.cells (inCells i a cap) t (0, 0))) :
  W.cell? ⟨p, 0, none⟩ = some (.int .u16 i.op) ∧ W.cell? ⟨p, 1, none⟩ = some (.int .u32 i.ty) ∧ W.cell? ⟨p, 2, none⟩ = some (.int .u32 i.res) ∧ W.cell? ⟨p, 3, none⟩ = some (.slice a i.args.length cap) :=
 ⟨(cell_of_row _ _ 0 _ _ _ h).trans rfl, (cell_of_row _ _ 1 _ _ _ h).trans rfl, (cell_of_row _ _ 2 _ _ _ h).trans rfl, (cell_of_row _ _ 3 _ _ _ h).trans rfl⟩
theorem pair_set {W : World} {g : Nat} {t : TypeId} {a b : Value} (u v : Value) (h : W.heap[g]? = some (.cells #[a, b] t (0, 0))) : ((W.setCell ⟨g, 0, none⟩ u).setCell ⟨g, 1, none⟩ v).drew.heap[g]? = some (.cells #[u, v] t (0, 0)) :=
 (heap_setCell_same _ g 1 _ _ _ (heap_setCell_same W g 0 _ _ _ h)).trans rfl
theorem raw_done {w W : World} {p q n : Nat} {u v : Value} {xs : List Value} (h : W.ownsRow (q + 1) 23 1 v n xs) (hb : Below p w W) (hp : p + 1 < q) (hw : w.heap.size = p) :
  ((W.setCell ⟨p + 1, 0, none⟩ u).setCell ⟨p + 1, 1, none⟩ v).drew.ownsRow w.heap.size 23 1 v n xs ∧ Below w.heap.size w ((W.setCell ⟨p + 1, 0, none⟩ u).setCell ⟨p + 1, 1, none⟩ v).drew := by
 have hne : v.ownBlock ≠ some (p + 1) := fun e => by have := (h.lt _ e).1; omega
 refine ⟨own_wider (own_other 1 (own_other 0 h hne) hne) (by omega), ?_⟩
 subst hw
 exact drew_after ((hb.setCell (p := ⟨w.heap.size + 1, 0, none⟩) (by show w.heap.size ≤ w.heap.size + 1; omega) _).setCell (p := ⟨w.heap.size + 1, 1, none⟩) (by show w.heap.size ≤ w.heap.size + 1; omega) _)
theorem raw_start (i : In) (a : Option Addr) (cap : Nat) (f : Fm) (bound : Nat) (w w1 : World)
  (hn : Below ((w.alloc (.cells (inCells i a cap) 43)).alloc (.cells #[.int .u16 0, .slice none 0 0] 151)).heap.size ((w.alloc (.cells (inCells i a cap) 43)).alloc (.cells #[.int .u16 0, .slice none 0 0] 151)) w1) :
  RawSt w.heap.size w1.heap.size i a cap f bound 0 0 (.slice none 0 0) w ((w1.alloc (.cells f.cells 192)).alloc (.cells (wrCells f bound (.slice none 0 0) 0) 197)) := by
 have hs := hn.size
 simp only [World.size_alloc] at hs
 have h0 := alloc_at w (.cells (inCells i a cap) 43)
 have h1 := two_at w (.cells (inCells i a cap) 43) (.cells #[.int .u16 0, .slice none 0 0] 151)
 have b : Below w1.heap.size w1 ((w1.alloc (.cells f.cells 192)).alloc (.cells (wrCells f bound (.slice none 0 0) 0) 197)) := bal (bal (Below.refl _ w1) _) _
 have h2 := two_at w1 (.cells f.cells 192) (.cells (wrCells f bound (.slice none 0 0) 0) 197)
 refine ⟨(b.block _ (by omega)).trans ((hn.block _ (by simp; omega)).trans ((Below.heap_alloc _ _ _ (by simp)).trans h0)), (b.block _ (by omega)).trans ((hn.block _ (by simp)).trans h1), (Below.heap_alloc _ _ _ (by simp)).trans (alloc_at w1 _), ⟨h2, ⟨[], World.ownsRow_nil _ _ _ _⟩, by simp [Value.ownBlock], Nat.le_refl _⟩, ?_, by omega, rfl⟩
 exact bal (bal (bcall (bal (bal (Below.refl _ w) _) _) hn) _) _
theorem fm_cells {W : World} {q : Nat} {f : Fm} {t : TypeId} (h : W.heap[q]? = some (.cells f.cells t (0, 0))) :
  W.cell? ⟨q, 0, none⟩ = some (.int .u16 f.op) ∧ W.cell? ⟨q, 1, none⟩ = some (.string f.name) ∧ W.cell? ⟨q, 2, none⟩ = some (.bool f.ty) ∧ W.cell? ⟨q, 3, none⟩ = some (.bool f.res) ∧ W.cell? ⟨q, 4, none⟩ = some (.string f.fixed) ∧ W.cell? ⟨q, 5, none⟩ = some (.string f.rest) ∧ W.cell? ⟨q, 6, none⟩ = some (.int .i64 f.most) ∧ W.cell? ⟨q, 7, none⟩ = some (.int .u8 f.part) :=
 ⟨(cell_of_row _ _ 0 _ _ _ h).trans rfl, (cell_of_row _ _ 1 _ _ _ h).trans rfl, (cell_of_row _ _ 2 _ _ _ h).trans rfl, (cell_of_row _ _ 3 _ _ _ h).trans rfl, (cell_of_row _ _ 4 _ _ _ h).trans rfl, (cell_of_row _ _ 5 _ _ _ h).trans rfl, (cell_of_row _ _ 6 _ _ _ h).trans rfl, (cell_of_row _ _ 7 _ _ _ h).trans rfl⟩
set_option maxRecDepth 100000 in
set_option maxHeartbeats 8000000 in
theorem raw_own (i : In) (bound : Nat) (a : Option Addr) (cap : Nat) (w : World) (h : Sl 3 AgAt w a i.args) (hl : i.args.length ≤ 1048576) :
  Calls Tryz.prog 87 #[inVal i a cap, .int .u32 bound] w fun e w' => RawEnd i bound w w' e := by
 have c1 := of_own i.op
 cases hf : isForm i.op
 ·rw [hf] at c1
  have hr : rawOf i bound = (30, 0) := by unfold rawOf; rw [hf]; rfl
  have HR := hid hr
  clear hr
  generalize formOf i.op = f at c1
  obtain ⟨iop, ity, ires, iargs⟩ := i
  unfold inVal
  simp only at c1 ⊢
  obtain ⟨op', name, ty, res, fx, rs, most, part⟩ := f
  unfold Fm.val Fm.cells at c1
  simp only at c1
  go_enter Tryz.func87, Tryz.ntmps87
  go_wp2_with (first | (go_at_call 122; (with_reducible refine (c1 _).mono ?_); rintro e w1 ⟨rfl, hn1⟩; have hr4 := hid ((Below.heap_alloc w1 (.cells #[.int .u16 op', .string name, .bool ty, .bool res, .string fx, .string rs, .int .i64 most, .int .u8 part] 192) (w.heap.size + 1) (Nat.lt_of_lt_of_le (by simp) hn1.size)).trans ((hn1.block (w.heap.size + 1) (by simp)).trans (two_at w _ _)))) | (refine wpList_store_row rfl 151 _ _ rfl (w.heap.size + 1) #[.int .u16 0, .slice none 0 0] rfl rfl 151 _ hr4.out infoRaw rfl (by simp [Value.oneCell']) ?_))
  refine bodyPost_ret_by (results_row_tmp rfl _ _ (w.heap.size + 1) 151 #[.int .u16 0, .slice none 0 0] _ _ rfl (row_same _ hr4.out) Tryz.underlying151 rfl infoRaw) rfl ?_
  refine ⟨⟨0, _, [], by rw [HR.out]; rfl, by rw [HR.out]; exact World.ownsRow_nil _ _ _ _⟩, ?_⟩
  exact row_below (bal (bcall (bal (bal (Below.refl _ w) _) _) hn1) _) (by omega) _
 ·rw [hf] at c1
  have hr : rawOf i bound = rawTail (rawTo (formOf i.op) bound i.args (rawHead (formOf i.op) i bound) i.args.length) (wholeErr (formOf i.op).op i.args) := by unfold rawOf; rw [hf]; rfl
  have hs : ∀ k (hk : k < i.args.length), i.args[k].s.size ≤ 1048576 := fun k hk => by
   obtain ⟨b, o, _, _, hc⟩ := h.at_ (by omega)
   exact (hc k hk).s_lt
  have hle := rawTo_le (formOf i.op) bound i.args _ hs (rawHead_le (formOf i.op) i bound).1 (rawHead_le (formOf i.op) i bound).2
  generalize formOf i.op = f at c1 hr hle
  unfold Fm.val at c1
  have HR := hid hr
  have HLE := hid hle
  have HS := hid hs
  have HA := hid h
  clear hr hle hs h hf
  obtain ⟨z0, hz0⟩ : ∃ z, Hid (headErr f.ty i.ty bound 40 = z) := ⟨_, hid rfl⟩
  obtain ⟨z1, hz1⟩ : ∃ z, Hid (headErr f.res i.res bound 41 = z) := ⟨_, hid rfl⟩
  obtain ⟨n0, hn0⟩ : ∃ z, Hid ((if f.ty && decide (i.ty ≠ 0) then 1 else 0) = z) := ⟨_, hid rfl⟩
  obtain ⟨n1, hn1'⟩ : ∃ z, Hid ((if f.res && decide (i.res ≠ 0) then 1 else 0) = z) := ⟨_, hid rfl⟩
  have hn0le : n0 ≤ 1 := by rw [← hn0.out]; split <;> omega
  have hd1 : ∀ q v W, Wr (q + 1) (q + 1) f bound 0 0 v W → Calls Tryz.prog 123 #[.pointer (some ⟨q + 1, 0, none⟩), .bool f.ty, .int .u32 i.ty, .int .i64 40] W fun e w' => e = .returned (.int .i64 z0) ∧ ∃ v', Wr (q + 1) (q + 1) f bound n0 n0 v' w' ∧ Turn (q + 1) v v' W w' := fun q v W hW => by
   have := head_own (q + 1) (q + 1) f bound 0 0 i.ty 40 f.ty v W hW (by have := hW.lt; omega) (by omega) (by omega)
   rw [hz0.out, Nat.zero_add, hn0.out] at this
   exact this
  have hd2 : ∀ q v W, Wr (q + 1) (q + 1) f bound n0 n0 v W → Calls Tryz.prog 123 #[.pointer (some ⟨q + 1, 0, none⟩), .bool f.res, .int .u32 i.res, .int .i64 41] W fun e w' => e = .returned (.int .i64 z1) ∧ ∃ v', Wr (q + 1) (q + 1) f bound (n0 + n1) (n0 + n1) v' w' ∧ Turn (q + 1) v v' W w' := fun q v W hW => by
   have := head_own (q + 1) (q + 1) f bound n0 n0 i.res 41 f.res v W hW (by have := hW.lt; omega) (by omega) (by omega)
   rw [hz1.out, hn1'.out] at this
   exact this
  have hHead : Hid (rawHead f i bound = if z0 = 0 then (z1, n0 + n1, n0 + n1) else (z0, n0, n0)) := by
   unfold rawHead
   rw [hz0.out, hz1.out, hn0.out, hn1'.out]
   exact rfl
  unfold inVal
  unfold Fm.cells at c1
  go_enter Tryz.func87, Tryz.ntmps87
  go_wp2_with (first | (go_at_call 122; (with_reducible refine (c1 _).mono ?_); rintro e w1 ⟨rfl, hn1⟩; obtain ⟨x0, x1, x2, x3⟩ := in_cells ((hn1.block w.heap.size (by simp <;> omega)).trans ((Below.heap_alloc _ _ _ (by simp)).trans (alloc_at w (.cells (inCells i a cap) 43)))); have hz1 : w.heap.size < w1.heap.size := Nat.lt_of_lt_of_le (by simp <;> omega) hn1.size; have hz2 : w.heap.size < w1.heap.size + 1 := by omega))
  have st0 := raw_start i a cap f bound w w1 hn1
  refine (hd1 w1.heap.size _ _ st0.wr).mono ?_
  rintro e w2 ⟨rfl, v1, hw2, ht2⟩
  have st1 := hid (st0.turn ht2 hw2)
  clear x0 x1 x2 x3
  obtain ⟨x0, x1, x2, x3⟩ := in_cells st1.out.ib
  obtain ⟨y0, y1, y2, y3, y4, y5, y6, y7⟩ := fm_cells st1.out.fb
  clear st0 hw2 ht2 c1
  by_cases e0 : z0 = 0
  ·have t0 : ((z0 : Int) == 0) = true := by simp [e0]
   have hh : Hid (rawHead f i bound = (z1, n0 + n1, n0 + n1)) := by rw [hHead.out, if_pos e0]; exact rfl
   clear e0
   go_wp2_with fail
   refine (hd2 w1.heap.size _ _ st1.out.wr).mono ?_
   rintro e w3 ⟨rfl, v2, hw3, ht3⟩
   have st2 := hid (st1.out.turn ht3 hw3)
   clear x0 x1 x2 x3
   obtain ⟨x0, x1, x2, x3⟩ := in_cells st2.out.ib
   clear hw3 ht3
   go_wp2
   refine of_world (fun W => ∃ n v, Hid (rawHead f i bound = (z1, n, n)) ∧ RawSt w.heap.size w1.heap.size i a cap f bound n n v w W) ⟨_, _, hh, st2.out⟩ ?_
   clear hh st2 hd1 hd2 hHead st1 hz0 hz1
   obtain ⟨z, rfl⟩ : ∃ z, z = z1 := ⟨_, rfl⟩
   rintro W ⟨n, v, hh, st⟩
   clear x0 x1 x2 x3 y0 y1 y2 y3 y4 y5 y6 y7 t0 hn0 hn1' hn0le hn1
   generalize w1.heap.size = q at st ⊢
   have HH := hid (show rawOf i bound = rawTail (rawTo f bound i.args (z, n, n) i.args.length) (wholeErr f.op i.args) by rw [HR.out, hh.out])
   rw [hh.out] at HLE
   clear HR hh
   go_loopw [9, 45] (fun e idx wr => ∃ k : Nat, k ≤ i.args.length ∧ idx = .int .i64 k ∧ e = .int .i64 (rawTo f bound i.args (z, n, n) k).1 ∧ ∃ v', RawSt w.heap.size q i a cap f bound (rawTo f bound i.args (z, n, n) k).2.1 (rawTo f bound i.args (z, n, n) k).2.2 v' w wr) (fun _ idx _ => i.args.length - (intOf idx).toNat)
   case atStart => exact ⟨0, by omega, rfl, rfl, v, st⟩
   case round =>
    obtain ⟨k, hk, rfl, rfl, v', st'⟩ := hrel
    clear st
    have hle := HLE.out k hk
    obtain ⟨s, hs⟩ : ∃ s, Hid (rawTo f bound i.args (z, n, n) k = s) := ⟨_, hid rfl⟩
    rw [hs.out] at st' hle ⊢
    obtain ⟨ez, nz, rz⟩ := s
    simp only at st' hle ⊢
    have ST := hid st'
    clear st'
    have hq := ST.out.wr.lt
    by_cases hlt : k < i.args.length
    ·obtain ⟨b, o, rfl, hbl, hc⟩ := (HA.out.below AgAt.lasts ST.out.below).at_ (by omega)
     have hck := hc k hlt
     obtain ⟨x, hx⟩ : ∃ x, Hid (i.args[k] = x) := ⟨_, hid rfl⟩
     rw [hx.out] at hck
     obtain ⟨d0, d1, d2, d3, d4, d5⟩ := hck
     have hb := bal (Below.refl _ wr) (.cells #[.int .u8 x.kind, .int .u32 x.n, .string x.s] 45)
     have ca := fun W hW => arg_own (q + 1) (q + 1) f bound nz rz k x v' W hW (by have := hW.lt; omega) (by omega) (by omega) (by omega) (by omega)
     have hstep : Hid (rawTo f bound i.args (z, n, n) (k + 1) = if ez = 0 then (argErr f bound k x, nz + argPut f k x, rz + argRoom f k x) else (ez, nz, rz)) := by
      have e : i.args.getD k noAg = x := by rw [List.getD_eq_getElem?_getD, List.getElem?_eq_getElem hlt]; exact hx.out
      rw [rawTo, hs.out, e]
      exact rfl
     clear hc
     by_cases e0 : ez = 0
     ·have t0 : ((ez : Int) == 0) = true := by simp [e0]
      rw [if_pos e0] at hstep
      clear e0
      go_wp2_with fail
      refine (ca _ (ST.out.wr.below hb)).mono ?_
      rintro e w2 ⟨rfl, v2, hw2, ht2⟩
      have st2 := hid ((ST.out.more hb).turn ht2 hw2)
      clear hw2 ht2 t0
      go_wp2
      refine ⟨⟨k + 1, hlt, by go_num, by rw [hstep.out], v2, by rw [hstep.out]; exact st2.out⟩, by simp [intOf]; omega⟩
     ·have t0 : ((ez : Int) == 0) = false := by simp [e0]
      rw [if_neg e0] at hstep
      clear e0
      go_wp2
      refine ⟨⟨k + 1, hlt, by go_num, by rw [hstep.out], v', by rw [hstep.out]; exact ST.out.more hb⟩, by simp [intOf]; omega⟩
    ·obtain rfl : k = i.args.length := by omega
     have HE := hid (show rawOf i bound = rawTail (ez, nz, rz) (wholeErr f.op i.args) by rw [HH.out, hs.out])
     clear HH hs hlt hk HLE
     have cw := fun W hW => whole_own f a cap i.args W hW (by omega)
     unfold Fm.val Fm.cells at cw
     obtain ⟨we, hwe⟩ : ∃ we, Hid (wholeErr f.op i.args = we) := ⟨_, hid rfl⟩
     rw [hwe.out] at cw HE
     obtain ⟨x0, x1, x2, x3⟩ := in_cells ST.out.ib
     obtain ⟨y0, y1, y2, y3, y4, y5, y6, y7⟩ := fm_cells ST.out.fb
     by_cases e0 : ez = 0
     ·have t0 : ((ez : Int) == 0) = true := by simp [e0]
      have HT := hid (show rawOf i bound = rawTail (we, nz, rz) we by rw [HE.out, e0]; unfold rawTail; simp)
      clear e0
      go_wp2_with fail
      refine (cw _ (HA.out.below AgAt.lasts ST.out.below)).mono ?_
      rintro e w2 ⟨rfl, hn2⟩
      have st2 := hid (ST.out.more hn2)
      clear t0 x0 x1 x2 x3 y0 y1 y2 y3 y4 y5 y6 y7 hn2 cw HE
      obtain ⟨x0, x1, x2, x3⟩ := in_cells st2.out.ib
      obtain ⟨u0, u8, u9, u10, f9, f10⟩ := wr_cells st2.out.wr.cells
      have hr4 := hid st2.out.rb
      by_cases e1 : we = 0
      ·by_cases e2 : 65535 ≤ rz
       ·have t1 : ((we : Int) == 0) = true := by simp [e1]
        have t2 : decide ((65535 : Int) ≤ (rz : Int)) = true := by simp; omega
        have HF := hid (show rawOf i bound = (25, 0) by rw [HT.out, e1]; unfold rawTail; simp [e2])
        clear e1 e2
        go_wp2_with (first | (refine wpList_store_row rfl 151 _ _ rfl (w.heap.size + 1) #[.int .u16 0, .slice none 0 0] rfl rfl 151 _ hr4.out infoRaw rfl (by simp [Value.oneCell']) ?_))
        refine bodyPost_ret_by (results_row_tmp rfl _ _ (w.heap.size + 1) 151 #[.int .u16 0, .slice none 0 0] _ _ rfl (row_same _ hr4.out) Tryz.underlying151 rfl infoRaw) rfl ?_
        exact ⟨⟨0, _, [], by rw [HF.out]; rfl, by rw [HF.out]; exact World.ownsRow_nil _ _ _ _⟩, row_below st2.out.below (by omega) _⟩
       ·have t1 : ((we : Int) == 0) = true := by simp [e1]
        have t2 : decide ((65535 : Int) ≤ (rz : Int)) = false := by simp; omega
        have t3 : ((we : Int) != 0) = false := by simp [e1]
        have HF := hid (show rawOf i bound = (0, nz) by rw [HT.out, e1]; unfold rawTail; simp [e2])
        obtain ⟨xs, hxs⟩ := st2.out.wr.own
        obtain ⟨a2, cap2, rfl, _⟩ := own_slice hxs
        have HX := hid hxs
        clear e1 e2 hxs
        go_wp2
        have r0 : ∀ (W : World), W.heap[w.heap.size + 1]? = some (.cells #[.int .u16 0, .slice none 0 0] 151 (0, 0)) → W.cell? ⟨w.heap.size + 1, 0, none⟩ = some (.int .u16 0) ∧ W.cell? ⟨w.heap.size + 1, 1, none⟩ = some (.slice none 0 0) ∧ W.frozen? ⟨w.heap.size + 1, 0, none⟩ = false ∧ W.frozen? ⟨w.heap.size + 1, 1, none⟩ = false := fun W h => ⟨(cell_of_row _ _ 0 _ _ _ h).trans rfl, (cell_of_row _ _ 1 _ _ _ h).trans rfl, frozen_of_row W _ 0 _ _ h, frozen_of_row W _ 1 _ _ h⟩
        obtain ⟨r1, r2, r3, r4⟩ := r0 _ hr4.out
        clear r0
        go_region
        go_wp2
        obtain ⟨k1, k2⟩ := raw_done (u := .int .u16 i.op) HX.out st2.out.below st2.out.lt rfl
        refine bodyPost_ret_by (results_row_tmp rfl _ _ (w.heap.size + 1) 151 #[.int .u16 i.op, .slice a2 nz cap2] _ _ rfl (pair_set _ _ hr4.out) Tryz.underlying151 rfl infoRaw) rfl ?_
        exact ⟨⟨i.op, _, xs, by rw [HF.out]; rfl, by rw [HF.out]; exact k1⟩, k2⟩
      ·have t1 : ((we : Int) == 0) = false := by simp [e1]
       have t3 : ((we : Int) != 0) = true := by simp [e1]
       have HF := hid (show rawOf i bound = (we, 0) by rw [HT.out]; unfold rawTail; simp [e1])
       clear e1
       go_wp2_with (first | (refine wpList_store_row rfl 151 _ _ rfl (w.heap.size + 1) #[.int .u16 0, .slice none 0 0] rfl rfl 151 _ hr4.out infoRaw rfl (by simp [Value.oneCell']) ?_))
       refine bodyPost_ret_by (results_row_tmp rfl _ _ (w.heap.size + 1) 151 #[.int .u16 0, .slice none 0 0] _ _ rfl (row_same _ hr4.out) Tryz.underlying151 rfl infoRaw) rfl ?_
       exact ⟨⟨0, _, [], by rw [HF.out]; rfl, by rw [HF.out]; exact World.ownsRow_nil _ _ _ _⟩, row_below st2.out.below (by omega) _⟩
     ·have t0 : ((ez : Int) == 0) = false := by simp [e0]
      have HT := hid (show rawOf i bound = rawTail (ez, nz, rz) ez by rw [HE.out]; unfold rawTail; simp [e0])
      have st2 := ST
      clear e0 y0 y1 y2 y3 y4 y5 y6 y7 cw HE
      obtain ⟨u0, u8, u9, u10, f9, f10⟩ := wr_cells st2.out.wr.cells
      have hr4 := hid st2.out.rb
      have e1 : ¬ ez = 0 := fun h => by simp [h] at t0
      have t1 : ((ez : Int) == 0) = false := by simp [e1]
      have t3 : ((ez : Int) != 0) = true := by simp [e1]
      have HF := hid (show rawOf i bound = (ez, 0) by rw [HT.out]; unfold rawTail; simp [e1])
      clear e1
      go_wp2_with (first | (refine wpList_store_row rfl 151 _ _ rfl (w.heap.size + 1) #[.int .u16 0, .slice none 0 0] rfl rfl 151 _ hr4.out infoRaw rfl (by simp [Value.oneCell']) ?_))
      refine bodyPost_ret_by (results_row_tmp rfl _ _ (w.heap.size + 1) 151 #[.int .u16 0, .slice none 0 0] _ _ rfl (row_same _ hr4.out) Tryz.underlying151 rfl infoRaw) rfl ?_
      exact ⟨⟨0, _, [], by rw [HF.out]; rfl, by rw [HF.out]; exact World.ownsRow_nil _ _ _ _⟩, row_below st2.out.below (by omega) _⟩
  ·have t0 : ((z0 : Int) == 0) = false := by simp [e0]
   have hh : Hid (rawHead f i bound = (z0, n0, n0)) := by rw [hHead.out, if_neg e0]; exact rfl
   clear e0
   go_wp2
   refine of_world (fun W => ∃ n v, Hid (rawHead f i bound = (z0, n, n)) ∧ RawSt w.heap.size w1.heap.size i a cap f bound n n v w W) ⟨_, _, hh, st1.out⟩ ?_
   clear hh hd1 hd2 hHead st1 hz0 hz1
   obtain ⟨z, rfl⟩ : ∃ z, z = z0 := ⟨_, rfl⟩
   rintro W ⟨n, v, hh, st⟩
   clear x0 x1 x2 x3 y0 y1 y2 y3 y4 y5 y6 y7 t0 hn0 hn1' hn0le hn1
   generalize w1.heap.size = q at st ⊢
   have HH := hid (show rawOf i bound = rawTail (rawTo f bound i.args (z, n, n) i.args.length) (wholeErr f.op i.args) by rw [HR.out, hh.out])
   rw [hh.out] at HLE
   clear HR hh
   go_loopw [9, 45] (fun e idx wr => ∃ k : Nat, k ≤ i.args.length ∧ idx = .int .i64 k ∧ e = .int .i64 (rawTo f bound i.args (z, n, n) k).1 ∧ ∃ v', RawSt w.heap.size q i a cap f bound (rawTo f bound i.args (z, n, n) k).2.1 (rawTo f bound i.args (z, n, n) k).2.2 v' w wr) (fun _ idx _ => i.args.length - (intOf idx).toNat)
   case atStart => exact ⟨0, by omega, rfl, rfl, v, st⟩
   case round =>
    obtain ⟨k, hk, rfl, rfl, v', st'⟩ := hrel
    clear st
    have hle := HLE.out k hk
    obtain ⟨s, hs⟩ : ∃ s, Hid (rawTo f bound i.args (z, n, n) k = s) := ⟨_, hid rfl⟩
    rw [hs.out] at st' hle ⊢
    obtain ⟨ez, nz, rz⟩ := s
    simp only at st' hle ⊢
    have ST := hid st'
    clear st'
    have hq := ST.out.wr.lt
    by_cases hlt : k < i.args.length
    ·obtain ⟨b, o, rfl, hbl, hc⟩ := (HA.out.below AgAt.lasts ST.out.below).at_ (by omega)
     have hck := hc k hlt
     obtain ⟨x, hx⟩ : ∃ x, Hid (i.args[k] = x) := ⟨_, hid rfl⟩
     rw [hx.out] at hck
     obtain ⟨d0, d1, d2, d3, d4, d5⟩ := hck
     have hb := bal (Below.refl _ wr) (.cells #[.int .u8 x.kind, .int .u32 x.n, .string x.s] 45)
     have ca := fun W hW => arg_own (q + 1) (q + 1) f bound nz rz k x v' W hW (by have := hW.lt; omega) (by omega) (by omega) (by omega) (by omega)
     have hstep : Hid (rawTo f bound i.args (z, n, n) (k + 1) = if ez = 0 then (argErr f bound k x, nz + argPut f k x, rz + argRoom f k x) else (ez, nz, rz)) := by
      have e : i.args.getD k noAg = x := by rw [List.getD_eq_getElem?_getD, List.getElem?_eq_getElem hlt]; exact hx.out
      rw [rawTo, hs.out, e]
      exact rfl
     clear hc
     by_cases e0 : ez = 0
     ·have t0 : ((ez : Int) == 0) = true := by simp [e0]
      rw [if_pos e0] at hstep
      clear e0
      go_wp2_with fail
      refine (ca _ (ST.out.wr.below hb)).mono ?_
      rintro e w2 ⟨rfl, v2, hw2, ht2⟩
      have st2 := hid ((ST.out.more hb).turn ht2 hw2)
      clear hw2 ht2 t0
      go_wp2
      refine ⟨⟨k + 1, hlt, by go_num, by rw [hstep.out], v2, by rw [hstep.out]; exact st2.out⟩, by simp [intOf]; omega⟩
     ·have t0 : ((ez : Int) == 0) = false := by simp [e0]
      rw [if_neg e0] at hstep
      clear e0
      go_wp2
      refine ⟨⟨k + 1, hlt, by go_num, by rw [hstep.out], v', by rw [hstep.out]; exact ST.out.more hb⟩, by simp [intOf]; omega⟩
    ·obtain rfl : k = i.args.length := by omega
     have HE := hid (show rawOf i bound = rawTail (ez, nz, rz) (wholeErr f.op i.args) by rw [HH.out, hs.out])
     clear HH hs hlt hk HLE
     have cw := fun W hW => whole_own f a cap i.args W hW (by omega)
     unfold Fm.val Fm.cells at cw
     obtain ⟨we, hwe⟩ : ∃ we, Hid (wholeErr f.op i.args = we) := ⟨_, hid rfl⟩
     rw [hwe.out] at cw HE
     obtain ⟨x0, x1, x2, x3⟩ := in_cells ST.out.ib
     obtain ⟨y0, y1, y2, y3, y4, y5, y6, y7⟩ := fm_cells ST.out.fb
     by_cases e0 : ez = 0
     ·have t0 : ((ez : Int) == 0) = true := by simp [e0]
      have HT := hid (show rawOf i bound = rawTail (we, nz, rz) we by rw [HE.out, e0]; unfold rawTail; simp)
      clear e0
      go_wp2_with fail
      refine (cw _ (HA.out.below AgAt.lasts ST.out.below)).mono ?_
      rintro e w2 ⟨rfl, hn2⟩
      have st2 := hid (ST.out.more hn2)
      clear t0 x0 x1 x2 x3 y0 y1 y2 y3 y4 y5 y6 y7 hn2 cw HE
      obtain ⟨x0, x1, x2, x3⟩ := in_cells st2.out.ib
      obtain ⟨u0, u8, u9, u10, f9, f10⟩ := wr_cells st2.out.wr.cells
      have hr4 := hid st2.out.rb
      by_cases e1 : we = 0
      ·by_cases e2 : 65535 ≤ rz
       ·have t1 : ((we : Int) == 0) = true := by simp [e1]
        have t2 : decide ((65535 : Int) ≤ (rz : Int)) = true := by simp; omega
        have HF := hid (show rawOf i bound = (25, 0) by rw [HT.out, e1]; unfold rawTail; simp [e2])
        clear e1 e2
        go_wp2_with (first | (refine wpList_store_row rfl 151 _ _ rfl (w.heap.size + 1) #[.int .u16 0, .slice none 0 0] rfl rfl 151 _ hr4.out infoRaw rfl (by simp [Value.oneCell']) ?_))
        refine bodyPost_ret_by (results_row_tmp rfl _ _ (w.heap.size + 1) 151 #[.int .u16 0, .slice none 0 0] _ _ rfl (row_same _ hr4.out) Tryz.underlying151 rfl infoRaw) rfl ?_
        exact ⟨⟨0, _, [], by rw [HF.out]; rfl, by rw [HF.out]; exact World.ownsRow_nil _ _ _ _⟩, row_below st2.out.below (by omega) _⟩
       ·have t1 : ((we : Int) == 0) = true := by simp [e1]
        have t2 : decide ((65535 : Int) ≤ (rz : Int)) = false := by simp; omega
        have t3 : ((we : Int) != 0) = false := by simp [e1]
        have HF := hid (show rawOf i bound = (0, nz) by rw [HT.out, e1]; unfold rawTail; simp [e2])
        obtain ⟨xs, hxs⟩ := st2.out.wr.own
        obtain ⟨a2, cap2, rfl, _⟩ := own_slice hxs
        have HX := hid hxs
        clear e1 e2 hxs
        go_wp2
        have r0 : ∀ (W : World), W.heap[w.heap.size + 1]? = some (.cells #[.int .u16 0, .slice none 0 0] 151 (0, 0)) → W.cell? ⟨w.heap.size + 1, 0, none⟩ = some (.int .u16 0) ∧ W.cell? ⟨w.heap.size + 1, 1, none⟩ = some (.slice none 0 0) ∧ W.frozen? ⟨w.heap.size + 1, 0, none⟩ = false ∧ W.frozen? ⟨w.heap.size + 1, 1, none⟩ = false := fun W h => ⟨(cell_of_row _ _ 0 _ _ _ h).trans rfl, (cell_of_row _ _ 1 _ _ _ h).trans rfl, frozen_of_row W _ 0 _ _ h, frozen_of_row W _ 1 _ _ h⟩
        obtain ⟨r1, r2, r3, r4⟩ := r0 _ hr4.out
        clear r0
        go_region
        go_wp2
        obtain ⟨k1, k2⟩ := raw_done (u := .int .u16 i.op) HX.out st2.out.below st2.out.lt rfl
        refine bodyPost_ret_by (results_row_tmp rfl _ _ (w.heap.size + 1) 151 #[.int .u16 i.op, .slice a2 nz cap2] _ _ rfl (pair_set _ _ hr4.out) Tryz.underlying151 rfl infoRaw) rfl ?_
        exact ⟨⟨i.op, _, xs, by rw [HF.out]; rfl, by rw [HF.out]; exact k1⟩, k2⟩
      ·have t1 : ((we : Int) == 0) = false := by simp [e1]
       have t3 : ((we : Int) != 0) = true := by simp [e1]
       have HF := hid (show rawOf i bound = (we, 0) by rw [HT.out]; unfold rawTail; simp [e1])
       clear e1
       go_wp2_with (first | (refine wpList_store_row rfl 151 _ _ rfl (w.heap.size + 1) #[.int .u16 0, .slice none 0 0] rfl rfl 151 _ hr4.out infoRaw rfl (by simp [Value.oneCell']) ?_))
       refine bodyPost_ret_by (results_row_tmp rfl _ _ (w.heap.size + 1) 151 #[.int .u16 0, .slice none 0 0] _ _ rfl (row_same _ hr4.out) Tryz.underlying151 rfl infoRaw) rfl ?_
       exact ⟨⟨0, _, [], by rw [HF.out]; rfl, by rw [HF.out]; exact World.ownsRow_nil _ _ _ _⟩, row_below st2.out.below (by omega) _⟩
     ·have t0 : ((ez : Int) == 0) = false := by simp [e0]
      have HT := hid (show rawOf i bound = rawTail (ez, nz, rz) ez by rw [HE.out]; unfold rawTail; simp [e0])
      have st2 := ST
      clear e0 y0 y1 y2 y3 y4 y5 y6 y7 cw HE
      obtain ⟨u0, u8, u9, u10, f9, f10⟩ := wr_cells st2.out.wr.cells
      have hr4 := hid st2.out.rb
      have e1 : ¬ ez = 0 := fun h => by simp [h] at t0
      have t1 : ((ez : Int) == 0) = false := by simp [e1]
      have t3 : ((ez : Int) != 0) = true := by simp [e1]
      have HF := hid (show rawOf i bound = (ez, 0) by rw [HT.out]; unfold rawTail; simp [e1])
      clear e1
      go_wp2_with (first | (refine wpList_store_row rfl 151 _ _ rfl (w.heap.size + 1) #[.int .u16 0, .slice none 0 0] rfl rfl 151 _ hr4.out infoRaw rfl (by simp [Value.oneCell']) ?_))
      refine bodyPost_ret_by (results_row_tmp rfl _ _ (w.heap.size + 1) 151 #[.int .u16 0, .slice none 0 0] _ _ rfl (row_same _ hr4.out) Tryz.underlying151 rfl infoRaw) rfl ?_
      exact ⟨⟨0, _, [], by rw [HF.out]; rfl, by rw [HF.out]; exact World.ownsRow_nil _ _ _ _⟩, row_below st2.out.below (by omega) _⟩
theorem res_tmp_cell {fn : Func} {p u : Tmp} {ty : TypeId} (h : fn.results = #[.tmp u, .cell p ty]) (tmps : Array Value) (P : Program) (w : World) :
  (results fn tmps).run P w =
   ((asAddr (tmps.getD p undef)).run P w).andThen fun a w₁ => ((loadVar ty a).run P w₁).andThen fun x w₂ => .ok (.tuple #[tmps.getD u undef, x]) w₂ := by
 simp only [results, h]
 simp [Sem.run_bind, Result.andThen]
theorem res_tmp_row {P : Program} {fn : Func} {p u : Tmp} {ty : TypeId} (h : fn.results = #[.tmp u, .cell p ty]) (tmps : Array Value) (w : World) (g : Nat) (t : TypeId) (cs : Array Value) (fr : Nat × Nat) (d : TypeDesc)
  (hp : tmps.getD p undef = .pointer (some ⟨g, 0, none⟩)) (hg : w.heap[g]? = some (.cells cs t fr)) (hu : P.underlying ty = some d) (hd : (match d with | .struct _ | .array _ _ => true | _ => false) = true) (hi : (P.info? ty).map (·.size) = some cs.size) :
  (results fn tmps).run P w = .ok (.tuple #[tmps.getD u undef, .agg cs]) w := by
 rw [res_tmp_cell h, hp]
 simp [asAddr, run_loadVar_row w g t ty cs fr d hg hu hd hi, Result.andThen]
theorem res_cell {fn : Func} {p : Tmp} {ty : TypeId} (h : fn.results = #[.cell p ty]) (tmps : Array Value) (P : Program) (w : World) :
  (results fn tmps).run P w = ((asAddr (tmps.getD p undef)).run P w).andThen fun a w₁ => ((loadVar ty a).run P w₁).andThen fun x w₂ => .ok x w₂ := by
 simp only [results, h]
 simp [Sem.run_bind, Result.andThen]
 cases (asAddr (tmps[p]?.getD undef)).run P w with
 | ok a w1 => dsimp only; cases (loadVar ty a).run P w1 <;> rfl
 | halt h w => rfl
theorem res_row {P : Program} {fn : Func} {p : Tmp} {ty : TypeId} (h : fn.results = #[.cell p ty]) (tmps : Array Value) (w : World) (g : Nat) (t : TypeId) (cs : Array Value) (fr : Nat × Nat) (d : TypeDesc)
  (hp : tmps.getD p undef = .pointer (some ⟨g, 0, none⟩)) (hg : w.heap[g]? = some (.cells cs t fr)) (hu : P.underlying ty = some d) (hd : (match d with | .struct _ | .array _ _ => true | _ => false) = true) (hi : (P.info? ty).map (·.size) = some cs.size) :
  (results fn tmps).run P w = .ok (.agg cs) w := by
 rw [res_cell h, hp]
 simp [asAddr, run_loadVar_row w g t ty cs fr d hg hu hd hi, Result.andThen]
theorem infoSpt : (Tryz.prog.info? 36).map (·.size) = some 2 := by kernel_rfl
theorem infoMdl : (Tryz.prog.info? 28).map (·.size) = some 3 := by kernel_rfl
theorem el_raw : El 114 151 2 32 := El.of Tryz.underlying114 (z := .agg #[.int .u16 0, .slice none 0 0]) (by kernel_rfl) rfl (by omega)
def noIn : In := ⟨0, 0, 0, []⟩
def wordsTo (bound : Nat) (l : List In) : Nat → Nat
 | 0 => 0
 | k + 1 => wordsTo bound l k + (1 + (rawOf (l.getD k noIn) bound).2)
theorem wordsTo_mono (bound : Nat) (l : List In) : ∀ {j k : Nat}, j ≤ k → wordsTo bound l j ≤ wordsTo bound l k
 | j, 0, h => by cases Nat.le_zero.1 h; exact Nat.le_refl _
 | j, k + 1, h => by
  rcases Nat.lt_or_ge j (k + 1) with h1 | h1
  ·have := wordsTo_mono bound l (j := j) (k := k) (by omega)
   simp only [wordsTo]
   omega
  ·obtain rfl : j = k + 1 := by omega
   exact Nat.le_refl _
structure Sound (bound : Nat) (l : List In) : Prop where
 pos : 0 < bound
 top : bound ≤ 65536
 len : l.length ≤ 2000
 raw : ∀ k (hk : k < l.length), (rawOf l[k] bound).1 = 0
 sum : wordsTo bound l l.length ≤ 1000000
theorem sizenil_own (w : World) : Calls Tryz.prog 86 #[.slice none 0 0] w fun e w' => e = .returned (.tuple #[.int .i64 5, .int .i64 0]) ∧ Below w.heap.size w w' := by
 have c1 : ∀ W, Calls Tryz.prog 121 #[.slice none 0 0] W fun e w' => e = .returned (.tuple #[.int .i64 5, .agg #[.int .i64 0, .int .i64 0]]) ∧ Below W.heap.size W w' := fun w => by
  have g1 := hid (alloc_at w (.cells #[.int .i64 0, .int .i64 0] 36))
  have hb := hid (bal (Below.refl _ w) (.cells #[.int .i64 0, .int .i64 0] 36))
  go_enter Tryz.func121, Tryz.ntmps121
  go_wp2
  refine wp_loop_rounds 1 ?_
  rw [rounds_succ]
  go_wp2_with (refine wpList_store_row rfl 36 _ _ rfl w.heap.size #[.int .i64 0, .int .i64 0] rfl rfl 36 _ g1.out infoSpt rfl (by simp [Value.oneCell']) ?_)
  refine bodyPost_ret_by (res_tmp_row rfl _ _ w.heap.size 36 #[.int .i64 0, .int .i64 0] _ _ rfl (row_same _ g1.out) Tryz.underlying36 rfl infoSpt) rfl ?_
  exact ⟨rfl, row_below hb.out (Nat.le_refl _) _⟩
 go_enter Tryz.func86, Tryz.ntmps86
 go_wp2_with (go_at_call 121; (with_reducible refine (c1 _).mono ?_); rintro e w1 ⟨rfl, hn1⟩; have HB := hid (bal hn1 (.cells #[.int .i64 0, .int .i64 0] 36)); clear hn1)
 go_quiet (fail)
 go_wp2
 go_ret2
 exact ⟨rfl, HB.out.trans ⟨rfl, rfl, rfl, Nat.le_refl _, fun _ _ => rfl⟩⟩
structure RsSt (B gen bound : Nat) (a : Option Addr) (n cap : Nat) (w W : World) : Prop where
 mb : W.heap[B]? = some (.cells #[.int .u32 gen, .int .u32 bound, .slice a n cap] 28 (0, 0))
 sb : W.heap[B + 1]? = some (.cells #[.int .i64 0, .int .i64 0] 36 (0, 0))
 below : Below B w W
theorem RsSt.then {B gen bound n cap k : Nat} {a : Option Addr} {w W W' : World} (h : RsSt B gen bound a n cap w W) (hb : Below k W W') (hk : B + 2 ≤ k) : RsSt B gen bound a n cap w W' :=
 ⟨(hb.block _ (by omega)).trans h.mb, (hb.block _ (by omega)).trans h.sb, h.below.trans (hb.mono (by omega))⟩
theorem RsSt.grown {B gen bound n cap : Nat} {a : Option Addr} {w W W' : World} {row : Option Nat} (h : RsSt B gen bound a n cap w W) (hg : W.grownBy W' row) (hr : ∀ k, row = some k → B + 2 ≤ k) : RsSt B gen bound a n cap w W' := by
 have hz : B + 1 < W.heap.size := (Array.getElem?_eq_some_iff.1 h.sb).1
 exact ⟨(hg.block B (by omega) (fun e => by have := hr _ e.symm; omega)).trans h.mb, (hg.block (B + 1) (by omega) (fun e => by have := hr _ e.symm; omega)).trans h.sb, h.below.grown hg (by omega) (fun k e => by have := hr _ e; omega)⟩
theorem RsSt.size {B gen bound n cap : Nat} {a : Option Addr} {w W : World} (h : RsSt B gen bound a n cap w W) : B + 1 < W.heap.size := (Array.getElem?_eq_some_iff.1 h.sb).1
theorem RsSt.cells {B gen bound n cap : Nat} {a : Option Addr} {w W : World} (h : RsSt B gen bound a n cap w W) : W.cell? ⟨B, 1, none⟩ = some (.int .u32 bound) ∧ W.cell? ⟨B, 2, none⟩ = some (.slice a n cap) :=
 ⟨(cell_of_row _ _ 1 _ _ _ h.mb).trans rfl, (cell_of_row _ _ 2 _ _ _ h.mb).trans rfl⟩
theorem rs_start (gen bound : Nat) (a : Option Addr) (n cap : Nat) (w : World) : RsSt w.heap.size gen bound a n cap w ((w.alloc (.cells #[.int .u32 gen, .int .u32 bound, .slice a n cap] 28)).alloc (.cells #[.int .i64 0, .int .i64 0] 36)) :=
 ⟨(Below.heap_alloc _ _ _ (by simp)).trans (alloc_at w _), two_at w _ _, bal (bal (Below.refl _ w) _) _⟩
set_option maxRecDepth 100000 in
set_option maxHeartbeats 4000000 in
theorem raws_ok (gen bound : Nat) (a : Option Addr) (cap : Nat) (l : List In) (w : World) (h : Sl 4 InAt w a l) (hs : Sound bound l) :
  Calls Tryz.prog 71 #[.agg #[.int .u32 gen, .int .u32 bound, .slice a l.length cap]] w fun e w' => (∃ v, e = .returned (.tuple #[v, .agg #[.int .i64 0, .int .i64 0]])) ∧ Below w.heap.size w w' := by
 have t0 : ((bound : Int) == 0) = false := by have := hs.pos; rw [beq_eq_false_iff_ne]; omega
 have t1 : ¬ ((65536 : Int) < bound) := by have := hs.top; omega
 have hlen := hs.len
 have h0 := rs_start gen bound a l.length cap w
 obtain ⟨m1, m2⟩ := h0.cells
 have c1 := fun W => sizenil_own W
 have H0 := hid h0
 have HL := hid h
 have HS := hid hs
 clear h0 h hs
 go_enter Tryz.func71, Tryz.ntmps71
 go_wp2_with (go_at_call 86; (with_reducible refine (c1 _).mono ?_); rintro e w1 ⟨rfl, hn1⟩; have h1 := H0.out.then hn1 (by simp); have HZ := hid (bcall (bal (bal (Below.refl _ w) _) _) hn1); clear m1 m2; obtain ⟨m1, m2⟩ := h1.cells; have z1 := h1.size; have H1 := hid h1; clear h1 hn1 c1 H0)
 generalize w1.heap.size = z at *
 clear HZ
 go_loopw [4, 6, 29] (fun x4 x6 x29 wr => ∃ (k : Nat) (xs : List Value), k ≤ l.length ∧ x4 = .int .i64 (1048571 - (wordsTo bound l k : Nat)) ∧ x29 = .int .i64 k ∧ wr.ownsRow (w.heap.size + 2) 151 2 x6 k xs ∧ RsSt w.heap.size gen bound a l.length cap w wr) (fun _ _ i _ => l.length - (intOf i).toNat)
 case atStart => exact ⟨0, [], by omega, rfl, rfl, World.ownsRow_nil _ _ _ _, H1.out⟩
 case round =>
  obtain ⟨k, xs, hk, rfl, rfl, ho, hst⟩ := hrel
  clear m1 m2 z1 H1
  obtain ⟨m1, m2⟩ := hst.cells
  have z1 := hst.size
  have z0 : w.heap.size < wr.heap.size := by omega
  have HO := hid ho
  have HT := hid hst
  clear ho
  by_cases hlt : k < l.length
  ·obtain ⟨b, o, ha, hbl, hc⟩ := HL.out.at_ (by omega)
   obtain ⟨e0, e1, e2, ⟨aa, ca, e3, hsl⟩, -, -, -, hal⟩ := InAt.lasts _ _ _ _ _ (hc k hlt) hbl hst.below
   have hr0 := HS.out.raw k hlt
   have hsum := HS.out.sum
   have hmo := wordsTo_mono bound l (j := k + 1) (k := l.length) (by omega)
   have hgd : l.getD k noIn = l[k] := by rw [List.getD_eq_getElem?_getD, List.getElem?_eq_getElem hlt]; rfl
   have hw1 : wordsTo bound l (k + 1) = wordsTo bound l k + (1 + (rawOf l[k] bound).2) := by simp only [wordsTo, hgd]
   have c2 : ∀ W, Below wr.heap.size wr W → Calls Tryz.prog 87 #[.agg #[.int .u16 l[k].op, .int .u32 l[k].ty, .int .u32 l[k].res, .slice aa l[k].args.length ca], .int .u32 bound] W fun e w' => (∃ (op : Nat) (v : Value) (xs : List Value), e = .returned (.tuple #[.agg #[.int .u16 op, v], .int .i64 0]) ∧ w'.ownsRow W.heap.size 23 1 v (rawOf l[k] bound).2 xs) ∧ Below W.heap.size W w' := fun W hb => (raw_own l[k] bound aa ca W (hsl.below AgAt.lasts hb) hal).mono fun e w' h => by
    obtain ⟨op, v, xs, rfl, ho⟩ := h.out
    rw [hr0]
    exact ⟨⟨op, v, xs, rfl, ho⟩, h.below⟩
   obtain ⟨n, hn⟩ : ∃ n, n = (rawOf l[k] bound).2 := ⟨_, rfl⟩
   rw [← hn] at c2 hw1
   obtain ⟨s, hs⟩ : ∃ s, s = wordsTo bound l k := ⟨_, rfl⟩
   have HW := hid hw1
   rw [← hs] at hw1 ⊢
   have hsn : s + (1 + n) ≤ 1000000 := by omega
   have i2 : (k : Int) < (l.length : Int) := by omega
   subst ha
   have HLT := hid hlt
   clear hr0 hsum hmo hgd hw1 hn hsl hal hc
   generalize l[k] = i at c2 e0 e1 e2 e3
   obtain ⟨iop, ity, ires, iargs⟩ := i
   simp only at c2 e0 e1 e2 e3
   generalize iargs.length = na at c2 e3
   obtain ⟨v6, c6, rfl, hv6⟩ := own_slice HO.out
   clear hv6
   go_wp2_with (first
    | (go_at_call 87; (with_reducible refine (c2 _ (bal (Below.refl _ wr) _)).mono ?_); rintro e w2 ⟨⟨op, v, ys, rfl, ho2⟩, hn2⟩; obtain ⟨av, cv, rfl, hx⟩ := own_slice ho2; clear hx ho2; have HB2 := hid (bcall (bal (Below.refl _ wr) (.cells #[.int .u16 iop, .int .u32 ity, .int .u32 ires, .slice aa na ca] 43)) hn2); clear hn2)
    | ((with_reducible refine at_append ?_); refine push_el el_raw rfl _ _ rfl (w.heap.size + 2) (.slice v6 k c6) k xs rfl (own_below HO.out (bal HB2.out (.cells #[.int .u16 op, .slice av n cv] 151))) #[.int .u16 op, .slice av n cv] (w2.heap.size + 1) rfl (by simp) rfl (by simp [Value.oneCell']) (by omega) (by omega) (by have := HB2.out.size; simp; omega) ?_; intro g1 p1 w3 k1 k2 k3 k4; have HK := hid k1; have hT3 := hid ((HT.out.then (bal HB2.out (.cells #[.int .u16 op, .slice av n cv] 151)) (by omega)).grown k2 (fun j e => (HO.out.lt _ e).1)); clear k1 k2 k3 k4))
   exact ⟨⟨k + 1, _, HLT.out, by rw [HW.out, ← hs]; go_num, by go_num, HK.out, hT3.out⟩, by simp [intOf]; omega⟩
  ·obtain rfl : k = l.length := by omega
   obtain ⟨v6, c6, rfl, hv6⟩ := own_slice HO.out
   clear hv6
   have HSB := hid HT.out.sb
   go_wp2_with (refine wpList_store_row rfl 36 _ _ rfl (w.heap.size + 1) #[.int .i64 0, .int .i64 0] rfl rfl 36 _ HSB.out infoSpt rfl (by simp [Value.oneCell']) ?_)
   refine bodyPost_ret_by (res_tmp_row rfl _ _ (w.heap.size + 1) 36 #[.int .i64 0, .int .i64 0] _ _ rfl (row_same _ HSB.out) Tryz.underlying36 rfl infoSpt) rfl ?_
   exact ⟨⟨_, rfl⟩, row_below HT.out.below (by omega) _⟩
theorem shape_ok (gen bound : Nat) (a : Option Addr) (cap : Nat) (l : List In) (w : World) (h : Sl 4 InAt w a l) (hs : Sound bound l) :
  Calls Tryz.prog 22 #[.agg #[.int .u32 gen, .int .u32 bound, .slice a l.length cap]] w fun e w' => e = .returned (.agg #[.int .i64 0, .int .i64 0]) ∧ Below w.heap.size w w' := by
 have h0 := rs_start gen bound a l.length cap w
 have c1 := raws_ok gen bound a cap l _ (h.below InAt.lasts (bal (bal (Below.refl _ w) (.cells #[.int .u32 gen, .int .u32 bound, .slice a l.length cap] 28)) (.cells #[.int .i64 0, .int .i64 0] 36))) hs
 have HM := hid h0.mb
 have H0 := hid h0
 clear h0 h hs
 go_enter Tryz.func22, Tryz.ntmps22
 go_wp2_with (first
  | (refine wpList_load_row rfl 28 _ rfl w.heap.size rfl 28 _ _ _ HM.out Tryz.underlying28 rfl infoMdl ?_)
  | (go_at_call 71; (with_reducible refine c1.mono ?_); rintro e w1 ⟨⟨v, rfl⟩, hn1⟩; have h1 := hid ((Below.heap_alloc w1 (.cells #[.int .i64 0, .int .i64 0] 36) (w.heap.size + 1) (by have := hn1.size; simp at this; omega)).trans (H0.out.then hn1 (by simp)).sb); have HB := hid (bal (bcall (bal (bal (Below.refl _ w) _) _) hn1) (.cells #[.int .i64 0, .int .i64 0] 36)); clear hn1 c1)
  | (refine wpList_store_row rfl 36 _ _ rfl (w.heap.size + 1) #[.int .i64 0, .int .i64 0] rfl rfl 36 _ h1.out infoSpt rfl (by simp [Value.oneCell']) ?_))
 refine bodyPost_ret_by (res_row rfl _ _ (w.heap.size + 1) 36 #[.int .i64 0, .int .i64 0] _ _ rfl (row_same _ h1.out) Tryz.underlying36 rfl infoSpt) rfl ?_
 exact ⟨rfl, row_below HB.out (by omega) _⟩
def firstN (l : List Ag) : Nat := (l.headD noAg).n
def isVar (i : In) : Bool := i.op == 59 && (!i.args.isEmpty && firstN i.args == 7)
theorem ag_cells {w : World} {b o : Nat} {x : Ag} (h : AgAt w b o x) : w.cell? ⟨b, o, none⟩ = some (.int .u8 x.kind) ∧ w.cell? ⟨b, o + 1, none⟩ = some (.int .u32 x.n) ∧ w.cell? ⟨b, o + 2, none⟩ = some (.string x.s) := ⟨h.kind, h.n, h.s⟩
theorem Sl.head {α : Type} {sz : Nat} {P : World → Nat → Nat → α → Prop} {w : World} {a : Option Addr} {x : α} {l : List α} (h : Sl sz P w a (x :: l)) : ∃ b o, a = some ⟨b, o, none⟩ ∧ b < w.heap.size ∧ P w b o x := by
 obtain ⟨b, o, rfl, hlt, hc⟩ := h.at_ (by simp)
 have := hc 0 (by simp)
 rw [Nat.zero_mul, Nat.add_zero] at this
 exact ⟨b, o, rfl, hlt, this⟩
set_option maxHeartbeats 1000000 in
theorem variable_own (i : In) (a : Option Addr) (cap : Nat) (w : World) (h : Sl 3 AgAt w a i.args) (hl : i.args.length ≤ 1048576) :
  Calls Tryz.prog 206 #[inVal i a cap] w fun e w' => e = .returned (.bool (isVar i)) ∧ Below w.heap.size w w' := by
 obtain ⟨op, ty, res, args⟩ := i
 unfold inVal isVar
 simp only at h hl ⊢
 by_cases e : op = 59
 ·subst e
  cases args with
  | nil =>
   go_enter Tryz.func206, Tryz.ntmps206
   go_wp2
   go_ret
   exact ⟨rfl, bal (Below.refl _ w) _⟩
  | cons x l =>
   obtain ⟨b, o, rfl, hlt, hx⟩ := h.head
   obtain ⟨c0, c1, c2⟩ := ag_cells hx
   clear h
   have hl1 : (0 : Int) < ((x :: l).length : Int) := by simp
   have hl2 : (x :: l).isEmpty = false := rfl
   have hx7 : firstN (x :: l) = x.n := rfl
   rw [hx7, hl2]
   clear hx7 hl2
   generalize (x :: l).length = n at hl hl1 ⊢
   have hb := bal (Below.refl _ w) (.cells #[.int .u16 (59 : Nat), .int .u32 ty, .int .u32 res, .slice (some ⟨b, o, none⟩) n cap] 43)
   by_cases e2 : x.n = 7
   ·rw [e2] at c1 ⊢
    go_enter Tryz.func206, Tryz.ntmps206
    go_wp2
    go_ret
    exact ⟨rfl, hb⟩
   ·have hx7 : (x.n == 7) = false := by simpa using e2
    have t1 : ((x.n : Int) == 7) = false := by rw [beq_eq_false_iff_ne]; omega
    rw [hx7]
    clear e2
    go_enter Tryz.func206, Tryz.ntmps206
    go_wp2
    go_ret
    exact ⟨rfl, hb⟩
 ·have t0 : ((op : Int) == 59) = false := by rw [beq_eq_false_iff_ne]; omega
  have t1 : (op == 59) = false := by simpa using e
  rw [t1]
  clear e
  go_enter Tryz.func206, Tryz.ntmps206
  go_wp2
  go_ret
  exact ⟨rfl, bal (Below.refl _ w) _⟩
def partOf (i : In) : Int := if isVar i then 8 else (formOf i.op).part
set_option maxHeartbeats 1000000 in
theorem part_own (i : In) (a : Option Addr) (cap : Nat) (w : World) (h : Sl 3 AgAt w a i.args) (hl : i.args.length ≤ 1048576) :
  Calls Tryz.prog 156 #[inVal i a cap] w fun e w' => e = .returned (.int .u8 (partOf i)) ∧ Below w.heap.size w w' := by
 have c1 := fun W h => variable_own i a cap W h hl
 have c2 := of_own i.op
 unfold partOf
 unfold inVal at c1 ⊢
 have HA := hid h
 clear h
 cases hv : isVar i
 ·rw [hv] at c1
  simp only [Bool.false_eq_true, if_false]
  generalize formOf i.op = f at c2 ⊢
  generalize isForm i.op = q at c2
  unfold Fm.val Fm.cells at c2
  go_enter Tryz.func156, Tryz.ntmps156
  have hb := bal (Below.refl _ w) (.cells #[.int .u16 i.op, .int .u32 i.ty, .int .u32 i.res, .slice a i.args.length cap] 43)
  go_wp2_with (first | (go_at_call 206; (with_reducible refine (c1 _ (HA.out.below AgAt.lasts hb)).mono ?_); rintro e w1 ⟨rfl, hn1⟩; obtain ⟨x0, x1, x2, x3⟩ := in_cells ((hn1.block w.heap.size (by simp)).trans (alloc_at w (.cells #[.int .u16 i.op, .int .u32 i.ty, .int .u32 i.res, .slice a i.args.length cap] 43)))) | (go_at_call 122; (with_reducible refine (c2 _).mono ?_); rintro e w2 ⟨rfl, hn2⟩))
  go_ret
  exact ⟨rfl, bal (bcall (bcall hb hn1) hn2) _⟩
 ·rw [hv] at c1
  simp only [if_true]
  go_enter Tryz.func156, Tryz.ntmps156
  have hb := bal (Below.refl _ w) (.cells #[.int .u16 i.op, .int .u32 i.ty, .int .u32 i.res, .slice a i.args.length cap] 43)
  go_wp2_with (first | (go_at_call 206; (with_reducible refine (c1 _ (HA.out.below AgAt.lasts hb)).mono ?_); rintro e w1 ⟨rfl, hn1⟩))
  go_ret
  exact ⟨rfl, bcall hb hn1⟩
end Go.Proofs.YtindnnbopaeklaaGreatDoor
