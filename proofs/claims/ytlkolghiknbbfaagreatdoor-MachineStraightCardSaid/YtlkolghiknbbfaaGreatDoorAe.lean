/- An instruction as words. -/
import Derived.Test.YtlkolghiknbbfaaGreatDoorAd
set_option linter.unusedVariables false
set_option linter.unusedSimpArgs false
namespace Go.Proofs.YtlkolghiknbbfaaGreatDoor
open Go.RowKit
def wH : Ag := ⟨0, 0, ⟨#[]⟩⟩
def eF (f : Fm) (bound : Nat) (l : List Ag) (s0 : Nat × Nat × Nat) : Nat → Nat × Nat × Nat
 | 0 => s0
 | k + 1 =>
  let s := eF f bound l s0 k
  let a := l.getD k wH
  if s.1 = 0 then (lX f bound k a, s.2.1 + kg f k a, s.2.2 + jc f k a) else s
def fC (f : Fm) (i : In) (bound : Nat) : Nat × Nat × Nat :=
 let n0 := if f.ty && decide (i.ty ≠ 0) then 1 else 0
 let n1 := if f.res && decide (i.res ≠ 0) then 1 else 0
 let e0 := iH f.ty i.ty bound 40
 if e0 = 0 then (iH f.res i.res bound 41, n0 + n1, n0 + n1) else (e0, n0, n0)
def di (s : Nat × Nat × Nat) (we : Nat) : Nat × Nat :=
 let e1 := if s.1 = 0 then we else s.1
 let e2 := if e1 = 0 ∧ 65535 ≤ s.2.2 then 25 else e1
 if e2 = 0 then (0, s.2.1) else (e2, 0)
def dx (i : In) (bound : Nat) : Nat × Nat :=
 if jL i.op then
  di (eF (aS i.op) bound i.args (fC (aS i.op) i bound) i.args.length) (fI (aS i.op).op i.args)
 else (30, 0)
theorem BX {s : ByteArray} (h : s.size ≤ 1048576) : mM s ≤ 262145 := by
 unfold mM room
 split <;> omega
theorem yX {s : ByteArray} (h : s.size ≤ 1048576) : kF s ≤ 262145 := by
 unfold kF room
 split <;> omega
theorem Fh {f : Fm} {k : Nat} {a : Ag} (h : a.s.size ≤ 1048576) : kg f k a ≤ 262145 := by
 have := BX h;unfold kg
 split
 ·omega
 ·split <;> omega
theorem DW {f : Fm} {k : Nat} {a : Ag} (h : a.s.size ≤ 1048576) : jc f k a ≤ 262145 := by
 have := yX h;unfold jc
 split
 ·omega
 ·split <;> omega
theorem Ap (f : Fm) (bound : Nat) (l : List Ag) (s0 : Nat × Nat × Nat) (h : ∀ k (h : k < l.length), l[k].s.size ≤ 1048576) (h1 : s0.2.1 ≤ 2) (h2 : s0.2.2 ≤ 2) :
  ∀ k, k ≤ l.length → (eF f bound l s0 k).2.1 ≤ 2 + k * 262145 ∧ (eF f bound l s0 k).2.2 ≤ 2 + k * 262145
 | 0, _ => ⟨by simp only [eF]; omega, by simp only [eF]; omega⟩
 | k + 1, hk => by
  have ih := Ap f bound l s0 h h1 h2 k (by omega);have e : l.getD k wH = l[k] := by rw [List.getD_eq_getElem?_getD, List.getElem?_eq_getElem hk]; rfl
  have a1 := Fh (f := f) (k := k) (h k hk);have a2 := DW (f := f) (k := k) (h k hk);simp only [eF, e]
  split
  ·exact ⟨by show (eF f bound l s0 k).2.1 + _ ≤ _; omega, by show (eF f bound l s0 k).2.2 + _ ≤ _; omega⟩
  ·exact ⟨by omega, by omega⟩
theorem sO (f : Fm) (i : In) (bound : Nat) : (fC f i bound).2.1 ≤ 2 ∧ (fC f i bound).2.2 ≤ 2 := by
 unfold fC;simp only
 split <;> (constructor <;> (simp only; repeat' split) <;> omega)
def qz (i : In) (a : Option Addr) (cap : Nat) : Value := .agg #[.int .u16 i.op, .int .u32 i.ty, .int .u32 i.res, .slice a i.args.length cap]
theorem eu : (Tryz.prog.info? 326).map (·.size) = some 2 := by kernel_rfl
structure NR (i : In) (bound : Nat) (w w' : World) (e : Ending) : Prop where
 out : ∃ (op : Nat) (v : Value) (xs : List Value), e = .returned (.tuple #[.agg #[.int .u16 op, v], .int .i64 (dx i bound).1]) ∧ w'.ownsRow w.heap.size 22 1 v (dx i bound).2 xs
 below : Bl w w'
def lh (i : In) (a : Option Addr) (cap : Nat) : Array Value := #[.int .u16 i.op, .int .u32 i.ty, .int .u32 i.res, .slice a i.args.length cap]
structure jR (p q : Nat) (i : In) (a : Option Addr) (cap : Nat) (f : Fm) (bound n rm : Nat) (v : Value) (w W : World) : Prop where
 ib : W.heap[p]? = some (.cells (lh i a cap) 73 (0, 0))
 rb : W.heap[p + 1]? = some (.cells #[.int .u16 0, .slice none 0 0] 326 (0, 0))
 fb : W.heap[q]? = some (.cells f.cells 352 (0, 0))
 wr : Wr (q + 1) (q + 1) f bound n rm v W
 below : Below p w W
 lt : p + 1 < q
 eq : w.heap.size = p
theorem jR.keep {p q : Nat} {i : In} {a : Option Addr} {cap : Nat} {f : Fm} {bound n rm n' rm' : Nat} {v v' : Value} {w W W' : World} (h : jR p q i a cap f bound n rm v w W) (hb : Below (q + 1) W W') (hw : Wr (q + 1) (q + 1) f bound n' rm' v' W') : jR p q i a cap f bound n' rm' v' w W' :=
 have := h.lt
 ⟨(hb.block _ (by omega)).trans h.ib, (hb.block _ (by omega)).trans h.rb, (hb.block _ (by omega)).trans h.fb, hw, h.below.trans (hb.mono (by omega)), h.lt, h.eq⟩
theorem jR.more {p q : Nat} {i : In} {a : Option Addr} {cap : Nat} {f : Fm} {bound n rm : Nat} {v : Value} {w W W' : World} (h : jR p q i a cap f bound n rm v w W) (hb : Bl W W') : jR p q i a cap f bound n rm v w W' :=
 h.keep (hb.mono (by have := h.wr.lt; omega)) (h.wr.below hb)
theorem jR.turn {p q : Nat} {i : In} {a : Option Addr} {cap : Nat} {f : Fm} {bound n rm n' rm' : Nat} {v v' : Value} {w W W' : World} (h : jR p q i a cap f bound n rm v w W) (ht : eQ (q + 1) v v' W W') (hw : Wr (q + 1) (q + 1) f bound n' rm' v' W') : jR p q i a cap f bound n' rm' v' w W' :=
 h.keep (ht.below h.wr (by have := h.wr.lt; omega)) hw
theorem jd {W : World} {p : Nat} {i : In} {a : Option Addr} {cap : Nat} {t : TypeId} (h : W.heap[p]? = some (.cells (lh i a cap) t (0, 0))) :
  W.cell? ⟨p, 0, none⟩ = some (.int .u16 i.op) ∧ W.cell? ⟨p, 1, none⟩ = some (.int .u32 i.ty) ∧ W.cell? ⟨p, 2, none⟩ = some (.int .u32 i.res) ∧ W.cell? ⟨p, 3, none⟩ = some (.slice a i.args.length cap) :=
 ⟨(cell_of_row _ _ 0 _ _ _ h).trans rfl, (cell_of_row _ _ 1 _ _ _ h).trans rfl, (cell_of_row _ _ 2 _ _ _ h).trans rfl, (cell_of_row _ _ 3 _ _ _ h).trans rfl⟩
theorem Ab {W : World} {g : Nat} {t : TypeId} {a b : Value} (u v : Value) (h : W.heap[g]? = some (.cells #[a, b] t (0, 0))) : ((W.setCell ⟨g, 0, none⟩ u).setCell ⟨g, 1, none⟩ v).drew.heap[g]? = some (.cells #[u, v] t (0, 0)) :=
 (heap_setCell_same _ g 1 _ _ _ (heap_setCell_same W g 0 _ _ _ h)).trans rfl
theorem zf {w W : World} {p q n : Nat} {u v : Value} {xs : List Value} (h : W.ownsRow (q + 1) 22 1 v n xs) (hb : Below p w W) (hp : p + 1 < q) (hw : w.heap.size = p) :
  ((W.setCell ⟨p + 1, 0, none⟩ u).setCell ⟨p + 1, 1, none⟩ v).drew.ownsRow w.heap.size 22 1 v n xs ∧ Bl w ((W.setCell ⟨p + 1, 0, none⟩ u).setCell ⟨p + 1, 1, none⟩ v).drew := by
 have hne : v.ownBlock ≠ some (p + 1) := fun e => by have := (h.lt _ e).1; omega
 refine ⟨kC (gL 1 (gL 0 h hne) hne) (by omega), ?_⟩;subst hw;exact bB ((hb.setCell (p := ⟨w.heap.size + 1, 0, none⟩) (by show w.heap.size ≤ w.heap.size + 1; omega) _).setCell (p := ⟨w.heap.size + 1, 1, none⟩) (by show w.heap.size ≤ w.heap.size + 1; omega) _)
theorem Gs (i : In) (a : Option Addr) (cap : Nat) (f : Fm) (bound : Nat) (w w1 : World)
  (hn : Below ((w.alloc (.cells (lh i a cap) 73)).alloc (.cells #[.int .u16 0, .slice none 0 0] 326)).heap.size ((w.alloc (.cells (lh i a cap) 73)).alloc (.cells #[.int .u16 0, .slice none 0 0] 326)) w1) :
  jR w.heap.size w1.heap.size i a cap f bound 0 0 (.slice none 0 0) w ((w1.alloc (.cells f.cells 352)).alloc (.cells (kY f bound (.slice none 0 0) 0) 357)) := by
 have hs := hn.size;simp only [World.size_alloc] at hs;have h0 := alloc_at w (.cells (lh i a cap) 73);have h1 := ko w (.cells (lh i a cap) 73) (.cells #[.int .u16 0, .slice none 0 0] 326);have b : Bl w1 ((w1.alloc (.cells f.cells 352)).alloc (.cells (kY f bound (.slice none 0 0) 0) 357)) := bP (bP (Below.refl _ w1) _) _;have h2 := ko w1 (.cells f.cells 352) (.cells (kY f bound (.slice none 0 0) 0) 357);refine ⟨(b.block _ (by omega)).trans ((hn.block _ (by simp; omega)).trans ((Below.heap_alloc _ _ _ (by simp)).trans h0)), (b.block _ (by omega)).trans ((hn.block _ (by simp)).trans h1), (Below.heap_alloc _ _ _ (by simp)).trans (alloc_at w1 _), ⟨h2, ⟨[], World.ownsRow_nil _ _ _ _⟩, by simp [Value.ownBlock], Nat.le_refl _⟩, ?_, by omega, rfl⟩;exact bP (bP (az (bP (bP (Below.refl _ w) _) _) hn) _) _
theorem uf {W : World} {q : Nat} {f : Fm} {t : TypeId} (h : W.heap[q]? = some (.cells f.cells t (0, 0))) :
  W.cell? ⟨q, 0, none⟩ = some (.int .u16 f.op) ∧ W.cell? ⟨q, 1, none⟩ = some (.string f.name) ∧ W.cell? ⟨q, 2, none⟩ = some (.bool f.ty) ∧ W.cell? ⟨q, 3, none⟩ = some (.bool f.res) ∧ W.cell? ⟨q, 4, none⟩ = some (.string f.fixed) ∧ W.cell? ⟨q, 5, none⟩ = some (.string f.rest) ∧ W.cell? ⟨q, 6, none⟩ = some (.int .i64 f.most) ∧ W.cell? ⟨q, 7, none⟩ = some (.int .u8 f.part) :=
 ⟨(cell_of_row _ _ 0 _ _ _ h).trans rfl, (cell_of_row _ _ 1 _ _ _ h).trans rfl, (cell_of_row _ _ 2 _ _ _ h).trans rfl, (cell_of_row _ _ 3 _ _ _ h).trans rfl, (cell_of_row _ _ 4 _ _ _ h).trans rfl, (cell_of_row _ _ 5 _ _ _ h).trans rfl, (cell_of_row _ _ 6 _ _ _ h).trans rfl, (cell_of_row _ _ 7 _ _ _ h).trans rfl⟩
set_option maxRecDepth 100000 in
set_option maxHeartbeats 8000000 in
theorem Mt (i : In) (bound : Nat) (a : Option Addr) (cap : Nat) (w : World) (h : Sl 3 cz w a i.args) (hl : i.args.length ≤ 1048576) :
  Calls Tryz.prog 227 #[qz i a cap, .int .u32 bound] w fun e w' => NR i bound w w' e := by
 have c1 := tH i.op
 cases hf : jL i.op
 ·rw [hf] at c1
  have hr : dx i bound = (30, 0) := by unfold dx; rw [hf]; rfl
  have HR := hid hr;clear hr;generalize aS i.op = f at c1;obtain ⟨iop, ity, ires, iargs⟩ := i;unfold qz;simp only at c1 ⊢;obtain ⟨op', name, ty, res, fx, rs, most, part⟩ := f;unfold Fm.val Fm.cells at c1;simp only at c1;go_enter Tryz.func227, Tryz.ntmps227;go_wp2_with (first | (go_at_call 266; (with_reducible refine (c1 _).mono ?_); rintro e w1 ⟨rfl, hn1⟩; have hr4 := hid ((Below.heap_alloc w1 (.cells #[.int .u16 op', .string name, .bool ty, .bool res, .string fx, .string rs, .int .i64 most, .int .u8 part] 352) (w.heap.size + 1) (Nat.lt_of_lt_of_le (by simp) hn1.size)).trans ((hn1.block (w.heap.size + 1) (by simp)).trans (ko w _ _)))) | (refine wpList_store_row rfl 326 _ _ rfl (w.heap.size + 1) #[.int .u16 0, .slice none 0 0] rfl rfl 326 _ hr4.out eu rfl (by simp [Value.oneCell']) ?_));refine bodyPost_ret_by (aJ rfl _ _ (w.heap.size + 1) 326 #[.int .u16 0, .slice none 0 0] _ _ rfl (dH _ hr4.out) Tryz.underlying326 rfl eu) rfl ?_;refine ⟨⟨0, _, [], by rw [HR.out]; rfl, by rw [HR.out]; exact World.ownsRow_nil _ _ _ _⟩, ?_⟩;exact aG (bP (az (bP (bP (Below.refl _ w) _) _) hn1) _) (by omega) _
 ·rw [hf] at c1
  have hr : dx i bound = di (eF (aS i.op) bound i.args (fC (aS i.op) i bound) i.args.length) (fI (aS i.op).op i.args) := by unfold dx; rw [hf]; rfl
  have hs : ∀ k (hk : k < i.args.length), i.args[k].s.size ≤ 1048576 := fun k hk => by
   obtain ⟨b, o, _, _, hc⟩ := h.at_ (by omega);exact (hc k hk).s_lt
  have hle := Ap (aS i.op) bound i.args _ hs (sO (aS i.op) i bound).1 (sO (aS i.op) i bound).2;generalize aS i.op = f at c1 hr hle;unfold Fm.val at c1;have HR := hid hr;have HLE := hid hle;have HS := hid hs;have HA := hid h;clear hr hle hs h hf;obtain ⟨z0, hz0⟩ : ∃ z, Hid (iH f.ty i.ty bound 40 = z) := ⟨_, hid rfl⟩;obtain ⟨z1, hz1⟩ : ∃ z, Hid (iH f.res i.res bound 41 = z) := ⟨_, hid rfl⟩;obtain ⟨n0, hn0⟩ : ∃ z, Hid ((if f.ty && decide (i.ty ≠ 0) then 1 else 0) = z) := ⟨_, hid rfl⟩;obtain ⟨n1, hn1'⟩ : ∃ z, Hid ((if f.res && decide (i.res ≠ 0) then 1 else 0) = z) := ⟨_, hid rfl⟩;have hn0le : n0 ≤ 1 := by rw [← hn0.out]; split <;> omega
  have hd1 : ∀ q v W, Wr (q + 1) (q + 1) f bound 0 0 v W → Calls Tryz.prog 267 #[.pointer (some ⟨q + 1, 0, none⟩), .bool f.ty, .int .u32 i.ty, .int .i64 40] W fun e w' => e = .returned (.int .i64 z0) ∧ ∃ v', Wr (q + 1) (q + 1) f bound n0 n0 v' w' ∧ eQ (q + 1) v v' W w' := fun q v W hW => by
   have := AO (q + 1) (q + 1) f bound 0 0 i.ty 40 f.ty v W hW (by have := hW.lt; omega) (by omega) (by omega);rw [hz0.out, Nat.zero_add, hn0.out] at this;exact this
  have hd2 : ∀ q v W, Wr (q + 1) (q + 1) f bound n0 n0 v W → Calls Tryz.prog 267 #[.pointer (some ⟨q + 1, 0, none⟩), .bool f.res, .int .u32 i.res, .int .i64 41] W fun e w' => e = .returned (.int .i64 z1) ∧ ∃ v', Wr (q + 1) (q + 1) f bound (n0 + n1) (n0 + n1) v' w' ∧ eQ (q + 1) v v' W w' := fun q v W hW => by
   have := AO (q + 1) (q + 1) f bound n0 n0 i.res 41 f.res v W hW (by have := hW.lt; omega) (by omega) (by omega);rw [hz1.out, hn1'.out] at this;exact this
  have hHead : Hid (fC f i bound = if z0 = 0 then (z1, n0 + n1, n0 + n1) else (z0, n0, n0)) := by
   unfold fC;rw [hz0.out, hz1.out, hn0.out, hn1'.out];exact rfl
  unfold qz;unfold Fm.cells at c1;go_enter Tryz.func227, Tryz.ntmps227;go_wp2_with (first | (go_at_call 266; (with_reducible refine (c1 _).mono ?_); rintro e w1 ⟨rfl, hn1⟩; obtain ⟨x0, x1, x2, x3⟩ := jd ((hn1.block w.heap.size (by simp <;> omega)).trans ((Below.heap_alloc _ _ _ (by simp)).trans (alloc_at w (.cells (lh i a cap) 73)))); have hz1 : w.heap.size < w1.heap.size := Nat.lt_of_lt_of_le (by simp <;> omega) hn1.size; have hz2 : w.heap.size < w1.heap.size + 1 := by omega));have st0 := Gs i a cap f bound w w1 hn1;refine (hd1 w1.heap.size _ _ st0.wr).mono ?_;rintro e w2 ⟨rfl, v1, hw2, ht2⟩;have st1 := hid (st0.turn ht2 hw2);clear x0 x1 x2 x3;obtain ⟨x0, x1, x2, x3⟩ := jd st1.out.ib;obtain ⟨y0, y1, y2, y3, y4, y5, y6, y7⟩ := uf st1.out.fb;clear st0 hw2 ht2 c1;by_cases e0 : z0 = 0
  ·have t0 : ((z0 : Int) == 0) = true := by simp [e0]
   have hh : Hid (fC f i bound = (z1, n0 + n1, n0 + n1)) := by rw [hHead.out, if_pos e0]; exact rfl
   clear e0;go_wp2_with fail;refine (hd2 w1.heap.size _ _ st1.out.wr).mono ?_;rintro e w3 ⟨rfl, v2, hw3, ht3⟩;have st2 := hid (st1.out.turn ht3 hw3);clear x0 x1 x2 x3;obtain ⟨x0, x1, x2, x3⟩ := jd st2.out.ib;clear hw3 ht3;go_wp2;refine iB (fun W => ∃ n v, Hid (fC f i bound = (z1, n, n)) ∧ jR w.heap.size w1.heap.size i a cap f bound n n v w W) ⟨_, _, hh, st2.out⟩ ?_;clear hh st2 hd1 hd2 hHead st1 hz0 hz1;obtain ⟨z, rfl⟩ : ∃ z, z = z1 := ⟨_, rfl⟩;rintro W ⟨n, v, hh, st⟩;clear x0 x1 x2 x3 y0 y1 y2 y3 y4 y5 y6 y7 t0 hn0 hn1' hn0le hn1;generalize w1.heap.size = q at st ⊢;have HH := hid (show dx i bound = di (eF f bound i.args (z, n, n) i.args.length) (fI f.op i.args) by rw [HR.out, hh.out]);rw [hh.out] at HLE;clear HR hh;go_loopw [9, 45] (fun e idx wr => ∃ k : Nat, k ≤ i.args.length ∧ idx = .int .i64 k ∧ e = .int .i64 (eF f bound i.args (z, n, n) k).1 ∧ ∃ v', jR w.heap.size q i a cap f bound (eF f bound i.args (z, n, n) k).2.1 (eF f bound i.args (z, n, n) k).2.2 v' w wr) (fun _ idx _ => i.args.length - (intOf idx).toNat)
   case atStart => exact ⟨0, by omega, rfl, rfl, v, st⟩
   case round =>
    obtain ⟨k, hk, rfl, rfl, v', st'⟩ := hrel;clear st;have hle := HLE.out k hk;obtain ⟨s, hs⟩ : ∃ s, Hid (eF f bound i.args (z, n, n) k = s) := ⟨_, hid rfl⟩;rw [hs.out] at st' hle ⊢;obtain ⟨ez, nz, rz⟩ := s;simp only at st' hle ⊢;have ST := hid st';clear st';have hq := ST.out.wr.lt;by_cases hlt : k < i.args.length
    ·obtain ⟨b, o, rfl, hbl, hc⟩ := (HA.out.below cz.lasts ST.out.below).at_ (by omega)
     have hck := hc k hlt;obtain ⟨x, hx⟩ : ∃ x, Hid (i.args[k] = x) := ⟨_, hid rfl⟩;rw [hx.out] at hck;obtain ⟨d0, d1, d2, d3, d4, d5⟩ := hck;have hb := bP (Below.refl _ wr) (.cells #[.int .u8 x.kind, .int .u32 x.n, .string x.s] 64);have ca := fun W hW => Ev (q + 1) (q + 1) f bound nz rz k x v' W hW (by have := hW.lt; omega) (by omega) (by omega) (by omega) (by omega)
     have hstep : Hid (eF f bound i.args (z, n, n) (k + 1) = if ez = 0 then (lX f bound k x, nz + kg f k x, rz + jc f k x) else (ez, nz, rz)) := by
      have e : i.args.getD k wH = x := by rw [List.getD_eq_getElem?_getD, List.getElem?_eq_getElem hlt]; exact hx.out
      rw [eF, hs.out, e];exact rfl
     clear hc;by_cases e0 : ez = 0
     ·have t0 : ((ez : Int) == 0) = true := by simp [e0]
      rw [if_pos e0] at hstep;clear e0;go_wp2_with fail;refine (ca _ (ST.out.wr.below hb)).mono ?_;rintro e w2 ⟨rfl, v2, hw2, ht2⟩;have st2 := hid ((ST.out.more hb).turn ht2 hw2);clear hw2 ht2 t0;go_wp2;refine ⟨⟨k + 1, hlt, by go_num, by rw [hstep.out], v2, by rw [hstep.out]; exact st2.out⟩, by simp [intOf]; omega⟩
     ·have t0 : ((ez : Int) == 0) = false := by simp [e0]
      rw [if_neg e0] at hstep;clear e0;go_wp2;refine ⟨⟨k + 1, hlt, by go_num, by rw [hstep.out], v', by rw [hstep.out]; exact ST.out.more hb⟩, by simp [intOf]; omega⟩
    ·obtain rfl : k = i.args.length := by omega
     have HE := hid (show dx i bound = di (ez, nz, rz) (fI f.op i.args) by rw [HH.out, hs.out]);clear HH hs hlt hk HLE;have cw := fun W hW => vL f a cap i.args W hW (by omega)
     unfold Fm.val Fm.cells at cw;obtain ⟨we, hwe⟩ : ∃ we, Hid (fI f.op i.args = we) := ⟨_, hid rfl⟩;rw [hwe.out] at cw HE;obtain ⟨x0, x1, x2, x3⟩ := jd ST.out.ib;obtain ⟨y0, y1, y2, y3, y4, y5, y6, y7⟩ := uf ST.out.fb;by_cases e0 : ez = 0
     ·have t0 : ((ez : Int) == 0) = true := by simp [e0]
      have HT := hid (show dx i bound = di (we, nz, rz) we by rw [HE.out, e0]; unfold di; simp);clear e0;go_wp2_with fail;refine (cw _ (HA.out.below cz.lasts ST.out.below)).mono ?_;rintro e w2 ⟨rfl, hn2⟩;have st2 := hid (ST.out.more hn2);clear t0 x0 x1 x2 x3 y0 y1 y2 y3 y4 y5 y6 y7 hn2 cw HE;obtain ⟨x0, x1, x2, x3⟩ := jd st2.out.ib;obtain ⟨u0, u8, u9, u10, f9, f10⟩ := aZ st2.out.wr.cells;have hr4 := hid st2.out.rb;by_cases e1 : we = 0
      ·by_cases e2 : 65535 ≤ rz
       ·have t1 : ((we : Int) == 0) = true := by simp [e1]
        have t2 : decide ((65535 : Int) ≤ (rz : Int)) = true := by simp; omega
        have HF := hid (show dx i bound = (25, 0) by rw [HT.out, e1]; unfold di; simp [e2]);clear e1 e2;go_wp2_with (first | (refine wpList_store_row rfl 326 _ _ rfl (w.heap.size + 1) #[.int .u16 0, .slice none 0 0] rfl rfl 326 _ hr4.out eu rfl (by simp [Value.oneCell']) ?_));refine bodyPost_ret_by (aJ rfl _ _ (w.heap.size + 1) 326 #[.int .u16 0, .slice none 0 0] _ _ rfl (dH _ hr4.out) Tryz.underlying326 rfl eu) rfl ?_;exact ⟨⟨0, _, [], by rw [HF.out]; rfl, by rw [HF.out]; exact World.ownsRow_nil _ _ _ _⟩, aG st2.out.below (by omega) _⟩
       ·have t1 : ((we : Int) == 0) = true := by simp [e1]
        have t2 : decide ((65535 : Int) ≤ (rz : Int)) = false := by simp; omega
        have t3 : ((we : Int) != 0) = false := by simp [e1]
        have HF := hid (show dx i bound = (0, nz) by rw [HT.out, e1]; unfold di; simp [e2]);obtain ⟨xs, hxs⟩ := st2.out.wr.own;obtain ⟨a2, cap2, rfl, _⟩ := fA hxs;have HX := hid hxs;clear e1 e2 hxs;go_wp2;have r0 : ∀ (W : World), W.heap[w.heap.size + 1]? = some (.cells #[.int .u16 0, .slice none 0 0] 326 (0, 0)) → W.cell? ⟨w.heap.size + 1, 0, none⟩ = some (.int .u16 0) ∧ W.cell? ⟨w.heap.size + 1, 1, none⟩ = some (.slice none 0 0) ∧ W.frozen? ⟨w.heap.size + 1, 0, none⟩ = false ∧ W.frozen? ⟨w.heap.size + 1, 1, none⟩ = false := fun W h => ⟨(cell_of_row _ _ 0 _ _ _ h).trans rfl, (cell_of_row _ _ 1 _ _ _ h).trans rfl, frozen_of_row W _ 0 _ _ h, frozen_of_row W _ 1 _ _ h⟩
        obtain ⟨r1, r2, r3, r4⟩ := r0 _ hr4.out;clear r0;go_region;go_wp2;obtain ⟨k1, k2⟩ := zf (u := .int .u16 i.op) HX.out st2.out.below st2.out.lt rfl;refine bodyPost_ret_by (aJ rfl _ _ (w.heap.size + 1) 326 #[.int .u16 i.op, .slice a2 nz cap2] _ _ rfl (Ab _ _ hr4.out) Tryz.underlying326 rfl eu) rfl ?_;exact ⟨⟨i.op, _, xs, by rw [HF.out]; rfl, by rw [HF.out]; exact k1⟩, k2⟩
      ·have t1 : ((we : Int) == 0) = false := by simp [e1]
       have t3 : ((we : Int) != 0) = true := by simp [e1]
       have HF := hid (show dx i bound = (we, 0) by rw [HT.out]; unfold di; simp [e1]);clear e1;go_wp2_with (first | (refine wpList_store_row rfl 326 _ _ rfl (w.heap.size + 1) #[.int .u16 0, .slice none 0 0] rfl rfl 326 _ hr4.out eu rfl (by simp [Value.oneCell']) ?_));refine bodyPost_ret_by (aJ rfl _ _ (w.heap.size + 1) 326 #[.int .u16 0, .slice none 0 0] _ _ rfl (dH _ hr4.out) Tryz.underlying326 rfl eu) rfl ?_;exact ⟨⟨0, _, [], by rw [HF.out]; rfl, by rw [HF.out]; exact World.ownsRow_nil _ _ _ _⟩, aG st2.out.below (by omega) _⟩
     ·have t0 : ((ez : Int) == 0) = false := by simp [e0]
      have HT := hid (show dx i bound = di (ez, nz, rz) ez by rw [HE.out]; unfold di; simp [e0]);have st2 := ST;clear e0 y0 y1 y2 y3 y4 y5 y6 y7 cw HE;obtain ⟨u0, u8, u9, u10, f9, f10⟩ := aZ st2.out.wr.cells;have hr4 := hid st2.out.rb;have e1 : ¬ ez = 0 := fun h => by simp [h] at t0
      have t1 : ((ez : Int) == 0) = false := by simp [e1]
      have t3 : ((ez : Int) != 0) = true := by simp [e1]
      have HF := hid (show dx i bound = (ez, 0) by rw [HT.out]; unfold di; simp [e1]);clear e1;go_wp2_with (first | (refine wpList_store_row rfl 326 _ _ rfl (w.heap.size + 1) #[.int .u16 0, .slice none 0 0] rfl rfl 326 _ hr4.out eu rfl (by simp [Value.oneCell']) ?_));refine bodyPost_ret_by (aJ rfl _ _ (w.heap.size + 1) 326 #[.int .u16 0, .slice none 0 0] _ _ rfl (dH _ hr4.out) Tryz.underlying326 rfl eu) rfl ?_;exact ⟨⟨0, _, [], by rw [HF.out]; rfl, by rw [HF.out]; exact World.ownsRow_nil _ _ _ _⟩, aG st2.out.below (by omega) _⟩
  ·have t0 : ((z0 : Int) == 0) = false := by simp [e0]
   have hh : Hid (fC f i bound = (z0, n0, n0)) := by rw [hHead.out, if_neg e0]; exact rfl
   clear e0;go_wp2;refine iB (fun W => ∃ n v, Hid (fC f i bound = (z0, n, n)) ∧ jR w.heap.size w1.heap.size i a cap f bound n n v w W) ⟨_, _, hh, st1.out⟩ ?_;clear hh hd1 hd2 hHead st1 hz0 hz1;obtain ⟨z, rfl⟩ : ∃ z, z = z0 := ⟨_, rfl⟩;rintro W ⟨n, v, hh, st⟩;clear x0 x1 x2 x3 y0 y1 y2 y3 y4 y5 y6 y7 t0 hn0 hn1' hn0le hn1;generalize w1.heap.size = q at st ⊢;have HH := hid (show dx i bound = di (eF f bound i.args (z, n, n) i.args.length) (fI f.op i.args) by rw [HR.out, hh.out]);rw [hh.out] at HLE;clear HR hh;go_loopw [9, 45] (fun e idx wr => ∃ k : Nat, k ≤ i.args.length ∧ idx = .int .i64 k ∧ e = .int .i64 (eF f bound i.args (z, n, n) k).1 ∧ ∃ v', jR w.heap.size q i a cap f bound (eF f bound i.args (z, n, n) k).2.1 (eF f bound i.args (z, n, n) k).2.2 v' w wr) (fun _ idx _ => i.args.length - (intOf idx).toNat)
   case atStart => exact ⟨0, by omega, rfl, rfl, v, st⟩
   case round =>
    obtain ⟨k, hk, rfl, rfl, v', st'⟩ := hrel;clear st;have hle := HLE.out k hk;obtain ⟨s, hs⟩ : ∃ s, Hid (eF f bound i.args (z, n, n) k = s) := ⟨_, hid rfl⟩;rw [hs.out] at st' hle ⊢;obtain ⟨ez, nz, rz⟩ := s;simp only at st' hle ⊢;have ST := hid st';clear st';have hq := ST.out.wr.lt;by_cases hlt : k < i.args.length
    ·obtain ⟨b, o, rfl, hbl, hc⟩ := (HA.out.below cz.lasts ST.out.below).at_ (by omega)
     have hck := hc k hlt;obtain ⟨x, hx⟩ : ∃ x, Hid (i.args[k] = x) := ⟨_, hid rfl⟩;rw [hx.out] at hck;obtain ⟨d0, d1, d2, d3, d4, d5⟩ := hck;have hb := bP (Below.refl _ wr) (.cells #[.int .u8 x.kind, .int .u32 x.n, .string x.s] 64);have ca := fun W hW => Ev (q + 1) (q + 1) f bound nz rz k x v' W hW (by have := hW.lt; omega) (by omega) (by omega) (by omega) (by omega)
     have hstep : Hid (eF f bound i.args (z, n, n) (k + 1) = if ez = 0 then (lX f bound k x, nz + kg f k x, rz + jc f k x) else (ez, nz, rz)) := by
      have e : i.args.getD k wH = x := by rw [List.getD_eq_getElem?_getD, List.getElem?_eq_getElem hlt]; exact hx.out
      rw [eF, hs.out, e];exact rfl
     clear hc;by_cases e0 : ez = 0
     ·have t0 : ((ez : Int) == 0) = true := by simp [e0]
      rw [if_pos e0] at hstep;clear e0;go_wp2_with fail;refine (ca _ (ST.out.wr.below hb)).mono ?_;rintro e w2 ⟨rfl, v2, hw2, ht2⟩;have st2 := hid ((ST.out.more hb).turn ht2 hw2);clear hw2 ht2 t0;go_wp2;refine ⟨⟨k + 1, hlt, by go_num, by rw [hstep.out], v2, by rw [hstep.out]; exact st2.out⟩, by simp [intOf]; omega⟩
     ·have t0 : ((ez : Int) == 0) = false := by simp [e0]
      rw [if_neg e0] at hstep;clear e0;go_wp2;refine ⟨⟨k + 1, hlt, by go_num, by rw [hstep.out], v', by rw [hstep.out]; exact ST.out.more hb⟩, by simp [intOf]; omega⟩
    ·obtain rfl : k = i.args.length := by omega
     have HE := hid (show dx i bound = di (ez, nz, rz) (fI f.op i.args) by rw [HH.out, hs.out]);clear HH hs hlt hk HLE;have cw := fun W hW => vL f a cap i.args W hW (by omega)
     unfold Fm.val Fm.cells at cw;obtain ⟨we, hwe⟩ : ∃ we, Hid (fI f.op i.args = we) := ⟨_, hid rfl⟩;rw [hwe.out] at cw HE;obtain ⟨x0, x1, x2, x3⟩ := jd ST.out.ib;obtain ⟨y0, y1, y2, y3, y4, y5, y6, y7⟩ := uf ST.out.fb;by_cases e0 : ez = 0
     ·have t0 : ((ez : Int) == 0) = true := by simp [e0]
      have HT := hid (show dx i bound = di (we, nz, rz) we by rw [HE.out, e0]; unfold di; simp);clear e0;go_wp2_with fail;refine (cw _ (HA.out.below cz.lasts ST.out.below)).mono ?_;rintro e w2 ⟨rfl, hn2⟩;have st2 := hid (ST.out.more hn2);clear t0 x0 x1 x2 x3 y0 y1 y2 y3 y4 y5 y6 y7 hn2 cw HE;obtain ⟨x0, x1, x2, x3⟩ := jd st2.out.ib;obtain ⟨u0, u8, u9, u10, f9, f10⟩ := aZ st2.out.wr.cells;have hr4 := hid st2.out.rb;by_cases e1 : we = 0
      ·by_cases e2 : 65535 ≤ rz
       ·have t1 : ((we : Int) == 0) = true := by simp [e1]
        have t2 : decide ((65535 : Int) ≤ (rz : Int)) = true := by simp; omega
        have HF := hid (show dx i bound = (25, 0) by rw [HT.out, e1]; unfold di; simp [e2]);clear e1 e2;go_wp2_with (first | (refine wpList_store_row rfl 326 _ _ rfl (w.heap.size + 1) #[.int .u16 0, .slice none 0 0] rfl rfl 326 _ hr4.out eu rfl (by simp [Value.oneCell']) ?_));refine bodyPost_ret_by (aJ rfl _ _ (w.heap.size + 1) 326 #[.int .u16 0, .slice none 0 0] _ _ rfl (dH _ hr4.out) Tryz.underlying326 rfl eu) rfl ?_;exact ⟨⟨0, _, [], by rw [HF.out]; rfl, by rw [HF.out]; exact World.ownsRow_nil _ _ _ _⟩, aG st2.out.below (by omega) _⟩
       ·have t1 : ((we : Int) == 0) = true := by simp [e1]
        have t2 : decide ((65535 : Int) ≤ (rz : Int)) = false := by simp; omega
        have t3 : ((we : Int) != 0) = false := by simp [e1]
        have HF := hid (show dx i bound = (0, nz) by rw [HT.out, e1]; unfold di; simp [e2]);obtain ⟨xs, hxs⟩ := st2.out.wr.own;obtain ⟨a2, cap2, rfl, _⟩ := fA hxs;have HX := hid hxs;clear e1 e2 hxs;go_wp2;have r0 : ∀ (W : World), W.heap[w.heap.size + 1]? = some (.cells #[.int .u16 0, .slice none 0 0] 326 (0, 0)) → W.cell? ⟨w.heap.size + 1, 0, none⟩ = some (.int .u16 0) ∧ W.cell? ⟨w.heap.size + 1, 1, none⟩ = some (.slice none 0 0) ∧ W.frozen? ⟨w.heap.size + 1, 0, none⟩ = false ∧ W.frozen? ⟨w.heap.size + 1, 1, none⟩ = false := fun W h => ⟨(cell_of_row _ _ 0 _ _ _ h).trans rfl, (cell_of_row _ _ 1 _ _ _ h).trans rfl, frozen_of_row W _ 0 _ _ h, frozen_of_row W _ 1 _ _ h⟩
        obtain ⟨r1, r2, r3, r4⟩ := r0 _ hr4.out;clear r0;go_region;go_wp2;obtain ⟨k1, k2⟩ := zf (u := .int .u16 i.op) HX.out st2.out.below st2.out.lt rfl;refine bodyPost_ret_by (aJ rfl _ _ (w.heap.size + 1) 326 #[.int .u16 i.op, .slice a2 nz cap2] _ _ rfl (Ab _ _ hr4.out) Tryz.underlying326 rfl eu) rfl ?_;exact ⟨⟨i.op, _, xs, by rw [HF.out]; rfl, by rw [HF.out]; exact k1⟩, k2⟩
      ·have t1 : ((we : Int) == 0) = false := by simp [e1]
       have t3 : ((we : Int) != 0) = true := by simp [e1]
       have HF := hid (show dx i bound = (we, 0) by rw [HT.out]; unfold di; simp [e1]);clear e1;go_wp2_with (first | (refine wpList_store_row rfl 326 _ _ rfl (w.heap.size + 1) #[.int .u16 0, .slice none 0 0] rfl rfl 326 _ hr4.out eu rfl (by simp [Value.oneCell']) ?_));refine bodyPost_ret_by (aJ rfl _ _ (w.heap.size + 1) 326 #[.int .u16 0, .slice none 0 0] _ _ rfl (dH _ hr4.out) Tryz.underlying326 rfl eu) rfl ?_;exact ⟨⟨0, _, [], by rw [HF.out]; rfl, by rw [HF.out]; exact World.ownsRow_nil _ _ _ _⟩, aG st2.out.below (by omega) _⟩
     ·have t0 : ((ez : Int) == 0) = false := by simp [e0]
      have HT := hid (show dx i bound = di (ez, nz, rz) ez by rw [HE.out]; unfold di; simp [e0]);have st2 := ST;clear e0 y0 y1 y2 y3 y4 y5 y6 y7 cw HE;obtain ⟨u0, u8, u9, u10, f9, f10⟩ := aZ st2.out.wr.cells;have hr4 := hid st2.out.rb;have e1 : ¬ ez = 0 := fun h => by simp [h] at t0
      have t1 : ((ez : Int) == 0) = false := by simp [e1]
      have t3 : ((ez : Int) != 0) = true := by simp [e1]
      have HF := hid (show dx i bound = (ez, 0) by rw [HT.out]; unfold di; simp [e1]);clear e1;go_wp2_with (first | (refine wpList_store_row rfl 326 _ _ rfl (w.heap.size + 1) #[.int .u16 0, .slice none 0 0] rfl rfl 326 _ hr4.out eu rfl (by simp [Value.oneCell']) ?_));refine bodyPost_ret_by (aJ rfl _ _ (w.heap.size + 1) 326 #[.int .u16 0, .slice none 0 0] _ _ rfl (dH _ hr4.out) Tryz.underlying326 rfl eu) rfl ?_;exact ⟨⟨0, _, [], by rw [HF.out]; rfl, by rw [HF.out]; exact World.ownsRow_nil _ _ _ _⟩, aG st2.out.below (by omega) _⟩
theorem wI {fn : Func} {p u : Tmp} {ty : TypeId} (h : fn.results = #[.tmp u, .cell p ty]) (tmps : Array Value) (P : Program) (w : World) :
  (results fn tmps).run P w =
   ((asAddr (tmps.getD p undef)).run P w).andThen fun a w₁ => ((loadVar ty a).run P w₁).andThen fun x w₂ => .ok (.tuple #[tmps.getD u undef, x]) w₂ := by
 simp only [results, h];simp [Sem.run_bind, Result.andThen]
theorem bU {P : Program} {fn : Func} {p u : Tmp} {ty : TypeId} (h : fn.results = #[.tmp u, .cell p ty]) (tmps : Array Value) (w : World) (g : Nat) (t : TypeId) (cs : Array Value) (fr : Nat × Nat) (d : TypeDesc)
  (hp : tmps.getD p undef = .pointer (some ⟨g, 0, none⟩)) (hg : w.heap[g]? = some (.cells cs t fr)) (hu : P.underlying ty = some d) (hd : (match d with | .struct _ | .array _ _ => true | _ => false) = true) (hi : (P.info? ty).map (·.size) = some cs.size) :
  (results fn tmps).run P w = .ok (.tuple #[tmps.getD u undef, .agg cs]) w := by
 rw [wI h, hp];simp [asAddr, run_loadVar_row w g t ty cs fr d hg hu hd hi, Result.andThen]
theorem Jn {fn : Func} {p : Tmp} {ty : TypeId} (h : fn.results = #[.cell p ty]) (tmps : Array Value) (P : Program) (w : World) :
  (results fn tmps).run P w = ((asAddr (tmps.getD p undef)).run P w).andThen fun a w₁ => ((loadVar ty a).run P w₁).andThen fun x w₂ => .ok x w₂ := by
 simp only [results, h];simp [Sem.run_bind, Result.andThen]
 cases (asAddr (tmps[p]?.getD undef)).run P w with
 | ok a w1 => dsimp only; cases (loadVar ty a).run P w1 <;> rfl
 | halt h w => rfl
theorem bF {P : Program} {fn : Func} {p : Tmp} {ty : TypeId} (h : fn.results = #[.cell p ty]) (tmps : Array Value) (w : World) (g : Nat) (t : TypeId) (cs : Array Value) (fr : Nat × Nat) (d : TypeDesc)
  (hp : tmps.getD p undef = .pointer (some ⟨g, 0, none⟩)) (hg : w.heap[g]? = some (.cells cs t fr)) (hu : P.underlying ty = some d) (hd : (match d with | .struct _ | .array _ _ => true | _ => false) = true) (hi : (P.info? ty).map (·.size) = some cs.size) :
  (results fn tmps).run P w = .ok (.agg cs) w := by
 rw [Jn h, hp];simp [asAddr, run_loadVar_row w g t ty cs fr d hg hu hd hi, Result.andThen]
theorem aC : (Tryz.prog.info? 39).map (·.size) = some 2 := by kernel_rfl
theorem xq : (Tryz.prog.info? 34).map (·.size) = some 3 := by kernel_rfl
theorem NI : El 282 326 2 32 := El.of Tryz.underlying282 (z := .agg #[.int .u16 0, .slice none 0 0]) (by kernel_rfl) rfl (by omega)
def ai : In := ⟨0, 0, 0, []⟩
def fZ (bound : Nat) (l : List In) : Nat → Nat
 | 0 => 0
 | k + 1 => fZ bound l k + (1 + (dx (l.getD k ai) bound).2)
theorem ow (bound : Nat) (l : List In) : ∀ {j k : Nat}, j ≤ k → fZ bound l j ≤ fZ bound l k
 | j, 0, h => by cases Nat.le_zero.1 h; exact Nat.le_refl _
 | j, k + 1, h => by
  rcases Nat.lt_or_ge j (k + 1) with h1 | h1
  ·have := ow bound l (j := j) (k := k) (by omega)
   simp only [fZ];omega
  ·obtain rfl : j = k + 1 := by omega
   exact Nat.le_refl _
structure iN (bound : Nat) (l : List In) : Prop where
 pos : 0 < bound
 top : bound ≤ 65536
 len : l.length ≤ 2000
 raw : ∀ k (hk : k < l.length), (dx l[k] bound).1 = 0
 sum : fZ bound l l.length ≤ 1000000
theorem yu (w : World) : Qc 226 #[.slice none 0 0] w (.tuple #[.int .i64 5, .int .i64 0]) := by
 have c1 : ∀ W, Qc 265 #[.slice none 0 0] W (.tuple #[.int .i64 5, .agg #[.int .i64 0, .int .i64 0]]) := fun w => by
  have g1 := hid (alloc_at w (.cells #[.int .i64 0, .int .i64 0] 39));have hb := hid (bP (Below.refl _ w) (.cells #[.int .i64 0, .int .i64 0] 39));go_enter Tryz.func265, Tryz.ntmps265;go_wp2;refine wp_loop_rounds 1 ?_;rw [rounds_succ];go_wp2_with (refine wpList_store_row rfl 39 _ _ rfl w.heap.size #[.int .i64 0, .int .i64 0] rfl rfl 39 _ g1.out aC rfl (by simp [Value.oneCell']) ?_);refine bodyPost_ret_by (bU rfl _ _ w.heap.size 39 #[.int .i64 0, .int .i64 0] _ _ rfl (dH _ g1.out) Tryz.underlying39 rfl aC) rfl ?_;exact ⟨rfl, aG hb.out (Nat.le_refl _) _⟩
 go_enter Tryz.func226, Tryz.ntmps226;go_wp2_with (go_at_call 265; (with_reducible refine (c1 _).mono ?_); rintro e w1 ⟨rfl, hn1⟩; have HB := hid (bP hn1 (.cells #[.int .i64 0, .int .i64 0] 39)); clear hn1);go_quiet (fail);go_wp2;go_ret2;exact ⟨rfl, HB.out.trans ⟨rfl, rfl, rfl, Nat.le_refl _, fun _ _ => rfl⟩⟩
structure qP (B gen bound : Nat) (a : Option Addr) (n cap : Nat) (w W : World) : Prop where
 mb : W.heap[B]? = some (.cells #[.int .u32 gen, .int .u32 bound, .slice a n cap] 34 (0, 0))
 sb : W.heap[B + 1]? = some (.cells #[.int .i64 0, .int .i64 0] 39 (0, 0))
 below : Below B w W
theorem qP.then {B gen bound n cap k : Nat} {a : Option Addr} {w W W' : World} (h : qP B gen bound a n cap w W) (hb : Below k W W') (hk : B + 2 ≤ k) : qP B gen bound a n cap w W' :=
 ⟨(hb.block _ (by omega)).trans h.mb, (hb.block _ (by omega)).trans h.sb, h.below.trans (hb.mono (by omega))⟩
theorem qP.grown {B gen bound n cap : Nat} {a : Option Addr} {w W W' : World} {row : Option Nat} (h : qP B gen bound a n cap w W) (hg : W.grownBy W' row) (hr : ∀ k, row = some k → B + 2 ≤ k) : qP B gen bound a n cap w W' := by
 have hz : B + 1 < W.heap.size := (Array.getElem?_eq_some_iff.1 h.sb).1;exact ⟨(hg.block B (by omega) (fun e => by have := hr _ e.symm; omega)).trans h.mb, (hg.block (B + 1) (by omega) (fun e => by have := hr _ e.symm; omega)).trans h.sb, h.below.grown hg (by omega) (fun k e => by have := hr _ e; omega)⟩
theorem qP.size {B gen bound n cap : Nat} {a : Option Addr} {w W : World} (h : qP B gen bound a n cap w W) : B + 1 < W.heap.size := (Array.getElem?_eq_some_iff.1 h.sb).1
theorem qP.cells {B gen bound n cap : Nat} {a : Option Addr} {w W : World} (h : qP B gen bound a n cap w W) : W.cell? ⟨B, 1, none⟩ = some (.int .u32 bound) ∧ W.cell? ⟨B, 2, none⟩ = some (.slice a n cap) :=
 ⟨(cell_of_row _ _ 1 _ _ _ h.mb).trans rfl, (cell_of_row _ _ 2 _ _ _ h.mb).trans rfl⟩
theorem Ai (gen bound : Nat) (a : Option Addr) (n cap : Nat) (w : World) : qP w.heap.size gen bound a n cap w ((w.alloc (.cells #[.int .u32 gen, .int .u32 bound, .slice a n cap] 34)).alloc (.cells #[.int .i64 0, .int .i64 0] 39)) :=
 ⟨(Below.heap_alloc _ _ _ (by simp)).trans (alloc_at w _), ko w _ _, bP (bP (Below.refl _ w) _) _⟩
set_option maxRecDepth 100000 in
set_option maxHeartbeats 4000000 in
theorem Lg (gen bound : Nat) (a : Option Addr) (cap : Nat) (l : List In) (w : World) (h : Sl 4 fO w a l) (hs : iN bound l) :
  Calls Tryz.prog 182 #[.agg #[.int .u32 gen, .int .u32 bound, .slice a l.length cap]] w fun e w' => (∃ v, e = .returned (.tuple #[v, .agg #[.int .i64 0, .int .i64 0]])) ∧ Bl w w' := by
 have t0 : ((bound : Int) == 0) = false := by have := hs.pos; rw [beq_eq_false_iff_ne]; omega
 have t1 : ¬ ((65536 : Int) < bound) := by have := hs.top; omega
 have hlen := hs.len;have h0 := Ai gen bound a l.length cap w;obtain ⟨m1, m2⟩ := h0.cells;have c1 := fun W => yu W
 have H0 := hid h0;have HL := hid h;have HS := hid hs;clear h0 h hs;go_enter Tryz.func182, Tryz.ntmps182;go_wp2_with (go_at_call 226; (with_reducible refine (c1 _).mono ?_); rintro e w1 ⟨rfl, hn1⟩; have h1 := H0.out.then hn1 (by simp); have HZ := hid (az (bP (bP (Below.refl _ w) _) _) hn1); clear m1 m2; obtain ⟨m1, m2⟩ := h1.cells; have z1 := h1.size; have H1 := hid h1; clear h1 hn1 c1 H0);generalize w1.heap.size = z at *
 clear HZ;go_loopw [4, 6, 29] (fun x4 x6 x29 wr => ∃ (k : Nat) (xs : List Value), k ≤ l.length ∧ x4 = .int .i64 (1048571 - (fZ bound l k : Nat)) ∧ x29 = .int .i64 k ∧ wr.ownsRow (w.heap.size + 2) 326 2 x6 k xs ∧ qP w.heap.size gen bound a l.length cap w wr) (fun _ _ i _ => l.length - (intOf i).toNat)
 case atStart => exact ⟨0, [], by omega, rfl, rfl, World.ownsRow_nil _ _ _ _, H1.out⟩
 case round =>
  obtain ⟨k, xs, hk, rfl, rfl, ho, hst⟩ := hrel;clear m1 m2 z1 H1;obtain ⟨m1, m2⟩ := hst.cells;have z1 := hst.size;have z0 : w.heap.size < wr.heap.size := by omega
  have HO := hid ho;have HT := hid hst;clear ho;by_cases hlt : k < l.length
  ·obtain ⟨b, o, ha, hbl, hc⟩ := HL.out.at_ (by omega)
   obtain ⟨e0, e1, e2, ⟨aa, ca, e3, hsl⟩, -, -, -, hal⟩ := fO.lasts _ _ _ _ _ (hc k hlt) hbl hst.below;have hr0 := HS.out.raw k hlt;have hsum := HS.out.sum;have hmo := ow bound l (j := k + 1) (k := l.length) (by omega);have hgd : l.getD k ai = l[k] := by rw [List.getD_eq_getElem?_getD, List.getElem?_eq_getElem hlt]; rfl
   have hw1 : fZ bound l (k + 1) = fZ bound l k + (1 + (dx l[k] bound).2) := by simp only [fZ, hgd]
   have c2 : ∀ W, Bl wr W → Calls Tryz.prog 227 #[.agg #[.int .u16 l[k].op, .int .u32 l[k].ty, .int .u32 l[k].res, .slice aa l[k].args.length ca], .int .u32 bound] W fun e w' => (∃ (op : Nat) (v : Value) (xs : List Value), e = .returned (.tuple #[.agg #[.int .u16 op, v], .int .i64 0]) ∧ w'.ownsRow W.heap.size 22 1 v (dx l[k] bound).2 xs) ∧ Bl W w' := fun W hb => (Mt l[k] bound aa ca W (hsl.below cz.lasts hb) hal).mono fun e w' h => by
    obtain ⟨op, v, xs, rfl, ho⟩ := h.out;rw [hr0];exact ⟨⟨op, v, xs, rfl, ho⟩, h.below⟩
   obtain ⟨n, hn⟩ : ∃ n, n = (dx l[k] bound).2 := ⟨_, rfl⟩;rw [← hn] at c2 hw1;obtain ⟨s, hs⟩ : ∃ s, s = fZ bound l k := ⟨_, rfl⟩;have HW := hid hw1;rw [← hs] at hw1 ⊢;have hsn : s + (1 + n) ≤ 1000000 := by omega
   have i2 : (k : Int) < (l.length : Int) := by omega
   subst ha;have HLT := hid hlt;clear hr0 hsum hmo hgd hw1 hn hsl hal hc;generalize l[k] = i at c2 e0 e1 e2 e3;obtain ⟨iop, ity, ires, iargs⟩ := i;simp only at c2 e0 e1 e2 e3;generalize iargs.length = na at c2 e3;obtain ⟨v6, c6, rfl, hv6⟩ := fA HO.out;clear hv6
   go_wp2_with (first
    | (go_at_call 227; (with_reducible refine (c2 _ (bP (Below.refl _ wr) _)).mono ?_); rintro e w2 ⟨⟨op, v, ys, rfl, ho2⟩, hn2⟩; obtain ⟨av, cv, rfl, hx⟩ := fA ho2; clear hx ho2; have HB2 := hid (az (bP (Below.refl _ wr) (.cells #[.int .u16 iop, .int .u32 ity, .int .u32 ires, .slice aa na ca] 73)) hn2); clear hn2)
    | ((with_reducible refine aA ?_); refine mU NI rfl _ _ rfl (w.heap.size + 2) (.slice v6 k c6) k xs rfl (own_below HO.out (bP HB2.out (.cells #[.int .u16 op, .slice av n cv] 326))) #[.int .u16 op, .slice av n cv] (w2.heap.size + 1) rfl (by simp) rfl (by simp [Value.oneCell']) (by omega) (by omega) (by have := HB2.out.size; simp; omega) ?_; intro g1 p1 w3 k1 k2 k3 k4; have HK := hid k1; have hT3 := hid ((HT.out.then (bP HB2.out (.cells #[.int .u16 op, .slice av n cv] 326)) (by omega)).grown k2 (fun j e => (HO.out.lt _ e).1)); clear k1 k2 k3 k4))
   exact ⟨⟨k + 1, _, HLT.out, by rw [HW.out, ← hs]; go_num, by go_num, HK.out, hT3.out⟩, by simp [intOf]; omega⟩
  ·obtain rfl : k = l.length := by omega
   obtain ⟨v6, c6, rfl, hv6⟩ := fA HO.out;clear hv6;have HSB := hid HT.out.sb;go_wp2_with (refine wpList_store_row rfl 39 _ _ rfl (w.heap.size + 1) #[.int .i64 0, .int .i64 0] rfl rfl 39 _ HSB.out aC rfl (by simp [Value.oneCell']) ?_);refine bodyPost_ret_by (bU rfl _ _ (w.heap.size + 1) 39 #[.int .i64 0, .int .i64 0] _ _ rfl (dH _ HSB.out) Tryz.underlying39 rfl aC) rfl ?_;exact ⟨⟨_, rfl⟩, aG HT.out.below (by omega) _⟩
theorem Be (gen bound : Nat) (a : Option Addr) (cap : Nat) (l : List In) (w : World) (h : Sl 4 fO w a l) (hs : iN bound l) :
  Qc 139 #[.agg #[.int .u32 gen, .int .u32 bound, .slice a l.length cap]] w (.agg #[.int .i64 0, .int .i64 0]) := by
 have h0 := Ai gen bound a l.length cap w;have c1 := Lg gen bound a cap l _ (h.below fO.lasts (bP (bP (Below.refl _ w) (.cells #[.int .u32 gen, .int .u32 bound, .slice a l.length cap] 34)) (.cells #[.int .i64 0, .int .i64 0] 39))) hs;have HM := hid h0.mb;have H0 := hid h0;clear h0 h hs;go_enter Tryz.func139, Tryz.ntmps139
 go_wp2_with (first
  | (refine wpList_load_row rfl 34 _ rfl w.heap.size rfl 34 _ _ _ HM.out Tryz.underlying34 rfl xq ?_)
  | (go_at_call 182; (with_reducible refine c1.mono ?_); rintro e w1 ⟨⟨v, rfl⟩, hn1⟩; have h1 := hid ((Below.heap_alloc w1 (.cells #[.int .i64 0, .int .i64 0] 39) (w.heap.size + 1) (by have := hn1.size; simp at this; omega)).trans (H0.out.then hn1 (by simp)).sb); have HB := hid (bP (az (bP (bP (Below.refl _ w) _) _) hn1) (.cells #[.int .i64 0, .int .i64 0] 39)); clear hn1 c1)
  | (refine wpList_store_row rfl 39 _ _ rfl (w.heap.size + 1) #[.int .i64 0, .int .i64 0] rfl rfl 39 _ h1.out aC rfl (by simp [Value.oneCell']) ?_))
 refine bodyPost_ret_by (bF rfl _ _ (w.heap.size + 1) 39 #[.int .i64 0, .int .i64 0] _ _ rfl (dH _ h1.out) Tryz.underlying39 rfl aC) rfl ?_;exact ⟨rfl, aG HB.out (by omega) _⟩
def pJ (l : List Ag) : Nat := (l.headD wH).n
def isVar (i : In) : Bool := i.op == 59 && (!i.args.isEmpty && pJ i.args == 7)
theorem yU {w : World} {b o : Nat} {x : Ag} (h : cz w b o x) : w.cell? ⟨b, o, none⟩ = some (.int .u8 x.kind) ∧ w.cell? ⟨b, o + 1, none⟩ = some (.int .u32 x.n) ∧ w.cell? ⟨b, o + 2, none⟩ = some (.string x.s) := ⟨h.kind, h.n, h.s⟩
theorem Sl.head {α : Type} {sz : Nat} {P : World → Nat → Nat → α → Prop} {w : World} {a : Option Addr} {x : α} {l : List α} (h : Sl sz P w a (x :: l)) : ∃ b o, a = some ⟨b, o, none⟩ ∧ b < w.heap.size ∧ P w b o x := by
 obtain ⟨b, o, rfl, hlt, hc⟩ := h.at_ (by simp);have := hc 0 (by simp);rw [Nat.zero_mul, Nat.add_zero] at this;exact ⟨b, o, rfl, hlt, this⟩
set_option maxHeartbeats 1000000 in
theorem wE (i : In) (a : Option Addr) (cap : Nat) (w : World) (h : Sl 3 cz w a i.args) (hl : i.args.length ≤ 1048576) :
  Qc 270 #[qz i a cap] w (.bool (isVar i)) := by
 obtain ⟨op, ty, res, args⟩ := i;unfold qz isVar;simp only at h hl ⊢;by_cases e : op = 59
 ·subst e
  cases args with
  | nil =>
   go_enter Tryz.func270, Tryz.ntmps270;go_wp2;go_ret;exact ⟨rfl, bP (Below.refl _ w) _⟩
  | cons x l =>
   obtain ⟨b, o, rfl, hlt, hx⟩ := h.head;obtain ⟨c0, c1, c2⟩ := yU hx;clear h;have hl1 : (0 : Int) < ((x :: l).length : Int) := by simp
   have hl2 : (x :: l).isEmpty = false := rfl;have hx7 : pJ (x :: l) = x.n := rfl;rw [hx7, hl2];clear hx7 hl2;generalize (x :: l).length = n at hl hl1 ⊢;have hb := bP (Below.refl _ w) (.cells #[.int .u16 (59 : Nat), .int .u32 ty, .int .u32 res, .slice (some ⟨b, o, none⟩) n cap] 73);by_cases e2 : x.n = 7
   ·rw [e2] at c1 ⊢
    go_enter Tryz.func270, Tryz.ntmps270;go_wp2;go_ret;exact ⟨rfl, hb⟩
   ·have hx7 : (x.n == 7) = false := by simpa using e2
    have t1 : ((x.n : Int) == 7) = false := by rw [beq_eq_false_iff_ne]; omega
    rw [hx7];clear e2;go_enter Tryz.func270, Tryz.ntmps270;go_wp2;go_ret;exact ⟨rfl, hb⟩
 ·have t0 : ((op : Int) == 59) = false := by rw [beq_eq_false_iff_ne]; omega
  have t1 : (op == 59) = false := by simpa using e
  rw [t1];clear e;go_enter Tryz.func270, Tryz.ntmps270;go_wp2;go_ret;exact ⟨rfl, bP (Below.refl _ w) _⟩
def partOf (i : In) : Int := if isVar i then 8 else (aS i.op).part
set_option maxHeartbeats 1000000 in
theorem sQ (i : In) (a : Option Addr) (cap : Nat) (w : World) (h : Sl 3 cz w a i.args) (hl : i.args.length ≤ 1048576) :
  Qc 228 #[qz i a cap] w (.int .u8 (partOf i)) := by
 have c1 := fun W h => wE i a cap W h hl
 have c2 := tH i.op;unfold partOf;unfold qz at c1 ⊢;have HA := hid h;clear h
 cases hv : isVar i
 ·rw [hv] at c1
  simp only [Bool.false_eq_true, if_false];generalize aS i.op = f at c2 ⊢;generalize jL i.op = q at c2;unfold Fm.val Fm.cells at c2;go_enter Tryz.func228, Tryz.ntmps228;have hb := bP (Below.refl _ w) (.cells #[.int .u16 i.op, .int .u32 i.ty, .int .u32 i.res, .slice a i.args.length cap] 73);go_wp2_with (first | (go_at_call 270; (with_reducible refine (c1 _ (HA.out.below cz.lasts hb)).mono ?_); rintro e w1 ⟨rfl, hn1⟩; obtain ⟨x0, x1, x2, x3⟩ := jd ((hn1.block w.heap.size (by simp)).trans (alloc_at w (.cells #[.int .u16 i.op, .int .u32 i.ty, .int .u32 i.res, .slice a i.args.length cap] 73)))) | (go_at_call 266; (with_reducible refine (c2 _).mono ?_); rintro e w2 ⟨rfl, hn2⟩));go_ret;exact ⟨rfl, bP (az (az hb hn1) hn2) _⟩
 ·rw [hv] at c1
  simp only [if_true];go_enter Tryz.func228, Tryz.ntmps228;have hb := bP (Below.refl _ w) (.cells #[.int .u16 i.op, .int .u32 i.ty, .int .u32 i.res, .slice a i.args.length cap] 73);go_wp2_with (first | (go_at_call 270; (with_reducible refine (c1 _ (HA.out.below cz.lasts hb)).mono ?_); rintro e w1 ⟨rfl, hn1⟩));go_ret;exact ⟨rfl, az hb hn1⟩
end Go.Proofs.YtlkolghiknbbfaaGreatDoor
