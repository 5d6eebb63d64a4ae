/- Layout: an instruction's kind; the cutter; what comes next. -/
import Derived.Test.YtlkolghiknbbfaaGreatDoorAe
import Derived.Stop.RegionWithIn
import Derived.Deep.Light
import Derived.Deep.DeepCutAuto
set_option linter.unusedVariables false
set_option linter.unusedSimpArgs false
namespace Go.Proofs.YtlkolghiknbbfaaGreatDoor
open Go.RowKit
def rY (op : Nat) : Bool := decide (249 ≤ op) && decide (op ≤ 255)
theorem JA (op : Nat) (w : World) : Calls Tryz.prog 271 #[.int .u16 op] w fun e w' => e = .returned (.bool (rY op)) ∧ w' = w := by
 unfold rY;by_cases h1 : 249 ≤ op
 ·have t1 : (249 : Int) ≤ op := by omega
  by_cases h2 : op ≤ 255
  ·have t2 : (op : Int) ≤ 255 := by omega
   rw [decide_eq_true h1, decide_eq_true h2];clear h1 h2;go_enter Tryz.func271, Tryz.ntmps271;go_wp2;go_ret;exact ⟨rfl, rfl⟩
  ·have t2 : ¬ ((op : Int) ≤ 255) := by omega
   rw [decide_eq_true h1, decide_eq_false h2];clear h1 h2;go_enter Tryz.func271, Tryz.ntmps271;go_wp2;go_ret;exact ⟨rfl, rfl⟩
 ·have t1 : ¬ ((249 : Int) ≤ op) := by omega
  rw [decide_eq_false h1];clear h1;go_enter Tryz.func271, Tryz.ntmps271;go_wp2;go_ret;exact ⟨rfl, rfl⟩
theorem nL {W : World} {p : Nat} {x y z u : Value} {t : TypeId} (h : W.heap[p]? = some (.cells #[x, y, z, u] t (0, 0))) : W.cell? ⟨p, 0, none⟩ = some x ∧ W.cell? ⟨p, 1, none⟩ = some y ∧ W.cell? ⟨p, 2, none⟩ = some z ∧ W.cell? ⟨p, 3, none⟩ = some u :=
 ⟨(cell_of_row _ _ 0 _ _ _ h).trans rfl, (cell_of_row _ _ 1 _ _ _ h).trans rfl, (cell_of_row _ _ 2 _ _ _ h).trans rfl, (cell_of_row _ _ 3 _ _ _ h).trans rfl⟩
def bO (i : In) : Nat :=
 if partOf i ≠ 8 then 9
 else if i.op = 54 then 1 else if i.op = 55 then 2 else if i.op = 56 then 8 else if i.op = 248 then 3 else if i.op = 245 then 4 else if i.op = 59 then 5
 else if i.op = 246 then 6 else if i.op = 247 then 6 else if rY i.op then 7 else 0
set_option maxHeartbeats 2000000 in
theorem FY (i : In) (a : Option Addr) (cap : Nat) (w : World) (h : Sl 3 cz w a i.args) (hl : i.args.length ≤ 1048576) :
  Qc 229 #[.agg #[.int .u16 i.op, .int .u32 i.ty, .int .u32 i.res, .slice a i.args.length cap]] w (.int .i64 (bO i)) := by
 have c1 := fun W h => sQ i a cap W h hl
 have c2 := fun W => JA i.op W
 obtain ⟨r, hr⟩ : ∃ r, Hid (bO i = r) := ⟨_, hid rfl⟩;rw [hr.out];have hb := bP (Below.refl _ w) (.cells #[.int .u16 i.op, .int .u32 i.ty, .int .u32 i.res, .slice a i.args.length cap] 73);have c1' := c1 _ (h.below cz.lasts hb);unfold qz at c1'
 have hr2 := hid (show bO i = (if partOf i ≠ 8 then 9
 else if i.op = 54 then 1 else if i.op = 55 then 2 else if i.op = 56 then 8 else if i.op = 248 then 3 else if i.op = 245 then 4 else if i.op = 59 then 5
 else if i.op = 246 then 6 else if i.op = 247 then 6 else if rY i.op then 7 else 0) from rfl)
 clear c1 h;generalize partOf i = p at c1' hr2;generalize bO i = q at hr hr2;obtain ⟨op, ty, res, args⟩ := i;simp only at c1' c2 hr2 hb hl ⊢;generalize args.length = n at c1' hb hl ⊢;obtain rfl := hr.out;clear hr;generalize rY op = eo at c2 hr2
 cases eo
 all_goals
  go_enter Tryz.func229, Tryz.ntmps229
  go_wp2_with (first
   | (go_at_call 228; (with_reducible refine c1'.mono ?_); rintro e w1 ⟨rfl, hn1⟩; obtain ⟨x0, x1, x2, x3⟩ := nL ((hn1.block w.heap.size (by simp)).trans (alloc_at w (.cells #[.int .u16 op, .int .u32 ty, .int .u32 res, .slice a n cap] 73))))
   | (go_at_call 271; (with_reducible refine (c2 _).mono ?_); rintro e w2 ⟨rfl, rfl⟩))
 all_goals
  go_ret;refine ⟨Es ?_, by first | exact az hb hn1 | exact az (az hb hn1) (Below.refl _ _)⟩;have h := hr2.out;clear hr2 c1' c2 hb hn1 x0 x1 x2 x3;simp only [bne_iff_ne, ne_eq, beq_iff_eq, beq_eq_false_iff_ne, bne_eq_false_iff_eq, Decidable.not_not, Bool.false_eq_true, if_false, if_true] at *
  (repeat' split at h) <;> omega
theorem jv (w : World) (n : Nat) : Bl w (w.drewN n) := ⟨rfl, rfl, rfl, Nat.le_refl _, fun _ _ => rfl⟩
def upd {α : Type} (f : Nat → α) (j : Nat) (v : α) : Nat → α := fun i => if i = j then v else f i
theorem upd_same {α : Type} (f : Nat → α) (j : Nat) (v : α) : upd f j v j = v := if_pos rfl
theorem Ho {α : Type} (f : Nat → α) {j i : Nat} (v : α) (h : i ≠ j) : upd f j v i = f i := if_neg h
structure Vr (C n : Nat) (t : TypeId) (val : Nat → Value) (W : World) : Prop where
 row : ∃ cs, W.heap[C]? = some (.cells cs t (0, 0)) ∧ cs.size = n ∧ ∀ j, j < n → cs[j]? = some (val j)
theorem Vr.cell {C n : Nat} {t : TypeId} {val : Nat → Value} {W : World} (h : Vr C n t val W) (j : Nat) (hj : j < n) : W.cell? ⟨C, j, none⟩ = some (val j) := by
 obtain ⟨cs, h1, h2, h3⟩ := h.row;exact (cell_of_row _ _ j _ _ _ h1).trans (h3 j hj)
theorem Vr.frozen {C n : Nat} {t : TypeId} {val : Nat → Value} {W : World} (h : Vr C n t val W) (j : Nat) : W.frozen? ⟨C, j, none⟩ = false := by
 obtain ⟨cs, h1, h2, h3⟩ := h.row;exact frozen_of_row _ _ j _ _ h1
theorem Vr.lt {C n : Nat} {t : TypeId} {val : Nat → Value} {W : World} (h : Vr C n t val W) : C < W.heap.size := by
 obtain ⟨cs, h1, h2, h3⟩ := h.row;exact (Array.getElem?_eq_some_iff.1 h1).1
theorem Vr.set {C n : Nat} {t : TypeId} {val : Nat → Value} {W : World} (h : Vr C n t val W) (j : Nat) (v : Value) : Vr C n t (upd val j v) (W.setCell ⟨C, j, none⟩ v) := by
 obtain ⟨cs, h1, h2, h3⟩ := h.row;refine ⟨⟨cs.setIfInBounds j v, heap_setCell_same _ _ j _ _ _ h1, by simpa using h2, fun i hi => ?_⟩⟩;by_cases e : j = i
 ·subst e
  rw [upd_same, Array.getElem?_setIfInBounds_self_of_lt (by omega)]
 ·rw [Ho _ _ (Ne.symm e), Array.getElem?_setIfInBounds_ne e]
  exact h3 i hi
theorem Vr.other {C n : Nat} {t : TypeId} {val : Nat → Value} {W W' : World} (h : Vr C n t val W) (he : W'.heap[C]? = W.heap[C]?) : Vr C n t val W' := by
 obtain ⟨cs, h1, h2, h3⟩ := h.row;exact ⟨⟨cs, he.trans h1, h2, h3⟩⟩
theorem Vr.below {C n k : Nat} {t : TypeId} {val : Nat → Value} {W W' : World} (h : Vr C n t val W) (hb : Below k W W') (hk : C < k) : Vr C n t val W' := h.other (hb.block _ hk)
def Dn (a : Option Addr) (n cap pos : Nat) (ps : Nat → Int) (fv : Value) : Nat → Value := fun j =>
 if j = 0 then .slice a n cap else if j = 1 then .int .i64 pos else if j = 22 then fv else .int .i64 (ps (j - 2))
abbrev Cu (C : Nat) (a : Option Addr) (n cap pos : Nat) (ps : Nat → Int) (fv : Value) (W : World) : Prop := Vr C 23 178 (Dn a n cap pos ps fv) W
def bC (l : List In) (pos : Nat) : Int := if h : pos < l.length then (bO l[pos] : Int) else -1
set_option maxRecDepth 100000 in
theorem lY (C : Nat) (a : Option Addr) (cap pos : Nat) (ps : Nat → Int) (fv : Value) (l : List In) (w : World) (h : Cu C a l.length cap pos ps fv w) (hl : Sl 4 fO w a l) (hp : pos ≤ l.length) (hn : l.length ≤ 2000) :
  Qc 184 #[.pointer (some ⟨C, 0, none⟩)] w (.int .i64 (bC l pos)) := by
 have c0 : w.cell? ⟨C, 0, none⟩ = some (.slice a l.length cap) := h.cell 0 (by omega);have c1 : w.cell? ⟨C, 1, none⟩ = some (.int .i64 pos) := h.cell 1 (by omega);clear h;by_cases hlt : pos < l.length
 ·obtain ⟨b, o, rfl, hbl, hc⟩ := hl.at_ (by omega)
  obtain ⟨e0, e1, e2, ⟨aa, ca, e3, hsl⟩, -, -, -, hal⟩ := hc pos hlt;have t0 : ((pos : Int) == l.length) = false := by rw [beq_eq_false_iff_ne]; omega
  have i1 : (pos : Int) < (l.length : Int) := by omega
  have ck : ∀ W, Bl w W → Qc 229 #[.agg #[.int .u16 l[pos].op, .int .u32 l[pos].ty, .int .u32 l[pos].res, .slice aa l[pos].args.length ca]] W (.int .i64 (bO l[pos])) := fun W hb => FY l[pos] aa ca W (hsl.below cz.lasts hb) hal
  unfold bC;rw [dif_pos hlt];generalize bO l[pos] = kd at ck ⊢;clear hc hsl hal hl;generalize l[pos] = i at ck e0 e1 e2 e3;obtain ⟨op, ty, res, args⟩ := i;simp only at ck e0 e1 e2 e3;generalize args.length = na at ck e3;go_enter Tryz.func184, Tryz.ntmps184;go_wp2;go_quiet (fail);go_wp2;go_region_with (go_at_call 229; (with_reducible refine (ck _ (by exact jv w _)).mono ?_); rintro e w1 ⟨rfl, hn1⟩; replace hn1 := hid hn1)
  all_goals
   go_wp2_with fail;go_ret;exact ⟨rfl, by first | exact az (jv w _) hn1.out | exact bB (az (jv w _) hn1.out)⟩
 ·obtain rfl : pos = l.length := by omega
  unfold bC;rw [dif_neg hlt];have t0 : ((l.length : Int) == l.length) = true := by simp
  go_enter Tryz.func184, Tryz.ntmps184;go_wp2;go_quiet (fail);go_wp2;go_ret;exact ⟨rfl, jv w nq⟩
structure Only (g : Nat) (w w' : World) : Prop where
 os : w'.os = w.os
 tape : w'.tape = w.tape
 output : w'.output = w.output
 size : w.heap.size ≤ w'.heap.size
 block : ∀ k, k < w.heap.size → k ≠ g → w'.heap[k]? = w.heap[k]?
theorem Only.refl (g : Nat) (w : World) : Only g w w := ⟨rfl, rfl, rfl, Nat.le_refl _, fun _ _ _ => rfl⟩
theorem Only.trans {g : Nat} {w w' W : World} (h : Only g w w') (k : Only g w' W) : Only g w W :=
 ⟨k.os.trans h.os, k.tape.trans h.tape, k.output.trans h.output, Nat.le_trans h.size k.size, fun b hb hg => (k.block b (Nat.lt_of_lt_of_le hb h.size) hg).trans (h.block b hb hg)⟩
theorem Only.of {g : Nat} {w w' : World} (h : Bl w w') : Only g w w' := ⟨h.os, h.tape, h.output, h.size, fun k hk _ => h.block k hk⟩
theorem Only.below {g B : Nat} {w w' : World} (h : Only g w w') (hg : B ≤ g) (hB : B ≤ w.heap.size) : Below B w w' := ⟨h.os, h.tape, h.output, h.size, fun k hk => h.block k (by omega) (by omega)⟩
theorem Only.set {g : Nat} (w : World) (j : Nat) (v : Value) : Only g w (w.setCell ⟨g, j, none⟩ v) := ⟨rfl, rfl, rfl, by rw [World.size_setCell]; exact Nat.le_refl _, fun k _ hk => heap_setCell_other w ⟨g, j, none⟩ k v hk⟩
theorem Only.drew {g : Nat} {w w' : World} (h : Only g w w') : Only g w w'.drew := ⟨h.os, h.tape, h.output, h.size, h.block⟩
theorem Only.grown {g : Nat} {w W W' : World} {row : Option Nat} (h : Only g w W) (hg : W.grownBy W' row) (hr : ∀ k, row = some k → w.heap.size ≤ k) : Only g w W' :=
 ⟨hg.os.trans h.os, hg.tape.trans h.tape, hg.output.trans h.output, Nat.le_trans h.size hg.size, fun k hk hkg => (hg.block k (Nat.lt_of_lt_of_le hk h.size) (fun e => by have := hr _ e.symm; omega)).trans (h.block k hk hkg)⟩
theorem nM {w0 w w' : World} {g : Nat} (hb : Bl w0 w) (h : Only g w w') (hg : w0.heap.size ≤ g) : Bl w0 w' := hb.trans (h.below hg hb.size)
theorem oH {a : Option Addr} {n cap pos : Nat} {ps : Nat → Int} {fv : Value} (q : Nat) : upd (Dn a n cap pos ps fv) 1 (.int .i64 q) = Dn a n cap q ps fv := by
 funext j
 unfold upd Dn;by_cases h : j = 1
 ·subst h; rfl
 ·rw [if_neg h]; by_cases h0 : j = 0 <;> simp [h0, h]
theorem pI : El 128 3 1 8 := El.of Tryz.underlying128 (z := .int .i64 0) (by kernel_rfl) rfl (by omega)
def Ng : Value → Nat
 | .slice _ n _ => n
 | _ => 0
set_option maxRecDepth 100000 in
set_option maxHeartbeats 2000000 in
theorem sH (w0 : World) (C kk pos e : Nat) (a : Option Addr) (cap : Nat) (ps : Nat → Int) (fv : Value) (l : List In) (w : World) (h0 : Sl 4 fO w0 a l) (hb : Bl w0 w) (hC : w0.heap.size ≤ C) (h : Cu C a l.length cap pos ps fv w)
  (hpe : pos ≤ e) (hel : e ≤ l.length) (hn : l.length ≤ 2000) (hk : ∀ j, pos ≤ j → j < e → bC l j = kk) (hk2 : bC l e ≠ kk) :
  Calls Tryz.prog 185 #[.pointer (some ⟨C, 0, none⟩), .int .i64 kk] w fun r w' => (∃ v, r = .returned v ∧ (pos = e → v = .slice none 0 0)) ∧ Cu C a l.length cap e ps fv w' ∧ Only C w w' := by
 have cN : ∀ (p : Nat) (W : World), p ≤ l.length → Bl w0 W → Cu C a l.length cap p ps fv W → Qc 184 #[.pointer (some ⟨C, 0, none⟩)] W (.int .i64 (bC l p)) := fun p W hp hW hc => lY C a cap p ps fv l W hc (h0.below fO.lasts hW) hp hn
 have HB := hid hb;have HC := hid h;clear hb h h0;go_enter Tryz.func185, Tryz.ntmps185;go_wp2;go_loopw [5] (fun v wr => ∃ (k : Nat) (xs : List Value), pos ≤ k ∧ k ≤ e ∧ Cu C a l.length cap k ps fv wr ∧ wr.ownsRow w.heap.size 3 1 v (k - pos) xs ∧ Only C w wr ∧ (k = pos → v = .slice none 0 0)) (fun v _ => e - pos - Ng v)
 case atStart => exact ⟨pos, [], Nat.le_refl _, hpe, HC.out, by rw [Nat.sub_self]; exact World.ownsRow_nil _ _ _ _, Only.refl _ _, fun _ => rfl⟩
 case round =>
  obtain ⟨k, xs, hk0, hk1, hc, ho, hon, hv⟩ := hrel;have hcl := hc.lt;have c0 := cN k wr (by omega) (nM HB.out hon hC) hc;obtain ⟨av, cv, rfl, hx⟩ := fA ho;have HO := hid ho;have HT := hid hon;have HU := hid hc;have HK := hid hk;have HV := hid hv;clear hx ho hon hc hk hv;by_cases hlt : k < e
  ·rw [HK.out k hk0 hlt] at c0
   clear hk2
   go_wp2_with (first
    | (go_at_call 184; (with_reducible refine c0.mono ?_); rintro r w1 ⟨rfl, hn1⟩; have hu := HU.out.below hn1 hcl; have q1 : w1.cell? ⟨C, 1, none⟩ = some (.int .i64 k) := hu.cell 1 (by omega); have HU1 := hid hu; have HN1 := hid hn1; clear hn1 hu)
    | ((with_reducible refine aA ?_); refine mU pI rfl _ _ rfl w.heap.size (.slice av (k - pos) cv) (k - pos) xs rfl (own_below HO.out HN1.out) #[.int .i64 k] w1.heap.size rfl rfl rfl (by simp [Value.oneCell']) (by omega) (by omega) (Nat.le_trans HT.out.size HN1.out.size) ?_; intro g1 p1 w2 k1 k2 k3 k4; have hne : ∀ j, (Value.slice av (k - pos) cv).ownBlock = some j → w.heap.size ≤ j := (fun j e => (HO.out.lt _ e).1); have hu2 := HU1.out.other (k2.block C (by have := HN1.out.size; omega) (fun e => by have := hne _ e.symm; have := HC.out.lt; omega)); have hon2 := (HT.out.trans (Only.of (g := C) HN1.out)).grown k2 hne; clear q1; have q1 : w2.cell? ⟨C, 1, none⟩ = some (.int .i64 k) := hu2.cell 1 (by omega); have q2 := hu2.frozen 1; have HU2 := hid hu2; have HT2 := hid hon2; have HO2 := hid k1; clear k1 k2 k3 k4 hu2 hon2 hne))
   refine ⟨⟨k + 1, _, by omega, by omega, ?_, by rw [show k + 1 - pos = k - pos + 1 by omega]; exact gL 1 HO2.out (fun e => by have := (HO2.out.lt _ e).1; have := HC.out.lt; omega), HT2.out.trans (Only.set _ _ _), fun e => by omega⟩, by simp [Ng]; omega⟩;have h2 := HU2.out.set 1 (.int .i64 ((k + 1 : Nat) : Int));rw [oH] at h2;exact h2
  ·obtain rfl : k = e := by omega
   have t0 : (bC l k == (kk : Int)) = false := by rw [beq_eq_false_iff_ne]; exact hk2
   clear hk2;generalize bC l k = z at c0 t0
   go_wp2_with (first
    | (go_at_call 184; (with_reducible refine c0.mono ?_); rintro r w1 ⟨rfl, hn1⟩; have hu := HU.out.below hn1 hcl; have HU1 := hid hu; have HN1 := hid hn1; clear hn1 hu))
   go_ret;exact ⟨⟨_, rfl, fun e => HV.out e.symm⟩, HU1.out, HT.out.trans (Only.of HN1.out)⟩
structure But (g h : Nat) (w w' : World) : Prop where
 os : w'.os = w.os
 tape : w'.tape = w.tape
 output : w'.output = w.output
 size : w.heap.size ≤ w'.heap.size
 block : ∀ k, k < w.heap.size → k ≠ g → k ≠ h → w'.heap[k]? = w.heap[k]?
theorem But.refl (g h : Nat) (w : World) : But g h w w := ⟨rfl, rfl, rfl, Nat.le_refl _, fun _ _ _ _ => rfl⟩
theorem But.trans {g h : Nat} {w w' W : World} (x : But g h w w') (k : But g h w' W) : But g h w W :=
 ⟨k.os.trans x.os, k.tape.trans x.tape, k.output.trans x.output, Nat.le_trans x.size k.size, fun b hb hg hh => (k.block b (Nat.lt_of_lt_of_le hb x.size) hg hh).trans (x.block b hb hg hh)⟩
theorem But.of {g h : Nat} {w w' : World} (x : Bl w w') : But g h w w' := ⟨x.os, x.tape, x.output, x.size, fun k hk _ _ => x.block k hk⟩
theorem But.only {g h : Nat} {w w' : World} (x : Only g w w') : But g h w w' := ⟨x.os, x.tape, x.output, x.size, fun k hk hg _ => x.block k hk hg⟩
theorem But.only2 {g h : Nat} {w w' : World} (x : Only h w w') : But g h w w' := ⟨x.os, x.tape, x.output, x.size, fun k hk _ hh => x.block k hk hh⟩
theorem But.below {g h B : Nat} {w w' : World} (x : But g h w w') (hg : B ≤ g) (hh : B ≤ h) (hB : B ≤ w.heap.size) : Below B w w' := ⟨x.os, x.tape, x.output, x.size, fun k hk => x.block k (by omega) (by omega) (by omega)⟩
theorem NE : El 135 207 3 24 := El.of Tryz.underlying135 (z := .agg #[.int .u32 0, .int .i64 0, .int .i64 0]) (by kernel_rfl) rfl (by omega)
theorem mI {w : World} {ops : Array Oper} {o : Oper} {a : Act} {K : Act → World → Prop} {Q : Exit → Act → World → Prop} {Ec : Prop} {t e : TypeId} {sz bytes : Nat} (E : El t e sz bytes) (hgd : o.guard = none) (s x : Operand)
  (ho : o.op = .call { callee := .builtin .append, args := #[s, x], argTypes := #[t, t] }) (hs : a.eval s = .slice none 0 0) (news : Array Value) (H : Nat) (hx : a.eval x = .slice (some ⟨H, 0, none⟩) 1 1) (hr : w.heap[H]? = some (.cells news e (0, 0))) (hl : news.size = sz) (h1 : ∀ u ∈ news.toList, u.oneCell' = true) (hsmall : bytes ≤ 140737488355328)
  (h : ∀ g cap w', w'.ownsRow w.heap.size e sz (.slice (some ⟨g, 0, none⟩) 1 cap) 1 news.toList → Bl w w' → g = w.heap.size → g < w'.heap.size → K (a.put o.dst (.slice (some ⟨g, 0, none⟩) 1 cap)) w') :
  if Region.wanted o (yielded ops a.tmps) = true then Oper.wp Tryz.prog o a w K Q else Ec := by
 obtain ⟨i, z, hi, hz0, hz1, hz2, hz3⟩ := E.info;refine step_append_lies w hgd s x t ho w.heap.size e i z sz bytes E.slice hi hz0 hz1 hz2 hz3 E.pos (.slice none 0 0) 0 [] hs (World.ownsRow_nil _ _ _ _) ⟨H, 0, none⟩ 1 1 news.toList hx (by simpa using hl) (World.news_of_block hr) h1 (by omega) (by unfold maxLen; omega) (by simpa using hsmall) (Nat.le_refl _) _ rfl ?_;intro g cap w' k1 k2 k3 k4;exact h g cap w' k1 ((Below.refl _ w).grown k2 (Nat.le_refl _) (fun k e => by simp [Value.ownBlock] at e)) (k3.elim (fun e => by cases e) id) k4
structure mZ (C F K : Nat) (a : Option Addr) (n cap pos : Nat) (ps : Nat → Int) (fv : Value) (bl fc : Array Value) (w W : World) : Prop where
 cu : Cu C a n cap pos ps fv W
 k : W.heap[K]? = some (.cells bl 207 (0, 0))
 f : W.heap[F]? = some (.cells fc 137 (0, 0))
 but : But C F w W
section
variable {C F K n cap pos : Nat} {a : Option Addr} {ps : Nat → Int} {fv : Value} {bl fc : Array Value} {w W W' : World}
theorem mZ.then (h : mZ C F K a n cap pos ps fv bl fc w W) (hb : Bl W W') : mZ C F K a n cap pos ps fv bl fc w W' :=
 ⟨h.cu.below hb h.cu.lt, (hb.block K (Array.getElem?_eq_some_iff.1 h.k).1).trans h.k, (hb.block F (Array.getElem?_eq_some_iff.1 h.f).1).trans h.f, h.but.trans (But.of hb)⟩
theorem mZ.only (h : mZ C F K a n cap pos ps fv bl fc w W) {q : Nat} (hc : Cu C a n cap q ps fv W') (ho : Only C W W') (hK : K ≠ C) (hF : F ≠ C) : mZ C F K a n cap q ps fv bl fc w W' :=
 ⟨hc, (ho.block K (Array.getElem?_eq_some_iff.1 h.k).1 hK).trans h.k, (ho.block F (Array.getElem?_eq_some_iff.1 h.f).1 hF).trans h.f, h.but.trans (But.only ho)⟩
theorem mZ.setPos (h : mZ C F K a n cap pos ps fv bl fc w W) (q : Nat) {v : Int} (hv : v = q) (hK : K ≠ C) (hF : F ≠ C) : mZ C F K a n cap q ps fv bl fc w (W.setCell ⟨C, 1, none⟩ (.int .i64 v)) := by
 subst hv;have h2 := h.cu.set 1 (.int .i64 (q : Int));rw [oH] at h2;exact h.only h2 (Only.set _ _ _) hK hF
theorem mZ.setK (h : mZ C F K a n cap pos ps fv bl fc w W) (j : Nat) (v : Value) (hK : w.heap.size ≤ K) (hC : C ≠ K) (hF : F ≠ K) : mZ C F K a n cap pos ps fv (bl.setIfInBounds j v) fc w (W.setCell ⟨K, j, none⟩ v) :=
 ⟨h.cu.other (heap_setCell_other W ⟨K, j, none⟩ C v hC), heap_setCell_same _ _ j _ _ _ h.k, (heap_setCell_other W ⟨K, j, none⟩ F v hF).trans h.f,
  ⟨h.but.os, h.but.tape, h.but.output, by rw [World.size_setCell]; exact h.but.size, fun i hi hg hh => (heap_setCell_other W ⟨K, j, none⟩ i v (by show i ≠ K; omega)).trans (h.but.block i hi hg hh)⟩⟩
theorem mZ.cells (h : mZ C F K a n cap pos ps fv bl fc w W) : W.cell? ⟨C, 0, none⟩ = some (.slice a n cap) ∧ W.cell? ⟨C, 1, none⟩ = some (.int .i64 pos) ∧ W.frozen? ⟨C, 1, none⟩ = false ∧ C < W.heap.size ∧ F < W.heap.size ∧ K < W.heap.size :=
 ⟨h.cu.cell 0 (by omega), h.cu.cell 1 (by omega), h.cu.frozen 1, h.cu.lt, (Array.getElem?_eq_some_iff.1 h.f).1, (Array.getElem?_eq_some_iff.1 h.k).1⟩
end
structure wG (C F pos m id fat lab : Nat) (a : Option Addr) (n cap : Nat) (ps : Nat → Int) (fv pv : Value) (w w' : World) : Prop where
 cu : Cu C a n cap (m + 1) ps fv w'
 but : But C F w w'
 blk : ∃ g c2, w'.heap[F]? = some (.cells #[.int .u32 id, .int .i64 fat, pv, .slice (some ⟨g, 0, none⟩) 1 c2, .int .i64 0] 137 (0, 0)) ∧ w.heap.size ≤ g ∧ g < w'.heap.size ∧ w'.cell? ⟨g, 0, none⟩ = some (.int .u32 lab) ∧ w'.cell? ⟨g, 1, none⟩ = some (.int .i64 pos) ∧ w'.cell? ⟨g, 2, none⟩ = some (.int .i64 ((m : Int) + 1))
theorem Lf {C F pos m id fat lab n cap p5 g5 : Nat} {a : Option Addr} {ps : Nat → Int} {fv pv : Value} {w W4 w5 : World} (hCF : C ≠ F) (h5 : mZ C F w.heap.size a n cap (m + 1) ps fv #[.int .u32 lab, .int .i64 pos, .int .i64 ((m : Int) + 1)] #[.int .u32 id, .int .i64 fat, pv, .slice none 0 0, .int .i64 0] w w5)
  (o5 : w5.ownsRow (W4.heap.size + 1) 207 3 (.slice (some ⟨g5, 0, none⟩) 1 p5) 1 [.int .u32 lab, .int .i64 pos, .int .i64 ((m : Int) + 1)]) (hg : g5 = W4.heap.size + 1) (hlt : g5 < w5.heap.size) (hF : F < W4.heap.size) (hw : w.heap.size ≤ W4.heap.size) :
  wG C F pos m id fat lab a n cap ps fv pv w (w5.setCell ⟨F, 3, none⟩ (.slice (some ⟨g5, 0, none⟩) 1 p5)) := by
 have hcell : ∀ i, (w5.setCell ⟨F, 3, none⟩ (.slice (some ⟨g5, 0, none⟩) 1 p5)).cell? ⟨g5, i, none⟩ = w5.cell? ⟨g5, i, none⟩ := fun i => World.cell?_of_block (a := ⟨g5, i, none⟩) (heap_setCell_other w5 ⟨F, 3, none⟩ g5 _ (by show g5 ≠ F; omega))
 have hown : ∀ j u, [Value.int .u32 lab, .int .i64 pos, .int .i64 ((m : Int) + 1)][j]? = some u → w5.cell? ⟨g5, j, none⟩ = some u := fun j u hu => by
  have := o5.cells (g := g5) rfl j u hu
  rwa [bH, Nat.zero_add] at this
 exact ⟨h5.cu.other (heap_setCell_other w5 ⟨F, 3, none⟩ C _ hCF), h5.but.trans (But.only2 (Only.set w5 3 _)), g5, p5, heap_setCell_same w5 F 3 _ _ _ h5.f, by omega, by rw [World.size_setCell]; exact hlt, (hcell 0).trans (hown 0 _ rfl), (hcell 1).trans (hown 1 _ rfl), (hcell 2).trans (hown 2 _ rfl)⟩
set_option maxRecDepth 100000 in
set_option maxHeartbeats 4000000 in
theorem Hf (w0 : World) (C F pos m id fat : Nat) (a : Option Addr) (cap : Nat) (ps : Nat → Int) (fv pv : Value) (l : List In) (w : World) (h0 : Sl 4 fO w0 a l) (hb : Bl w0 w) (hC : w0.heap.size ≤ C) (hF : w0.heap.size ≤ F) (hCF : C ≠ F) (h : Cu C a l.length cap pos ps fv w)
  (hf : w.heap[F]? = some (.cells #[.int .u32 id, .int .i64 fat, pv, .slice none 0 0, .int .i64 0] 137 (0, 0))) (hn : l.length ≤ 2000) (hm : m < l.length) (hpm : pos + 1 ≤ m) (hk5 : bC l (pos + 1) ≠ 5) (hk : ∀ j, pos + 1 ≤ j → j < m → bC l j = 0) (hk7 : bC l m = 7) :
  Calls Tryz.prog 186 #[.pointer (some ⟨C, 0, none⟩), .pointer (some ⟨F, 0, none⟩)] w fun r w' => r = .returned (.bool true) ∧ wG C F pos m id fat (l.getD pos ai).res a l.length cap ps fv pv w w' := by
 have hgd : l.getD pos ai = l[pos]'(by omega) := by rw [List.getD_eq_getElem?_getD, List.getElem?_eq_getElem (by omega)]; rfl
 obtain ⟨b, o, rfl, hbl, hc⟩ := (h0.below fO.lasts hb).at_ (by omega);obtain ⟨e0, e1, e2, -⟩ := hc pos (by omega);rw [hgd];generalize (l[pos]'(by omega)).res = lab at e2 ⊢;have c0 : w.cell? ⟨C, 0, none⟩ = some (.slice (some ⟨b, o, none⟩) l.length cap) := h.cell 0 (by omega);have c1 : w.cell? ⟨C, 1, none⟩ = some (.int .i64 pos) := h.cell 1 (by omega);have f1 := h.frozen 1;have zC := h.lt;have i1 : (pos : Int) < (l.length : Int) := by omega
 have H := hid h;have HF := hid hf;have zF : F < w.heap.size := (Array.getElem?_eq_some_iff.1 hf).1;have hKC : w.heap.size ≠ C := by omega
 have hKF : w.heap.size ≠ F := by omega
 have hFC : F ≠ C := Ne.symm hCF;have hu0 := h.set 1 (.int .i64 ((pos + 1 : Nat) : Int));rw [oH] at hu0;have hk0 := alloc_at (w.setCell ⟨C, 1, none⟩ (.int .i64 ((pos : Int) + 1))) (.cells #[.int .u32 lab, .int .i64 pos, .int .i64 0] 207);rw [World.size_setCell] at hk0;have HS : Hid (mZ C F w.heap.size (some ⟨b, o, none⟩) l.length cap (pos + 1) ps fv #[.int .u32 lab, .int .i64 pos, .int .i64 0] #[.int .u32 id, .int .i64 fat, pv, .slice none 0 0, .int .i64 0] w ((w.setCell ⟨C, 1, none⟩ (.int .i64 ((pos : Int) + 1))).alloc (.cells #[.int .u32 lab, .int .i64 pos, .int .i64 0] 207)).drew) := hid
  ⟨Vr.below hu0 (bB (bP (Below.refl _ _) _)) (by rw [World.size_setCell]; exact zC), hk0, (Below.heap_alloc _ _ F (by rw [World.size_setCell]; exact zF)).trans ((heap_setCell_other w ⟨C, 1, none⟩ F _ hFC).trans hf), (But.only (Only.set w 1 _)).trans (But.of (bB (bP (Below.refl _ _) _)))⟩
 have hB0 := hid hb;have cR5 : ∀ W, Bl w0 W → Cu C (some ⟨b, o, none⟩) l.length cap (pos + 1) ps fv W → Calls Tryz.prog 185 #[.pointer (some ⟨C, 0, none⟩), .int .i64 5] W fun r w' => (∃ v, r = .returned v) ∧ Cu C (some ⟨b, o, none⟩) l.length cap (pos + 1) ps fv w' ∧ Only C W w' := fun W hW hc => (sH w0 C 5 (pos + 1) (pos + 1) _ cap ps fv l W h0 hW hC hc (Nat.le_refl _) (by omega) hn (fun j h1 h2 => by omega) hk5).mono fun r w' h => ⟨⟨_, h.1.choose_spec.1⟩, h.2⟩
 have cR0 : ∀ W, Bl w0 W → Cu C (some ⟨b, o, none⟩) l.length cap (pos + 1) ps fv W → Calls Tryz.prog 185 #[.pointer (some ⟨C, 0, none⟩), .int .i64 0] W fun r w' => (∃ v, r = .returned v) ∧ Cu C (some ⟨b, o, none⟩) l.length cap m ps fv w' ∧ Only C W w' := fun W hW hc => (sH w0 C 0 (pos + 1) m _ cap ps fv l W h0 hW hC hc hpm (by omega) hn hk (by rw [hk7]; decide)).mono fun r w' h => ⟨⟨_, h.1.choose_spec.1⟩, h.2⟩
 have cN : ∀ W, Bl w0 W → Cu C (some ⟨b, o, none⟩) l.length cap m ps fv W → Qc 184 #[.pointer (some ⟨C, 0, none⟩)] W (.int .i64 7) := fun W hW hc => by
  have := lY C _ cap m ps fv l W hc (h0.below fO.lasts hW) (by omega) hn;rw [hk7] at this;exact this
 have hBut : ∀ W, But C F w W → Bl w0 W := fun W hW => hB0.out.trans (hW.below hC hF hB0.out.size)
 clear e0 e1 hc hgd h hf hb hk hk5 hk7 h0 hu0 hk0;have q3 : w.cell? ⟨F, 3, none⟩ = some (.slice none 0 0) := (cell_of_row _ _ 3 _ _ _ HF.out).trans rfl;go_enter Tryz.func186, Tryz.ntmps186;go_wp2;go_region
 go_wp2_with (first
  | (go_at_call 185; (with_reducible refine (cR5 _ (hBut _ HS.out.but) HS.out.cu).mono ?_); rintro r w1 ⟨⟨v, rfl⟩, hu, ho⟩; replace HS := hid (HS.out.only hu ho hKC hFC); clear hu ho cR5)
  | (go_at_call 185; (with_reducible refine (cR0 _ (hBut _ HS.out.but) HS.out.cu).mono ?_); rintro r w2 ⟨⟨v2, rfl⟩, hu, ho⟩; replace HS := hid (HS.out.only hu ho hKC hFC); clear hu ho cR0)
  | (go_at_call 184; (with_reducible refine (cN _ (hBut _ HS.out.but) HS.out.cu).mono ?_); rintro r w3 ⟨rfl, hn3⟩; replace HS := hid (HS.out.then hn3); clear c0 c1 f1 i1 zC zF q3 hn3; obtain ⟨c0, c1, f1, zC, zF, zK⟩ := HS.out.cells; have f2 := frozen_of_row _ _ 2 _ _ HS.out.k; have q2 : w3.cell? ⟨w.heap.size, 2, none⟩ = some (.int .i64 0) := (cell_of_row _ _ 2 _ _ _ HS.out.k).trans rfl))
 have hK := Nat.le_refl w.heap.size;have H4 := hid ((HS.out.setPos (m + 1) (v := (m : Int) + 1) rfl hKC hFC).setK 2 (.int .i64 ((m : Int) + 1)) hK (Ne.symm hKC) (Ne.symm hKF));generalize ((w3.setCell ⟨C, 1, none⟩ (.int .i64 ((m : Int) + 1))).setCell ⟨w.heap.size, 2, none⟩ (.int .i64 ((m : Int) + 1))) = W4 at H4 ⊢;have r4 : W4.heap[w.heap.size]? = some (.cells #[.int .u32 lab, .int .i64 pos, .int .i64 ((m : Int) + 1)] 207 (0, 0)) := H4.out.k;clear HS c0 c1 f1 zC zF zK f2 q2;have x0 : W4.cell? ⟨w.heap.size, 0, none⟩ = some (.int .u32 lab) := (cell_of_row _ _ 0 _ _ _ r4).trans rfl;have x1 : W4.cell? ⟨w.heap.size, 1, none⟩ = some (.int .i64 pos) := (cell_of_row _ _ 1 _ _ _ r4).trans rfl;have x2 : W4.cell? ⟨w.heap.size, 2, none⟩ = some (.int .i64 ((m : Int) + 1)) := (cell_of_row _ _ 2 _ _ _ r4).trans rfl;have q3 : W4.cell? ⟨F, 3, none⟩ = some (.slice none 0 0) := (cell_of_row _ _ 3 _ _ _ H4.out.f).trans rfl;have f3 := frozen_of_row _ _ 3 _ _ H4.out.f;obtain ⟨-, -, -, zC, zF, zK⟩ := H4.out.cells;clear r4;go_region_law (refine mI (w := (W4.alloc (.cells #[.int .u32 lab, .int .i64 pos, .int .i64 ((m : Int) + 1)] 207)).drew) NE rfl (.tmp 100) (.tmp 102) rfl ?_ #[.int .u32 lab, .int .i64 pos, .int .i64 ((m : Int) + 1)] W4.heap.size ?_ ?_ rfl ?_ ?_ ?_; (first | rfl | simp [Act.eval, Act.put]); (first | rfl | simp [Act.eval, Act.put]); exact alloc_at W4 _; simp [Value.oneCell']; omega; intro g5 p5 w5 k1 k2 k3 k4; have hb5 := hid (az (bB (bP (Below.refl _ W4) (.cells #[.int .u32 lab, .int .i64 pos, .int .i64 ((m : Int) + 1)] 207))) k2); have h5 := hid (H4.out.then hb5.out); have q5 : w5.cell? ⟨F, 3, none⟩ = some (.slice none 0 0) := (cell_of_row _ _ 3 _ _ _ h5.out.f).trans rfl; have f5 := frozen_of_row _ _ 3 _ _ h5.out.f; have o5 := hid k1; have g5l := hid k3; have g5h := hid k4; clear k1 k2 k3 k4)
 all_goals
  go_wp2;go_ret;have hgs := g5l.out;have hos := o5.out;have hsz : (W4.alloc (.cells #[.int .u32 lab, .int .i64 pos, .int .i64 ((m : Int) + 1)] 207)).drew.heap.size = W4.heap.size + 1 := by show (W4.heap.push _).size = _; simp
  rw [hsz] at hgs hos;exact ⟨rfl, Lf hCF h5.out hos hgs g5h.out zF (Nat.le_of_lt zK)⟩
structure Ms (w : World) (b o : Nat) (l : List In) (sv : Nat → Option Addr × Nat) : Prop where
 lt : b < w.heap.size
 op : ∀ k (h : k < l.length), w.cell? ⟨b, o + k * 4, none⟩ = some (.int .u16 l[k].op)
 ty : ∀ k (h : k < l.length), w.cell? ⟨b, o + k * 4 + 1, none⟩ = some (.int .u32 l[k].ty)
 res : ∀ k (h : k < l.length), w.cell? ⟨b, o + k * 4 + 2, none⟩ = some (.int .u32 l[k].res)
 args : ∀ k (h : k < l.length), w.cell? ⟨b, o + k * 4 + 3, none⟩ = some (.slice (sv k).1 l[k].args.length (sv k).2)
 sl : ∀ k (h : k < l.length), Sl 3 cz w (sv k).1 l[k].args
 op_lt : ∀ k (h : k < l.length), l[k].op < 65536
 ty_lt : ∀ k (h : k < l.length), l[k].ty < 4294967296
 res_lt : ∀ k (h : k < l.length), l[k].res < 4294967296
 len : ∀ k (h : k < l.length), l[k].args.length ≤ 1048576
theorem Ms.of {w : World} {a : Option Addr} {l : List In} (h : Sl 4 fO w a l) (hp : 0 < l.length) : ∃ b o sv, a = some ⟨b, o, none⟩ ∧ Ms w b o l sv := by
 obtain ⟨b, o, ha, hlt, hc⟩ := h.at_ hp;have hx : ∀ k, ∃ s : Option Addr × Nat, ∀ h : k < l.length, w.cell? ⟨b, o + k * 4 + 3, none⟩ = some (.slice s.1 l[k].args.length s.2) ∧ Sl 3 cz w s.1 l[k].args := fun k => by
  by_cases hk : k < l.length
  ·obtain ⟨x, c, h1, h2⟩ := (hc k hk).args
   exact ⟨(x, c), fun _ => ⟨h1, h2⟩⟩
  ·exact ⟨(none, 0), fun h => absurd h hk⟩
 exact ⟨b, o, fun k => (hx k).choose, ha, hlt, fun k hk => (hc k hk).op, fun k hk => (hc k hk).ty, fun k hk => (hc k hk).res, fun k hk => ((hx k).choose_spec hk).1, fun k hk => ((hx k).choose_spec hk).2, fun k hk => (hc k hk).op_lt, fun k hk => (hc k hk).ty_lt, fun k hk => (hc k hk).res_lt, fun k hk => (hc k hk).args_lt⟩
theorem Ms.below {w w' : World} {b o : Nat} {l : List In} {sv : Nat → Option Addr × Nat} (h : Ms w b o l sv) (hb : Bl w w') : Ms w' b o l sv :=
 ⟨Nat.lt_of_lt_of_le h.lt hb.size, fun k hk => ae (h.op k hk) h.lt hb, fun k hk => ae (h.ty k hk) h.lt hb, fun k hk => ae (h.res k hk) h.lt hb, fun k hk => ae (h.args k hk) h.lt hb, fun k hk => (h.sl k hk).below cz.lasts hb, h.op_lt, h.ty_lt, h.res_lt, h.len⟩
theorem Ms.back {w : World} {b o : Nat} {l : List In} {sv : Nat → Option Addr × Nat} (h : Ms w b o l sv) : Sl 4 fO w (some ⟨b, o, none⟩) l :=
 ⟨fun _ => ⟨b, o, rfl, h.lt, fun k hk => ⟨h.op k hk, h.ty k hk, h.res k hk, ⟨_, _, h.args k hk, h.sl k hk⟩, h.op_lt k hk, h.ty_lt k hk, h.res_lt k hk, h.len k hk⟩⟩⟩
def jl (i : In) (k : Nat) : List Nat := (if i.ty = 0 then [] else [i.ty]) ++ (((i.args.take k).filter fun a => a.kind == 1).map Ag.n)
def aX (i : In) : List Nat := jl i i.args.length
theorem Ct {i : In} {k : Nat} (hk : k < i.args.length) : jl i (k + 1) = if i.args[k].kind = 1 then jl i k ++ [i.args[k].n] else jl i k := by
 unfold jl;rw [List.take_add_one, List.getElem?_eq_getElem hk, List.filter_append, List.map_append, ← List.append_assoc];by_cases h : i.args[k].kind = 1 <;> simp [h]
theorem kH (i : In) (k : Nat) : (jl i k).length ≤ k + 1 := by
 unfold jl;have h1 := List.length_filter_le (fun a : Ag => a.kind == 1) (i.args.take k);have h2 := List.length_take_le k i.args;rw [List.length_append, List.length_map]
 split <;> simp <;> omega
abbrev ED (w : World) (base : Nat) (v : Value) (l : List Nat) : Prop := w.ownsRow base 22 1 v l.length (l.map fun x : Nat => Value.int .u32 (x : Int))
structure qL (B : Nat) (a : Option Addr) (cap : Nat) (i : In) (w W : World) : Prop where
 box : W.heap[B]? = some (.cells #[.int .u16 i.op, .int .u32 i.ty, .int .u32 i.res, .slice a i.args.length cap] 73 (0, 0))
 sl : Sl 3 cz w a i.args
 below : Bl w W
 hB : B = w.heap.size
theorem qL.lt {B : Nat} {a : Option Addr} {cap : Nat} {i : In} {w W : World} (h : qL B a cap i w W) : B < W.heap.size := (Array.getElem?_eq_some_iff.1 h.box).1
theorem qL.then {B : Nat} {a : Option Addr} {cap : Nat} {i : In} {w W W' : World} (h : qL B a cap i w W) (hb : Bl W W') : qL B a cap i w W' :=
 ⟨(hb.block B h.lt).trans h.box, h.sl, az h.below hb, h.hB⟩
theorem qL.grown2 {B : Nat} {a : Option Addr} {cap : Nat} {i : In} {w W W' : World} {row : Option Nat} (h : qL B a cap i w W) (hg : W.grownBy W' row) (hr : ∀ k, row = some k → B + 1 ≤ k) : qL B a cap i w W' := by
 have hB := h.hB;have hz := h.lt;have hs : w.heap.size ≤ W.heap.size := h.below.size;have hb := h.below.grown hg (by omega) (fun k e => by have := hr k e; omega);refine ⟨(hg.block B hz (fun e => by have := hr _ e.symm; omega)).trans h.box, h.sl, hb, h.hB⟩
set_option maxRecDepth 100000 in
set_option maxHeartbeats 2000000 in
theorem rA (i : In) (a : Option Addr) (cap : Nat) (w : World) (h : Sl 3 cz w a i.args) (hl : i.args.length ≤ 1048576) :
  Calls Tryz.prog 132 #[.agg #[.int .u16 i.op, .int .u32 i.ty, .int .u32 i.res, .slice a i.args.length cap]] w fun e w' => (∃ v, e = .returned v ∧ ED w' w.heap.size v (aX i)) ∧ Bl w w' := by
 have hb := bP (Below.refl _ w) (.cells #[.int .u16 i.op, .int .u32 i.ty, .int .u32 i.res, .slice a i.args.length cap] 73);have HS := hid (show qL w.heap.size a cap i w (w.alloc (.cells #[.int .u16 i.op, .int .u32 i.ty, .int .u32 i.res, .slice a i.args.length cap] 73)) from ⟨alloc_at w _, h, hb, rfl⟩);clear h hb;go_enter Tryz.func132, Tryz.ntmps132;obtain ⟨x0, x1, x2, x3⟩ := nL HS.out.box;go_upto_if 8 with fail
 go_cut [3] (fun s3 wx => ED wx (w.heap.size + 1) s3 (jl i 0) ∧ qL w.heap.size a cap i w wx)
 case first =>
  by_cases h0 : i.ty = 0
  ·have t0 : ((i.ty : Int) == 0) = true := by simp [h0]
   have h00 : jl i 0 = [] := by unfold jl; simp [h0]
   have H00 := hid h00;clear h0 h00;go_wp2_with fail;go_meet;rw [H00.out];exact ⟨World.ownsRow_nil _ _ _ _, HS.out⟩
  ·have t0 : ((i.ty : Int) == 0) = false := by rw [beq_eq_false_iff_ne]; omega
   have h00 : jl i 0 = [i.ty] := by unfold jl; simp [h0]
   have H00 := hid h00;clear h0 h00;go_wp2_with ((with_reducible refine aA ?_); refine mU gG rfl _ _ rfl (w.heap.size + 1) (.slice none 0 0) 0 [] rfl (World.ownsRow_nil _ _ _ _) #[.int .u32 i.ty] (w.heap.size + 1) rfl (by simp) rfl (by simp [Value.oneCell']) (by omega) (by omega) (by simp) ?_; intro g1 p1 w2 k1 k2 k3 k4; have HK := hid k1; have HT := hid (HS.out.then ((Below.refl _ _).grown k2 (Nat.le_refl _) (fun j e => by simp [Value.ownBlock] at e))); clear k1 k2 k3 k4);go_meet;rw [H00.out];exact ⟨HK.out, HT.out⟩
 case rest =>
 obtain ⟨ho, hst⟩ := hcut;clear x0 x1 x2 x3 HS;have HO := hid ho;have HT := hid hst;obtain ⟨x0, x1, x2, x3⟩ := nL hst.box;clear ho hst;go_wp2;go_loopw [3, 5, 17] (fun v3 v5 v17 wr => ∃ k : Nat, k ≤ i.args.length ∧ v17 = .int .i64 k ∧ ED wr (w.heap.size + 1) v3 (jl i k) ∧ qL w.heap.size a cap i w wr) (fun _ _ x _ => i.args.length - (intOf x).toNat)
 case atStart => exact ⟨0, by omega, rfl, HO.out, HT.out⟩
 case round =>
  obtain ⟨k, hk, rfl, ho, hst⟩ := hrel;clear x0 x1 x2 x3 HO HT;by_cases hlt : k < i.args.length
  ·obtain ⟨b, o, rfl, hbl, hc⟩ := (hst.sl.below cz.lasts hst.below).at_ (by omega)
   obtain ⟨e0, e1, e2, -, -, -⟩ := hc k hlt;have i2 : (k : Int) < (i.args.length : Int) := by omega
   have hsx := Ct hlt;have hlen := kH i k;obtain ⟨av, cv, rfl, hx⟩ := fA ho;have HO := hid ho;have HT := hid hst;have zB := hid hst.lt;have HS2 := hid hsx;have HL2 := hid hlt;clear hx ho hst hc hsx;generalize i.args[k] = x at e0 e1 e2 HS2;obtain ⟨kd, n, s⟩ := x;simp only at e0 e1 e2 HS2;by_cases h1 : kd = 1
   ·have t1 : ((kd : Int) == 1) = true := by simp [h1]
    have hs := HS2.out;rw [if_pos h1] at hs;have HS3 := hid hs;clear h1 hs HS2;go_wp2_with ((with_reducible refine aA ?_); refine mU gG rfl _ _ rfl (w.heap.size + 1) (.slice av (jl i k).length cv) (jl i k).length _ rfl (own_below HO.out (bP (Below.refl _ _) _)) #[.int .u32 n] (wr.heap.size + 1) rfl (by simp) rfl (by simp [Value.oneCell']) (by omega) (by omega) (by have := zB.out; simp; omega) ?_; intro g1 p1 w2 k1 k2 k3 k4; have HK := hid k1; have hT2 := hid (qL.grown2 (HT.out.then (bP (Below.refl _ _) (.cells #[.int .u8 kd, .int .u32 n, .string s] 64))) k2 (fun j e => (HO.out.lt _ e).1)); clear k1 k2 k3 k4);refine ⟨⟨k + 1, HL2.out, by go_num, ?_, hT2.out⟩, by simp [intOf]; omega⟩;rw [HS3.out];have hk := HK.out;unfold ED;rw [List.length_append, List.map_append];exact hk
   ·have t1 : ((kd : Int) == 1) = false := by rw [beq_eq_false_iff_ne]; omega
    have hs := HS2.out;rw [if_neg h1] at hs;have HS3 := hid hs;clear h1 hs HS2;go_wp2;refine ⟨⟨k + 1, HL2.out, by go_num, ?_, HT.out.then (bP (Below.refl _ _) _)⟩, by simp [intOf]; omega⟩;rw [HS3.out];exact own_below HO.out (bP (Below.refl _ _) _)
  ·obtain rfl : k = i.args.length := by omega
   have HO := hid ho;have HT := hid hst;clear ho hst;go_wp2;go_ret;exact ⟨⟨_, rfl, kC HO.out (by omega)⟩, HT.out.below⟩
end Go.Proofs.YtlkolghiknbbfaaGreatDoor
namespace Go.Proofs.YtlkolghiknbbfaaGreatDoor
open Go.RowKit Go.MapKept Go.Shelf
def IY (gf : Nat) (caps : Array Value) (F : World → Prop) (enc : Nat → Array Value) (N : Nat) : Prop :=
 ∀ (l : Nat) (J Jx : Nat → World → Prop) (W : World), (∀ k W1, J k W1 → F W1) → l < W.heap.size → Stable W.heap.size J → Stable W.heap.size Jx →
  (∀ k W1, k < N → J k W1 → W.heap.size ≤ W1.heap.size → YieldAt Fence.wide 0 Tryz.prog l (enc k) W1 fun e W' =>
   (e = .returned (.bool true) ∧ J (k + 1) W' ∨ e = .returned (.bool false) ∧ Jx k W') ∧ Aside W.heap.size W1 W') →
  J 0 W → Calls Tryz.prog gf (#[.func (.yield l) #[] #[]] ++ caps) W fun e W' => (∃ v, e = .returned v) ∧ (J N W' ∨ ∃ k, Jx k W') ∧ Aside W.heap.size W W'
attribute [local go_sem] Oper.semAt_some
theorem qC {g : Operand} {ps : Array Tmp} {assign body : Code} {Q : Exit → Act → World → Prop} {a : Act} {w : World} {n gf N : Nat} {enc : Nat → Array Value} {caps : Array Value} {F : World → Prop} (hit : IY gf caps F enc N)
  (hg : a.eval g = .func (.func gf) #[] caps) (eg : ∀ args w, (callFunc gf args).run Tryz.prog w = .ok (.enter gf args) w) (hps : ∀ k, ps.size = (enc k).size)
  (I : Nat → World → Prop) (Ix : Code → Nat → World → Prop) (hI : Stable w.heap.size I) (hIF : ∀ k W, I k W → F W) (hIx : ∀ c, Stable w.heap.size (Ix c)) (h0 : I 0 w)
  (hround : ∀ (l k : Nat) (W : World), k < N → I k W → w.heap.size ≤ l → l < W.heap.size → w.heap.size + 2 ≤ W.heap.size →
   assign.wpIn (Fence.wide.inRound l) 0 Tryz.prog (Exit.then (fun a1 W1 => Aside w.heap.size W W1 ∧ I k W1 ∧ ∀ o', body.wpIn (Fence.wide.inRound l) 0 Tryz.prog (left w.heap.size k I Ix (W1.putObj l o')) a1 (W1.putObj l o')) (fun _ _ _ => False))
    { tmps := (ps.zip (enc k)).foldl (fun t (p, v) => t.setIfInBounds p v) a.tmps, defers := [] } W)
  (hdone : ∀ W, I N W → w.heap.size + 2 ≤ W.heap.size → W.heap[w.heap.size]? = some (.deferred (some [])) → Q .normal { a with defers := { target := .collected w.heap.size, args := #[] } :: a.defers } W)
  (hstop : ∀ c k W, Ix c k W → w.heap.size + 2 ≤ W.heap.size → W.heap[w.heap.size]? = some (.deferred (some [])) → c.wpIn Fence.wide n Tryz.prog Q { a with defers := { target := .collected w.heap.size, args := #[] } :: a.defers } W) :
  (Code.rangeFunc g ps assign body).wpIn Fence.wide n Tryz.prog Q a w := by
 refine wpIn_rangeFunc ?_;intro fn _;obtain ⟨rec, hrec⟩ : ∃ rec : LoopState → Option Code → Loop, rec = fun st pe => { state := st, pending := pe, fn, tmps := a.tmps, params := ps, assign, body, defers := w.heap.size } := ⟨_, rfl⟩
 obtain ⟨W1, hW1⟩ : ∃ W1, (w.alloc (.deferred (some []))).alloc (.loop (rec .ready none)) = W1 := ⟨_, rfl⟩;have hL1 : W1.heap[w.heap.size + 1]? = some (.loop (rec .ready none)) := by
  rw [← hW1]; have := World.alloc_heap_new (w.alloc (.deferred (some []))) (.loop (rec .ready none)); rwa [World.size_alloc] at this
 have hK1 : W1.heap[w.heap.size]? = some (.deferred (some [])) := by
  rw [← hW1]; exact (Below.heap_alloc _ _ _ (by simp)).trans (World.alloc_heap_new w _)
 have hb1 : Bl w W1 := by rw [← hW1]; exact ((Below.refl _ w).alloc (Nat.le_refl _) _).alloc (by simp) _
 have hz1 : W1.heap.size = w.heap.size + 2 := by rw [← hW1]; simp
 refine ⟨w.heap.size + 1, [{ target := .collected w.heap.size, args := #[] }], W1, { target := .fn (.func gf) caps, args := #[.func (.yield (w.heap.size + 1)) #[] #[]] }, W1, gf,
  #[.func (.yield (w.heap.size + 1)) #[] #[]] ++ caps, W1, ?_, ?_, fun _ _ => trivial, ?_, fun h => (by cases h), ?_⟩
 ·rw [← hW1, hrec]; exact run_enterLoop_outer _ _ _ _ _
 ·simp only [resolve, hg]
  simp [go_sem]
 ·simp [invoke, go_sem, eg]
 have hc := hit (w.heap.size + 1)
  (fun k W => I k W ∧ W.heap[w.heap.size + 1]? = some (.loop (rec .ready none)) ∧ W.heap[w.heap.size]? = some (.deferred (some [])))
  (fun k W => ∃ c, Ix c k W ∧ W.heap[w.heap.size + 1]? = some (.loop (rec .done (some c))) ∧ W.heap[w.heap.size]? = some (.deferred (some [])))
  W1 (fun k A h => hIF k A h.1) (by omega)
  (fun k A C hJ hb => ⟨hI k A C hJ.1 (hb.mono (by omega)), (hb.block _ (by omega)).trans hJ.2.1, (hb.block _ (by omega)).trans hJ.2.2⟩)
  (fun k A C hJ hb => by
   obtain ⟨c, h1, h2, h3⟩ := hJ
   exact ⟨c, hIx c k A C h1 (hb.mono (by omega)), (hb.block _ (by omega)).trans h2, (hb.block _ (by omega)).trans h3⟩)
  ?_ ⟨hI 0 _ _ h0 hb1, hL1, hK1⟩
 ·refine callsIn_wide.2 (hc.mono ?_)
  rintro e W2 ⟨⟨v, rfl⟩, ⟨hi, hl, hk⟩ | ⟨k, c, hi, hl, hk⟩, hA⟩
  ·have hz := hA.1
   have he := run_endLoop (P := Tryz.prog) hl (by rw [hrec]; simp);rw [hrec] at he;exact ⟨none, _, he, hdone _ (hI N _ _ hi (aY _ _ (by omega))) (by rw [World.putObj_size]; omega) ((World.putObj_heap_other (by omega)).trans hk)⟩
  ·have hz := hA.1
   have he := run_endLoop (P := Tryz.prog) hl (by rw [hrec]; simp);rw [hrec] at he;exact ⟨some c, _, he, hstop c k _ (hIx c k _ _ hi (aY _ _ (by omega))) (by rw [World.putObj_size]; omega) ((World.putObj_heap_other (by omega)).trans hk)⟩
 ·rintro k W hk ⟨hi, hl, hd⟩ hz
  have hlt : w.heap.size + 1 < W.heap.size := by omega
  have hy := run_yield (P := Tryz.prog) (args := enc k) hl (by rw [hrec]; exact (hps k).symm);rw [hrec] at hy;refine ⟨fn, _, assign, body, hy, roundIn_of_wpIn trivial (wpIn_mono (hround (w.heap.size + 1) k W hk hi (by omega) (by omega) (by omega)) ?_)⟩;rintro e a1 Wa hp
  cases e with
  | normal =>
   obtain ⟨hA, hi1, hb⟩ := hp;have hl1 := (hA.2 _ (by omega) hlt).trans hl;have hd1 := (hA.2 _ (Nat.le_refl _) (by omega)).trans hd;have hlt1 : w.heap.size + 1 < Wa.heap.size := Nat.lt_of_lt_of_le hlt hA.1;refine ⟨_, run_beginRound hl1 (by rw [hrec]), wpIn_mono (hb _) ?_⟩;have fin : ∀ (jump : Option Code) (W3 : World), Aside w.heap.size (Wa.putObj (w.heap.size + 1) (.loop { rec .ready none with state := .busy })) W3 →
     (Instr.endRound (w.heap.size + 1) jump).run Tryz.prog W3 = .ok (.bool jump.isNone) (W3.putObj (w.heap.size + 1) (.loop (rec (if jump.isNone then .ready else .done) jump))) ∧
     (W3.putObj (w.heap.size + 1) (.loop (rec (if jump.isNone then .ready else .done) jump))).heap[w.heap.size + 1]? = some (.loop (rec (if jump.isNone then .ready else .done) jump)) ∧
     (W3.putObj (w.heap.size + 1) (.loop (rec (if jump.isNone then .ready else .done) jump))).heap[w.heap.size]? = some (.deferred (some [])) ∧
     Aside W1.heap.size W (W3.putObj (w.heap.size + 1) (.loop (rec (if jump.isNone then .ready else .done) jump))) := fun jump W3 hA3 => by
    have hl3 := (hA3.2 (w.heap.size + 1) (by omega) (by simpa using hlt1)).trans (World.putObj_heap_same hlt1);have hd3 := ((hA3.2 w.heap.size (Nat.le_refl _) (by simp; omega)).trans (World.putObj_heap_other (by omega))).trans hd1;have hr := run_endRound (P := Tryz.prog) jump hl3;rw [hrec] at hr ⊢;refine ⟨hr, World.putObj_heap_same (Array.getElem?_eq_some_iff.1 hl3).1, (World.putObj_heap_other (by omega)).trans hd3, ?_⟩;exact (((hA.mono (by omega)).trans (Aside.put _ _ (by omega))).trans (hA3.mono (by omega))).trans (Aside.put _ _ (by omega))
   rintro e a3 W3 hp
   cases e with
   | normal =>
    obtain ⟨hr, hl4, hk4, hA4⟩ := fin none W3 hp.1;exact ⟨_, _, hr, .inl ⟨rfl, hI _ _ _ hp.2 (aY _ _ (by omega)), hl4, hk4⟩, hA4⟩
   | ret =>
    obtain ⟨hr, hl4, hk4, hA4⟩ := fin (some .ret) W3 hp.1;exact ⟨_, _, hr, .inr ⟨rfl, .ret, hIx _ _ _ _ hp.2 (aY _ _ (by omega)), hl4, hk4⟩, hA4⟩
   | exit id =>
    obtain ⟨hr, hl4, hk4, hA4⟩ := fin (some (.exit id)) W3 hp.1;exact ⟨_, _, hr, .inr ⟨rfl, .exit id, hIx _ _ _ _ hp.2 (aY _ _ (by omega)), hl4, hk4⟩, hA4⟩
   | goto t => exact hp.elim
   | panic ch => exact hp.elim
   | outgrown => exact hp.elim
  | ret => exact hp.elim
  | exit id => exact hp.elim
  | goto t => exact hp.elim
  | panic ch => exact hp.elim
  | outgrown => exact hp.elim
def uB (i : In) (s : Option Addr × Nat) : Value := .agg #[.int .u16 i.op, .int .u32 i.ty, .int .u32 i.res, .slice s.1 i.args.length s.2]
def wM (l : List In) (sv : Nat → Option Addr × Nat) (k : Nat) : Array Value := #[.int .i64 ((l.length - 1 - k : Nat) : Int), uB (l.getD (l.length - 1 - k) ai) (sv (l.length - 1 - k))]
theorem getD_at (l : List In) {k : Nat} (h : k < l.length) : l.getD k ai = l[k] := by rw [List.getD_eq_getElem?_getD, List.getElem?_eq_getElem h]; rfl
set_option maxRecDepth 100000 in
set_option maxHeartbeats 2000000 in
theorem FT (b o cap B : Nat) (l : List In) (sv : Nat → Option Addr × Nat) (hn : l.length ≤ 2000) :
  IY 212 #[.pointer (some ⟨B, 0, none⟩)] (fun W => B < W.heap.size ∧ W.cell? ⟨B, 0, none⟩ = some (.slice (some ⟨b, o, none⟩) l.length cap) ∧ Ms W b o l sv) (wM l sv) l.length := by
 intro lp J Jx W hF hlt hJs hJxs hy hJ0;have HY := hid hy;have HF := hid hF;obtain ⟨zB, hB, hM⟩ := hF 0 W hJ0;clear hy hF hJs hJxs hM;refine (callsIn_wide (n := 1)).1 ?_;refine callsIn_of_wp Tryz.func212 rfl trivial ?_ rfl;simp only [Tryz.ntmps212, List.size_toArray, List.length_cons, List.length_nil, Nat.reduceAdd, Nat.reduceSub, Array.replicate_succ, Array.replicate_zero, List.push_toArray, List.append_toArray, List.nil_append, List.cons_append];gi_wp2
 gi_loopw [3] (fun v3 wr => ∃ k : Nat, k ≤ l.length ∧ v3 = .int .i64 ((l.length : Int) - 1 - k) ∧ J k wr ∧ Aside W.heap.size W wr) (fun v _ => (intOf v + 1).toNat)
 case atStart => exact ⟨0, by omega, by simp, hJ0, Aside.refl _ _⟩
 case round =>
  obtain ⟨k, hk, rfl, hj, hA⟩ := hrel;clear hJ0 zB hB;have hz := hA.1;by_cases hlt : k < l.length
  ·have t0 : (0 : Int) ≤ (l.length : Int) - 1 - k := by omega
   obtain ⟨zB, hB, hM⟩ := HF.out k wr hj;have hq : ((l.length - 1 - k : Nat) : Int) = (l.length : Int) - 1 - k := by omega
   obtain ⟨q, hqd⟩ : ∃ q, q = l.length - 1 - k := ⟨_, rfl⟩;have hY1 := HY.out k wr hlt hj hz;unfold wM uB at hY1;rw [← hqd] at hq hY1;have hql : q < l.length := by omega
   rw [getD_at l hql] at hY1;have hbl := hM.lt;have e0 := hM.op q hql;have e1 := hM.ty q hql;have e2 := hM.res q hql;have e3 := hM.args q hql;have i1 : (q : Int) < (l.length : Int) := by omega
   have HA := hid hA;have HJ := hid hj;have HK := hid hlt;rw [← hq];have HQ := hid hq;obtain ⟨fn, tmps, assign, body, hy, hR⟩ := hY1;clear hM hj hA hqd hlt hk t0 hq;gi_wp2;refine hR.mono ?_;rintro e W3 ⟨⟨rfl, hJ3⟩ | ⟨rfl, hJx3⟩, hA3⟩
   ·have HJ3 := hid hJ3
    have HA3 := hid hA3;clear hJ3 hA3 hR;gi_wp2;exact ⟨⟨k + 1, HK.out, by rw [HQ.out]; simp; omega, HJ3.out, HA.out.trans HA3.out⟩, by have := HK.out; rw [HQ.out]; simp [intOf]; omega⟩
   ·have HJ3 := hid hJx3
    have HA3 := hid hA3;clear hJx3 hA3 hR;gi_wp2;refine bodyPost_ret (results_none rfl _ _ _) rfl ?_;exact ⟨⟨_, rfl⟩, .inr ⟨_, HJ3.out⟩, HA.out.trans HA3.out⟩
  ·obtain rfl : k = l.length := by omega
   have t0 : ¬ ((0 : Int) ≤ (l.length : Int) - 1 - l.length) := by omega
   have HA := hid hA;have HJ := hid hj;clear hA hj;gi_wp2;go_end0;exact ⟨⟨_, rfl⟩, .inl HJ.out, HA.out⟩
end Go.Proofs.YtlkolghiknbbfaaGreatDoor
