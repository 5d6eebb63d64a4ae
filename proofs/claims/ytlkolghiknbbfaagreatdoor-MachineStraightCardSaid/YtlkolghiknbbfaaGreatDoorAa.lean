/- Small laws for the walks of the checks. -/
import Derived.Test.YtlkolghiknbbfaaGreatDoorRows
import Derived.ProofKit
import Derived.OpenShut
import Derived.BigQuiet
import Derived.Laws.EntriesVeiled
import Derived.WalkSmall
import Derived.RangeFuncNested
import Derived.Shelf.Abstract
import Derived.OwnWalkIn
import Derived.TacticsInMore
import Derived.LoopNIn
import Derived.LoopIn
import Derived.Lib.Hide
import Derived.Deep.AppendLies
import Derived.Laws.AppendOwnNone
set_option linter.unusedVariables false
set_option linter.unusedSimpArgs false
namespace Go.Proofs.YtlkolghiknbbfaaGreatDoor
open Go.RowKit
abbrev Bl (w W : World) : Prop := Below w.heap.size w W
abbrev Qc (n : FuncId) (args : Array Value) (w : World) (v : Value) : Prop := Calls Tryz.prog n args w fun e w' => e = .returned v ∧ Below w.heap.size w w'
theorem hid {p : Prop} (h : p) : Hid p := h
theorem bP {w w1 : World} (h : Bl w w1) (o : Obj) : Bl w (w1.alloc o) := h.alloc h.size o
theorem az {w w1 w2 : World} (h : Bl w w1) (k : Bl w1 w2) : Bl w w2 := h.trans (k.mono h.size)
theorem alloc_at (w : World) (o : Obj) : (w.alloc o).heap[w.heap.size]? = some o := by
 show (w.heap.push o)[w.heap.size]? = some o
 simp
theorem eY {w : World} : Bl w w.drew := ⟨rfl, rfl, rfl, Nat.le_refl _, fun _ _ => rfl⟩
theorem dH {w : World} {g : Nat} {old : Array Value} {t : TypeId} (cs : Array Value) (h : w.heap[g]? = some (.cells old t (0, 0))) : (w.setRow g cs).heap[g]? = some (.cells cs t (0, 0)) := by
 obtain ⟨hlt, hk⟩ := Array.getElem?_eq_some_iff.1 h
 show (w.heap.modify g _)[g]? = _
 rw [Array.getElem?_eq_getElem (by rw [Array.size_modify]; exact hlt), Array.getElem_modify_self, hk]
theorem dL {w : World} {g k : Nat} (cs : Array Value) (h : k ≠ g) : (w.setRow g cs).heap[k]? = w.heap[k]? := by
 show (w.heap.modify g _)[k]? = _
 rw [Array.getElem?_modify, if_neg (Ne.symm h)]
theorem aG {B : Nat} {a w : World} {g : Nat} (h : Below B a w) (hg : B ≤ g) (cs : Array Value) : Below B a (w.setRow g cs) :=
 h.trans ⟨rfl, rfl, rfl, by show w.heap.size ≤ (w.heap.modify g _).size; rw [Array.size_modify]; exact Nat.le_refl _, fun k hk => dL cs (by omega)⟩
theorem aJ {P : Program} {fn : Func} {p u : Tmp} {ty : TypeId} (h : fn.results = #[.cell p ty, .tmp u]) (tmps : Array Value) (w : World) (g : Nat) (t : TypeId) (cs : Array Value) (fr : Nat × Nat) (d : TypeDesc)
  (hp : tmps.getD p undef = .pointer (some ⟨g, 0, none⟩)) (hg : w.heap[g]? = some (.cells cs t fr)) (hu : P.underlying ty = some d) (hd : (match d with | .struct _ | .array _ _ => true | _ => false) = true) (hi : (P.info? ty).map (·.size) = some cs.size) :
  (results fn tmps).run P w = .ok (.tuple #[.agg cs, tmps.getD u undef]) w := by
 rw [results_cell_tmp h, hp];simp [asAddr, run_loadVar_row w g t ty cs fr d hg hu hd hi, Result.andThen]
theorem iB {P : Program} {c : Code} {Q : Exit → Act → World → Prop} {a : Act} {w : World} (F : World → Prop) (h : F w) (k : ∀ W, F W → c.wp P Q a W) : c.wp P Q a w := k w h
theorem three (w : World) (o0 o1 o2 : Obj) : (((w.alloc o0).alloc o1).alloc o2).heap[w.heap.size]? = some o0 ∧ (((w.alloc o0).alloc o1).alloc o2).heap[w.heap.size + 1]? = some o1 ∧ (((w.alloc o0).alloc o1).alloc o2).heap[w.heap.size + 1 + 1]? = some o2 := by
 have h1 := alloc_at (w.alloc o0) o1;have h2 := alloc_at ((w.alloc o0).alloc o1) o2;simp only [World.size_alloc] at h1 h2;exact ⟨(Below.heap_alloc _ _ _ (by simp <;> omega)).trans ((Below.heap_alloc _ _ _ (by simp)).trans (alloc_at w o0)), (Below.heap_alloc _ _ _ (by simp)).trans h1, h2⟩
theorem keep3 (w : World) (o0 o1 o2 : Obj) (k : Nat) (h : k < w.heap.size) : (((w.alloc o0).alloc o1).alloc o2).heap[k]? = w.heap[k]? :=
 (Below.heap_alloc ((w.alloc o0).alloc o1) o2 k (by simp; omega)).trans ((Below.heap_alloc (w.alloc o0) o1 k (by simp; omega)).trans (Below.heap_alloc w o0 k h))
theorem Et (c : UInt8) (n : Nat) (h : n < 256 := by omega) : ((c.toNat : Int) == (n : Int)) = (c == UInt8.ofNat n) := by
 have e : (UInt8.ofNat n).toNat = n := by simp [UInt8.toNat_ofNat', Nat.mod_eq_of_lt h]
 rw [Bool.eq_iff_iff, beq_iff_eq, beq_iff_eq, ← UInt8.toNat_inj, e];omega
end Go.Proofs.YtlkolghiknbbfaaGreatDoor
namespace Go.Proofs.YtlkolghiknbbfaaGreatDoor
open Go.RowKit Go.Shelf
attribute [local go_sem] Oper.semAt_some
def Aside (B : Nat) (A C : World) : Prop := A.heap.size ≤ C.heap.size ∧ ∀ b, B ≤ b → b < A.heap.size → C.heap[b]? = A.heap[b]?
theorem Aside.refl (B : Nat) (A : World) : Aside B A A := ⟨Nat.le_refl _, fun _ _ _ => rfl⟩
theorem Aside.trans {B : Nat} {A C D : World} (h : Aside B A C) (k : Aside B C D) : Aside B A D :=
 ⟨Nat.le_trans h.1 k.1, fun b hb hlt => (k.2 b hb (Nat.lt_of_lt_of_le hlt h.1)).trans (h.2 b hb hlt)⟩
theorem Aside.mono {B B' : Nat} {A C : World} (h : Aside B A C) (hb : B ≤ B') : Aside B' A C := ⟨h.1, fun b hle hlt => h.2 b (Nat.le_trans hb hle) hlt⟩
theorem Aside.alloc (B : Nat) (A : World) (o : Obj) : Aside B A (A.alloc o) := ⟨by simp, fun b _ hlt => Below.heap_alloc A o b hlt⟩
theorem Aside.put {B : Nat} {A : World} (l : Nat) (o : Obj) (hl : l < B) : Aside B A (A.putObj l o) := ⟨by simp, fun b hb hlt => World.putObj_heap_other (by omega)⟩
theorem Aside.cell {B : Nat} {A C : World} (h : Aside B A C) {b j : Nat} {v : Value} (hb : B ≤ b) (hc : A.cell? ⟨b, j, none⟩ = some v) : C.cell? ⟨b, j, none⟩ = some v := by
 have hlt := block_lt_of_cell (a := ⟨b, j, none⟩) hc;exact (World.cell?_of_block (a := ⟨b, j, none⟩) (h.2 b hb hlt)).trans hc
def Stable (B : Nat) (J : Nat → World → Prop) : Prop := ∀ k A C, J k A → Below B A C → J k C
theorem aY {B l : Nat} (W : World) (o : Obj) (h : B ≤ l) : Below B W (W.putObj l o) :=
 ⟨rfl, rfl, rfl, by simp, fun b hb => World.putObj_heap_other (by omega)⟩
def left (B k : Nat) (I : Nat → World → Prop) (Ix : Code → Nat → World → Prop) (A : World) : Exit → Act → World → Prop
 | .normal, _, W => Aside B A W ∧ I (k + 1) W
 | .ret, _, W => Aside B A W ∧ Ix .ret k W
 | .exit id, _, W => Aside B A W ∧ Ix (.exit id) k W
 | .goto _, _, _ => False
 | .panic _, _, _ => False
 | .outgrown, _, _ => False
def Iu (gf : Nat) (caps : Array Value) (F : World → Prop) (enc : Nat → Array Value) (N : Nat) : Prop :=
 ∀ (l : Nat) (J Jx : Nat → World → Prop) (W : World), F W → l < W.heap.size → Stable W.heap.size J → Stable W.heap.size Jx →
  (∀ k W1, k < N → J k W1 → W.heap.size ≤ W1.heap.size → YieldAt Fence.wide 0 Tryz.prog l (enc k) W1 fun e W' =>
   (e = .returned (.bool true) ∧ J (k + 1) W' ∨ e = .returned (.bool false) ∧ Jx k W') ∧ Aside W.heap.size W1 W') →
  J 0 W → Calls Tryz.prog gf (#[.func (.yield l) #[] #[]] ++ caps) W fun e W' => (∃ v, e = .returned v) ∧ (J N W' ∨ ∃ k, Jx k W') ∧ Aside W.heap.size W W'
theorem qK {g : Operand} {ps : Array Tmp} {assign body : Code} {Q : Exit → Act → World → Prop} {a : Act} {w : World} {n gf N : Nat} {enc : Nat → Array Value} {caps : Array Value} {F : World → Prop} (hit : Iu gf caps F enc N) (hF : ∀ C, Bl w C → F C)
  (hg : a.eval g = .func (.func gf) #[] caps) (eg : ∀ args w, (callFunc gf args).run Tryz.prog w = .ok (.enter gf args) w) (hps : ∀ k, ps.size = (enc k).size)
  (I : Nat → World → Prop) (Ix : Code → Nat → World → Prop) (hI : Stable w.heap.size I) (hIx : ∀ c, Stable w.heap.size (Ix c)) (h0 : I 0 w)
  (hround : ∀ (l k : Nat) (W : World), k < N → I k W → w.heap.size ≤ l → l < W.heap.size → w.heap.size + 2 ≤ W.heap.size →
   assign.wpIn (Fence.wide.inRound l) 0 Tryz.prog (Exit.then (fun a1 W1 => Aside w.heap.size W W1 ∧ I k W1 ∧ ∀ o', body.wpIn (Fence.wide.inRound l) 0 Tryz.prog (left w.heap.size k I Ix (W1.putObj l o')) a1 (W1.putObj l o')) (fun _ _ _ => False))
    { tmps := (ps.zip (enc k)).foldl (fun t (p, v) => t.setIfInBounds p v) a.tmps, defers := [] } W)
  (hdone : ∀ W, I N W → w.heap.size + 2 ≤ W.heap.size → W.heap[w.heap.size]? = some (.deferred (some [])) → Q .normal { a with defers := { target := .collected w.heap.size, args := #[] } :: a.defers } W)
  (hstop : ∀ c k W, Ix c k W → w.heap.size + 2 ≤ W.heap.size → W.heap[w.heap.size]? = some (.deferred (some [])) → c.wpIn Fence.wide n Tryz.prog Q { a with defers := { target := .collected w.heap.size, args := #[] } :: a.defers } W) :
  (Code.rangeFunc g ps assign body).wpIn Fence.wide n Tryz.prog Q a w := by
 refine wpIn_rangeFunc ?_;intro fn _;obtain ⟨rec, hrec⟩ : ∃ rec : LoopState → Option Code → Loop, rec = fun st pe => { state := st, pending := pe, fn, tmps := a.tmps, params := ps, assign, body, defers := w.heap.size } := ⟨_, rfl⟩
 obtain ⟨W1, hW1⟩ : ∃ W1, (w.alloc (.deferred (some []))).alloc (.loop (rec .ready none)) = W1 := ⟨_, rfl⟩;have hL1 : W1.heap[w.heap.size + 1]? = some (.loop (rec .ready none)) := by
  rw [← hW1]; have := World.alloc_heap_new (w.alloc (.deferred (some []))) (.loop (rec .ready none)); rwa [World.size_alloc] at this
 have hK1 : W1.heap[w.heap.size]? = some (.deferred (some [])) := by
  rw [← hW1]; exact (Below.heap_alloc _ _ _ (by simp)).trans (World.alloc_heap_new w _)
 have hb1 : Bl w W1 := by rw [← hW1]; exact ((Below.refl _ w).alloc (Nat.le_refl _) _).alloc (by simp) _
 have hz1 : W1.heap.size = w.heap.size + 2 := by rw [← hW1]; simp
 refine ⟨w.heap.size + 1, [{ target := .collected w.heap.size, args := #[] }], W1, { target := .fn (.func gf) caps, args := #[.func (.yield (w.heap.size + 1)) #[] #[]] }, W1, gf,
  #[.func (.yield (w.heap.size + 1)) #[] #[]] ++ caps, W1, ?_, ?_, fun _ _ => trivial, ?_, fun h => (by cases h), ?_⟩
 ·rw [← hW1, hrec]; exact run_enterLoop_outer _ _ _ _ _
 ·simp only [resolve, hg]
  simp [go_sem]
 ·simp [invoke, go_sem, eg]
 have hc := hit (w.heap.size + 1)
  (fun k W => I k W ∧ W.heap[w.heap.size + 1]? = some (.loop (rec .ready none)) ∧ W.heap[w.heap.size]? = some (.deferred (some [])))
  (fun k W => ∃ c, Ix c k W ∧ W.heap[w.heap.size + 1]? = some (.loop (rec .done (some c))) ∧ W.heap[w.heap.size]? = some (.deferred (some [])))
  W1 (hF _ hb1) (by omega)
  (fun k A C hJ hb => ⟨hI k A C hJ.1 (hb.mono (by omega)), (hb.block _ (by omega)).trans hJ.2.1, (hb.block _ (by omega)).trans hJ.2.2⟩)
  (fun k A C hJ hb => by
   obtain ⟨c, h1, h2, h3⟩ := hJ
   exact ⟨c, hIx c k A C h1 (hb.mono (by omega)), (hb.block _ (by omega)).trans h2, (hb.block _ (by omega)).trans h3⟩)
  ?_ ⟨hI 0 _ _ h0 hb1, hL1, hK1⟩
 ·refine callsIn_wide.2 (hc.mono ?_)
  rintro e W2 ⟨⟨v, rfl⟩, ⟨hi, hl, hk⟩ | ⟨k, c, hi, hl, hk⟩, hA⟩
  ·have hz := hA.1
   have he := run_endLoop (P := Tryz.prog) hl (by rw [hrec]; simp);rw [hrec] at he;exact ⟨none, _, he, hdone _ (hI N _ _ hi (aY _ _ (by omega))) (by rw [World.putObj_size]; omega) ((World.putObj_heap_other (by omega)).trans hk)⟩
  ·have hz := hA.1
   have he := run_endLoop (P := Tryz.prog) hl (by rw [hrec]; simp);rw [hrec] at he;exact ⟨some c, _, he, hstop c k _ (hIx c k _ _ hi (aY _ _ (by omega))) (by rw [World.putObj_size]; omega) ((World.putObj_heap_other (by omega)).trans hk)⟩
 ·rintro k W hk ⟨hi, hl, hd⟩ hz
  have hlt : w.heap.size + 1 < W.heap.size := by omega
  have hy := run_yield (P := Tryz.prog) (args := enc k) hl (by rw [hrec]; exact (hps k).symm);rw [hrec] at hy;refine ⟨fn, _, assign, body, hy, roundIn_of_wpIn trivial (wpIn_mono (hround (w.heap.size + 1) k W hk hi (by omega) (by omega) (by omega)) ?_)⟩;rintro e a1 Wa hp
  cases e with
  | normal =>
   obtain ⟨hA, hi1, hb⟩ := hp;have hl1 := (hA.2 _ (by omega) hlt).trans hl;have hd1 := (hA.2 _ (Nat.le_refl _) (by omega)).trans hd;have hlt1 : w.heap.size + 1 < Wa.heap.size := Nat.lt_of_lt_of_le hlt hA.1;refine ⟨_, run_beginRound hl1 (by rw [hrec]), wpIn_mono (hb _) ?_⟩;have fin : ∀ (jump : Option Code) (W3 : World), Aside w.heap.size (Wa.putObj (w.heap.size + 1) (.loop { rec .ready none with state := .busy })) W3 →
     (Instr.endRound (w.heap.size + 1) jump).run Tryz.prog W3 = .ok (.bool jump.isNone) (W3.putObj (w.heap.size + 1) (.loop (rec (if jump.isNone then .ready else .done) jump))) ∧
     (W3.putObj (w.heap.size + 1) (.loop (rec (if jump.isNone then .ready else .done) jump))).heap[w.heap.size + 1]? = some (.loop (rec (if jump.isNone then .ready else .done) jump)) ∧
     (W3.putObj (w.heap.size + 1) (.loop (rec (if jump.isNone then .ready else .done) jump))).heap[w.heap.size]? = some (.deferred (some [])) ∧
     Aside W1.heap.size W (W3.putObj (w.heap.size + 1) (.loop (rec (if jump.isNone then .ready else .done) jump))) := fun jump W3 hA3 => by
    have hl3 := (hA3.2 (w.heap.size + 1) (by omega) (by simpa using hlt1)).trans (World.putObj_heap_same hlt1);have hd3 := ((hA3.2 w.heap.size (Nat.le_refl _) (by simp; omega)).trans (World.putObj_heap_other (by omega))).trans hd1;have hr := run_endRound (P := Tryz.prog) jump hl3;rw [hrec] at hr ⊢;refine ⟨hr, World.putObj_heap_same (Array.getElem?_eq_some_iff.1 hl3).1, (World.putObj_heap_other (by omega)).trans hd3, ?_⟩;exact (((hA.mono (by omega)).trans (Aside.put _ _ (by omega))).trans (hA3.mono (by omega))).trans (Aside.put _ _ (by omega))
   rintro e a3 W3 hp
   cases e with
   | normal =>
    obtain ⟨hr, hl4, hk4, hA4⟩ := fin none W3 hp.1;exact ⟨_, _, hr, .inl ⟨rfl, hI _ _ _ hp.2 (aY _ _ (by omega)), hl4, hk4⟩, hA4⟩
   | ret =>
    obtain ⟨hr, hl4, hk4, hA4⟩ := fin (some .ret) W3 hp.1;exact ⟨_, _, hr, .inr ⟨rfl, .ret, hIx _ _ _ _ hp.2 (aY _ _ (by omega)), hl4, hk4⟩, hA4⟩
   | exit id =>
    obtain ⟨hr, hl4, hk4, hA4⟩ := fin (some (.exit id)) W3 hp.1;exact ⟨_, _, hr, .inr ⟨rfl, .exit id, hIx _ _ _ _ hp.2 (aY _ _ (by omega)), hl4, hk4⟩, hA4⟩
   | goto t => exact hp.elim
   | panic ch => exact hp.elim
   | outgrown => exact hp.elim
  | ret => exact hp.elim
  | exit id => exact hp.elim
  | goto t => exact hp.elim
  | panic ch => exact hp.elim
  | outgrown => exact hp.elim
end Go.Proofs.YtlkolghiknbbfaaGreatDoor
namespace Go.Proofs.YtlkolghiknbbfaaGreatDoor
open Go.RowKit
structure Ag where
 kind : Nat
 n : Nat
 s : ByteArray
structure In where
 op : Nat
 ty : Nat
 res : Nat
 args : List Ag
structure Md where
 gen : Nat
 bound : Nat
 insts : List In
structure Sl {α : Type} (sz : Nat) (P : World → Nat → Nat → α → Prop) (w : World) (a : Option Addr) (l : List α) : Prop where
 at_ : 0 < l.length → ∃ b o, a = some ⟨b, o, none⟩ ∧ b < w.heap.size ∧ ∀ i (h : i < l.length), P w b (o + i * sz) l[i]
def Ez {α : Type} (P : World → Nat → Nat → α → Prop) : Prop := ∀ w w' b o x, P w b o x → b < w.heap.size → Bl w w' → P w' b o x
theorem Sl.below {α : Type} {sz : Nat} {P : World → Nat → Nat → α → Prop} {w w' : World} {a : Option Addr} {l : List α} (h : Sl sz P w a l) (hP : Ez P) (hb : Bl w w') : Sl sz P w' a l :=
 ⟨fun hp => by
  obtain ⟨b, o, rfl, hlt, hc⟩ := h.at_ hp
  exact ⟨b, o, rfl, Nat.lt_of_lt_of_le hlt hb.size, fun i hi => hP _ _ _ _ _ (hc i hi) hlt hb⟩⟩
theorem ae {w w' : World} {b o : Nat} {v : Value} (h : w.cell? ⟨b, o, none⟩ = some v) (hlt : b < w.heap.size) (hb : Bl w w') : w'.cell? ⟨b, o, none⟩ = some v := (hb.cell (p := ⟨b, o, none⟩) hlt).trans h
structure cz (w : World) (b o : Nat) (x : Ag) : Prop where
 kind : w.cell? ⟨b, o, none⟩ = some (.int .u8 x.kind)
 n : w.cell? ⟨b, o + 1, none⟩ = some (.int .u32 x.n)
 s : w.cell? ⟨b, o + 2, none⟩ = some (.string x.s)
 kind_lt : x.kind < 256
 n_lt : x.n < 4294967296
 s_lt : x.s.size ≤ 1048576
theorem cz.lasts : Ez cz := fun _ _ _ _ _ h hlt hb => ⟨ae h.kind hlt hb, ae h.n hlt hb, ae h.s hlt hb, h.kind_lt, h.n_lt, h.s_lt⟩
structure fO (w : World) (b o : Nat) (x : In) : Prop where
 op : w.cell? ⟨b, o, none⟩ = some (.int .u16 x.op)
 ty : w.cell? ⟨b, o + 1, none⟩ = some (.int .u32 x.ty)
 res : w.cell? ⟨b, o + 2, none⟩ = some (.int .u32 x.res)
 args : ∃ a cap, w.cell? ⟨b, o + 3, none⟩ = some (.slice a x.args.length cap) ∧ Sl 3 cz w a x.args
 op_lt : x.op < 65536
 ty_lt : x.ty < 4294967296
 res_lt : x.res < 4294967296
 args_lt : x.args.length ≤ 1048576
theorem fO.lasts : Ez fO := fun _ _ _ _ _ h hlt hb => ⟨ae h.op hlt hb, ae h.ty hlt hb, ae h.res hlt hb, (by
 obtain ⟨a, cap, h1, h2⟩ := h.args
 exact ⟨a, cap, ae h1 hlt hb, h2.below cz.lasts hb⟩), h.op_lt, h.ty_lt, h.res_lt, h.args_lt⟩
structure NF (w : World) (a : Option Addr) (m : Md) : Prop where
 insts : Sl 4 fO w a m.insts
 gen_lt : m.gen < 4294967296
 bound_lt : m.bound < 4294967296
 insts_lt : m.insts.length ≤ 1048576
theorem NF.below {w w' : World} {a : Option Addr} {m : Md} (h : NF w a m) (hb : Bl w w') : NF w' a m := ⟨h.insts.below fO.lasts hb, h.gen_lt, h.bound_lt, h.insts_lt⟩
def rR (k : IntKind) (w : World) (b o : Nat) (x : Nat) : Prop := w.cell? ⟨b, o, none⟩ = some (.int k x)
theorem rR.lasts (k : IntKind) : Ez (rR k) := fun _ _ _ _ _ h hlt hb => ae h hlt hb
theorem bH (b j i : Nat) : (⟨b, j, none⟩ : Addr).add i = ⟨b, j + i, none⟩ := by
 unfold Addr.add
 split
 ·rename_i h; subst h; rfl
 ·rfl
structure El (t e : TypeId) (sz bytes : Nat) : Prop where
 slice : Tryz.prog.underlying t = some (.slice e)
 info : ∃ i z, Tryz.prog.info? e = some i ∧ i.zero = some z ∧ i.size = sz ∧ i.bytes = bytes ∧ z.cells.size = sz
 pos : 0 < sz
theorem El.of {t e : TypeId} {z : Value} {sz bytes : Nat} (h1 : Tryz.prog.underlying t = some (.slice e)) (h2 : (Tryz.prog.info? e).map (fun i => (i.zero, i.size, i.bytes)) = some (some z, sz, bytes)) (h3 : z.cells.size = sz) (h4 : 0 < sz) : El t e sz bytes := by
 obtain ⟨i, a, b, c, d⟩ := info_parts h2;exact ⟨h1, ⟨i, z, a, b, c, d, h3⟩, h4⟩
theorem aA {P : Program} {ops : Array Oper} {rest : List Oper} {a : Act} {w : World} {Q : Exit → Act → World → Prop} {d : Option Tmp} {xs : Array Operand} {ts : Array TypeId} {ty : TypeId} {ps : String} {af : Array Edge} {gd : Option (Nat × Bool)}
  (h : wpList P ops Q ({ dst := d, op := .call { callee := .builtin .append, args := xs, argTypes := ts }, type := ty, pos := ps, after := af, guard := gd } :: rest) a w) :
  wpList P ops Q ({ dst := d, op := .call { callee := .builtin .append, args := xs, argTypes := ts }, type := ty, pos := ps, after := af, guard := gd } :: rest) a w := h
theorem mU {w : World} {ops : Array Oper} {rest : List Oper} {o : Oper} {a : Act} {Q : Exit → Act → World → Prop} {t e : TypeId} {sz bytes : Nat} (E : El t e sz bytes) (hgd : o.guard = none) (s x : Operand)
  (ho : o.op = .call { callee := .builtin .append, args := #[s, x], argTypes := #[t, t] })
  (base : Nat) (v : Value) (n : Nat) (xs : List Value) (hs : a.eval s = v) (hown : w.ownsRow base e sz v n xs)
  (news : Array Value) (H : Nat) (hx : a.eval x = .slice (some ⟨H, 0, none⟩) 1 1) (hH : w.heap.size = H) (hl : news.size = sz) (h1 : ∀ u ∈ news.toList, u.oneCell' = true) (hsmall : (n + 1) * bytes ≤ 140737488355328) (h63 : n + 1 ≤ 140737488355328) (hbase : base ≤ w.heap.size)
  (h : ∀ g' cap w', w'.ownsRow base e sz (.slice (some ⟨g', 0, none⟩) (n + 1) cap) (n + 1) (xs ++ news.toList) → w.grownBy w' v.ownBlock → (v.ownBlock = some g' ∨ w.heap.size < g') → g' < w'.heap.size →
   wpList Tryz.prog ops Q rest (a.put o.dst (.slice (some ⟨g', 0, none⟩) (n + 1) cap)) w') : wpList Tryz.prog ops Q (o :: rest) a (w.alloc (.cells news e)) := by
 subst hH;obtain ⟨i, z, hi, hz0, hz1, hz2, hz3⟩ := E.info;refine wpList_append_lies (w.alloc (.cells news e)) hgd s x t ho base e i z sz bytes E.slice hi hz0 hz1 hz2 hz3 E.pos v n xs hs (hown.alloc _) ⟨w.heap.size, 0, none⟩ 1 1 news.toList hx (by simpa using hl) ?_ h1 (by omega) (by unfold maxLen; omega) hsmall (by simp; omega) _ rfl ?_
 ·intro j u hu
  rw [bH, cell_of_row _ _ _ _ _ _ (alloc_at w _)];simpa using hu
 ·intro g' cap w' h1 h2 h3 h4
  refine h g' cap w' h1 ?_ ?_ h4
  ·exact ⟨h2.os, h2.tape, h2.output, Nat.le_trans (by simp) h2.size, fun k hk hne => (h2.block k (by simp; omega) hne).trans (heap_alloc_old w _ hk)⟩
  ·rcases h3 with h3 | h3
   ·exact .inl h3
   ·right; rw [h3]; simp
theorem own_below {w w' : World} {base n sz : Nat} {e : TypeId} {v : Value} {xs : List Value} (h : w.ownsRow base e sz v n xs) (hb : Bl w w') : w'.ownsRow base e sz v n xs :=
 h.kept (row := none) ⟨hb.os, hb.tape, hb.output, hb.size, fun k hk _ => hb.block k hk⟩ (by cases v.ownBlock <;> simp)
theorem kC {w : World} {b1 b2 n sz : Nat} {e : TypeId} {v : Value} {xs : List Value} (h : w.ownsRow b1 e sz v n xs) (hb : b2 ≤ b1) : w.ownsRow b2 e sz v n xs := by
 refine ⟨h.1, ?_⟩;rcases h.2 with h2 | ⟨g, cap, cur, h1, h2, h3⟩
 ·exact .inl h2
 ·exact .inr ⟨g, cap, cur, h1, Nat.le_trans hb h2, h3⟩
theorem below_grown {w w1 w2 : World} {row : Option Nat} (h : Bl w w1) (hg : w1.grownBy w2 row) (hrow : ∀ k, row = some k → w.heap.size ≤ k) : Bl w w2 :=
 h.grown hg h.size hrow
theorem fA {w : World} {base n sz : Nat} {e : TypeId} {v : Value} {xs : List Value} (h : w.ownsRow base e sz v n xs) : ∃ a cap, v = .slice a n cap ∧ (0 < n → ∃ g, a = some ⟨g, 0, none⟩ ∧ base ≤ g ∧ g < w.heap.size ∧ ∀ j u, xs[j]? = some u → w.cell? ⟨g, j, none⟩ = some u) := by
 rcases h.2 with ⟨rfl, rfl⟩ | ⟨g, cap, cur, rfl, hb, hg, hnc, hm, hs, ht⟩
 ·exact ⟨none, 0, rfl, fun h => by omega⟩
 ·refine ⟨_, cap, rfl, fun _ => ⟨g, rfl, hb, (Array.getElem?_eq_some_iff.1 hg).1, fun j u hu => ?_⟩⟩
  have := h.cells (g := g) rfl j u hu
  rwa [bH, Nat.zero_add] at this
theorem ma {w : World} {base : Nat} {e : TypeId} {v : Value} {k : IntKind} {l : List Nat} (h : w.ownsRow base e 1 v l.length (l.map fun x : Nat => Value.int k (x : Int))) : ∃ a cap, v = .slice a l.length cap ∧ Sl 1 (rR k) w a l := by
 obtain ⟨a, cap, rfl, h2⟩ := fA h;refine ⟨a, cap, rfl, ⟨fun hp => ?_⟩⟩;obtain ⟨g, rfl, _, hlt, hc⟩ := h2 hp;refine ⟨g, 0, rfl, hlt, fun i hi => ?_⟩
 show w.cell? ⟨g, 0 + i * 1, none⟩ = _
 rw [Nat.zero_add, Nat.mul_one];exact hc i _ (by rw [List.getElem?_map, List.getElem?_eq_getElem hi]; rfl)
end Go.Proofs.YtlkolghiknbbfaaGreatDoor
namespace Go.Proofs.YtlkolghiknbbfaaGreatDoor
open Go.RowKit Go.MapKept
def dJ {κ α : Type} [DecidableEq κ] (f : κ → Option α) (k : κ) (x : α) : κ → Option α := fun j => if j = k then some x else f j
structure Keys {κ : Type} (d : TypeDesc) (key : κ → Value) : Prop where
 is : ∀ k, IsKey d (key k)
 inj : ∀ k k', key k = key k' → k = k'
structure Mp {κ α : Type} (d : TypeDesc) (key : κ → Value) (R : World → Value → α → Prop) (w : World) (b : Nat) (f : κ → Option α) : Prop where
 at_ : ∃ (es : Array MapEntry) (clock : Nat), w.heap[b]? = some (.map es clock) ∧ (∀ (j : Nat) (e : MapEntry), es[j]? = some e → e.born < clock ∧ ∃ k x, e.key = key k ∧ f k = some x ∧ R w e.val x) ∧ (∀ k x, f k = some x → ∃ (j : Nat) (e : MapEntry), es[j]? = some e ∧ e.key = key k) ∧ (∀ (i j : Nat) (e e' : MapEntry), es[i]? = some e → es[j]? = some e' → (e.key = e'.key ∨ e.born = e'.born) → i = j)
section
variable {κ α : Type} {d : TypeDesc} {key : κ → Value} {R : World → Value → α → Prop} {w : World} {b : Nat} {f : κ → Option α} {mt kt et : TypeId}
theorem Mp.lt (h : Mp d key R w b f) : b < w.heap.size := by
 obtain ⟨es, clock, h1, -⟩ := h.at_;exact (Array.getElem?_eq_some_iff.1 h1).1
theorem Mp.other {w' : World} (h : Mp d key R w b f) (he : w'.heap[b]? = w.heap[b]?) (hR : ∀ v x, R w v x → R w' v x) : Mp d key R w' b f := by
 obtain ⟨es, clock, h1, h2, h3, h4⟩ := h.at_;exact ⟨es, clock, he.trans h1, fun j e hj => ⟨(h2 j e hj).1, (h2 j e hj).2.imp fun k hk => hk.imp fun x hx => ⟨hx.1, hx.2.1, hR _ _ hx.2.2⟩⟩, h3, h4⟩
theorem fQ (hb : w.heap[b]? = some (.map #[] 0)) : Mp d key R w b (fun _ => none) :=
 ⟨#[], 0, hb, fun j e h => by simp at h, fun k x h => by simp at h, fun i j e e' h => by simp at h⟩
theorem wU (K : Keys d key) {es : Array MapEntry} (h2 : ∀ (j : Nat) (e : MapEntry), es[j]? = some e → ∃ k x, e.key = key k ∧ f k = some x ∧ R w e.val x) (h3 : ∀ k x, f k = some x → ∃ (j : Nat) (e : MapEntry), es[j]? = some e ∧ e.key = key k) (k : κ) :
  (f k = none ∧ Instr.findNow d (key k) es.toList 0 = some none ∧ ∀ (j : Nat) (e : MapEntry), es[j]? = some e → e.key ≠ key k) ∨ ∃ (x : α) (j : Nat) (e : MapEntry), f k = some x ∧ R w e.val x ∧ Instr.findNow d (key k) es.toList 0 = some (some (j, e.val)) ∧ es[j]? = some e ∧ e.key = key k := by
 have hks : ∀ x ∈ es.toList, IsKey d x.key := fun x hx => by
  obtain ⟨j, hj⟩ := Array.mem_iff_getElem?.1 (Array.mem_toList_iff.1 hx);obtain ⟨k', _, e, _⟩ := h2 j x hj;rw [e];exact K.is k'
 rcases findNow_spec (K.is k) es.toList 0 hks with ⟨g1, g2⟩ | ⟨j, e, g1, g2, g3⟩
 ·have hne : ∀ (j : Nat) (e : MapEntry), es[j]? = some e → e.key ≠ key k := fun j e hj => g2 e (Array.mem_toList_iff.2 (Array.mem_of_getElem? hj))
  refine .inl ⟨?_, g1, hne⟩
  cases hf : f k with
  | none => rfl
  | some x =>
   obtain ⟨j, e, hj, he⟩ := h3 k x hf;exact absurd he (hne j e hj)
 ·rw [Nat.zero_add] at g1
  have hj : es[j]? = some e := by simpa using g2
  obtain ⟨k', x, e1, e2, e3⟩ := h2 j e hj;obtain rfl := K.inj _ _ (e1.symm.trans g3);exact .inr ⟨x, j, e, e2, e3, g1, hj, g3⟩
theorem Mp.hit (h : Mp d key R w b f) (K : Keys d key) (hm : Tryz.prog.underlying mt = some (.map kt et)) (hd : Tryz.prog.underlying kt = some d) {k : κ} {x : α} (hf : f k = some x) : ∃ v, R w v x ∧ ∀ c, (Instr.lookup mt (.map (some b)) (key k) c).run Tryz.prog w = .ok (if c then .tuple #[v, .bool true] else v) w := by
 obtain ⟨es, clock, h1, h2, h3, h4⟩ := h.at_;rcases wU K (fun j e hj => (h2 j e hj).2) h3 k with ⟨g, -⟩ | ⟨y, j, e, g1, g2, g3, -⟩
 ·rw [g] at hf; cases hf
 ·rw [g1] at hf
  cases hf
  refine ⟨e.val, g2, fun c => ?_⟩;have q1 := fun e => run_checkKey (P := Tryz.prog) (w := w) hd (K.is k) e 9999
  have q2 := run_findKey (P := Tryz.prog) (w := w) hd g3;simp only [Instr.lookup, Sem.run_bind, Go.MapKept.run_getObj_map h1, q1, q2, Result.andThen, run_underlying hm, Sem.run_pure]
theorem Mp.miss (h : Mp d key R w b f) (K : Keys d key) (hm : Tryz.prog.underlying mt = some (.map kt et)) (hd : Tryz.prog.underlying kt = some d) {k : κ} (hf : f k = none) {z : Value} (hz : (zeroValue et).run Tryz.prog w = .ok z w) (c : Bool) : (Instr.lookup mt (.map (some b)) (key k) c).run Tryz.prog w = .ok (if c then .tuple #[z, .bool false] else z) w := by
 obtain ⟨es, clock, h1, h2, h3, h4⟩ := h.at_;rcases wU K (fun j e hj => (h2 j e hj).2) h3 k with ⟨-, g, -⟩ | ⟨y, j, e, g1, -⟩
 ·have q1 := fun e => run_checkKey (P := Tryz.prog) (w := w) hd (K.is k) e 9999
  have q2 := run_findKey (P := Tryz.prog) (w := w) hd g;simp only [Instr.lookup, Sem.run_bind, Go.MapKept.run_getObj_map h1, q1, q2, hz, Result.andThen, run_underlying hm, Sem.run_pure]
 ·rw [g1] at hf; cases hf
def aT (w : World) (b : Nat) (o : Obj) : World := { w with heap := w.heap.setIfInBounds b o }
theorem jg (w : World) (b : Nat) (o : Obj) : (aT w b o).heap.size = w.heap.size := by simp [aT]
theorem jw (w : World) {b k : Nat} (o : Obj) (h : k ≠ b) : (aT w b o).heap[k]? = w.heap[k]? := by
 show (w.heap.setIfInBounds b o)[k]? = _
 simp [Ne.symm h]
theorem Mp.put [DecidableEq κ] (h : Mp d key R w b f) (K : Keys d key) (hm : Tryz.prog.underlying mt = some (.map kt et)) (hd : Tryz.prog.underlying kt = some d) (k : κ) (v : Value) (x : α)
  (hR : ∀ o u y, R w u y → R (aT w b o) u y) (hv : ∀ o, R (aT w b o) v x) :
  ∃ o, (Instr.mapUpdate mt (.map (some b)) (key k) v).run Tryz.prog w = .ok () (aT w b o) ∧ Mp d key R (aT w b o) b (dJ f k x) := by
 obtain ⟨es, clock, h1, h2, h3, h4⟩ := h.at_;have hlt := h.lt;have q1 := run_checkKey (P := Tryz.prog) (w := w) hd (K.is k) false 9999;have hat : ∀ o, (aT w b o).heap[b]? = some o := fun o => by
  show (w.heap.setIfInBounds b o)[b]? = _
  simp [hlt]
 rcases wU K (fun j e hj => (h2 j e hj).2) h3 k with ⟨g0, g, gn⟩ | ⟨y, j, e, g1, g2, g3, g4, g5⟩
 ·have q2 := run_findKey (P := Tryz.prog) (w := w) hd g
  refine ⟨.map (es.push { key := key k, val := v, born := clock }) (clock + 1), ?_, ⟨_, _, hat _, ?_, ?_, ?_⟩⟩
  ·simp [Instr.mapUpdate, run_underlying hm, Go.MapKept.run_getObj_map h1, q1, q2, run_setObj_map _ h1, Result.andThen, aT]
  ·intro i e hi
   rw [Array.getElem?_push] at hi
   split at hi
   ·cases hi
    exact ⟨Nat.lt_succ_self _, k, x, rfl, if_pos rfl, hv _⟩
   ·obtain ⟨a1, k', x', a2, a3, a4⟩ := h2 i e hi
    refine ⟨Nat.lt_succ_of_lt a1, k', x', a2, ?_, hR _ _ _ a4⟩;rw [dJ, if_neg (fun q => by subst q; exact gn i e hi a2)];exact a3
  ·intro k' x' hk'
   unfold dJ at hk'
   split at hk'
   ·rename_i q
    subst q;exact ⟨es.size, { key := key k', val := v, born := clock }, by simp, rfl⟩
   ·obtain ⟨i, e, a1, a2⟩ := h3 k' x' hk'
    exact ⟨i, e, by rw [Array.getElem?_push, if_neg (by have := (Array.getElem?_eq_some_iff.1 a1).1; omega)]; exact a1, a2⟩
  ·intro i j e e' hi hj he
   rw [Array.getElem?_push] at hi hj
   split at hi <;> split at hj
   ·omega
   ·cases hi
    rcases he with he | he
    ·exact absurd he.symm (gn j e' hj)
    ·have := (h2 j e' hj).1
     simp only at he;omega
   ·cases hj
    rcases he with he | he
    ·exact absurd he (gn i e hi)
    ·have := (h2 i e hi).1
     simp only at he;omega
   ·exact h4 i j e e' hi hj he
 ·have q2 := run_findKey (P := Tryz.prog) (w := w) hd g3
  have hmod : ∀ i e', (es.modify j fun e => { e with key := key k, val := v })[i]? = some e' → ∃ e0, es[i]? = some e0 ∧ e'.key = e0.key ∧ e'.born = e0.born ∧ (i = j → e'.val = v) ∧ (i ≠ j → e' = e0) := fun i e' hi => by
   rw [Array.getElem?_modify] at hi
   split at hi
   ·rename_i q
    subst q;rw [g4] at hi
    cases hi
    exact ⟨e, g4, g5.symm, rfl, fun _ => rfl, fun q => absurd rfl q⟩
   ·rename_i q
    exact ⟨e', hi, rfl, rfl, fun z => absurd z.symm q, fun _ => rfl⟩
  refine ⟨.map (es.modify j fun e => { e with key := key k, val := v }) clock, ?_, ⟨_, _, hat _, ?_, ?_, ?_⟩⟩
  ·simp [Instr.mapUpdate, run_underlying hm, Go.MapKept.run_getObj_map h1, q1, q2, g4, g5, run_keyThatStays (K.is k), run_setObj_map _ h1, Result.andThen, aT]
  ·intro i e' hi
   obtain ⟨e0, a1, a2, a3, a4, a5⟩ := hmod i e' hi;obtain ⟨b1, k', x', b2, b3, b4⟩ := h2 i e0 a1;refine ⟨by omega, ?_⟩;by_cases q : i = j
   ·subst q
    rw [g4] at a1
    cases a1
    exact ⟨k, x, a2.trans g5, if_pos rfl, by rw [a4 rfl]; exact hv _⟩
   ·refine ⟨k', x', a2.trans b2, ?_, by rw [a5 q]; exact hR _ _ _ b4⟩
    rw [dJ, if_neg (fun z => by subst z; exact q (h4 i j e0 e a1 g4 (.inl (b2.trans g5.symm))))];exact b3
  ·have hback : ∀ (i : Nat) (e0 : MapEntry), es[i]? = some e0 → ∃ e' : MapEntry, (es.modify j fun e => { e with key := key k, val := v })[i]? = some e' ∧ e'.key = e0.key := fun i e0 hi => by
    rw [Array.getElem?_modify];by_cases q : j = i
    ·subst q
     rw [g4] at hi
     cases hi
     exact ⟨_, by rw [if_pos rfl, g4]; rfl, g5.symm⟩
    ·exact ⟨e0, by rw [if_neg q]; exact hi, rfl⟩
   intro k' x' hk';unfold dJ at hk'
   split at hk'
   ·rename_i q
    subst q;obtain ⟨e', a1, a2⟩ := hback j e g4;exact ⟨j, e', a1, a2.trans g5⟩
   ·obtain ⟨i, e0, a1, a2⟩ := h3 k' x' hk'
    obtain ⟨e', a3, a4⟩ := hback i e0 a1;exact ⟨i, e', a3, a4.trans a2⟩
  ·intro i i' e1 e2 hi hi' he
   obtain ⟨e0, a1, a2, a3, -⟩ := hmod i e1 hi;obtain ⟨e0', c1, c2, c3, -⟩ := hmod i' e2 hi';exact h4 i i' e0 e0' a1 c1 (he.imp (fun q => a2.symm.trans (q.trans c2)) (fun q => a3.symm.trans (q.trans c3)))
end
end Go.Proofs.YtlkolghiknbbfaaGreatDoor
namespace Go.Proofs.YtlkolghiknbbfaaGreatDoor
open Go.RowKit
def look (op : Nat) : List (Nat × ByteArray) → ByteArray
 | [] => ⟨#[]⟩
 | (n, s) :: l => if op = n then s else look op l
def uK : List (Nat × ByteArray) := [
 (1, ⟨#[79, 112, 85, 110, 100, 101, 102, 32, 84, 82, 32, 32, 32, 32, 55]⟩),
 (3, ⟨#[79, 112, 83, 111, 117, 114, 99, 101, 32, 32, 108, 110, 32, 32, 32, 52]⟩),
 (5, ⟨#[79, 112, 78, 97, 109, 101, 32, 32, 105, 115, 32, 32, 32, 53]⟩),
 (6, ⟨#[79, 112, 77, 101, 109, 98, 101, 114, 78, 97, 109, 101, 32, 32, 105, 110, 115, 32, 32, 32, 53]⟩),
 (7, ⟨#[79, 112, 83, 116, 114, 105, 110, 103, 32, 82, 32, 115, 32, 32, 32, 52]⟩),
 (14, ⟨#[79, 112, 77, 101, 109, 111, 114, 121, 77, 111, 100, 101, 108, 32, 32, 97, 109, 32, 32, 32, 49]⟩),
 (15, ⟨#[79, 112, 69, 110, 116, 114, 121, 80, 111, 105, 110, 116, 32, 32, 101, 105, 115, 32, 105, 32, 32, 50]⟩),
 (16, ⟨#[79, 112, 69, 120, 101, 99, 117, 116, 105, 111, 110, 77, 111, 100, 101, 32, 32, 105, 120, 32, 32, 32, 51]⟩),
 (17, ⟨#[79, 112, 67, 97, 112, 97, 98, 105, 108, 105, 116, 121, 32, 32, 107, 32, 32, 32, 48]⟩),
 (19, ⟨#[79, 112, 84, 121, 112, 101, 86, 111, 105, 100, 32, 82, 32, 32, 32, 32, 55]⟩),
 (20, ⟨#[79, 112, 84, 121, 112, 101, 66, 111, 111, 108, 32, 82, 32, 32, 32, 32, 55]⟩),
 (21, ⟨#[79, 112, 84, 121, 112, 101, 73, 110, 116, 32, 82, 32, 110, 110, 32, 32, 32, 55]⟩),
 (23, ⟨#[79, 112, 84, 121, 112, 101, 86, 101, 99, 116, 111, 114, 32, 82, 32, 105, 110, 32, 32, 32, 55]⟩),
 (28, ⟨#[79, 112, 84, 121, 112, 101, 65, 114, 114, 97, 121, 32, 82, 32, 105, 105, 32, 32, 32, 55]⟩),
 (30, ⟨#[79, 112, 84, 121, 112, 101, 83, 116, 114, 117, 99, 116, 32, 82, 32, 32, 105, 32, 32, 55]⟩),
 (32, ⟨#[79, 112, 84, 121, 112, 101, 80, 111, 105, 110, 116, 101, 114, 32, 82, 32, 99, 105, 32, 32, 32, 55]⟩),
 (33, ⟨#[79, 112, 84, 121, 112, 101, 70, 117, 110, 99, 116, 105, 111, 110, 32, 82, 32, 105, 32, 105, 32, 32, 55]⟩),
 (41, ⟨#[79, 112, 67, 111, 110, 115, 116, 97, 110, 116, 84, 114, 117, 101, 32, 84, 82, 32, 32, 32, 32, 55]⟩),
 (42, ⟨#[79, 112, 67, 111, 110, 115, 116, 97, 110, 116, 70, 97, 108, 115, 101, 32, 84, 82, 32, 32, 32, 32, 55]⟩),
 (43, ⟨#[79, 112, 67, 111, 110, 115, 116, 97, 110, 116, 32, 84, 82, 32, 110, 32, 32, 32, 55]⟩),
 (44, ⟨#[79, 112, 67, 111, 110, 115, 116, 97, 110, 116, 67, 111, 109, 112, 111, 115, 105, 116, 101, 32, 84, 82, 32, 32, 105, 32, 32, 55]⟩),
 (46, ⟨#[79, 112, 67, 111, 110, 115, 116, 97, 110, 116, 78, 117, 108, 108, 32, 84, 82, 32, 32, 32, 32, 55]⟩),
 (54, ⟨#[79, 112, 70, 117, 110, 99, 116, 105, 111, 110, 32, 84, 82, 32, 102, 105, 32, 32, 32, 56]⟩),
 (55, ⟨#[79, 112, 70, 117, 110, 99, 116, 105, 111, 110, 80, 97, 114, 97, 109, 101, 116, 101, 114, 32, 84, 82, 32, 32, 32, 32, 56]⟩),
 (56, ⟨#[79, 112, 70, 117, 110, 99, 116, 105, 111, 110, 69, 110, 100, 32, 32, 32, 32, 32, 56]⟩),
 (57, ⟨#[79, 112, 70, 117, 110, 99, 116, 105, 111, 110, 67, 97, 108, 108, 32, 84, 82, 32, 105, 32, 105, 32, 32, 56]⟩),
 (59, ⟨#[79, 112, 86, 97, 114, 105, 97, 98, 108, 101, 32, 84, 82, 32, 99, 32, 105, 32, 49, 32, 55]⟩),
 (61, ⟨#[79, 112, 76, 111, 97, 100, 32, 84, 82, 32, 105, 32, 32, 32, 56]⟩),
 (62, ⟨#[79, 112, 83, 116, 111, 114, 101, 32, 32, 105, 105, 32, 32, 32, 56]⟩),
 (65, ⟨#[79, 112, 65, 99, 99, 101, 115, 115, 67, 104, 97, 105, 110, 32, 84, 82, 32, 105, 32, 105, 32, 32, 56]⟩),
 (71, ⟨#[79, 112, 68, 101, 99, 111, 114, 97, 116, 101, 32, 32, 105, 100, 32, 110, 32, 32, 54]⟩)]
def uG : List (Nat × ByteArray) := [
 (77, ⟨#[79, 112, 86, 101, 99, 116, 111, 114, 69, 120, 116, 114, 97, 99, 116, 68, 121, 110, 97, 109, 105, 99, 32, 84, 82, 32, 105, 105, 32, 32, 32, 56]⟩),
 (78, ⟨#[79, 112, 86, 101, 99, 116, 111, 114, 73, 110, 115, 101, 114, 116, 68, 121, 110, 97, 109, 105, 99, 32, 84, 82, 32, 105, 105, 105, 32, 32, 32, 56]⟩),
 (79, ⟨#[79, 112, 86, 101, 99, 116, 111, 114, 83, 104, 117, 102, 102, 108, 101, 32, 84, 82, 32, 105, 105, 32, 110, 32, 32, 56]⟩),
 (80, ⟨#[79, 112, 67, 111, 109, 112, 111, 115, 105, 116, 101, 67, 111, 110, 115, 116, 114, 117, 99, 116, 32, 84, 82, 32, 32, 105, 32, 32, 56]⟩),
 (81, ⟨#[79, 112, 67, 111, 109, 112, 111, 115, 105, 116, 101, 69, 120, 116, 114, 97, 99, 116, 32, 84, 82, 32, 105, 32, 110, 32, 32, 56]⟩),
 (82, ⟨#[79, 112, 67, 111, 109, 112, 111, 115, 105, 116, 101, 73, 110, 115, 101, 114, 116, 32, 84, 82, 32, 105, 105, 32, 110, 32, 32, 56]⟩),
 (83, ⟨#[79, 112, 67, 111, 112, 121, 79, 98, 106, 101, 99, 116, 32, 84, 82, 32, 105, 32, 32, 32, 56]⟩),
 (124, ⟨#[79, 112, 66, 105, 116, 99, 97, 115, 116, 32, 84, 82, 32, 105, 32, 32, 32, 56]⟩),
 (126, ⟨#[79, 112, 83, 78, 101, 103, 97, 116, 101, 32, 84, 82, 32, 105, 32, 32, 32, 56]⟩),
 (128, ⟨#[79, 112, 73, 65, 100, 100, 32, 84, 82, 32, 105, 105, 32, 32, 32, 56]⟩),
 (130, ⟨#[79, 112, 73, 83, 117, 98, 32, 84, 82, 32, 105, 105, 32, 32, 32, 56]⟩),
 (132, ⟨#[79, 112, 73, 77, 117, 108, 32, 84, 82, 32, 105, 105, 32, 32, 32, 56]⟩),
 (134, ⟨#[79, 112, 85, 68, 105, 118, 32, 84, 82, 32, 105, 105, 32, 32, 32, 56]⟩),
 (135, ⟨#[79, 112, 83, 68, 105, 118, 32, 84, 82, 32, 105, 105, 32, 32, 32, 56]⟩),
 (137, ⟨#[79, 112, 85, 77, 111, 100, 32, 84, 82, 32, 105, 105, 32, 32, 32, 56]⟩),
 (138, ⟨#[79, 112, 83, 82, 101, 109, 32, 84, 82, 32, 105, 105, 32, 32, 32, 56]⟩),
 (139, ⟨#[79, 112, 83, 77, 111, 100, 32, 84, 82, 32, 105, 105, 32, 32, 32, 56]⟩),
 (149, ⟨#[79, 112, 73, 65, 100, 100, 67, 97, 114, 114, 121, 32, 84, 82, 32, 105, 105, 32, 32, 32, 56]⟩),
 (150, ⟨#[79, 112, 73, 83, 117, 98, 66, 111, 114, 114, 111, 119, 32, 84, 82, 32, 105, 105, 32, 32, 32, 56]⟩),
 (151, ⟨#[79, 112, 85, 77, 117, 108, 69, 120, 116, 101, 110, 100, 101, 100, 32, 84, 82, 32, 105, 105, 32, 32, 32, 56]⟩),
 (152, ⟨#[79, 112, 83, 77, 117, 108, 69, 120, 116, 101, 110, 100, 101, 100, 32, 84, 82, 32, 105, 105, 32, 32, 32, 56]⟩),
 (154, ⟨#[79, 112, 65, 110, 121, 32, 84, 82, 32, 105, 32, 32, 32, 56]⟩),
 (155, ⟨#[79, 112, 65, 108, 108, 32, 84, 82, 32, 105, 32, 32, 32, 56]⟩),
 (164, ⟨#[79, 112, 76, 111, 103, 105, 99, 97, 108, 69, 113, 117, 97, 108, 32, 84, 82, 32, 105, 105, 32, 32, 32, 56]⟩),
 (165, ⟨#[79, 112, 76, 111, 103, 105, 99, 97, 108, 78, 111, 116, 69, 113, 117, 97, 108, 32, 84, 82, 32, 105, 105, 32, 32, 32, 56]⟩),
 (166, ⟨#[79, 112, 76, 111, 103, 105, 99, 97, 108, 79, 114, 32, 84, 82, 32, 105, 105, 32, 32, 32, 56]⟩),
 (167, ⟨#[79, 112, 76, 111, 103, 105, 99, 97, 108, 65, 110, 100, 32, 84, 82, 32, 105, 105, 32, 32, 32, 56]⟩),
 (168, ⟨#[79, 112, 76, 111, 103, 105, 99, 97, 108, 78, 111, 116, 32, 84, 82, 32, 105, 32, 32, 32, 56]⟩),
 (169, ⟨#[79, 112, 83, 101, 108, 101, 99, 116, 32, 84, 82, 32, 105, 105, 105, 32, 32, 32, 56]⟩),
 (170, ⟨#[79, 112, 73, 69, 113, 117, 97, 108, 32, 84, 82, 32, 105, 105, 32, 32, 32, 56]⟩),
 (171, ⟨#[79, 112, 73, 78, 111, 116, 69, 113, 117, 97, 108, 32, 84, 82, 32, 105, 105, 32, 32, 32, 56]⟩)]
def uR : List (Nat × ByteArray) := [
 (172, ⟨#[79, 112, 85, 71, 114, 101, 97, 116, 101, 114, 84, 104, 97, 110, 32, 84, 82, 32, 105, 105, 32, 32, 32, 56]⟩),
 (173, ⟨#[79, 112, 83, 71, 114, 101, 97, 116, 101, 114, 84, 104, 97, 110, 32, 84, 82, 32, 105, 105, 32, 32, 32, 56]⟩),
 (174, ⟨#[79, 112, 85, 71, 114, 101, 97, 116, 101, 114, 84, 104, 97, 110, 69, 113, 117, 97, 108, 32, 84, 82, 32, 105, 105, 32, 32, 32, 56]⟩),
 (175, ⟨#[79, 112, 83, 71, 114, 101, 97, 116, 101, 114, 84, 104, 97, 110, 69, 113, 117, 97, 108, 32, 84, 82, 32, 105, 105, 32, 32, 32, 56]⟩),
 (176, ⟨#[79, 112, 85, 76, 101, 115, 115, 84, 104, 97, 110, 32, 84, 82, 32, 105, 105, 32, 32, 32, 56]⟩),
 (177, ⟨#[79, 112, 83, 76, 101, 115, 115, 84, 104, 97, 110, 32, 84, 82, 32, 105, 105, 32, 32, 32, 56]⟩),
 (178, ⟨#[79, 112, 85, 76, 101, 115, 115, 84, 104, 97, 110, 69, 113, 117, 97, 108, 32, 84, 82, 32, 105, 105, 32, 32, 32, 56]⟩),
 (179, ⟨#[79, 112, 83, 76, 101, 115, 115, 84, 104, 97, 110, 69, 113, 117, 97, 108, 32, 84, 82, 32, 105, 105, 32, 32, 32, 56]⟩),
 (194, ⟨#[79, 112, 83, 104, 105, 102, 116, 82, 105, 103, 104, 116, 76, 111, 103, 105, 99, 97, 108, 32, 84, 82, 32, 105, 105, 32, 32, 32, 56]⟩),
 (195, ⟨#[79, 112, 83, 104, 105, 102, 116, 82, 105, 103, 104, 116, 65, 114, 105, 116, 104, 109, 101, 116, 105, 99, 32, 84, 82, 32, 105, 105, 32, 32, 32, 56]⟩),
 (196, ⟨#[79, 112, 83, 104, 105, 102, 116, 76, 101, 102, 116, 76, 111, 103, 105, 99, 97, 108, 32, 84, 82, 32, 105, 105, 32, 32, 32, 56]⟩),
 (197, ⟨#[79, 112, 66, 105, 116, 119, 105, 115, 101, 79, 114, 32, 84, 82, 32, 105, 105, 32, 32, 32, 56]⟩),
 (198, ⟨#[79, 112, 66, 105, 116, 119, 105, 115, 101, 88, 111, 114, 32, 84, 82, 32, 105, 105, 32, 32, 32, 56]⟩),
 (199, ⟨#[79, 112, 66, 105, 116, 119, 105, 115, 101, 65, 110, 100, 32, 84, 82, 32, 105, 105, 32, 32, 32, 56]⟩),
 (200, ⟨#[79, 112, 78, 111, 116, 32, 84, 82, 32, 105, 32, 32, 32, 56]⟩),
 (201, ⟨#[79, 112, 66, 105, 116, 70, 105, 101, 108, 100, 73, 110, 115, 101, 114, 116, 32, 84, 82, 32, 105, 105, 105, 105, 32, 32, 32, 56]⟩),
 (202, ⟨#[79, 112, 66, 105, 116, 70, 105, 101, 108, 100, 83, 69, 120, 116, 114, 97, 99, 116, 32, 84, 82, 32, 105, 105, 105, 32, 32, 32, 56]⟩),
 (203, ⟨#[79, 112, 66, 105, 116, 70, 105, 101, 108, 100, 85, 69, 120, 116, 114, 97, 99, 116, 32, 84, 82, 32, 105, 105, 105, 32, 32, 32, 56]⟩),
 (204, ⟨#[79, 112, 66, 105, 116, 82, 101, 118, 101, 114, 115, 101, 32, 84, 82, 32, 105, 32, 32, 32, 56]⟩),
 (205, ⟨#[79, 112, 66, 105, 116, 67, 111, 117, 110, 116, 32, 84, 82, 32, 105, 32, 32, 32, 56]⟩),
 (245, ⟨#[79, 112, 80, 104, 105, 32, 84, 82, 32, 32, 105, 105, 32, 32, 56]⟩),
 (246, ⟨#[79, 112, 76, 111, 111, 112, 77, 101, 114, 103, 101, 32, 32, 105, 105, 103, 32, 32, 32, 56]⟩),
 (247, ⟨#[79, 112, 83, 101, 108, 101, 99, 116, 105, 111, 110, 77, 101, 114, 103, 101, 32, 32, 105, 104, 32, 32, 32, 56]⟩),
 (248, ⟨#[79, 112, 76, 97, 98, 101, 108, 32, 82, 32, 32, 32, 32, 56]⟩),
 (249, ⟨#[79, 112, 66, 114, 97, 110, 99, 104, 32, 32, 105, 32, 32, 32, 56]⟩),
 (250, ⟨#[79, 112, 66, 114, 97, 110, 99, 104, 67, 111, 110, 100, 105, 116, 105, 111, 110, 97, 108, 32, 32, 105, 105, 105, 32, 32, 32, 56]⟩),
 (251, ⟨#[79, 112, 83, 119, 105, 116, 99, 104, 32, 32, 105, 105, 32, 110, 105, 32, 32, 56]⟩),
 (252, ⟨#[79, 112, 75, 105, 108, 108, 32, 32, 32, 32, 32, 56]⟩),
 (253, ⟨#[79, 112, 82, 101, 116, 117, 114, 110, 32, 32, 32, 32, 32, 56]⟩),
 (254, ⟨#[79, 112, 82, 101, 116, 117, 114, 110, 86, 97, 108, 117, 101, 32, 32, 105, 32, 32, 32, 56]⟩),
 (255, ⟨#[79, 112, 85, 110, 114, 101, 97, 99, 104, 97, 98, 108, 101, 32, 32, 32, 32, 32, 56]⟩)]
def rowOf (op : Nat) : ByteArray := if op ≤ 71 then look op uK else if op ≤ 171 then look op uG else look op uR
theorem mi {op : Nat} {l : List (Nat × ByteArray)} (h : ¬ op ∈ l.map Prod.fst) : look op l = ⟨#[]⟩ := by
 induction l with
 | nil => rfl
 | cons x l ih =>
  simp only [List.map, List.mem_cons, not_or] at h;simp only [look, if_neg h.1, ih h.2]
theorem ja (op n : Nat) : (¬ op = n) ↔ (((op : Int) == (n : Int)) = false) := by simp; omega
set_option maxRecDepth 100000 in
set_option maxHeartbeats 4000000 in
theorem EK (op : Nat) (w : World) : Calls Tryz.prog 337 #[.int .u16 op] w fun e w' => e = .returned (.string (look op uK)) ∧ w = w' := by
 by_cases h : op ∈ uK.map Prod.fst
 ·simp only [uK, List.map, List.mem_cons, List.not_mem_nil, or_false] at h
  rcases h with rfl | rfl | rfl | rfl | rfl | rfl | rfl | rfl | rfl | rfl | rfl | rfl | rfl | rfl | rfl | rfl | rfl | rfl | rfl | rfl | rfl | rfl | rfl | rfl | rfl | rfl | rfl | rfl | rfl | rfl | rfl
  all_goals
   go_enter Tryz.func337, Tryz.ntmps337;go_wp2;go_ret;exact ⟨rfl, rfl⟩
 ·rw [mi h]
  simp only [uK, List.map, List.mem_cons, List.not_mem_nil, or_false, not_or, ja, Int.cast_ofNat_Int] at h;obtain ⟨_, _, _, _, _, _, _, _, _, _, _, _, _, _, _, _, _, _, _, _, _, _, _, _, _, _, _, _, _, _, _⟩ := h;go_enter Tryz.func337, Tryz.ntmps337;go_wp2;go_ret;exact ⟨rfl, rfl⟩
set_option maxRecDepth 100000 in
set_option maxHeartbeats 4000000 in
theorem Ca (op : Nat) (w : World) : Calls Tryz.prog 338 #[.int .u16 op] w fun e w' => e = .returned (.string (look op uG)) ∧ w = w' := by
 by_cases h : op ∈ uG.map Prod.fst
 ·simp only [uG, List.map, List.mem_cons, List.not_mem_nil, or_false] at h
  rcases h with rfl | rfl | rfl | rfl | rfl | rfl | rfl | rfl | rfl | rfl | rfl | rfl | rfl | rfl | rfl | rfl | rfl | rfl | rfl | rfl | rfl | rfl | rfl | rfl | rfl | rfl | rfl | rfl | rfl | rfl | rfl
  all_goals
   go_enter Tryz.func338, Tryz.ntmps338;go_wp2;go_ret;exact ⟨rfl, rfl⟩
 ·rw [mi h]
  simp only [uG, List.map, List.mem_cons, List.not_mem_nil, or_false, not_or, ja, Int.cast_ofNat_Int] at h;obtain ⟨_, _, _, _, _, _, _, _, _, _, _, _, _, _, _, _, _, _, _, _, _, _, _, _, _, _, _, _, _, _, _⟩ := h;go_enter Tryz.func338, Tryz.ntmps338;go_wp2;go_ret;exact ⟨rfl, rfl⟩
set_option maxRecDepth 100000 in
set_option maxHeartbeats 4000000 in
theorem Hm (op : Nat) (w : World) : Calls Tryz.prog 339 #[.int .u16 op] w fun e w' => e = .returned (.string (look op uR)) ∧ w = w' := by
 by_cases h : op ∈ uR.map Prod.fst
 ·simp only [uR, List.map, List.mem_cons, List.not_mem_nil, or_false] at h
  rcases h with rfl | rfl | rfl | rfl | rfl | rfl | rfl | rfl | rfl | rfl | rfl | rfl | rfl | rfl | rfl | rfl | rfl | rfl | rfl | rfl | rfl | rfl | rfl | rfl | rfl | rfl | rfl | rfl | rfl | rfl | rfl
  all_goals
   go_enter Tryz.func339, Tryz.ntmps339;go_wp2;go_ret;exact ⟨rfl, rfl⟩
 ·rw [mi h]
  simp only [uR, List.map, List.mem_cons, List.not_mem_nil, or_false, not_or, ja, Int.cast_ofNat_Int] at h;obtain ⟨_, _, _, _, _, _, _, _, _, _, _, _, _, _, _, _, _, _, _, _, _, _, _, _, _, _, _, _, _, _, _⟩ := h;go_enter Tryz.func339, Tryz.ntmps339;go_wp2;go_ret;exact ⟨rfl, rfl⟩
theorem Me (op : Nat) (w : World) : Calls Tryz.prog 294 #[.int .u16 op] w fun e w' => e = .returned (.string (rowOf op)) ∧ w = w' := by
 by_cases h1 : op ≤ 71
 ·have t1 : decide ((op : Int) ≤ 71) = true := by simp; omega
  rw [show rowOf op = look op uK by simp [rowOf, h1]];clear h1;go_enter Tryz.func294, Tryz.ntmps294;go_wp2_with (go_at_call 337; (with_reducible refine (EK _ _).mono ?_); rintro e w' ⟨rfl, rfl⟩);go_ret;exact ⟨rfl, rfl⟩
 have t1 : decide ((op : Int) ≤ 71) = false := by simp; omega
 by_cases h2 : op ≤ 171
 ·have t2 : decide ((op : Int) ≤ 171) = true := by simp; omega
  rw [show rowOf op = look op uG by simp [rowOf, h1, h2]];clear h1 h2;go_enter Tryz.func294, Tryz.ntmps294;go_wp2_with (go_at_call 338; (with_reducible refine (Ca _ _).mono ?_); rintro e w' ⟨rfl, rfl⟩);go_ret;exact ⟨rfl, rfl⟩
 have t2 : decide ((op : Int) ≤ 171) = false := by simp; omega
 rw [show rowOf op = look op uR by simp [rowOf, h1, h2]];clear h1 h2;go_enter Tryz.func294, Tryz.ntmps294;go_wp2_with (go_at_call 339; (with_reducible refine (Hm _ _).mono ?_); rintro e w' ⟨rfl, rfl⟩);go_ret;exact ⟨rfl, rfl⟩
end Go.Proofs.YtlkolghiknbbfaaGreatDoor
namespace Go.Proofs.YtlkolghiknbbfaaGreatDoor
open Go.RowKit Go.Lib
def aW (s : ByteArray) : Nat → Nat × (Nat → ByteArray)
 | 0 => (0, fun _ => ⟨#[]⟩)
 | k + 1 => if s.get! k = 32 then ((aW s k).1 + 1, (aW s k).2) else ((aW s k).1, fun j => if j = (aW s k).1 then (aW s k).2 j ++ ⟨#[s.get! k]⟩ else (aW s k).2 j)
def six (f : Nat → ByteArray) : Array Value := #[.string (f 0), .string (f 1), .string (f 2), .string (f 3), .string (f 4), .string (f 5)]
theorem ut (s : ByteArray) (k : Nat) : (aW s k).1 ≤ k ∧ ∀ j, ((aW s k).2 j).size ≤ k := by
 induction k with
 | zero => exact ⟨Nat.le_refl _, fun _ => Nat.le_refl _⟩
 | succ k ih =>
  simp only [aW]
  split
  ·exact ⟨Nat.succ_le_succ ih.1, fun j => Nat.le_succ_of_le (ih.2 j)⟩
  ·refine ⟨Nat.le_succ_of_le ih.1, fun j => ?_⟩
   have := ih.2 j
   show (if j = (aW s k).1 then (aW s k).2 j ++ ⟨#[s.get! k]⟩ else (aW s k).2 j : ByteArray).size ≤ k + 1
   split
   ·rw [ByteArray.size_append]
    have e : (ByteArray.mk #[s.get! k]).size = 1 := rfl;omega
   ·omega
theorem kK (s : ByteArray) (k : Nat) (h : k < s.size) : s.get! k = s[k] := by
 simp [ByteArray.get!, getElem!_pos, h];rfl
theorem Ny (f : Nat → ByteArray) (j : Nat) (h : j ≤ 5) : (six f)[j]? = some (.string (f j)) := by
 match j, h with
 | 0, _ => rfl | 1, _ => rfl | 2, _ => rfl | 3, _ => rfl | 4, _ => rfl | 5, _ => rfl
theorem tN (c : UInt8) (h : c.toNat < 128) : Utf8.encode (c.toNat : Int) = ⟨#[c]⟩ := by
 have hv : Utf8.valid (c.toNat : Int) = true := by simp [Utf8.valid]; omega
 simp [Utf8.encode, hv, h]
theorem MS (f : Nat → ByteArray) : (six f).all (·.oneCell') = true := by simp [six, Value.oneCell']
theorem La (f : Nat → ByteArray) (j : Nat) (x : ByteArray) (h : j ≤ 5) : (six f).setIfInBounds j (.string x) = six (fun i => if i = j then x else f i) := by
 match j, h with
 | 0, _ => rfl | 1, _ => rfl | 2, _ => rfl | 3, _ => rfl | 4, _ => rfl | 5, _ => rfl
theorem JR : (Tryz.prog.info? 398).map (·.size) = some 6 := by kernel_rfl
set_option maxRecDepth 100000 in
set_option maxHeartbeats 1000000 in
theorem DN (s : ByteArray) (w : World) (ha : ∀ k (h : k < s.size), (s[k]).toNat < 128) (hs : ∀ k, k < s.size → s.get! k ≠ 32 → (aW s k).1 ≤ 5) (hz : s.size ≤ 64) :
  Qc 295 #[.string s] w (.agg (six (aW s s.size).2)) := by
 have HA := hid ha;have HS := hid hs;clear ha hs;go_enter Tryz.func295, Tryz.ntmps295;go_wp2;have b0 : Bl w (((w.alloc (.cells (six fun _ => ⟨#[]⟩) 398)).alloc (.cells (six fun _ => ⟨#[]⟩) 398)).iter s 0) := bP (bP (bP (Below.refl _ w) _) _) _;have f0 : (((w.alloc (.cells (six fun _ => ⟨#[]⟩) 398)).alloc (.cells (six fun _ => ⟨#[]⟩) 398)).iter s 0).heap[w.heap.size]? = some (.cells (six fun _ => ⟨#[]⟩) 398 (0, 0)) ∧ (((w.alloc (.cells (six fun _ => ⟨#[]⟩) 398)).alloc (.cells (six fun _ => ⟨#[]⟩) 398)).iter s 0).heap[w.heap.size + 1]? = some (.cells (six fun _ => ⟨#[]⟩) 398 (0, 0)) ∧
  (((w.alloc (.cells (six fun _ => ⟨#[]⟩) 398)).alloc (.cells (six fun _ => ⟨#[]⟩) 398)).iter s 0).heap[w.heap.size + 1 + 1]? = some (.stringIter s 0) := three w _ _ _
 change Code.wp _ _ _ _ (((w.alloc (.cells (six fun _ => ⟨#[]⟩) 398)).alloc (.cells (six fun _ => ⟨#[]⟩) 398)).iter s 0);generalize ((w.alloc (.cells (six fun _ => ⟨#[]⟩) 398)).alloc (.cells (six fun _ => ⟨#[]⟩) 398)).iter s 0 = W0 at b0 f0 ⊢;obtain ⟨f0, f1, f2⟩ := f0
 go_loopw [4] (fun n wr => ∃ k : Nat, k ≤ s.size ∧ n = .int .i64 (aW s k).1 ∧ wr.heap[w.heap.size]? = some (.cells (six fun _ => ⟨#[]⟩) 398 (0, 0)) ∧ wr.heap[w.heap.size + 1]? = some (.cells (six (aW s k).2) 398 (0, 0)) ∧
   wr.heap[w.heap.size + 1 + 1]? = some (.stringIter s k) ∧ Bl w wr) (fun _ wr => s.size - wr.iterPos (w.heap.size + 1 + 1))
 case atStart => exact ⟨0, by omega, rfl, f0, f1, f2, b0⟩
 case round =>
  clear f0 f1 f2 b0;obtain ⟨k, hk, rfl, f0, f1, f2, hB⟩ := hrel;have hn := (ut s k).1;by_cases hlt : k < s.size
  ·obtain ⟨c, z, hc0, hnx, hg⟩ : ∃ (c : UInt8) (z : Int), Hid (z = (c.toNat : Int) ∧ c.toNat < 128) ∧ (∀ ty, (Instr.next (.pointer (some ⟨w.heap.size + 1 + 1, 0, none⟩)) true ty).run Tryz.prog wr = .ok (.tuple #[.bool true, .int .i64 k, .int .i32 z]) (wr.iterAt (w.heap.size + 1 + 1) s (k + 1))) ∧ s.get! k = c :=
    ⟨s[k], _, ⟨rfl, HA.out k hlt⟩, fun ty => run_next_ascii_at (P := Tryz.prog) wr (w.heap.size + 1 + 1) s k ty f2 hlt (HA.out k hlt), kK s k hlt⟩
   have F0 := hid ((iterAt_other wr (w.heap.size + 1 + 1) w.heap.size s (k + 1) (by omega)).trans f0);have F1 := hid ((iterAt_other wr (w.heap.size + 1 + 1) (w.heap.size + 1) s (k + 1) (by omega)).trans f1);have F2 := hid (iterAt_heap wr (w.heap.size + 1 + 1) s k (k + 1) f2);have HB := hid (below_iterAt hB (k := w.heap.size + 1 + 1) (by omega) s (k + 1));have hm : (wr.iterAt (w.heap.size + 1 + 1) s (k + 1)).iterPos (w.heap.size + 1 + 1) = k + 1 := iterPos_of F2.out;have hm0 : wr.iterPos (w.heap.size + 1 + 1) = k := iterPos_of f2;have HM := hid hm;have HM0 := hid hm0;have HG := hid hg;have HL := hid hlt;clear hlt;clear hg f0 f1 f2 hB hm hm0;by_cases e : c = 32
   ·have e1 : (z == 32) = true := by rw [hc0.out.1, e]; rfl
    have E := hid e;clear e;go_wp2;go_roundw
    case rel => exact ⟨k + 1, HL.out, by rw [show aW s (k + 1) = _ from if_pos (by rw [HG.out]; exact E.out)]; go_num, F0.out, by rw [show aW s (k + 1) = _ from if_pos (by rw [HG.out]; exact E.out)]; exact F1.out, F2.out, HB.out⟩
    case measure => have := HL.out; rw [HM.out, HM0.out]; omega
   ·have e1 : (z == 32) = false := by
     rw [hc0.out.1, beq_eq_false_iff_ne];intro h;exact e (by apply UInt8.toNat_inj.1; show _ = 32; omega)
    have hi := HS.out k HL.out (by rw [HG.out]; exact e);have hc : (wr.iterAt (w.heap.size + 1 + 1) s (k + 1)).cell? ⟨w.heap.size + 1, (aW s k).1, none⟩ = some (.string ((aW s k).2 (aW s k).1)) := by rw [cell_of_row _ _ _ _ _ _ F1.out]; exact Ny _ _ hi
    have hf := frozen_of_row _ _ (aW s k).1 _ _ F1.out;have hsz := (ut s k).2 (aW s k).1;have hsz2 : ((aW s k).2 (aW s k).1).size + 1 ≤ 9223372036854775807 := by omega
    have hcv : Utf8.encode z = ⟨#[c]⟩ := by rw [hc0.out.1]; exact tN c hc0.out.2
    have E := hid e;clear e;go_wp2;have hr : aW s (k + 1) = ((aW s k).1, fun j => if j = (aW s k).1 then (aW s k).2 j ++ ⟨#[c]⟩ else (aW s k).2 j) := by rw [show aW s (k + 1) = _ from if_neg (by rw [HG.out]; exact E.out), HG.out]
    have F1' := heap_setCell_same (wr.iterAt (w.heap.size + 1 + 1) s (k + 1)) (w.heap.size + 1) (aW s k).1 _ _ (.string ((aW s k).2 (aW s k).1 ++ ⟨#[c]⟩)) F1.out;rw [La _ _ _ hi] at F1';refine ⟨?rel, ?measure⟩
    case rel =>
     refine ⟨k + 1, HL.out, by rw [hr], (heap_setCell_other _ ⟨w.heap.size + 1, _, none⟩ _ _ (by show _ ≠ w.heap.size + 1; omega)).trans F0.out, ?_, (heap_setCell_other _ ⟨w.heap.size + 1, _, none⟩ _ _ (by show _ ≠ w.heap.size + 1; omega)).trans F2.out, HB.out.setCell (p := ⟨w.heap.size + 1, _, none⟩) (by show w.heap.size ≤ w.heap.size + 1; omega) _⟩;rw [hr];refine F1'.trans ?_
     congr 3
     funext j
     by_cases ej : j = (aW s k).1
     ·rw [if_pos ej]
      show _ = if j = (aW s k).1 then (aW s k).2 j ++ _ else (aW s k).2 j
      rw [if_pos ej, ej]
     ·rw [if_neg ej]
      show _ = if j = (aW s k).1 then (aW s k).2 j ++ _ else (aW s k).2 j
      rw [if_neg ej]
    case measure =>
     have := HL.out;have h2 : ((wr.iterAt (w.heap.size + 1 + 1) s (k + 1)).setCell ⟨w.heap.size + 1, (aW s k).1, none⟩ (.string ((aW s k).2 (aW s k).1 ++ ⟨#[c]⟩))).iterPos (w.heap.size + 1 + 1) = k + 1 :=
      iterPos_of ((heap_setCell_other _ ⟨w.heap.size + 1, _, none⟩ _ _ (by show _ ≠ w.heap.size + 1; omega)).trans F2.out)
     rw [h2, HM0.out];omega
  ·obtain rfl : k = s.size := by omega
   have hnx := fun ty => run_next_end_at (P := Tryz.prog) wr (w.heap.size + 1 + 1) s s.size ty f2 hlt
   have F0 := hid f0;have F1 := hid f1;clear hlt f0 f1;go_wp2_with (first | (refine wpList_load_row rfl 398 _ rfl (w.heap.size + 1) rfl 398 (six (aW s s.size).2) _ _ F1.out Tryz.underlying398 rfl JR ?_) | (refine wpList_store_row rfl 398 _ _ rfl w.heap.size (six (aW s s.size).2) rfl rfl 398 (six fun _ => ⟨#[]⟩) F0.out JR rfl (MS _) ?_));refine bodyPost_ret_by (results_cell_row rfl _ _ w.heap.size 398 (six (aW s s.size).2) _ _ rfl (dH _ F0.out) Tryz.underlying398 rfl JR) rfl ?_;exact ⟨rfl, aG hB (Nat.le_refl _) _⟩
end Go.Proofs.YtlkolghiknbbfaaGreatDoor
