/- A range over an iterator of one row; the keys of a map of one entry. -/
import Derived.Test.YtindnnbopaeklaaGreatDoorAa
import Derived.Laws.IdiomRangeMap
import Derived.Test.YtindnnbopaeklaaGreatDoorDb
import Derived.Test.YtindnnbopaeklaaGreatDoorDh
namespace Go.Proofs.YtindnnbopaeklaaGreatDoor
set_option linter.unusedVariables false
set_option linter.unusedSimpArgs false
open Go.RowKit Go.Shelf
attribute [local go_sem] Oper.semAt_some
def IterO (gf : Nat) (caps : Array Value) (F : World → Prop) (row : Array Value) (b : Nat) (mp : Obj) : Prop :=
 ∀ (l : Nat) (J0 J1 Jx : World → Prop) (W : World), F W → l < W.heap.size → (∀ A C, J0 A → Below W.heap.size A C → J0 C) → (∀ A, J1 A → A.heap[b]? = some mp) →
  (∀ W1, J0 W1 → W.heap.size ≤ W1.heap.size → YieldAt Fence.wide 0 Tryz.prog l row W1 fun e W' =>
   (e = .returned (.bool true) ∧ J1 W' ∨ e = .returned (.bool false) ∧ Jx W') ∧ Aside W.heap.size W1 W') →
  J0 W → Calls Tryz.prog gf (#[.func (.yield l) #[] #[]] ++ caps) W fun e W' => (∃ v, e = .returned v) ∧ (J1 W' ∨ Jx W') ∧ Aside W.heap.size W W'
theorem range_iterO {g : Operand} {ps : Array Tmp} {assign body : Code} {Q : Exit → Act → World → Prop} {a : Act} {w : World} {n gf b : Nat} {mp : Obj} {row : Array Value} {caps : Array Value} {F : World → Prop} (hit : IterO gf caps F row b mp) (hF : ∀ C, Below w.heap.size w C → F C)
  (hg : a.eval g = .func (.func gf) #[] caps) (eg : ∀ args w, (callFunc gf args).run Tryz.prog w = .ok (.enter gf args) w) (hps : ps.size = row.size)
  (I : Nat → World → Prop) (Ix : Code → Nat → World → Prop) (hI : ∀ A C, I 0 A → Below w.heap.size A C → I 0 C) (hb1 : ∀ A, I 1 A → A.heap[b]? = some mp) (hP : ∀ A o, I 1 A → I 1 (A.putObj (w.heap.size + 1) o)) (hPx : ∀ c A o, Ix c 0 A → Ix c 0 (A.putObj (w.heap.size + 1) o)) (h0 : I 0 w)
  (hround : ∀ (W : World), I 0 W → w.heap.size + 2 ≤ W.heap.size →
   assign.wpIn (Fence.wide.inRound (w.heap.size + 1)) 0 Tryz.prog (Exit.then (fun a1 W1 => Aside w.heap.size W W1 ∧ I 0 W1 ∧ ∀ o', body.wpIn (Fence.wide.inRound (w.heap.size + 1)) 0 Tryz.prog (left w.heap.size 0 I Ix (W1.putObj (w.heap.size + 1) o')) a1 (W1.putObj (w.heap.size + 1) o')) (fun _ _ _ => False))
    { tmps := (ps.zip row).foldl (fun t (p, v) => t.setIfInBounds p v) a.tmps, defers := [] } W)
  (hdone : ∀ W, I 1 W → w.heap.size + 2 ≤ W.heap.size → W.heap[w.heap.size]? = some (.deferred (some [])) → Q .normal { a with defers := { target := .collected w.heap.size, args := #[] } :: a.defers } W)
  (hstop : ∀ c W, Ix c 0 W → w.heap.size + 2 ≤ W.heap.size → W.heap[w.heap.size]? = some (.deferred (some [])) → c.wpIn Fence.wide n Tryz.prog Q { a with defers := { target := .collected w.heap.size, args := #[] } :: a.defers } W) :
  (Code.rangeFunc g ps assign body).wpIn Fence.wide n Tryz.prog Q a w := by
 refine wpIn_rangeFunc ?_
 intro fn _
 obtain ⟨rec, hrec⟩ : ∃ rec : LoopState → Option Code → Loop, rec = fun st pe => { state := st, pending := pe, fn, tmps := a.tmps, params := ps, assign, body, defers := w.heap.size } := ⟨_, rfl⟩
 obtain ⟨W1, hW1⟩ : ∃ W1, (w.alloc (.deferred (some []))).alloc (.loop (rec .ready none)) = W1 := ⟨_, rfl⟩
 have hL1 : W1.heap[w.heap.size + 1]? = some (.loop (rec .ready none)) := by
  rw [← hW1]; have := World.alloc_heap_new (w.alloc (.deferred (some []))) (.loop (rec .ready none)); rwa [World.size_alloc] at this
 have hK1 : W1.heap[w.heap.size]? = some (.deferred (some [])) := by
  rw [← hW1]; exact (Below.heap_alloc _ _ _ (by simp)).trans (World.alloc_heap_new w _)
 have hbW : Below w.heap.size w W1 := by rw [← hW1]; exact ((Below.refl _ w).alloc (Nat.le_refl _) _).alloc (by simp) _
 have hz1 : W1.heap.size = w.heap.size + 2 := by rw [← hW1]; simp
 refine ⟨w.heap.size + 1, [{ target := .collected w.heap.size, args := #[] }], W1, { target := .fn (.func gf) caps, args := #[.func (.yield (w.heap.size + 1)) #[] #[]] }, W1, gf,
  #[.func (.yield (w.heap.size + 1)) #[] #[]] ++ caps, W1, ?_, ?_, fun _ _ => trivial, ?_, fun h => (by cases h), ?_⟩
 ·rw [← hW1, hrec]; exact run_enterLoop_outer _ _ _ _ _
 ·simp only [resolve, hg]
  simp [go_sem]
 ·simp [invoke, go_sem, eg]
 have hc := hit (w.heap.size + 1)
  (fun W => I 0 W ∧ W.heap[w.heap.size + 1]? = some (.loop (rec .ready none)) ∧ W.heap[w.heap.size]? = some (.deferred (some [])))
  (fun W => I 1 W ∧ W.heap[w.heap.size + 1]? = some (.loop (rec .ready none)) ∧ W.heap[w.heap.size]? = some (.deferred (some [])))
  (fun W => ∃ c, Ix c 0 W ∧ W.heap[w.heap.size + 1]? = some (.loop (rec .done (some c))) ∧ W.heap[w.heap.size]? = some (.deferred (some [])))
  W1 (hF _ hbW) (by omega)
  (fun A C hJ hb => ⟨hI A C hJ.1 (hb.mono (by omega)), (hb.block _ (by omega)).trans hJ.2.1, (hb.block _ (by omega)).trans hJ.2.2⟩)
  (fun A hJ => hb1 A hJ.1)
  ?_ ⟨hI _ _ h0 hbW, hL1, hK1⟩
 ·refine callsIn_wide.2 (hc.mono ?_)
  rintro e W2 ⟨⟨v, rfl⟩, ⟨hi, hl, hk⟩ | ⟨c, hi, hl, hk⟩, hA⟩
  ·have hz := hA.1
   have he := run_endLoop (P := Tryz.prog) hl (by rw [hrec]; simp)
   rw [hrec] at he
   exact ⟨none, _, he, hdone _ (hP _ _ hi) (by rw [World.putObj_size]; omega) ((World.putObj_heap_other (by omega)).trans hk)⟩
  ·have hz := hA.1
   have he := run_endLoop (P := Tryz.prog) hl (by rw [hrec]; simp)
   rw [hrec] at he
   exact ⟨some c, _, he, hstop c _ (hPx c _ _ hi) (by rw [World.putObj_size]; omega) ((World.putObj_heap_other (by omega)).trans hk)⟩
 ·rintro W ⟨hi, hl, hd⟩ hz
  have hlt : w.heap.size + 1 < W.heap.size := by omega
  have hy := run_yield (P := Tryz.prog) (args := row) hl (by rw [hrec]; exact hps.symm)
  rw [hrec] at hy
  refine ⟨fn, _, assign, body, hy, roundIn_of_wpIn trivial (wpIn_mono (hround W hi (by omega)) ?_)⟩
  rintro e a1 Wa hp
  cases e with
  | normal =>
   obtain ⟨hA, hi1, hb⟩ := hp
   have hl1 := (hA.2 _ (by omega) hlt).trans hl
   have hd1 := (hA.2 _ (Nat.le_refl _) (by omega)).trans hd
   have hlt1 : w.heap.size + 1 < Wa.heap.size := Nat.lt_of_lt_of_le hlt hA.1
   refine ⟨_, run_beginRound hl1 (by rw [hrec]), wpIn_mono (hb _) ?_⟩
   have fin : ∀ (jump : Option Code) (W3 : World), Aside w.heap.size (Wa.putObj (w.heap.size + 1) (.loop { rec .ready none with state := .busy })) W3 →
     (Instr.endRound (w.heap.size + 1) jump).run Tryz.prog W3 = .ok (.bool jump.isNone) (W3.putObj (w.heap.size + 1) (.loop (rec (if jump.isNone then .ready else .done) jump))) ∧
     (W3.putObj (w.heap.size + 1) (.loop (rec (if jump.isNone then .ready else .done) jump))).heap[w.heap.size + 1]? = some (.loop (rec (if jump.isNone then .ready else .done) jump)) ∧
     (W3.putObj (w.heap.size + 1) (.loop (rec (if jump.isNone then .ready else .done) jump))).heap[w.heap.size]? = some (.deferred (some [])) ∧
     Aside W1.heap.size W (W3.putObj (w.heap.size + 1) (.loop (rec (if jump.isNone then .ready else .done) jump))) := fun jump W3 hA3 => by
    have hl3 := (hA3.2 (w.heap.size + 1) (by omega) (by simpa using hlt1)).trans (World.putObj_heap_same hlt1)
    have hd3 := ((hA3.2 w.heap.size (Nat.le_refl _) (by simp; omega)).trans (World.putObj_heap_other (by omega))).trans hd1
    have hr := run_endRound (P := Tryz.prog) jump hl3
    rw [hrec] at hr ⊢
    refine ⟨hr, World.putObj_heap_same (Array.getElem?_eq_some_iff.1 hl3).1, (World.putObj_heap_other (by omega)).trans hd3, ?_⟩
    exact (((hA.mono (by omega)).trans (Aside.put _ _ (by omega))).trans (hA3.mono (by omega))).trans (Aside.put _ _ (by omega))
   rintro e a3 W3 hp
   cases e with
   | normal =>
    obtain ⟨hr, hl4, hk4, hA4⟩ := fin none W3 hp.1
    exact ⟨_, _, hr, .inl ⟨rfl, hP _ _ hp.2, hl4, hk4⟩, hA4⟩
   | ret =>
    obtain ⟨hr, hl4, hk4, hA4⟩ := fin (some .ret) W3 hp.1
    exact ⟨_, _, hr, .inr ⟨rfl, .ret, hPx _ _ _ hp.2, hl4, hk4⟩, hA4⟩
   | exit id =>
    obtain ⟨hr, hl4, hk4, hA4⟩ := fin (some (.exit id)) W3 hp.1
    exact ⟨_, _, hr, .inr ⟨rfl, .exit id, hPx _ _ _ hp.2, hl4, hk4⟩, hA4⟩
   | goto t => exact hp.elim
   | panic ch => exact hp.elim
   | outgrown => exact hp.elim
  | ret => exact hp.elim
  | exit id => exact hp.elim
  | goto t => exact hp.elim
  | panic ch => exact hp.elim
  | outgrown => exact hp.elim
theorem run_next_one {P : Program} (w : World) (ty : TypeId) (bm born clock : Nat) (key val : Value) (hb : w.heap[bm]? = some (.map #[{ key := key, val := val, born := born }] clock)) (hlt : born < clock) :
  (Instr.next (.pointer (some ⟨w.heap.size, 0, none⟩)) false ty).run P (w.alloc (.mapIter (some bm) clock #[] clock)) = .ok (.tuple #[.bool true, key, val]) (w.alloc (.mapIter (some bm) clock #[born] clock)) := by
 have hlt' : bm < w.heap.size := (Array.getElem?_eq_some_iff.1 hb).1
 have hb' : (w.alloc (.mapIter (some bm) clock #[] clock)).heap[bm]? = some (.map #[{ key := key, val := val, born := born }] clock) := by rw [Below.heap_alloc w _ bm hlt', hb]
 have hn : ¬ clock ≤ born := by omega
 have hp : ∀ (h : Array Obj) (x y : Obj), (h.push x).setIfInBounds h.size y = h.push y := by
  intro h x y
  apply Array.toList_inj.1
  simp
 have hs : ∀ o', (setObj w.heap.size o').run P (w.alloc (.mapIter (some bm) clock #[] clock)) = .ok () (w.alloc o') := fun o' => by
  simp only [setObj, Sem.run]
  rw [heap_alloc_new]
  show Result.ok () ({ w.alloc (.mapIter (some bm) clock #[] clock) with heap := (w.heap.push (.mapIter (some bm) clock #[] clock)).setIfInBounds w.heap.size o' } : World) = _
  rw [hp]
  rfl
 have hc : (choose (Question.mapNext 1)).run P (w.alloc (.mapIter (some bm) clock #[] clock)) = .ok 0 (w.alloc (.mapIter (some bm) clock #[] clock)) := by simp [choose, Sem.run, Question.forced]
 have hg1 : (getObj w.heap.size).run P (w.alloc (.mapIter (some bm) clock #[] clock)) = .ok (.mapIter (some bm) clock #[] clock) (w.alloc (.mapIter (some bm) clock #[] clock)) := by simp only [getObj, Sem.run, heap_alloc_new]
 have hg2 : (getObj bm).run P (w.alloc (.mapIter (some bm) clock #[] clock)) = .ok (.map #[{ key := key, val := val, born := born }] clock) (w.alloc (.mapIter (some bm) clock #[] clock)) := by simp only [getObj, Sem.run, hb']
 simp [Instr.next, Sem.run_bind, hg1, hg2, Result.andThen, hlt, hn, hs]
 simp only [show (Question.mapNext 1).forced = true from rfl, if_true]
 simp [hs, Result.andThen]
theorem run_next_out {P : Program} (W : World) (ty : TypeId) (r bm born clock : Nat) (key val : Value) (hr : W.heap[r]? = some (.mapIter (some bm) clock #[born] clock)) (hb : W.heap[bm]? = some (.map #[{ key := key, val := val, born := born }] clock)) (hlt : born < clock) :
  (Instr.next (.pointer (some ⟨r, 0, none⟩)) false ty).run P W = .ok (.tuple #[.bool false]) W := by
 have hn : ¬ clock ≤ born := by omega
 have hc : (choose (Question.mapNext 1)).run P W = .ok 0 W := by simp [choose, Sem.run, Question.forced]
 have hg1 : (getObj r).run P W = .ok (.mapIter (some bm) clock #[born] clock) W := by simp only [getObj, Sem.run, hr]
 have hg2 : (getObj bm).run P W = .ok (.map #[{ key := key, val := val, born := born }] clock) W := by simp only [getObj, Sem.run, hb]
 simp [Instr.next, Sem.run_bind, hg1, hg2, Result.andThen, hlt, hn]
 simp only [show (Question.mapNext 1).forced = true from rfl, if_true]
 simp [Result.andThen]
theorem run_entry_one {P : Program} (w : World) (bm born clock : Nat) (key val : Value) (hb : w.heap[bm]? = some (.map #[{ key := key, val := val, born := born }] clock)) :
  (Instr.entry (.pointer (some ⟨w.heap.size, 0, none⟩))).run P (w.alloc (.mapIter (some bm) clock #[born] clock)) = .ok (.tuple #[key, val]) (w.alloc (.mapIter (some bm) clock #[born] clock)) :=
 run_entry_map w bm clock #[] _ clock { key := key, val := val, born := born } hb (by simp) (by simp)
set_option maxRecDepth 100000 in
set_option maxHeartbeats 4000000 in
theorem keys_iterO (g b born clock : Nat) (s : Int) (val : Value) (hlt : born < clock) : IterO 59 #[.pointer (some ⟨g, 0, none⟩)] (fun W => W.cell? ⟨g, 0, none⟩ = some (.map (some b)) ∧ W.heap[b]? = some (.map #[{ key := .int .u32 s, val := val, born := born }] clock)) #[.int .u32 s] b (.map #[{ key := .int .u32 s, val := val, born := born }] clock) := by
 rintro l J0 J1 Jx W ⟨hF, hb⟩ hl hJ hJ1 hY h0
 have hrg := run_range_map (P := Tryz.prog) W 59 _ _ b _ clock Tryz.underlying59 hb
 have hnx := fun ty => run_next_one (P := Tryz.prog) W ty b born clock _ _ hb hlt
 have hen := run_entry_one (P := Tryz.prog) W b born clock _ _ hb
 have hj := hJ _ (W.alloc (.mapIter (some b) clock #[born] clock)) h0 (bal (Below.refl _ W) _)
 have hy := hid (hY _ hj (by simp))
 have HJ1 := hid hJ1
 have hbl := (Array.getElem?_eq_some_iff.1 hb).1
 have HO := fun (W' : World) (ty : TypeId) (hr : W'.heap[W.heap.size]? = some (.mapIter (some b) clock #[born] clock)) (hm : W'.heap[b]? = some (.map #[{ key := .int .u32 s, val := val, born := born }] clock)) => run_next_out (P := Tryz.prog) W' ty W.heap.size b born clock _ _ hr hm hlt
 replace HO := hid HO
 clear hY hJ hJ1 h0 hj hb
 refine (callsIn_wide (n := 1)).1 ?_
 refine callsIn_of_wp Tryz.func59 rfl trivial ?_ rfl
 simp only [Tryz.ntmps59, List.size_toArray, List.length_cons, List.length_nil, Nat.reduceAdd, Nat.reduceSub, Array.replicate_succ, Array.replicate_zero, List.push_toArray, List.append_toArray, List.nil_append, List.cons_append]
 gi_wp2_with fail
 refine wpIn_loop_rounds 2 ?_
 rw [roundsIn_succ]
 obtain ⟨fn, tmps, assign, body, hy', hR⟩ := hy.out
 have HR := hid hR
 clear hR hy
 have hr := World.alloc_heap_new W (.mapIter (some b) clock #[born] clock)
 have HRR := hid hr
 clear hr
 gi_wp2_with fail
 refine HR.out.mono ?_
 rintro e W3 ⟨⟨rfl, hJ3⟩ | ⟨rfl, hJx3⟩, hA3⟩
 ·have hno := fun ty => HO.out W3 ty ((hA3.2 _ (Nat.le_refl _) (by simp)).trans HRR.out) (HJ1.out W3 hJ3)
  clear HO HRR HR hnx hen hrg
  gi_wp2_with fail
  rw [roundsIn_succ]
  gi_wp2_with fail
  go_end0
  exact ⟨⟨_, rfl⟩, .inl hJ3, (Aside.alloc _ _ _).trans hA3⟩
 ·clear HO HRR HR hnx hen hrg
  gi_wp2_with fail
  refine bodyPost_ret (results_none rfl _ _ _) rfl ?_
  exact ⟨⟨_, rfl⟩, .inr hJx3, (Aside.alloc _ _ _).trans hA3⟩
end Go.Proofs.YtindnnbopaeklaaGreatDoor
namespace Go.Proofs.YtindnnbopaeklaaGreatDoor
set_option linter.unusedVariables false
set_option linter.unusedSimpArgs false
set_option maxRecDepth 100000
set_option maxHeartbeats 4000000
open Go.RowKit Go.Shelf
attribute [local go_sem] Oper.semAt_some
abbrev mapO (s : Int) (val : Value) (born clock : Nat) : Obj := .map #[{ key := .int .u32 s, val := val, born := born }] clock
structure Col0 (B b : Nat) (mp : Obj) (w A : World) : Prop where
 bx : A.heap[B]? = some (.cells #[.slice none 0 0] 32 (0, 0))
 mp : A.heap[b]? = some mp
 lo : Below B w A
structure Col1 (B b : Nat) (s : Int) (mp : Obj) (w A : World) : Prop where
 bx : ∃ G c, A.heap[B]? = some (.cells #[.slice (some ⟨G, 0, none⟩) 1 c] 32 (0, 0)) ∧ B + 3 ≤ G ∧ A.cell? ⟨G, 0, none⟩ = some (.int .u32 s)
 mp : A.heap[b]? = some mp
 lo : Below B w A
theorem appendseq_own (g b born clock : Nat) (s : Int) (val : Value) (hlt : born < clock) (w : World) (hg : w.cell? ⟨g, 0, none⟩ = some (.map (some b))) (hb : w.heap[b]? = some (mapO s val born clock)) :
  Calls Tryz.prog 79 #[.slice none 0 0, .func (.func 59) #[] #[.pointer (some ⟨g, 0, none⟩)]] w fun e w' => (∃ G c, e = .returned (.slice (some ⟨G, 0, none⟩) 1 c) ∧ w1P G s w.heap.size w') ∧ Below w.heap.size w w' := by
 have zg := block_lt_of_cell hg
 have zb := (Array.getElem?_eq_some_iff.1 hb).1
 have HM := hid (keys_iterO g b born clock s val hlt)
 have HF := hid (And.intro hg hb)
 clear hg hb
 refine (callsIn_wide (n := 3)).1 ?_
 refine callsIn_of_wp_marks Tryz.func79 rfl trivial ?_ rfl
 simp only [Tryz.ntmps79, List.size_toArray, List.length_cons, List.length_nil, Nat.reduceAdd, Nat.reduceSub, Array.replicate_succ, Array.replicate_zero, List.push_toArray, List.append_toArray, List.nil_append, List.cons_append]
 gi_wp2_with fail
 have h0 : Col0 w.heap.size b (mapO s val born clock) w (w.alloc (.cells #[.slice none 0 0] 32)) := ⟨World.alloc_heap_new w _, (Below.heap_alloc w _ b zb).trans HF.out.2, bal (Below.refl _ _) _⟩
 have hF0 : ∀ C, Below (w.alloc (.cells #[.slice none 0 0] 32)).heap.size (w.alloc (.cells #[.slice none 0 0] 32)) C → C.cell? ⟨g, 0, none⟩ = some (.map (some b)) ∧ C.heap[b]? = some (mapO s val born clock) := fun C hC => by
  have hb1 := bal (Below.refl w.heap.size w) (.cells #[.slice none 0 0] 32)
  have hb2 := hb1.trans (hC.mono (by simp))
  exact ⟨cell_last HF.out.1 zg hb2, (hb2.block _ zb).trans HF.out.2⟩
 have hz : (w.alloc (.cells #[.slice none 0 0] 32)).heap.size = w.heap.size + 1 := by simp
 generalize w.alloc (.cells #[.slice none 0 0] 32) = W0 at h0 hF0 hz ⊢
 refine range_iterO HM.out hF0 rfl (enters_of Tryz.func59 (by kernel_rfl) rfl) rfl
  (fun k A => if k = 0 then Col0 w.heap.size b (mapO s val born clock) w A else Col1 w.heap.size b s (mapO s val born clock) w A) (fun _ _ _ => False) ?hI ?hb1 ?hP (fun _ _ _ h => h.elim) ?h0 ?round ?done (fun _ _ h => h.elim)
 case hI =>
  intro A C h hb
  simp only [if_true] at h ⊢
  exact ⟨(hb.block _ (by omega)).trans h.bx, (hb.block _ (by omega)).trans h.mp, h.lo.trans (hb.mono (by omega))⟩
 case hb1 =>
  intro A h
  exact (show Col1 _ _ _ _ _ _ from h).mp
 case hP =>
  intro A o h
  have h : Col1 w.heap.size b s (mapO s val born clock) w A := h
  obtain ⟨G, c, e1, e2, e3⟩ := h.bx
  show Col1 _ _ _ _ _ _
  refine ⟨⟨G, c, (World.putObj_heap_other (by omega)).trans e1, e2, (World.cell?_of_block (a := ⟨G, 0, none⟩) (World.putObj_heap_other (by show G ≠ _; omega))).trans e3⟩, (World.putObj_heap_other (by omega)).trans h.mp, h.lo.trans (below_put _ o (by omega))⟩
 case h0 => exact h0
 case round =>
  intro W h hs
  have h : Col0 w.heap.size b (mapO s val born clock) w W := h
  gi_wp2_with fail
  refine ⟨⟨Nat.le_refl _, fun _ _ _ => rfl⟩, fun o' => ?_⟩
  have h2 : Col0 w.heap.size b (mapO s val born clock) w (W.putObj (w.heap.size + 1 + 1) o') := ⟨(World.putObj_heap_other (by omega)).trans h.bx, (World.putObj_heap_other (by omega)).trans h.mp, h.lo.trans (below_put _ o' (by omega))⟩
  have hs2 : w.heap.size + 3 ≤ (W.putObj (w.heap.size + 1 + 1) o').heap.size := by rw [World.putObj_size]; omega
  generalize W.putObj (w.heap.size + 1 + 1) o' = W2 at h2 hs2 ⊢
  have e0 : W2.cell? ⟨w.heap.size, 0, none⟩ = some (.slice none 0 0) := (cell_of_row _ _ 0 _ _ _ h2.bx).trans rfl
  have e1 : W2.frozen? ⟨w.heap.size, 0, none⟩ = false := frozen_of_row _ _ _ _ _ h2.bx
  have zB : w.heap.size < W2.heap.size := by omega
  clear h hs HF hF0 h0
  gi_wp2_with fail
  have h3 : ∀ v, (W2.setCell ⟨w.heap.size, 0, none⟩ v).heap[w.heap.size]? = some (.cells #[v] 32 (0, 0)) := fun v => heap_setCell_same W2 w.heap.size 0 _ _ v h2.bx
  have h4 : ∀ v k, k ≠ w.heap.size → (W2.setCell ⟨w.heap.size, 0, none⟩ v).heap[k]? = W2.heap[k]? := fun v k hk => heap_setCell_other W2 ⟨w.heap.size, 0, none⟩ k v hk
  have h5 : ∀ v, (W2.setCell ⟨w.heap.size, 0, none⟩ v).heap.size = W2.heap.size := fun v => World.size_setCell _ _ _
  have hz2 : ∀ cs : Array Value, (#[Value.int .u32 s] ++ cs)[0]? = some (.int .u32 s) := fun cs => (Array.getElem?_append_left (show 0 < 1 by omega)).trans rfl
  have h6 : ∀ v o1 k, k < W2.heap.size → (((W2.setCell ⟨w.heap.size, 0, none⟩ v).alloc (.cells #[.int .u32 s] 23)).alloc o1).heap[k]? = (W2.setCell ⟨w.heap.size, 0, none⟩ v).heap[k]? := fun v o1 k hk => (Below.heap_alloc _ _ k (by simp only [World.size_alloc, h5]; omega)).trans (Below.heap_alloc _ _ k (by rw [h5]; exact hk))
  have h7 : ∀ v (cs : Array Value), (((W2.setCell ⟨w.heap.size, 0, none⟩ v).alloc (.cells #[.int .u32 s] 23)).alloc (.cells (#[.int .u32 s] ++ cs) 23)).cell? ⟨W2.heap.size + 1, 0, none⟩ = some (.int .u32 s) := fun v cs => by
   have := World.alloc_heap_new ((W2.setCell ⟨w.heap.size, 0, none⟩ v).alloc (.cells #[.int .u32 s] 23)) (.cells (#[.int .u32 s] ++ cs) 23)
   simp only [World.size_alloc, h5] at this
   exact (cell_of_row _ _ 0 _ _ _ this).trans (hz2 cs)
  refine ⟨⟨?_, fun k hk hlt2 => ?_⟩, ⟨_, _, (h6 _ _ _ zB).trans (h3 _), by omega, h7 _ _⟩, ?_, ?_⟩
  ·show W2.heap.size ≤ _
   simp only [size_drw, World.size_alloc, h5]
   omega
  ·exact (h6 _ _ k hlt2).trans (h4 _ k (by omega))
  ·exact ((h6 _ _ b (by omega)).trans (h4 _ b (by omega))).trans h2.mp
  ·refine h2.lo.trans ⟨rfl, rfl, rfl, ?_, fun k hk => ?_⟩
   ·simp only [size_drw, World.size_alloc, h5]
    omega
   ·exact (h6 _ _ k (by omega)).trans (h4 _ k (by omega))
 case done =>
  intro W h hs hd
  have h : Col1 w.heap.size b s (mapO s val born clock) w W := h
  obtain ⟨G, c, e1, e2, e3⟩ := h.bx
  have e4 : W.cell? ⟨w.heap.size, 0, none⟩ = some (.slice (some ⟨G, 0, none⟩) 1 c) := (cell_of_row _ _ 0 _ _ _ e1).trans rfl
  clear HF hF0 h0
  gi_wp2_with fail
  refine ⟨by simp, .inl ⟨_, _, rfl, run_takeDeferred hd, ?_⟩⟩
  refine ⟨.slice (some ⟨G, 0, none⟩) 1 c, ?_, ⟨G, c, rfl, by omega, (World.cell?_of_block (a := ⟨G, 0, none⟩) (World.putObj_heap_other (by show G ≠ _; omega))).trans e3⟩, h.lo.trans (below_put _ _ (by omega))⟩
  simp [results, Tryz.f79, go_sem]
theorem len64_own (w : World) : Calls Tryz.prog 116 #[.int .u64 1] w fun e w' => e = .returned (.int .i64 1) ∧ w' = w := by
 go_enter Tryz.func116, Tryz.ntmps116
 go_wp2_with fail
 go_ret
 exact ⟨by kernel_rfl, rfl⟩
theorem len1_own (w : World) : Calls Tryz.prog 81 #[.int .u64 1] w fun e w' => e = .returned (.int .i64 1) ∧ w' = w := by
 go_enter Tryz.func81, Tryz.ntmps81
 go_wp2_with (go_at_call 116; (with_reducible refine (len64_own _).mono ?_); rintro e w1 ⟨rfl, rfl⟩)
 go_ret
 exact ⟨rfl, rfl⟩
theorem insort1_own (G c : Nat) (w : World) : Calls Tryz.prog 106 #[.slice (some ⟨G, 0, none⟩) 1 c, .int .i64 0, .int .i64 1] w fun e w' => e = .returned (.tuple #[]) ∧ w' = w := by
 go_enter Tryz.func106, Tryz.ntmps106
 go_wp2_with fail
 refine wp_loop_rounds 1 ?_
 rw [rounds_succ]
 go_wp2_with fail
 go_end0
 exact ⟨rfl, rfl⟩
theorem pdq1_own (G c : Nat) (w : World) : Calls Tryz.prog 80 #[.slice (some ⟨G, 0, none⟩) 1 c, .int .i64 0, .int .i64 1, .int .i64 1] w fun e w' => e = .returned (.tuple #[]) ∧ w' = w := by
 go_enter Tryz.func80, Tryz.ntmps80
 go_wp2_with fail
 refine wp_loop_rounds 1 ?_
 rw [rounds_succ]
 go_wp2_with (go_at_call 106; (with_reducible refine (insort1_own _ _ _).mono ?_); rintro e w1 ⟨rfl, rfl⟩)
 refine bodyPost_ret_by (results_none rfl _ _ _) rfl ?_
 exact ⟨rfl, rfl⟩
theorem sort1_own (G c : Nat) (w : World) : Calls Tryz.prog 58 #[.slice (some ⟨G, 0, none⟩) 1 c] w fun e w' => e = .returned (.tuple #[]) ∧ w' = w := by
 go_enter Tryz.func58, Tryz.ntmps58
 go_wp2_with (first | (go_at_call 81; (with_reducible refine (len1_own _).mono ?_); rintro e w1 ⟨rfl, rfl⟩) | (go_at_call 80; (with_reducible refine (pdq1_own _ _ _).mono ?_); rintro e w1 ⟨rfl, rfl⟩))
 go_end0
 exact ⟨rfl, rfl⟩
theorem keysof_own (b : Nat) (w : World) : Calls Tryz.prog 16 #[.map (some b)] w fun e w' => ∃ g, e = .returned (.func (.func 59) #[] #[.pointer (some ⟨g, 0, none⟩)]) ∧ Own noX w [cls g #[.map (some b)] 59] w' := by
 have HO := Own.nil w
 go_enter Tryz.func16, Tryz.ntmps16
 go_wp2_with (first | (((with_reducible first | refine sp_al HO ?_ | refine sp_alc HO ?_); intro g hg; rw [← hg.out]; clear hg); clear HO; (try clear kk); intro W' HO; (try simp only [zTz, zTs, zTa] at HO); (try have kk := HO.kk)))
 go_ret
 exact ⟨_, rfl, HO⟩
theorem sorted_own (g b born clock : Nat) (s : Int) (val : Value) (hlt : born < clock) (w : World) (hg : w.cell? ⟨g, 0, none⟩ = some (.map (some b))) (hb : w.heap[b]? = some (mapO s val born clock)) :
  Calls Tryz.prog 15 #[.func (.func 59) #[] #[.pointer (some ⟨g, 0, none⟩)]] w fun e w' => (∃ G c, e = .returned (.slice (some ⟨G, 0, none⟩) 1 c) ∧ w1P G s w.heap.size w') ∧ Below w.heap.size w w' := by
 have cA : ∀ W, W = w → Calls Tryz.prog 57 #[.func (.func 59) #[] #[.pointer (some ⟨g, 0, none⟩)]] W fun e w' => (∃ G c, e = .returned (.slice (some ⟨G, 0, none⟩) 1 c) ∧ w1P G s w.heap.size w') ∧ Below w.heap.size w w' := by
  rintro W rfl
  have cS := appendseq_own g b born clock s val hlt W hg hb
  clear hg hb
  go_enter Tryz.func57, Tryz.ntmps57
  go_wp2_with (go_at_call 79; (with_reducible refine cS.mono ?_); rintro e w1 ⟨⟨G, c, rfl, hq⟩, hn⟩; have HQ := hid hq; have HN := hid hn; clear hq hn)
  go_ret
  exact ⟨⟨G, c, rfl, HQ.out⟩, HN.out⟩
 replace cA := cA w rfl
 clear hg hb
 go_enter Tryz.func15, Tryz.ntmps15
 go_wp2_with (first | (go_at_call 57; (with_reducible refine cA.mono ?_); rintro e w1 ⟨⟨G, c, rfl, hq⟩, hn⟩; have HQ := hid hq; have HN := hid hn; clear hq hn) | (go_at_call 58; (with_reducible refine (sort1_own _ _ _).mono ?_); rintro e w1 ⟨rfl, rfl⟩))
 go_ret
 exact ⟨⟨G, c, rfl, HQ.out⟩, HN.out⟩
end Go.Proofs.YtindnnbopaeklaaGreatDoor
namespace Go.Proofs.YtindnnbopaeklaaGreatDoor
set_option linter.unusedVariables false
set_option linter.unusedSimpArgs false
set_option maxRecDepth 100000
set_option maxHeartbeats 4000000
open Go.RowKit Go.MapKept
theorem Mp.single {W : World} {b : Nat} {x : KvD} (h : Mp (.int .u32) keyU (fun _ v x => v = encKv x) W b (kup (fun _ => none) 7 x)) : ∃ born clock, born < clock ∧ W.heap[b]? = some (mapO 7 (encKv x) born clock) := by
 obtain ⟨es, clock, h1, h2, h3, h4⟩ := h.at_
 have hk : ∀ (j : Nat) (e : MapEntry), es[j]? = some e → e.born < clock ∧ e.key = .int .u32 7 ∧ e.val = encKv x := fun j e hj => by
  obtain ⟨a1, k, y, a2, a3, a4⟩ := h2 j e hj
  unfold kup at a3
  split at a3
  ·rename_i q
   subst q
   cases a3
   exact ⟨a1, a2, a4⟩
  ·cases a3
 obtain ⟨j, e, hj, -⟩ := h3 7 x (if_pos rfl)
 have hs : es = #[e] := by
  apply Array.ext'
  have hz : es.size = 1 := by
   have hlt := (Array.getElem?_eq_some_iff.1 hj).1
   by_cases h0 : es.size = 1
   ·exact h0
   ·have q0 : es[0]? = some es[0] := Array.getElem?_eq_getElem (by omega)
    have q1 : es[1]? = some es[1] := Array.getElem?_eq_getElem (by omega)
    have := h4 0 1 _ _ q0 q1 (.inl ((hk _ _ q0).2.1.trans (hk _ _ q1).2.1.symm))
    omega
  have hj0 : j = 0 := by have := (Array.getElem?_eq_some_iff.1 hj).1; omega
  subst hj0
  have hl : es.toList.length = 1 := by simpa using hz
  match hes : es.toList, hl with
  | [a], _ =>
   have : es[0]? = some a := by rw [← Array.getElem?_toList, hes]; rfl
   rw [hj] at this
   cases this
   rfl
 obtain ⟨b1, b2, b3⟩ := hk j e hj
 refine ⟨e.born, clock, b1, ?_⟩
 rw [h1, hs]
 obtain ⟨ek, ev, eb⟩ := e
 simp only at b2 b3
 subst b2 b3
 rfl
theorem fldKv (a : Int) (g n c : Nat) (W : World) : (Instr.field 61 (.agg #[.int .u32 a, .slice (some ⟨g, 0, none⟩) n c]) 1).run Tryz.prog W = .ok (.slice (some ⟨g, 0, none⟩) n c) W := by kernel_rfl
theorem fknown_own (gen bound b o n cap ty : Nat) (y : Int) (tab : Nat → Option TyD) (cv : Nat → Option (Nat × Nat)) (ids : List Nat) (w : World)
  (cR : ∀ W, Below w.heap.size w W → Calls Tryz.prog 14 #[.agg #[.int .u32 gen, .int .u32 bound, .slice (some ⟨b, o, none⟩) n cap]] W fun e w' => FdEnd gen bound (.slice (some ⟨b, o, none⟩) n cap) ty tab cv ids y W e w') :
  Calls Tryz.prog 8 #[.agg #[.int .u32 gen, .int .u32 bound, .slice (some ⟨b, o, none⟩) n cap]] w fun e w' => ∃ G c R cR gw cw, e = .returned (.tuple #[.slice (some ⟨G, 0, none⟩) 1 c, .slice (some ⟨R, 0, none⟩) 1 cR, .agg #[.int .i64 0, .int .i64 0]]) ∧ w'.cell? ⟨G, 0, none⟩ = some (.int .u32 7) ∧ w'.cell? ⟨R, 0, none⟩ = some (.slice (some ⟨gw, 0, none⟩) 1 cw) ∧ w'.cell? ⟨gw, 0, none⟩ = some (.int .u32 y) ∧ Below w.heap.size w w' := by
 have HO := Own.nil w
 have cK := fun (b : Nat) (W : World) => keysof_own b W
 go_enter Tryz.func8, Tryz.ntmps8
 go_wp2_with (first | ((first | ((with_reducible first | refine sp_al HO ?_ | refine sp_alc HO ?_); intro g hg; rw [← hg.out]; clear hg) | (with_reducible first | refine sp_sk HO ?_ | refine sp_skc HO ?_) | (refine sp_wk HO rfl 36 _ _ rfl rfl rfl (by kernel_rfl) (by rfl) (by simp [Value.oneCell']) ?_)); clear HO; (try clear kk); intro W' HO; (try simp only [zTz, zTs, zTa] at HO); (try have kk := HO.kk)) | (go_at_call 14; (with_reducible refine (cR _ HO.below).mono ?_); rintro e w1 ⟨F, P, T, sb, sc, km, lo, hi, l2, h2, gv, c, rfl, h2'⟩; replace HO := HO.app h2'; clear h2'; (try simp only [List.cons_append, List.nil_append, fCells] at HO); (try clear kk); (try simp only [zTz, zTs, zTa, zDs, zDz] at HO); (try have kk := HO.kk)) | (go_at_call 16; (with_reducible refine (cK _ _).mono ?_); rintro e w1 ⟨gk, rfl, h2'⟩; replace HO := HO.app h2'; clear h2'; (try simp only [List.cons_append, List.nil_append] at HO); (try clear kk); (try simp only [zTz, zTs, zTa, zDs, zDz] at HO); (try have kk := HO.kk)))
 obtain ⟨born, clk, hlt, hb⟩ := (HO.at 2 rfl : Mp _ _ _ _ _ _).single
 have cS := sorted_own gk km born clk 7 (encKv ⟨ty, gv, c⟩) hlt w1 (HO.cell 0 0 rfl rfl) hb
 refine cS.mono ?_
 clear cS hlt hb cR cK
 (try clear kk)
 rintro e w2 ⟨⟨G, cG, rfl, hq⟩, hn1⟩
 replace HO := HO.deep (P := w1P G 7) hn1 hq
 clear hn1 hq
 replace HO := HO.row w.heap.size 32 1
 have g0 := (deep1 (HO.at 1 rfl : DeepAt _ _ _ _)).1
 have hlk : (Instr.lookup 59 (.map (some km)) (.int .u32 7) false).run Tryz.prog w2 = .ok (.agg #[.int .u32 ty, .slice (some ⟨gv, 0, none⟩) 1 c]) w2 := by
  obtain ⟨v, hv, hq⟩ := (HO.at 4 rfl : Mp _ _ _ _ _ _).hit keysU Tryz.underlying59 Tryz.underlying23 (k := 7) (x := ⟨ty, gv, c⟩) rfl
  have hq := hq false
  rw [hv] at hq
  exact hq
 have hfd := fun W => fldKv ty gv 1 c W
 have cC := clone1_own gv c y w2 (deep1 (HO.at 8 rfl : DeepAt _ _ _ _)).1
 (try simp only [zTz, zTs, zTa, zDs, zDz] at HO); (try have kk := HO.kk)
 go_wp2_with fail
 refine wp_loop_rounds 2 ?_
 rw [rounds_succ]
 go_wp2_with (first | (((with_reducible first | refine sp_al HO ?_ | refine sp_alc HO ?_); intro g hg; rw [← hg.out]; clear hg); clear HO; (try clear kk); intro W' HO; (try simp only [zTz, zTs, zTa] at HO); (try have kk := HO.kk)) | (go_at_call 17; (with_reducible refine cC.mono ?_); rintro e w3 ⟨⟨gw, cw, rfl, hq⟩, hn1⟩; replace HO := HO.deep (P := w1P gw y) hn1 hq; clear hn1 hq; (try clear kk); (try simp only [zTz, zTs, zTa, zDs, zDz] at HO); (try have kk := HO.kk)) | ((with_reducible refine at_append ?_); refine sp_append HO el_rws 2 0 rfl rfl rfl _ _ rfl rfl rfl rfl (by simp [Value.oneCell']) (by omega) (by omega) (Nat.le_refl _) ?_; clear HO; (try clear kk); intro r0 d0 W' HO; (try simp only [zTz, zTs, zTa] at HO); (try simp only [zTz, zTs, zTa, zDs, zDz] at HO); (try have kk := HO.kk)))
 rw [rounds_succ]
 go_wp2_with (first | ((first | (with_reducible first | refine sp_sk HO ?_ | refine sp_skc HO ?_) | (refine sp_wk HO rfl 36 _ _ rfl rfl rfl (by kernel_rfl) (by rfl) (by simp [Value.oneCell']) ?_)); clear HO; (try clear kk); intro W' HO; (try simp only [zTz, zTs, zTa] at HO); (try have kk := HO.kk)))
 refine bodyPost_ret_by (res_tmp_tmp_row rfl _ _ _ 36 #[.int .i64 0, .int .i64 0] _ _ rfl (HO.blk 11 rfl) Tryz.underlying36 rfl infoSpt) rfl ?_
 exact ⟨G, cG, r0, d0, gw, cw, rfl, (deep1 (HO.at 3 rfl : DeepAt _ _ _ _)).1, HO.rowcell 2 0 rfl rfl, (deep1 (HO.at 1 rfl : DeepAt _ _ _ _)).1, HO.below⟩
end Go.Proofs.YtindnnbopaeklaaGreatDoor
