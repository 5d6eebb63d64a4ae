/- The names of the checks: a range over such an iterator. -/
import Derived.Test.YtjanmmbdepanjaaGreatDoorRulesb
namespace Go.Proofs.YtjanmmbdepanjaaGreatDoor
set_option linter.unusedVariables false
open Go.RowKit Go.Shelf
attribute [local go_sem] Oper.semAt_some
theorem below_put {B l : Nat} (W : World) (o : Obj) (h : B ≤ l) : Below B W (W.putObj l o) :=
  ⟨rfl, rfl, rfl, by simp, fun b hb => World.putObj_heap_other (by omega)⟩
/-- How a round's body may be left. -/
def left (B k : Nat) (I : Nat → World → Prop) (Ix : Code → Nat → World → Prop) (A : World) : Exit → Act → World → Prop
  | .normal, _, W => Aside B A W ∧ I (k + 1) W
  | .ret, _, W => Aside B A W ∧ Ix .ret k W
  | .exit id, _, W => Aside B A W ∧ Ix (.exit id) k W
  | .goto _, _, _ => False
  | .panic _, _, _ => False
  | .outgrown, _, _ => False
/-- A range over an iterator of so many: the caller's own state lies below w's size. -/
theorem range_iter {g : Operand} {ps : Array Tmp} {assign body : Code} {Q : Exit → Act → World → Prop} {a : Act} {w : World} {n gf N : Nat} {enc : Nat → Value} (hit : Iter gf enc N)
    (hg : a.eval g = .func (.func gf) #[] #[]) (eg : ∀ args w, (callFunc gf args).run Tryz.prog w = .ok (.enter gf args) w) (hps : ps.size = 1)
    (I : Nat → World → Prop) (Ix : Code → Nat → World → Prop) (hI : Stable w.heap.size I) (hIx : ∀ c, Stable w.heap.size (Ix c)) (h0 : I 0 w)
    (hround : ∀ (l k : Nat) (W : World), k < N → I k W → w.heap.size ≤ l → l < W.heap.size → w.heap.size + 2 ≤ W.heap.size →
      assign.wpIn (Fence.wide.inRound l) 0 Tryz.prog (Exit.then (fun a1 W1 => Aside w.heap.size W W1 ∧ I k W1 ∧ ∀ o', body.wpIn (Fence.wide.inRound l) 0 Tryz.prog (left w.heap.size k I Ix (W1.putObj l o')) a1 (W1.putObj l o')) (fun _ _ _ => False))
        { tmps := (ps.zip #[enc k]).foldl (fun t (p, v) => t.setIfInBounds p v) a.tmps, defers := [] } W)
    (hdone : ∀ W, I N W → w.heap.size + 2 ≤ W.heap.size → W.heap[w.heap.size]? = some (.deferred (some [])) → Q .normal { a with defers := { target := .collected w.heap.size, args := #[] } :: a.defers } W)
    (hstop : ∀ c k W, Ix c k W → w.heap.size + 2 ≤ W.heap.size → W.heap[w.heap.size]? = some (.deferred (some [])) → c.wpIn Fence.wide n Tryz.prog Q { a with defers := { target := .collected w.heap.size, args := #[] } :: a.defers } W) :
    (Code.rangeFunc g ps assign body).wpIn Fence.wide n Tryz.prog Q a w := by
  refine wpIn_rangeFunc ?_
  intro fn _
  obtain ⟨rec, hrec⟩ : ∃ rec : LoopState → Option Code → Loop, rec = fun st pe => { state := st, pending := pe, fn, tmps := a.tmps, params := ps, assign, body, defers := w.heap.size } := ⟨_, rfl⟩
  obtain ⟨W1, hW1⟩ : ∃ W1, (w.alloc (.deferred (some []))).alloc (.loop (rec .ready none)) = W1 := ⟨_, rfl⟩
  have hL1 : W1.heap[w.heap.size + 1]? = some (.loop (rec .ready none)) := by
    rw [← hW1]; have := World.alloc_heap_new (w.alloc (.deferred (some []))) (.loop (rec .ready none)); rwa [World.size_alloc] at this
  have hK1 : W1.heap[w.heap.size]? = some (.deferred (some [])) := by
    rw [← hW1]; exact (Below.heap_alloc _ _ _ (by simp)).trans (World.alloc_heap_new w _)
  have hb1 : Below w.heap.size w W1 := by rw [← hW1]; exact ((Below.refl _ w).alloc (Nat.le_refl _) _).alloc (by simp) _
  have hz1 : W1.heap.size = w.heap.size + 2 := by rw [← hW1]; simp
  refine ⟨w.heap.size + 1, [{ target := .collected w.heap.size, args := #[] }], W1, { target := .fn (.func gf) #[], args := #[.func (.yield (w.heap.size + 1)) #[] #[]] }, W1, gf,
    #[.func (.yield (w.heap.size + 1)) #[] #[]], W1, ?_, ?_, fun _ _ => trivial, ?_, fun h => (by cases h), ?_⟩
  · rw [← hW1, hrec]; exact run_enterLoop_outer _ _ _ _ _
  · simp only [resolve, hg]
    simp [go_sem]
  · simp [invoke, go_sem, eg]
  have hc := hit (w.heap.size + 1)
    (fun k W => I k W ∧ W.heap[w.heap.size + 1]? = some (.loop (rec .ready none)) ∧ W.heap[w.heap.size]? = some (.deferred (some [])))
    (fun k W => ∃ c, Ix c k W ∧ W.heap[w.heap.size + 1]? = some (.loop (rec .done (some c))) ∧ W.heap[w.heap.size]? = some (.deferred (some [])))
    W1 (by omega)
    (fun k A C hJ hb => ⟨hI k A C hJ.1 (hb.mono (by omega)), (hb.block _ (by omega)).trans hJ.2.1, (hb.block _ (by omega)).trans hJ.2.2⟩)
    (fun k A C hJ hb => by
      obtain ⟨c, h1, h2, h3⟩ := hJ
      exact ⟨c, hIx c k A C h1 (hb.mono (by omega)), (hb.block _ (by omega)).trans h2, (hb.block _ (by omega)).trans h3⟩)
    ?_ ⟨hI 0 _ _ h0 hb1, hL1, hK1⟩
  · refine callsIn_wide.2 (hc.mono ?_)
    rintro e W2 ⟨⟨v, rfl⟩, ⟨hi, hl, hk⟩ | ⟨k, c, hi, hl, hk⟩, hA⟩
    · have hz := hA.1
      have he := run_endLoop (P := Tryz.prog) hl (by rw [hrec]; simp)
      rw [hrec] at he
      exact ⟨none, _, he, hdone _ (hI N _ _ hi (below_put _ _ (by omega))) (by rw [World.putObj_size]; omega) ((World.putObj_heap_other (by omega)).trans hk)⟩
    · have hz := hA.1
      have he := run_endLoop (P := Tryz.prog) hl (by rw [hrec]; simp)
      rw [hrec] at he
      exact ⟨some c, _, he, hstop c k _ (hIx c k _ _ hi (below_put _ _ (by omega))) (by rw [World.putObj_size]; omega) ((World.putObj_heap_other (by omega)).trans hk)⟩
  · rintro k W hk ⟨hi, hl, hd⟩ hz
    have hlt : w.heap.size + 1 < W.heap.size := by omega
    have hy := run_yield (P := Tryz.prog) (args := #[enc k]) hl (by rw [hrec]; exact hps.symm)
    rw [hrec] at hy
    refine ⟨fn, _, assign, body, hy, roundIn_of_wpIn trivial (wpIn_mono (hround (w.heap.size + 1) k W hk hi (by omega) (by omega) (by omega)) ?_)⟩
    rintro e a1 Wa hp
    cases e with
    | normal =>
      obtain ⟨hA, hi1, hb⟩ := hp
      have hl1 := (hA.2 _ (by omega) hlt).trans hl
      have hd1 := (hA.2 _ (Nat.le_refl _) (by omega)).trans hd
      have hlt1 : w.heap.size + 1 < Wa.heap.size := Nat.lt_of_lt_of_le hlt hA.1
      refine ⟨_, run_beginRound hl1 (by rw [hrec]), wpIn_mono (hb _) ?_⟩
      have fin : ∀ (jump : Option Code) (W3 : World), Aside w.heap.size (Wa.putObj (w.heap.size + 1) (.loop { rec .ready none with state := .busy })) W3 →
          (Instr.endRound (w.heap.size + 1) jump).run Tryz.prog W3 = .ok (.bool jump.isNone) (W3.putObj (w.heap.size + 1) (.loop (rec (if jump.isNone then .ready else .done) jump))) ∧
          (W3.putObj (w.heap.size + 1) (.loop (rec (if jump.isNone then .ready else .done) jump))).heap[w.heap.size + 1]? = some (.loop (rec (if jump.isNone then .ready else .done) jump)) ∧
          (W3.putObj (w.heap.size + 1) (.loop (rec (if jump.isNone then .ready else .done) jump))).heap[w.heap.size]? = some (.deferred (some [])) ∧
          Aside W1.heap.size W (W3.putObj (w.heap.size + 1) (.loop (rec (if jump.isNone then .ready else .done) jump))) := fun jump W3 hA3 => by
        have hl3 := (hA3.2 (w.heap.size + 1) (by omega) (by simpa using hlt1)).trans (World.putObj_heap_same hlt1)
        have hd3 := ((hA3.2 w.heap.size (Nat.le_refl _) (by simp; omega)).trans (World.putObj_heap_other (by omega))).trans hd1
        have hr := run_endRound (P := Tryz.prog) jump hl3
        rw [hrec] at hr ⊢
        refine ⟨hr, World.putObj_heap_same (Array.getElem?_eq_some_iff.1 hl3).1, (World.putObj_heap_other (by omega)).trans hd3, ?_⟩
        exact (((hA.mono (by omega)).trans (Aside.put _ _ (by omega))).trans (hA3.mono (by omega))).trans (Aside.put _ _ (by omega))
      rintro e a3 W3 hp
      cases e with
      | normal =>
        obtain ⟨hr, hl4, hk4, hA4⟩ := fin none W3 hp.1
        exact ⟨_, _, hr, .inl ⟨rfl, hI _ _ _ hp.2 (below_put _ _ (by omega)), hl4, hk4⟩, hA4⟩
      | ret =>
        obtain ⟨hr, hl4, hk4, hA4⟩ := fin (some .ret) W3 hp.1
        exact ⟨_, _, hr, .inr ⟨rfl, .ret, hIx _ _ _ _ hp.2 (below_put _ _ (by omega)), hl4, hk4⟩, hA4⟩
      | exit id =>
        obtain ⟨hr, hl4, hk4, hA4⟩ := fin (some (.exit id)) W3 hp.1
        exact ⟨_, _, hr, .inr ⟨rfl, .exit id, hIx _ _ _ _ hp.2 (below_put _ _ (by omega)), hl4, hk4⟩, hA4⟩
      | goto t => exact hp.elim
      | panic ch => exact hp.elim
      | outgrown => exact hp.elim
    | ret => exact hp.elim
    | exit id => exact hp.elim
    | goto t => exact hp.elim
    | panic ch => exact hp.elim
    | outgrown => exact hp.elim
end Go.Proofs.YtjanmmbdepanjaaGreatDoor
