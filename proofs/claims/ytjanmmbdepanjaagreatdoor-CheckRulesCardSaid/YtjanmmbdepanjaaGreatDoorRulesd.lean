/- The names of the checks: the iterator over the names. -/
import Derived.Test.YtjanmmbdepanjaaGreatDoorRulesc
namespace Go.Proofs.YtjanmmbdepanjaaGreatDoor
set_option linter.unusedVariables false
open Go.RowKit Go.Shelf
attribute [local go_sem] Oper.semAt_some
theorem cell_put {W : World} {l b j : Nat} (o : Obj) {v : Value} (hne : b ≠ l) (h : W.cell? ⟨b, j, none⟩ = some v) : (W.putObj l o).cell? ⟨b, j, none⟩ = some v :=
  (World.cell?_of_block (a := ⟨b, j, none⟩) (World.putObj_heap_other hne)).trans h
set_option maxHeartbeats 1000000 in
theorem rules_iter : Iter 6 (fun k => .string (nm k)) 10 := by
  intro l J Jx W hl hJ hJx hY h0
  refine (callsIn_wide (n := 3)).1 ?_
  refine callsIn_of_wp_marks Tryz.func6 rfl trivial ?_ rfl
  simp only [Tryz.ntmps6, List.size_toArray, List.length_cons, List.length_nil, Nat.reduceAdd, Nat.reduceSub, Array.replicate_succ, Array.replicate_zero, List.push_toArray, List.append_toArray, List.nil_append, List.cons_append]
  gi_wp2_with (refine ⟨trivial, ?_⟩; gi_at_call 7; refine (callsIn_wide.2 (each_own _)).mono ?_; rintro e w1 ⟨rfl, rfl⟩)
  have hbx : (W.alloc (.cells #[.func (.yield l) #[] #[]] 28)).cell? ⟨W.heap.size, 0, none⟩ = some (.func (.yield l) #[] #[]) := by
    rw [cell_of_row _ _ _ _ _ _ (World.alloc_heap_new W _)]; rfl
  have hb0 : Below W.heap.size W (W.alloc (.cells #[.func (.yield l) #[] #[]] 28)) := (Below.refl _ W).alloc (Nat.le_refl _) _
  have hz0 : (W.alloc (.cells #[.func (.yield l) #[] #[]] 28)).heap.size = W.heap.size + 1 := by simp
  generalize W.alloc (.cells #[.func (.yield l) #[] #[]] 28) = W0 at hbx hb0 hz0 ⊢
  refine range_iter each_iter rfl (enters_of Tryz.func8 (by kernel_rfl) rfl) rfl
    (fun k A => J k A ∧ A.cell? ⟨W.heap.size, 0, none⟩ = some (.func (.yield l) #[] #[]) ∧ W.heap.size ≤ A.heap.size) (fun c k A => c = .ret ∧ Jx k A)
    (fun k A C h hb => ⟨hJ k A C h.1 (hb.mono (by omega)), (hb.cell (p := ⟨W.heap.size, 0, none⟩) (by show W.heap.size < _; omega)).trans h.2.1, Nat.le_trans h.2.2 hb.size⟩)
    (fun c k A C h hb => ⟨h.1, hJx k A C h.2 (hb.mono (by omega))⟩)
    ⟨hJ 0 _ _ h0 hb0, hbx, by omega⟩ ?round ?done ?stop
  case round =>
    rintro l2 k W1 hk ⟨hj, hc, hs⟩ hle hlt hz
    have ha1 : Below W.heap.size W1 (W1.alloc (.cells #[.string (nm k), .func (.func (fo k)) #[] #[]] 34)) := (Below.refl _ W1).alloc hs _
    have hc1 : (W1.alloc (.cells #[.string (nm k), .func (.func (fo k)) #[] #[]] 34)).cell? ⟨W.heap.size, 0, none⟩ = some (.func (.yield l) #[] #[]) :=
      (World.cell?_of_block (a := ⟨W.heap.size, 0, none⟩) (Below.heap_alloc W1 _ _ (block_lt_of_cell (a := ⟨W.heap.size, 0, none⟩) hc))).trans hc
    have hn1 : (W1.alloc (.cells #[.string (nm k), .func (.func (fo k)) #[] #[]] 34)).cell? ⟨W1.heap.size, 0, none⟩ = some (.string (nm k)) := by
      rw [cell_of_row _ _ _ _ _ _ (World.alloc_heap_new W1 _)]; rfl
    unfold rl fval
    gi_wp2
    refine ⟨Aside.alloc _ _ _, ⟨hJ k _ _ hj ha1, hc1, by simp; omega⟩, fun o' => ?_⟩
    have hj2 := hJ k _ _ (hJ k _ _ hj ha1) (below_put (l := l2) _ o' (by omega))
    have hc2 := cell_put (l := l2) o' (by omega) hc1
    have hn2 := cell_put (l := l2) o' (by omega) hn1
    have hz2 : W1.heap.size < ((W1.alloc (.cells #[.string (nm k), .func (.func (fo k)) #[] #[]] 34)).putObj l2 o').heap.size := by simp
    generalize (W1.alloc (.cells #[.string (nm k), .func (.func (fo k)) #[] #[]] 34)).putObj l2 o' = W2 at hj2 hc2 hn2 hz2 ⊢
    obtain ⟨fn, tmps, assign, body, hy, hR⟩ := hY k W2 hk hj2 (by omega)
    clear hc hc1 hn1 ha1
    gi_wp2
    refine ⟨rfl, hR.mono ?_⟩
    rintro e W4 ⟨⟨rfl, hj4⟩ | ⟨rfl, hx4⟩, hA4⟩
    · have hc4 := hA4.cell (Nat.le_refl _) hc2
      have hs4 := hA4.1
      gi_wp2
      exact ⟨hA4.mono (by omega), hj4, hc4, by omega⟩
    · gi_wp2
      exact ⟨hA4.mono (by omega), rfl, hx4⟩
  case done =>
    rintro W3 ⟨hj, hc, hs⟩ hz hd
    gi_wp2
    refine ⟨by simp, .inl ⟨_, _, rfl, run_takeDeferred hd, ?_⟩⟩
    exact ⟨_, results_none rfl _ _ _, ⟨_, rfl⟩, .inl (hJ _ _ _ hj (below_put _ _ (by omega))), by simp; omega, fun b h1 h2 => by omega⟩
  case stop =>
    rintro c k W3 ⟨rfl, hj⟩ hz hd
    gi_wp2
    refine ⟨by simp, .inl ⟨_, _, rfl, run_takeDeferred hd, ?_⟩⟩
    exact ⟨_, results_none rfl _ _ _, ⟨_, rfl⟩, .inr ⟨k, hJx _ _ _ hj (below_put _ _ (by omega))⟩, by simp; omega, fun b h1 h2 => by omega⟩
end Go.Proofs.YtjanmmbdepanjaaGreatDoor
