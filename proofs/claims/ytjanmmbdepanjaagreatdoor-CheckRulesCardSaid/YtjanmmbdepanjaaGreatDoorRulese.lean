/- The names of the checks: the walk of 'CheckRules'. -/
import Derived.Test.YtjanmmbdepanjaaGreatDoorRulesd
namespace Go.Proofs.YtjanmmbdepanjaaGreatDoor
set_option linter.unusedVariables false
open Go.RowKit Go.Shelf
attribute [local go_sem] Oper.semAt_some
def nameCells : Array Value := #[.string (nm 0), .string (nm 1), .string (nm 2), .string (nm 3), .string (nm 4), .string (nm 5), .string (nm 6), .string (nm 7), .string (nm 8), .string (nm 9)]
theorem name_at (k : Nat) (hk : k < 10) : nameCells[k]? = some (.string (nm k)) := by
  match k, hk with
  | 0, _ => rfl | 1, _ => rfl | 2, _ => rfl | 3, _ => rfl | 4, _ => rfl | 5, _ => rfl | 6, _ => rfl | 7, _ => rfl | 8, _ => rfl | 9, _ => rfl
/-- A new block behind. -/
theorem balc {w W : World} (h : Below w.heap.size w W) (o : Obj) : Below w.heap.size w (W.alloc o) := h.alloc h.size o
theorem five (w : World) (o0 o1 o2 o3 o4 : Obj) : (((((w.alloc o0).alloc o1).alloc o2).alloc o3).alloc o4).heap[w.heap.size]? = some o0 ∧ (((((w.alloc o0).alloc o1).alloc o2).alloc o3).alloc o4).heap[w.heap.size + 1]? = some o1 ∧
    (((((w.alloc o0).alloc o1).alloc o2).alloc o3).alloc o4).heap[w.heap.size + 2]? = some o2 ∧ (((((w.alloc o0).alloc o1).alloc o2).alloc o3).alloc o4).heap[w.heap.size + 3]? = some o3 ∧ (((((w.alloc o0).alloc o1).alloc o2).alloc o3).alloc o4).heap[w.heap.size + 4]? = some o4 := by
  have h1 := World.alloc_heap_new (w.alloc o0) o1
  have h2 := World.alloc_heap_new ((w.alloc o0).alloc o1) o2
  have h3 := World.alloc_heap_new (((w.alloc o0).alloc o1).alloc o2) o3
  have h4 := World.alloc_heap_new ((((w.alloc o0).alloc o1).alloc o2).alloc o3) o4
  simp only [World.size_alloc] at h1 h2 h3 h4
  exact ⟨(Below.heap_alloc _ _ _ (by simp <;> omega)).trans ((Below.heap_alloc _ _ _ (by simp <;> omega)).trans ((Below.heap_alloc _ _ _ (by simp <;> omega)).trans ((Below.heap_alloc _ _ _ (by simp)).trans (World.alloc_heap_new w o0)))),
    (Below.heap_alloc _ _ _ (by simp <;> omega)).trans ((Below.heap_alloc _ _ _ (by simp <;> omega)).trans ((Below.heap_alloc _ _ _ (by simp)).trans h1)),
    (Below.heap_alloc _ _ _ (by simp <;> omega)).trans ((Below.heap_alloc _ _ _ (by simp)).trans h2), (Below.heap_alloc _ _ _ (by simp)).trans h3, h4⟩
/-- What the law's own blocks hold when k names have come. -/
structure Held (B : Nat) (stop : Int) (w : World) (k : Nat) (W : World) : Prop where
  stop : W.heap[B]? = some (.cells #[.int .i64 stop] 3 (0, 0))
  says : W.heap[B + 1]? = some (.cells #[.bool false] 4 (0, 0))
  list : W.heap[B + 2]? = some (.cells nameCells 9 (0, 0))
  l : W.heap[B + 3]? = some (.cells #[.slice (some ⟨B + 2, 0, none⟩) 10 10] 22 (0, 0))
  n : W.heap[B + 4]? = some (.cells #[.int .i64 k] 3 (0, 0))
  below : Below B w W
theorem Held.keep {B : Nat} {stop : Int} {w W W' : World} {k : Nat} (h : Held B stop w k W) (hb : Below (B + 5) W W') : Held B stop w k W' :=
  ⟨(hb.block _ (by omega)).trans h.stop, (hb.block _ (by omega)).trans h.says, (hb.block _ (by omega)).trans h.list, (hb.block _ (by omega)).trans h.l, (hb.block _ (by omega)).trans h.n, h.below.trans (hb.mono (by omega))⟩
theorem Held.cells {B : Nat} {stop : Int} {w W : World} {k : Nat} (h : Held B stop w k W) : W.cell? ⟨B, 0, none⟩ = some (.int .i64 stop) ∧ W.cell? ⟨B + 1, 0, none⟩ = some (.bool false) ∧ W.cell? ⟨B + 1 + 1 + 1, 0, none⟩ = some (.slice (some ⟨B + 1 + 1, 0, none⟩) 10 10) ∧
    W.cell? ⟨B + 1 + 1 + 1 + 1, 0, none⟩ = some (.int .i64 k) ∧ (∀ i, i < 10 → W.cell? ⟨B + 1 + 1, i, none⟩ = some (.string (nm i))) ∧ W.frozen? ⟨B + 1, 0, none⟩ = false ∧ W.frozen? ⟨B + 1 + 1 + 1 + 1, 0, none⟩ = false :=
  ⟨by rw [cell_of_row _ _ _ _ _ _ h.stop]; rfl, by rw [cell_of_row _ _ _ _ _ _ h.says]; rfl, by rw [cell_of_row _ _ _ _ _ _ h.l]; rfl, by rw [cell_of_row _ _ _ _ _ _ h.n]; rfl,
    fun i hi => by rw [cell_of_row _ _ _ _ _ _ h.list]; exact name_at i hi, frozen_of_row W _ 0 _ _ h.says, frozen_of_row W _ 0 _ _ h.n⟩
theorem aside_set {B : Nat} (A : World) (a : Addr) (v : Value) (h : a.block < B) : Aside B A (A.setCell a v) :=
  ⟨by show A.heap.size ≤ (A.heap.modify _ _).size; rw [Array.size_modify]; exact Nat.le_refl _, fun b hb _ => heap_setCell_other A a b v (by omega)⟩
/-- Behind the last store. -/
theorem Held.final {B : Nat} {stop : Int} {w W : World} {k : Nat} (h : Held B stop w k W) (hd : W.heap[B + 5]? = some (.deferred (some []))) : (W.setCell ⟨B + 1, 0, none⟩ (.bool true)).heap[B + 5]? = some (.deferred (some [])) ∧
    ((W.setCell ⟨B + 1, 0, none⟩ (.bool true)).putObj (B + 5) (.deferred none)).cell? ⟨B + 1, 0, none⟩ = some (.bool true) ∧ Below B w ((W.setCell ⟨B + 1, 0, none⟩ (.bool true)).putObj (B + 5) (.deferred none)) := by
  refine ⟨(heap_setCell_other W ⟨B + 1, 0, none⟩ (B + 5) _ (by show _ ≠ B + 1; omega)).trans hd, cell_put _ (by omega) ?_, (h.below.setCell (p := ⟨B + 1, 0, none⟩) (by show B ≤ B + 1; omega) _).trans (below_put _ _ (by omega))⟩
  rw [cell_of_row _ _ _ _ _ _ (heap_setCell_same W (B + 1) 0 _ _ _ h.says)]
  rfl
/-- One name more. -/
theorem Held.next {B : Nat} {stop : Int} {w W : World} {k : Nat} (h : Held B stop w k W) : Held B stop w (k + 1) (W.setCell ⟨B + 1 + 1 + 1 + 1, 0, none⟩ (.int .i64 ((k : Int) + 1))) :=
  ⟨(heap_setCell_other W ⟨B + 4, 0, none⟩ B _ (by show _ ≠ B + 4; omega)).trans h.stop, (heap_setCell_other W ⟨B + 4, 0, none⟩ (B + 1) _ (by show _ ≠ B + 4; omega)).trans h.says, (heap_setCell_other W ⟨B + 4, 0, none⟩ (B + 2) _ (by show _ ≠ B + 4; omega)).trans h.list,
    (heap_setCell_other W ⟨B + 4, 0, none⟩ (B + 3) _ (by show _ ≠ B + 4; omega)).trans h.l, heap_setCell_same W (B + 4) 0 _ _ _ h.n, h.below.setCell (p := ⟨B + 4, 0, none⟩) (by show B ≤ B + 4; omega) _⟩
set_option maxHeartbeats 1000000 in
set_option maxRecDepth 100000 in
theorem walk_rules (stop : Int) (w : World) : Calls Tryz.prog 3 #[.int .i64 stop] w fun e w' => e = .returned (.bool true) ∧ Below w.heap.size w w' := by
  refine (callsIn_wide (n := 4)).1 ?_
  refine callsIn_of_wp_marks Tryz.func3 rfl trivial ?_ rfl
  simp only [Tryz.ntmps3, List.size_toArray, List.length_cons, List.length_nil, Nat.reduceAdd, Nat.reduceSub, Array.replicate_succ, Array.replicate_zero, List.push_toArray, List.append_toArray, List.nil_append, List.cons_append]
  have hnil : ∀ W : World, (Go.binOp BinOp.eql 25 (.func (.func 6) #[] #[]) .nilFunc).run Tryz.prog W = .ok (.bool false) W := fun _ => by kernel_rfl
  gi_wp2_with (first | (refine ⟨trivial, ?_⟩; gi_at_call 4; refine (callsIn_wide.2 (names_own _)).mono ?_; rintro e w1 ⟨rfl, rfl⟩) | (refine ⟨trivial, ?_⟩; gi_at_call 5; refine (callsIn_wide.2 (rules_fn _)).mono ?_; rintro e w1 ⟨rfl, rfl⟩))
  have h0 : Held w.heap.size stop w 0 (((((w.alloc (.cells #[.int .i64 stop] 3)).alloc (.cells #[.bool false] 4)).alloc (.cells #[.string (nm 0), .string (nm 1), .string (nm 2), .string (nm 3), .string (nm 4), .string (nm 5), .string (nm 6), .string (nm 7), .string (nm 8), .string (nm 9)] 9)).alloc
      (.cells #[.slice (some ⟨w.heap.size + 1 + 1, 0, none⟩) 10 10] 22)).alloc (.cells #[.int .i64 0] 3)) :=
    ⟨(five w _ _ _ _ _).1, (five w _ _ _ _ _).2.1, (five w _ _ _ _ _).2.2.1, (five w _ _ _ _ _).2.2.2.1, (five w _ _ _ _ _).2.2.2.2,
      balc (balc (balc (balc (balc (Below.refl _ w) _) _) _) _) _⟩
  have hz : (((((w.alloc (.cells #[.int .i64 stop] 3)).alloc (.cells #[.bool false] 4)).alloc (.cells #[.string (nm 0), .string (nm 1), .string (nm 2), .string (nm 3), .string (nm 4), .string (nm 5), .string (nm 6), .string (nm 7), .string (nm 8), .string (nm 9)] 9)).alloc
      (.cells #[.slice (some ⟨w.heap.size + 1 + 1, 0, none⟩) 10 10] 22)).alloc (.cells #[.int .i64 0] 3)).heap.size = w.heap.size + 5 := by simp
  generalize ((((w.alloc (.cells #[.int .i64 stop] 3)).alloc (.cells #[.bool false] 4)).alloc (.cells #[.string (nm 0), .string (nm 1), .string (nm 2), .string (nm 3), .string (nm 4), .string (nm 5), .string (nm 6), .string (nm 7), .string (nm 8), .string (nm 9)] 9)).alloc
      (.cells #[.slice (some ⟨w.heap.size + 1 + 1, 0, none⟩) 10 10] 22)).alloc (.cells #[.int .i64 0] 3) = W0 at h0 hz ⊢
  refine range_iter (N := 10) (enc := fun k => .string (nm k)) rules_iter rfl (enters_of Tryz.func6 (by kernel_rfl) rfl) rfl
    (fun k A => Held w.heap.size stop w k A) (fun c k A => c = .exit 0 ∧ Held w.heap.size stop w (k + 1) A ∧ stop = (k : Int) + 1)
    (fun k A C h hb => h.keep (by rw [← hz]; exact hb)) (fun c k A C h hb => ⟨h.1, h.2.1.keep (by rw [← hz]; exact hb), h.2.2⟩) h0 ?round ?done ?stop
  case round =>
    rintro l k W hk hh hle hlt hz1
    gi_wp2
    refine ⟨Aside.refl _ _, hh, fun o' => ?_⟩
    replace hh := hh.keep (below_put (l := l) W o' (by omega))
    generalize W.putObj l o' = W2 at hh ⊢
    obtain ⟨c0, c1, c3, c4, cl, f1, f4⟩ := hh.cells
    have cn := cl k hk
    have e2 : decide ((10 : Int) ≤ (k : Int)) = false := by simp; omega
    clear cl
    by_cases hs : stop = (k : Int) + 1
    · have e3 : ((k : Int) + 1 == stop) = true := by simp [hs]
      have HS := Lib.hid hs
      clear hs
      gi_wp2
      exact ⟨aside_set _ _ _ (by show w.heap.size + 4 < _; omega), rfl, hh.next, HS.out⟩
    · have e3 : ((k : Int) + 1 == stop) = false := by simp; omega
      clear hs
      gi_wp2
      exact ⟨aside_set _ _ _ (by show w.heap.size + 4 < _; omega), hh.next⟩
  case done =>
    rintro W3 hh hz1 hd
    rw [hz] at hd ⊢
    have hf := hh.final hd
    obtain ⟨c0, c1, c3, c4, cl, f1, f4⟩ := hh.cells
    clear cl hz
    gi_wp2
    refine ⟨by simp, .inl ⟨_, _, rfl, run_takeDeferred hf.1, ?_⟩⟩
    refine ⟨.bool true, ?_, rfl, hf.2.2⟩
    simp [results, Tryz.f3, go_sem, hf.2.1]
  case stop =>
    rintro c k W3 ⟨rfl, hh, rfl⟩ hz1 hd
    rw [hz] at hd ⊢
    have hf := hh.final hd
    obtain ⟨c0, c1, c3, c4, cl, f1, f4⟩ := hh.cells
    clear cl hz
    gi_wp2
    all_goals
      refine ⟨by simp, .inl ⟨_, _, rfl, run_takeDeferred hf.1, ?_⟩⟩
      refine ⟨.bool true, ?_, rfl, hf.2.2⟩
      simp [results, Tryz.f3, go_sem, hf.2.1]
end Go.Proofs.YtjanmmbdepanjaaGreatDoor
