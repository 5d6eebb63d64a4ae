/- The names of the checks: what an iterator of so many promises. -/
import Derived.Test.YtjanmmbdepanjaaGreatDoorRulesa
import Derived.Lib.Hide
import Derived.Laws.EntriesVeiled
namespace Go.Proofs.YtjanmmbdepanjaaGreatDoor
set_option linter.unusedVariables false
open Go.RowKit Go.Shelf
attribute [local go_sem] Oper.semAt_some
/-- What lies from B on, and lay already, lies as it lay. -/
def Aside (B : Nat) (A C : World) : Prop := A.heap.size ≤ C.heap.size ∧ ∀ b, B ≤ b → b < A.heap.size → C.heap[b]? = A.heap[b]?
theorem Aside.refl (B : Nat) (A : World) : Aside B A A := ⟨Nat.le_refl _, fun _ _ _ => rfl⟩
theorem Aside.trans {B : Nat} {A C D : World} (h : Aside B A C) (k : Aside B C D) : Aside B A D :=
  ⟨Nat.le_trans h.1 k.1, fun b hb hlt => (k.2 b hb (Nat.lt_of_lt_of_le hlt h.1)).trans (h.2 b hb hlt)⟩
theorem Aside.mono {B B' : Nat} {A C : World} (h : Aside B A C) (hb : B ≤ B') : Aside B' A C := ⟨h.1, fun b hle hlt => h.2 b (Nat.le_trans hb hle) hlt⟩
theorem Aside.alloc (B : Nat) (A : World) (o : Obj) : Aside B A (A.alloc o) := ⟨by simp, fun b _ hlt => Below.heap_alloc A o b hlt⟩
theorem Aside.put {B : Nat} {A : World} (l : Nat) (o : Obj) (hl : l < B) : Aside B A (A.putObj l o) := ⟨by simp, fun b hb hlt => World.putObj_heap_other (by omega)⟩
theorem Aside.cell {B : Nat} {A C : World} (h : Aside B A C) {b j : Nat} {v : Value} (hb : B ≤ b) (hc : A.cell? ⟨b, j, none⟩ = some v) : C.cell? ⟨b, j, none⟩ = some v := by
  have hlt := block_lt_of_cell (a := ⟨b, j, none⟩) hc
  exact (World.cell?_of_block (a := ⟨b, j, none⟩) (h.2 b hb hlt)).trans hc
/-- Stable wherever what lies below B lies on. -/
def Stable (B : Nat) (J : Nat → World → Prop) : Prop := ∀ k A C, J k A → Below B A C → J k C
/-- An iterator over N values that keeps nothing of its own beside them. -/
def Iter (gf : Nat) (enc : Nat → Value) (N : Nat) : Prop :=
  ∀ (l : Nat) (J Jx : Nat → World → Prop) (W : World), l < W.heap.size → Stable W.heap.size J → Stable W.heap.size Jx →
    (∀ k W1, k < N → J k W1 → W.heap.size ≤ W1.heap.size → YieldAt Fence.wide 0 Tryz.prog l #[enc k] W1 fun e W' =>
      (e = .returned (.bool true) ∧ J (k + 1) W' ∨ e = .returned (.bool false) ∧ Jx k W') ∧ Aside W.heap.size W1 W') →
    J 0 W → Calls Tryz.prog gf #[.func (.yield l) #[] #[]] W fun e W' => (∃ v, e = .returned v) ∧ (J N W' ∨ ∃ k, Jx k W') ∧ Aside W.heap.size W W'
theorem rule_name (k : Nat) (hk : k < 10) : ruleCells[k * 2]? = some (.string (nm k)) := by
  match k, hk with
  | 0, _ => rfl | 1, _ => rfl | 2, _ => rfl | 3, _ => rfl | 4, _ => rfl | 5, _ => rfl | 6, _ => rfl | 7, _ => rfl | 8, _ => rfl | 9, _ => rfl
theorem rule_fn (k : Nat) (hk : k < 10) : ruleCells[k * 2 + 1]? = some (fval k) := by
  match k, hk with
  | 0, _ => rfl | 1, _ => rfl | 2, _ => rfl | 3, _ => rfl | 4, _ => rfl | 5, _ => rfl | 6, _ => rfl | 7, _ => rfl | 8, _ => rfl | 9, _ => rfl
/-- A rule, as a value. -/
def rl (k : Nat) : Value := .agg #[.string (nm k), fval k]
set_option maxHeartbeats 1000000 in
theorem each_iter : Iter 8 rl 10 := by
  intro l J Jx W hl hJ hJx hY h0
  refine (callsIn_wide (n := 1)).1 ?_
  refine callsIn_of_wp Tryz.func8 rfl trivial ?_ rfl
  simp only [Tryz.ntmps8, List.size_toArray, List.length_cons, List.length_nil, Nat.reduceAdd, Nat.reduceSub, Array.replicate_succ, Array.replicate_zero, List.push_toArray, List.append_toArray, List.nil_append, List.cons_append]
  gi_wp2_with (refine ⟨trivial, ?_⟩; gi_at_call 9; refine (callsIn_wide.2 (rules_own _)).mono ?_; rintro e w1 ⟨rfl, rfl⟩)
  have hr0 : (W.alloc (.cells ruleCells 34)).heap[W.heap.size]? = some (.cells ruleCells 34) := World.alloc_heap_new W _
  have hJ0 : J 0 (W.alloc (.cells ruleCells 34)) := hJ 0 _ _ h0 ((Below.refl _ W).alloc (Nat.le_refl _) _)
  have hA0 : Aside W.heap.size W (W.alloc (.cells ruleCells 34)) := Aside.alloc _ _ _
  have hs0 : W.heap.size < (W.alloc (.cells ruleCells 34)).heap.size := by simp
  generalize W.alloc (.cells ruleCells 34) = W0 at hr0 hJ0 hA0 hs0 ⊢
  gi_loopw [6] (fun i wr => ∃ k : Nat, k ≤ 10 ∧ i = .int .i64 k ∧ J k wr ∧ wr.heap[W.heap.size]? = some (.cells ruleCells 34) ∧ Aside W.heap.size W wr) (fun i _ => 10 - (intOf i).toNat)
  case atStart => exact ⟨0, by omega, rfl, hJ0, hr0, hA0⟩
  case round =>
    clear hr0 hJ0 hA0 hs0
    obtain ⟨k, hk, rfl, hJk, hrk, hAk⟩ := hrel
    have hsz := hAk.1
    by_cases hlt : k < 10
    · have d1 : wr.cell? ⟨W.heap.size, k * 2, none⟩ = some (.string (nm k)) := by rw [cell_of_row wr _ _ _ _ _ hrk]; exact rule_name k hlt
      have d2 : wr.cell? ⟨W.heap.size, k * 2 + 1, none⟩ = some (.func (.func (fo k)) #[] #[]) := by rw [cell_of_row wr _ _ _ _ _ hrk]; exact rule_fn k hlt
      have hY1 := hY k (wr.alloc (.cells #[.string (nm k), .func (.func (fo k)) #[] #[]] 34)) hlt (hJ k _ _ hJk ((Below.refl _ wr).alloc (by omega) _)) (by simp; omega)
      unfold rl fval at hY1
      obtain ⟨fn, tmps, assign, body, hy, hR⟩ := hY1
      have hlr := (Array.getElem?_eq_some_iff.1 hrk).1
      have HRK := Lib.hid hrk
      clear hrk
      gi_wp2
      refine hR.mono ?_
      rintro e W3 ⟨⟨rfl, hJ3⟩ | ⟨rfl, hJx3⟩, hA3⟩
      · gi_wp2
        go_roundw
        case rel => exact ⟨k + 1, by omega, by go_num, hJ3, (hA3.2 _ (Nat.le_refl _) (by simp; omega)).trans ((Below.heap_alloc wr _ _ (by omega)).trans HRK.out), hAk.trans ((Aside.alloc _ _ _).trans hA3)⟩
        case measure => simp [intOf]; omega
      · gi_wp2
        refine bodyPost_ret (results_none rfl _ _ _) rfl ?_
        exact ⟨⟨_, rfl⟩, .inr ⟨k, hJx3⟩, hAk.trans ((Aside.alloc _ _ _).trans hA3)⟩
    · obtain rfl : k = 10 := by omega
      gi_wp2
      go_end0
      exact ⟨⟨_, rfl⟩, .inl hJk, hAk⟩
end Go.Proofs.YtjanmmbdepanjaaGreatDoor
