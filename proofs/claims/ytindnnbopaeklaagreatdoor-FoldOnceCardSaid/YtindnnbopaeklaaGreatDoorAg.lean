/- Layout: an instruction's kind; the cutter; what comes next. -/
import Derived.Test.YtindnnbopaeklaaGreatDoorAe
import Derived.Stop.RegionWithIn
import Derived.Deep.Light
namespace Go.Proofs.YtindnnbopaeklaaGreatDoor
set_option linter.unusedVariables false
set_option linter.unusedSimpArgs false
open Go.RowKit
def endsOp (op : Nat) : Bool := decide (249 ≤ op) && decide (op ≤ 255)
theorem ends_own (op : Nat) (w : World) : Calls Tryz.prog 207 #[.int .u16 op] w fun e w' => e = .returned (.bool (endsOp op)) ∧ w' = w := by
 unfold endsOp
 by_cases h1 : 249 ≤ op
 ·have t1 : (249 : Int) ≤ op := by omega
  by_cases h2 : op ≤ 255
  ·have t2 : (op : Int) ≤ 255 := by omega
   rw [decide_eq_true h1, decide_eq_true h2]
   clear h1 h2
   go_enter Tryz.func207, Tryz.ntmps207
   go_wp2
   go_ret
   exact ⟨rfl, rfl⟩
  ·have t2 : ¬ ((op : Int) ≤ 255) := by omega
   rw [decide_eq_true h1, decide_eq_false h2]
   clear h1 h2
   go_enter Tryz.func207, Tryz.ntmps207
   go_wp2
   go_ret
   exact ⟨rfl, rfl⟩
 ·have t1 : ¬ ((249 : Int) ≤ op) := by omega
  rw [decide_eq_false h1]
  clear h1
  go_enter Tryz.func207, Tryz.ntmps207
  go_wp2
  go_ret
  exact ⟨rfl, rfl⟩
theorem quad_cells {W : World} {p : Nat} {x y z u : Value} {t : TypeId} (h : W.heap[p]? = some (.cells #[x, y, z, u] t (0, 0))) : W.cell? ⟨p, 0, none⟩ = some x ∧ W.cell? ⟨p, 1, none⟩ = some y ∧ W.cell? ⟨p, 2, none⟩ = some z ∧ W.cell? ⟨p, 3, none⟩ = some u :=
 ⟨(cell_of_row _ _ 0 _ _ _ h).trans rfl, (cell_of_row _ _ 1 _ _ _ h).trans rfl, (cell_of_row _ _ 2 _ _ _ h).trans rfl, (cell_of_row _ _ 3 _ _ _ h).trans rfl⟩
def layKind (i : In) : Nat :=
 if partOf i ≠ 8 then 9
 else if i.op = 54 then 1 else if i.op = 55 then 2 else if i.op = 56 then 8 else if i.op = 248 then 3 else if i.op = 245 then 4 else if i.op = 59 then 5
 else if i.op = 246 then 6 else if i.op = 247 then 6 else if endsOp i.op then 7 else 0
set_option maxHeartbeats 2000000 in
theorem lkind_own (i : In) (a : Option Addr) (cap : Nat) (w : World) (h : Sl 3 AgAt w a i.args) (hl : i.args.length ≤ 1048576) :
  Calls Tryz.prog 157 #[.agg #[.int .u16 i.op, .int .u32 i.ty, .int .u32 i.res, .slice a i.args.length cap]] w fun e w' => e = .returned (.int .i64 (layKind i)) ∧ Below w.heap.size w w' := by
 have c1 := fun W h => part_own i a cap W h hl
 have c2 := fun W => ends_own i.op W
 obtain ⟨r, hr⟩ : ∃ r, Hid (layKind i = r) := ⟨_, hid rfl⟩
 rw [hr.out]
 have hb := bal (Below.refl _ w) (.cells #[.int .u16 i.op, .int .u32 i.ty, .int .u32 i.res, .slice a i.args.length cap] 43)
 have c1' := c1 _ (h.below AgAt.lasts hb)
 unfold inVal at c1'
 have hr2 := hid (show layKind i = (if partOf i ≠ 8 then 9
 else if i.op = 54 then 1 else if i.op = 55 then 2 else if i.op = 56 then 8 else if i.op = 248 then 3 else if i.op = 245 then 4 else if i.op = 59 then 5
 else if i.op = 246 then 6 else if i.op = 247 then 6 else if endsOp i.op then 7 else 0) from rfl)
 clear c1 h
 generalize partOf i = p at c1' hr2
 generalize layKind i = q at hr hr2
 obtain ⟨op, ty, res, args⟩ := i
 simp only at c1' c2 hr2 hb hl ⊢
 generalize args.length = n at c1' hb hl ⊢
 obtain rfl := hr.out
 clear hr
 generalize endsOp op = eo at c2 hr2
 cases eo
 all_goals
  go_enter Tryz.func157, Tryz.ntmps157
  go_wp2_with (first
   | (go_at_call 156; (with_reducible refine c1'.mono ?_); rintro e w1 ⟨rfl, hn1⟩; obtain ⟨x0, x1, x2, x3⟩ := quad_cells ((hn1.block w.heap.size (by simp)).trans (alloc_at w (.cells #[.int .u16 op, .int .u32 ty, .int .u32 res, .slice a n cap] 43))))
   | (go_at_call 207; (with_reducible refine (c2 _).mono ?_); rintro e w2 ⟨rfl, rfl⟩))
 all_goals
  go_ret
  refine ⟨ret_v ?_, by first | exact bcall hb hn1 | exact bcall (bcall hb hn1) (Below.refl _ _)⟩
  have h := hr2.out
  clear hr2 c1' c2 hb hn1 x0 x1 x2 x3
  simp only [bne_iff_ne, ne_eq, beq_iff_eq, beq_eq_false_iff_ne, bne_eq_false_iff_eq, Decidable.not_not, Bool.false_eq_true, if_false, if_true] at *
  (repeat' split at h) <;> omega
end Go.Proofs.YtindnnbopaeklaaGreatDoor
