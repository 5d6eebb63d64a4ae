/- MachineStraight: the row's closed facts, one by one. -/
import Derived.Test.YtlkolghiknbbfaaGreatDoorRows
import Derived.JoinedOf
import GoSem.ClaimGoes
set_option maxRecDepth 100000
set_option maxHeartbeats 4000000
namespace Go.Proofs.YtlkolghiknbbfaaGreatDoor.machineStraight
theorem k1 : Rows.machineStraightRow.wf (OpenSpec.ofChange Rows.machineStraightSpec) = true := by kernel_rfl
theorem k2 : laidOutB Tryz.prog = true := by kernel_rfl
theorem k3 : mapsRowed Tryz.prog = true := by kernel_rfl
theorem k4 : Tryz.f3.params.all (Tryz.prog.readableRec ·) = true := by kernel_rfl
theorem k5 : namedTie Tryz.prog Rows.machineStraightRow.named Rows.machineStraightSpec.vars = true := by kernel_rfl
theorem k7 : (Tryz.prog.stops == []) = true := by kernel_rfl
theorem k9 : (Tryz.prog.stopKnobs == []) = true := by kernel_rfl
theorem k10 : (Rows.machineStraightRow.inPlace == Tryz.prog.inPlace 3) = true := by kernel_rfl
theorem k11 : (Rows.machineStraightRow.unfollowed == Tryz.prog.unfollowed 3) = true := by kernel_rfl
theorem k12 : (Rows.machineStraightRow.recurses == Tryz.prog.recurses 3) = true := by kernel_rfl
theorem k13 : (Rows.machineStraightRow.named == Tryz.prog.varsNamed 3) = true := by kernel_rfl
theorem bS {a b : Bool} (ha : a = true) (hb : b = true) : (a && b) = true := by rw [ha, hb]; rfl
theorem facts : joinedFacts Tryz.prog 3 Tryz.f3 Rows.machineStraightSpec Rows.machineStraightRow = true := by
 unfold joinedFacts;exact bS (bS (bS (bS (bS (bS (bS (bS (bS (bS (bS (bS (bS (bS (bS (bS (bS (bS (bS (bS (bS (bS (bS (bS (bS (bS (bS (bS (bS (bS (bS k1 k2) k3) k4) k5) rfl) k7) rfl) k9) k10) k11) k12) k13) (by as_aux_lemma => kernel_rfl)) (by as_aux_lemma => kernel_rfl)) (by as_aux_lemma => kernel_rfl)) (by as_aux_lemma => kernel_rfl)) (by as_aux_lemma => kernel_rfl)) (by as_aux_lemma => kernel_rfl)) (by as_aux_lemma => kernel_rfl)) (by as_aux_lemma => kernel_rfl)) (by as_aux_lemma => kernel_rfl)) (by as_aux_lemma => kernel_rfl)) (by as_aux_lemma => kernel_rfl)) (by as_aux_lemma => kernel_rfl)) (by as_aux_lemma => kernel_rfl)) (by as_aux_lemma => kernel_rfl)) (by as_aux_lemma => kernel_rfl)) (by as_aux_lemma => kernel_rfl)) (by as_aux_lemma => kernel_rfl)) (by as_aux_lemma => kernel_rfl)) (by as_aux_lemma => kernel_rfl)
end Go.Proofs.YtlkolghiknbbfaaGreatDoor.machineStraight
namespace Go.Proofs.YtlkolghiknbbfaaGreatDoor.machineStraight
theorem KX {P : Program} (h : P.funcs.any Func.goes = false) (g : FuncId) : (P.funcs[g]?).any Func.goes = false := by
 cases hg : P.funcs[g]? with
 | none => rfl
 | some fn =>
  have hm := Array.mem_of_getElem? hg;simpa using (Array.any_eq_false'.1 h) fn hm
theorem Aj {P : Program} (h : P.funcs.any Func.goes = false) (f : FuncId) : P.goes f = false := by
 unfold Program.goes;rw [h, Bool.and_false, Bool.or_false, List.any_eq_false];intro g _;rw [KX h g];decide
theorem MG {P : Program} (h : P.funcs.any Func.goes = false) (c : OpenClaim) : c.goesBy P = false := by
 unfold OpenClaim.goesBy Program.goesAt Program.goesFrom;have h1 : (P.funcNamed c.func).any P.goes = false := by
  cases P.funcNamed c.func with
  | none => rfl
  | some f => exact Aj h f
 have h2 : P.inits.toList.any P.goes = false := by
  rw [List.any_eq_false];intro g _;rw [Aj h g];decide
 rw [h1, h2]
 cases c.start <;> rfl
theorem Gd : Tryz.prog.funcs.any Func.goes = false := by kernel_rfl
theorem goes : false = Rows.machineStraightRow.goesBy Tryz.pinned.checked.prog := (MG Gd _).symm
end Go.Proofs.YtlkolghiknbbfaaGreatDoor.machineStraight
