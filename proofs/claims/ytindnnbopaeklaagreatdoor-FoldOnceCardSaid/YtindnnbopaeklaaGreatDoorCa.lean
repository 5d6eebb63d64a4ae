/- FoldOnce: the row's closed facts, one by one. -/
import Derived.Test.YtindnnbopaeklaaGreatDoorRows
import Derived.JoinedOf
import GoSem.ClaimGoes
import Derived.KernelRfl
namespace Go.Proofs.YtindnnbopaeklaaGreatDoor.foldOnce
set_option maxRecDepth 100000
set_option maxHeartbeats 40000000
theorem k1 : Rows.foldOnceRow.wf (OpenSpec.ofChange Rows.foldOnceSpec) = true := by kernel_rfl
theorem k2 : laidOutB Tryz.prog = true := by kernel_rfl
theorem k3 : mapsRowed Tryz.prog = true := by kernel_rfl
theorem k4 : Tryz.f3.params.all (Tryz.prog.readableRec ·) = true := by kernel_rfl
theorem k5 : namedTie Tryz.prog Rows.foldOnceRow.named Rows.foldOnceSpec.vars = true := by kernel_rfl
theorem k7 : (Tryz.prog.stops == []) = true := by kernel_rfl
theorem k9 : (Tryz.prog.stopKnobs == []) = true := by kernel_rfl
theorem k10 : (Rows.foldOnceRow.inPlace == Tryz.prog.inPlace 3) = true := by kernel_rfl
theorem k11 : (Rows.foldOnceRow.unfollowed == Tryz.prog.unfollowed 3) = true := by kernel_rfl
theorem k12 : (Rows.foldOnceRow.recurses == Tryz.prog.recurses 3) = true := by kernel_rfl
theorem k13 : (Rows.foldOnceRow.named == Tryz.prog.varsNamed 3) = true := by kernel_rfl
theorem and_tt {a b : Bool} (ha : a = true) (hb : b = true) : (a && b) = true := by rw [ha, hb]; rfl
theorem facts : joinedFacts Tryz.prog 3 Tryz.f3 Rows.foldOnceSpec Rows.foldOnceRow = true := by
 unfold joinedFacts
 exact and_tt (and_tt (and_tt (and_tt (and_tt (and_tt (and_tt (and_tt (and_tt (and_tt (and_tt (and_tt (and_tt (and_tt (and_tt (and_tt (and_tt (and_tt (and_tt (and_tt (and_tt (and_tt (and_tt (and_tt (and_tt (and_tt (and_tt (and_tt (and_tt (and_tt (and_tt k1 k2) k3) k4) k5) rfl) k7) rfl) k9) k10) k11) k12) k13) (by as_aux_lemma => kernel_rfl)) (by as_aux_lemma => kernel_rfl)) (by as_aux_lemma => kernel_rfl)) (by as_aux_lemma => kernel_rfl)) (by as_aux_lemma => kernel_rfl)) (by as_aux_lemma => kernel_rfl)) (by as_aux_lemma => kernel_rfl)) (by as_aux_lemma => kernel_rfl)) (by as_aux_lemma => kernel_rfl)) (by as_aux_lemma => kernel_rfl)) (by as_aux_lemma => kernel_rfl)) (by as_aux_lemma => kernel_rfl)) (by as_aux_lemma => kernel_rfl)) (by as_aux_lemma => kernel_rfl)) (by as_aux_lemma => kernel_rfl)) (by as_aux_lemma => kernel_rfl)) (by as_aux_lemma => kernel_rfl)) (by as_aux_lemma => kernel_rfl)) (by as_aux_lemma => kernel_rfl)
end Go.Proofs.YtindnnbopaeklaaGreatDoor.foldOnce
namespace Go.Proofs.YtindnnbopaeklaaGreatDoor.foldOnce
set_option maxRecDepth 100000
theorem goes_at {P : Program} (h : P.funcs.any Func.goes = false) (g : FuncId) : (P.funcs[g]?).any Func.goes = false := by
 cases hg : P.funcs[g]? with
 | none => rfl
 | some fn =>
  have hm := Array.mem_of_getElem? hg
  simpa using (Array.any_eq_false'.1 h) fn hm
theorem goes_all {P : Program} (h : P.funcs.any Func.goes = false) (f : FuncId) : P.goes f = false := by
 unfold Program.goes
 rw [h, Bool.and_false, Bool.or_false, List.any_eq_false]
 intro g _
 rw [goes_at h g]
 decide
theorem goes_by {P : Program} (h : P.funcs.any Func.goes = false) (c : OpenClaim) : c.goesBy P = false := by
 unfold OpenClaim.goesBy Program.goesAt Program.goesFrom
 have h1 : (P.funcNamed c.func).any P.goes = false := by
  cases P.funcNamed c.func with
  | none => rfl
  | some f => exact goes_all h f
 have h2 : P.inits.toList.any P.goes = false := by
  rw [List.any_eq_false]
  intro g _
  rw [goes_all h g]
  decide
 rw [h1, h2]
 cases c.start <;> rfl
theorem none_goes : Tryz.prog.funcs.any Func.goes = false := by kernel_rfl
theorem goes : false = Rows.foldOnceRow.goesBy Tryz.pinned.checked.prog := (goes_by none_goes _).symm
end Go.Proofs.YtindnnbopaeklaaGreatDoor.foldOnce
