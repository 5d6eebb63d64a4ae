/- The law's module, as data: sound. -/
import Derived.Test.YtindnnbopaeklaaGreatDoorBd
import Derived.Test.YtindnnbopaeklaaGreatDoorDa
import Derived.Test.YtindnnbopaeklaaGreatDoorAo
import Derived.Test.YtindnnbopaeklaaGreatDoorAj
import Derived.Test.YtindnnbopaeklaaGreatDoorAq
namespace Go.Proofs.YtindnnbopaeklaaGreatDoor
set_option linter.unusedVariables false
set_option linter.unusedSimpArgs false
set_option maxRecDepth 100000
set_option maxHeartbeats 1000000
open Go.RowKit
def rawGd (i : In) (b : Nat) : Bool := (rawOf i b).1 == 0 && decide ((rawOf i b).2 ≤ 19)
theorem rawGd_out {i : In} {b : Nat} (h : rawGd i b = true) : (rawOf i b).1 = 0 ∧ (rawOf i b).2 ≤ 19 := by
 unfold rawGd at h
 simpa using h
theorem raw_3 (a : Nat) : rawGd ⟨43, 1, 3, [aN a]⟩ 20 = true := by kernel_rfl
theorem raw_4 (a : Nat) : rawGd ⟨43, 1, 4, [aN a]⟩ 20 = true := by kernel_rfl
theorem raw_3' (a : Nat) : rawGd ⟨43, 1, 3, [aN a]⟩ 21 = true := by kernel_rfl
theorem raw_4' (a : Nat) : rawGd ⟨43, 1, 4, [aN a]⟩ 21 = true := by kernel_rfl
theorem raw_20 (a : Nat) : rawGd ⟨43, 1, 20, [aN a]⟩ 21 = true := by kernel_rfl
def twoOps : List Nat := [128, 130, 132, 134, 135, 137, 138, 139, 194, 195, 196, 197, 198, 199]
theorem raw_two : (twoOps.all fun op => rawGd ⟨op, 1, 7, [aI 3, aI 4]⟩ 20) = true := by kernel_rfl
def restL : List In := [⟨14, 0, 0, [aE 0, aE 0]⟩, ⟨21, 0, 1, [aN 32, aN 0]⟩, ⟨33, 0, 2, [aI 1]⟩, ⟨54, 1, 5, [aE 0, aI 2]⟩, ⟨248, 0, 6, []⟩, ⟨254, 0, 0, [aI 7]⟩, ⟨56, 0, 0, []⟩]
theorem raw_rest : (restL.all fun i => rawGd i 20 && rawGd i 21) = true := by kernel_rfl
theorem raw_back : ([3, 4, 20].all fun r => rawGd ⟨254, 0, 0, [aI r]⟩ 21) = true := by kernel_rfl
theorem raw_back' : ([3, 4].all fun r => rawGd ⟨254, 0, 0, [aI r]⟩ 20) = true := by kernel_rfl
theorem cst_raw {op a b : Nat} (h : isTwo op = true) : ∀ i ∈ cstL op a b, (rawOf i 20).1 = 0 ∧ (rawOf i 20).2 ≤ 19 := fun i hi => by
 have hr : ∀ j ∈ restL, rawGd j 20 = true := fun j hj => by
  have := List.all_eq_true.1 raw_rest j hj
  simp only [Bool.and_eq_true] at this
  exact this.1
 refine rawGd_out ?_
 simp only [cstL, List.mem_cons, List.not_mem_nil, or_false] at hi
 rcases hi with rfl | rfl | rfl | rfl | rfl | rfl | rfl | rfl | rfl | rfl
 ·exact hr _ (by simp [restL])
 ·exact hr _ (by simp [restL])
 ·exact hr _ (by simp [restL])
 ·exact raw_3 a
 ·exact raw_4 b
 ·exact hr _ (by simp [restL])
 ·exact hr _ (by simp [restL])
 ·exact List.all_eq_true.1 raw_two op (isTwo_mem h)
 ·exact hr _ (by simp [restL])
 ·exact hr _ (by simp [restL])
theorem words_le {bd : Nat} {l : List In} (h : ∀ i ∈ l, (rawOf i bd).2 ≤ 19) : ∀ k, k ≤ l.length → wordsTo bd l k ≤ k * 20
 | 0, _ => Nat.zero_le _
 | k + 1, hk => by
  have ih := words_le h k (by omega)
  have h1 := h l[k] (List.getElem_mem (by omega))
  have h2 : l.getD k noIn = l[k] := getD_at l (by omega)
  unfold wordsTo
  rw [h2]
  omega
theorem cst_sound {op a b : Nat} (h : isTwo op = true) : Sound 20 (cstL op a b) := by
 refine ⟨by omega, by omega, by show 10 ≤ 2000; omega, fun k hk => (cst_raw h _ (List.getElem_mem hk)).1, ?_⟩
 have := words_le (fun i hi => (cst_raw (a := a) (b := b) h i hi).2) (cstL op a b).length (Nat.le_refl _)
 have hl : (cstL op a b).length = 10 := rfl
 rw [hl] at this ⊢
 omega
def tC (p : Nat) : Nat := [0, 0, 1, 1, 1, 1, 1, 1, 5].getD p 5
theorem cst_lay (op a b : Nat) : ((List.range 5).all fun j => layKind ((cstL op a b).getD j noIn) == 9 && partOf ((cstL op a b).getD j noIn) == (if j = 0 then 1 else 7)) = true := by kernel_rfl
theorem cst_lay5 (op a b : Nat) : (layKind ((cstL op a b).getD 5 noIn) == 9) = false := by kernel_rfl
theorem cst_lay_at {op a b j : Nat} (h : j < 5) (hj : j < (cstL op a b).length) : layKind (cstL op a b)[j] = 9 ∧ partOf (cstL op a b)[j] = (if j = 0 then 1 else 7) := by
 have h1 := List.all_eq_true.1 (cst_lay op a b) j (List.mem_range.2 h)
 simp only [Bool.and_eq_true, beq_iff_eq] at h1
 rwa [getD_at _ hj] at h1
theorem cst_part (op a b : Nat) : Parted (cstL op a b) tC := by
 refine ⟨rfl, fun p hp => ?_, by show 5 ≤ 10; omega, fun p hp j hj h1 h2 => ?_, fun p hp h1 h hk => ?_, rfl⟩
 ·rcases p with _ | _ | _ | _ | _ | _ | _ | _ | p <;> first | (show _ ≤ _; decide) | omega
 ·have hb : p = 1 ∧ j = 0 ∨ p = 7 ∧ 1 ≤ j ∧ j < 5 := by
   rcases p with _ | _ | _ | _ | _ | _ | _ | _ | p <;> simp [tC] at h1 h2 <;> omega
  have := cst_lay_at (op := op) (a := a) (b := b) (j := j) (by omega) hj
  rcases hb with ⟨rfl, rfl⟩ | ⟨rfl, hj1, -⟩
  ·exact this
  ·rwa [if_neg (by omega)] at this
 ·by_cases h7 : p = 7
  ·subst h7
   have := cst_lay5 op a b
   rw [beq_eq_false_iff_ne] at this
   have hk2 : layKind ((cstL op a b).getD (tC (7 + 1)) noIn) = 9 := by rw [getD_at _ h]; exact hk
   exact absurd hk2 this
  ·have ht : tC (p + 1) = 0 ∧ p = 0 ∨ tC (p + 1) = 1 ∧ 2 ≤ p := by
    rcases p with _ | _ | _ | _ | _ | _ | _ | _ | p <;> simp [tC] <;> omega
   have := (cst_lay_at (op := op) (a := a) (b := b) (j := tC (p + 1)) (by omega) h).2
   rw [this]
   rcases ht with ⟨e, rfl⟩ | ⟨e, hp2⟩
   ·rw [if_pos e]; decide
   ·rw [if_neg (by omega)]; omega
theorem cst_op : (twoOps.all fun op => nextOf (cstL op 0 0) 7 == 0) = true := by kernel_rfl
theorem cst_next {op a b : Nat} (h : isTwo op = true) : nextOf (cstL op a b) 7 = 0 := by
 have := List.all_eq_true.1 cst_op op (isTwo_mem h)
 rw [beq_iff_eq] at this
 exact this
theorem cst_one {op a b : Nat} (h : isTwo op = true) : OneFn (cstL op a b) tC 8 := by
 refine ⟨cst_part op a b, rfl, by show 5 + 2 ≤ 8; omega, ?_, ?_, ?_, fun j h1 h2 => ?_, ?_, ?_⟩
 ·kernel_rfl
 ·kernel_rfl
 ·show nextOf (cstL op a b) 7 ≠ 5
  rw [cst_next h]
  decide
 ·have h1' : 7 ≤ j := h1
  obtain rfl : j = 7 := by omega
  exact cst_next h
 ·kernel_rfl
 ·kernel_rfl
def idsB (l : List In) : Bool := (List.range 10).all fun k => ((l.getD k noIn).res == 0 || (match mkK l 10 (l.getD k noIn).res with | some j => decide (k ≤ j) | none => false)) && (idsOf (l.getD k noIn)).all fun id => match mkK l 10 id with | some j => !(decide (1 ≤ k) && decide (k < 5)) || decide (j < k) | none => false
theorem cst_idsB (op a b : Nat) : idsB (cstL op a b) = true := by kernel_rfl
theorem cst_ids (op a b : Nat) : IdsOk (cstL op a b) tC := by
 have hl : (cstL op a b).length = 10 := rfl
 have h0 := fun k (hk : k < (cstL op a b).length) => List.all_eq_true.1 (cst_idsB op a b) k (List.mem_range.2 hk)
 simp only [Bool.and_eq_true, Bool.or_eq_true, beq_iff_eq] at h0
 refine ⟨fun k hk hr => ?_, fun k hk id hid => ?_⟩
 ·have h1 := (h0 k hk).1
  rw [getD_at _ hk] at h1
  rw [hl]
  rcases h1 with h1 | h1
  ·exact absurd h1 hr
  ·cases hm : mkK (cstL op a b) 10 (cstL op a b)[k].res with
   | none => rw [hm] at h1; cases h1
   | some j => rw [hm] at h1; exact ⟨j, rfl, of_decide_eq_true h1⟩
 ·have h1 := (h0 k hk).2
  rw [getD_at _ hk] at h1
  have h2 := List.all_eq_true.1 h1 id hid
  rw [hl]
  cases hm : mkK (cstL op a b) 10 id with
  | none => rw [hm] at h2; cases h2
  | some j =>
   rw [hm] at h2
   refine ⟨j, rfl, fun (q1 : 1 ≤ k) (q2 : k < 5) => ?_⟩
   simpa [q1, q2] using h2
end Go.Proofs.YtindnnbopaeklaaGreatDoor
