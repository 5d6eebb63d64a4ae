/- The straight module: sound, one function, its ids. -/
import Derived.Test.YtbhijdmlonplgaaGreatDoorBd
import Derived.Test.YtbhijdmlonplgaaGreatDoorAq
import Derived.Test.YtbhijdmlonplgaaGreatDoorAz
import Derived.Test.YtbhijdmlonplgaaGreatDoorAu
import Derived.Test.YtbhijdmlonplgaaGreatDoorBe
import Derived.Test.YtbhijdmlonplgaaGreatDoorBf
namespace Go.Proofs.YtbhijdmlonplgaaGreatDoor
set_option linter.unusedVariables false
set_option linter.unusedSimpArgs false
set_option maxRecDepth 100000
set_option maxHeartbeats 1000000
open Go.RowKit
section
variable {n : Nat} {f : Nat → Ln}
theorem InLike.refl (i : In) : InLike i i := ⟨rfl, Iff.rfl, Iff.rfl, rfl, fun k _ _ => ⟨rfl, rfl, fun _ => rfl⟩⟩
def idsInB (i : In) (b : Nat) : Bool := (i.ty == 0 || decide (i.ty < b)) && (i.res == 0 || decide (i.res < b)) && i.args.all fun a => !(a.kind == 1) || (decide (0 < a.n) && decide (a.n < b))
theorem IdsIn.of {i : In} {b b' : Nat} (h : idsInB i b = true) (hb : b ≤ b') : IdsIn i b' := by
 unfold idsInB at h
 simp only [Bool.and_eq_true, Bool.or_eq_true, beq_iff_eq, decide_eq_true_eq, List.all_eq_true, Bool.not_eq_true', beq_eq_false_iff_ne] at h
 obtain ⟨⟨h1, h2⟩, h3⟩ := h
 refine ⟨h1.imp id (fun q => by omega), h2.imp id (fun q => by omega), fun k hk e => ?_⟩
 rcases h3 _ (List.getElem_mem hk) with q | q
 ·exact absurd e q
 ·exact ⟨q.1, by omega⟩
def rawGood (i : In) (b : Nat) : Bool := (rawOf i b).1 == 0 && decide ((rawOf i b).2 ≤ 19)
theorem rawGood_out {i : In} {b : Nat} (h : rawGood i b = true) : (rawOf i b).1 = 0 ∧ (rawOf i b).2 ≤ 19 := by
 unfold rawGood at h
 simpa using h
theorem head_raw : (headL.all fun i => idsInB i 30 && rawGood i 30) = true := by kernel_rfl
theorem tail_raw : ((tailL 0).all fun i => idsInB i 30 && rawGood i 30) = true := by kernel_rfl
def lineJ (op : Nat) : In := ⟨op, 3, 24, [idA 22, idA 22]⟩
theorem line_raw : ([128, 130, 132, 134, 135, 137, 138, 139, 194, 195, 196, 197, 198, 199].all fun op => idsInB (lineJ op) 30 && rawGood (lineJ op) 30) = true := by kernel_rfl
theorem headD_mem {k : Nat} (h : k < 23) : headL.getD k noIn ∈ headL := by
 rw [List.getD_eq_getElem?_getD, List.getElem?_eq_getElem (show k < headL.length from h)]
 exact List.getElem_mem _
theorem idA_like (x y : Nat) : AgLike (idA x) (idA y) := ⟨rfl, rfl, fun h => absurd rfl h⟩
theorem two_args {P : Nat → Prop} (h0 : P 0) (h1 : P 1) : ∀ k, k < 2 → P k := fun k hk => by
 rcases k with _ | _ | k
 ·exact h0
 ·exact h1
 ·omega
theorem line_like (k : Nat) (x : Ln) (hty : x.ty = 3 ∨ x.ty = 5) : InLike (lineI k x) (lineJ x.op) :=
 ⟨rfl, by simp only [lineI, lineJ]; omega, by simp only [lineI, lineJ]; omega, rfl, fun j h h' => by
  rcases j with _ | _ | j
  ·exact idA_like _ _
  ·exact idA_like _ _
  ·exact absurd h (show ¬ (j + 1 + 1 < 2) by omega)⟩
theorem line_in (hs : StrOk n f) {k : Nat} (hk : k < n) : IdsIn (lineI k (f k)) (30 + n) := by
 have e1 := hs.x k hk
 have e2 := hs.y k hk
 have e3 := hs.ty k hk
 refine ⟨.inr (by simp only [lineI]; omega), .inr (by simp only [lineI]; omega), fun j h _ => ?_⟩
 rcases j with _ | _ | j
 ·show 0 < (f k).x ∧ (f k).x < 30 + n; omega
 ·show 0 < (f k).y ∧ (f k).y < 30 + n; omega
 ·exact absurd h (show ¬ (j + 1 + 1 < 2) by omega)
theorem tail_like {j : Nat} (h : j < 4) : InLike ((tailL n).getD j noIn) ((tailL 0).getD j noIn) := by
 rcases j with _ | _ | _ | _ | j
 ·refine ⟨rfl, Iff.rfl, Iff.rfl, rfl, fun k h h' => ?_⟩
  rcases k with _ | _ | k
  ·exact idA_like _ _
  ·exact idA_like _ _
  ·exact absurd h (show ¬ (k + 1 + 1 < 2) by omega)
 ·exact InLike.refl _
 ·exact InLike.refl _
 ·exact InLike.refl _
 ·omega
theorem tail_in {j : Nat} (h : j < 4) : IdsIn ((tailL n).getD j noIn) (30 + n) := by
 rcases j with _ | _ | _ | _ | j
 ·refine ⟨.inl rfl, .inl rfl, fun k hk _ => ?_⟩
  rcases k with _ | _ | k
  ·show 0 < 12 ∧ 12 < 30 + n; omega
  ·show 0 < 23 + n ∧ 23 + n < 30 + n; omega
  ·exact absurd hk (show ¬ (k + 1 + 1 < 2) by omega)
 ·exact IdsIn.of (b := 30) (by kernel_rfl) (by omega)
 ·exact IdsIn.of (b := 30) (by kernel_rfl) (by omega)
 ·exact IdsIn.of (b := 30) (by kernel_rfl) (by omega)
 ·omega
theorem tailD_mem {j : Nat} (h : j < 4) : (tailL 0).getD j noIn ∈ tailL 0 := by
 rw [List.getD_eq_getElem?_getD, List.getElem?_eq_getElem (show j < (tailL 0).length from h)]
 exact List.getElem_mem _
theorem str_raw (hs : StrOk n f) (k : Nat) (h : k < 27 + n) : (rawOf (strAt n f k) (30 + n)).1 = 0 ∧ (rawOf (strAt n f k) (30 + n)).2 ≤ 19 := by
 have hc := str_case (n := n) (f := f) k h
 generalize strAt n f k = i at hc ⊢
 cases hc with
 | head h =>
  have h1 := List.all_eq_true.1 head_raw _ (headD_mem h)
  rw [Bool.and_eq_true] at h1
  rw [rawOf_like (InLike.refl _) (IdsIn.of h1.1 (by omega)) (IdsIn.of h1.1 (Nat.le_refl _))]
  exact rawGood_out h1.2
 | line j h hk =>
  have h1 := List.all_eq_true.1 line_raw _ (isTwo_mem (hs.op j h))
  rw [Bool.and_eq_true] at h1
  rw [rawOf_like (line_like j (f j) (hs.ty j h)) (line_in hs h) (IdsIn.of h1.1 (Nat.le_refl _))]
  exact rawGood_out h1.2
 | tail j h hk =>
  have h1 := List.all_eq_true.1 tail_raw _ (tailD_mem h)
  rw [Bool.and_eq_true] at h1
  rw [rawOf_like (tail_like h) (tail_in h) (IdsIn.of h1.1 (Nat.le_refl _))]
  exact rawGood_out h1.2
theorem str_words (hs : StrOk n f) : ∀ k, k ≤ 27 + n → wordsTo (30 + n) (strL n f) k ≤ 20 * k
 | 0, _ => Nat.le_refl _
 | k + 1, h => by
  have ih := str_words hs k (by omega)
  have h2 := (str_raw hs k (by omega)).2
  simp only [wordsTo, strL_getD k (show k < 27 + n by omega)]
  omega
theorem str_sound (hs : StrOk n f) : Sound (30 + n) (strL n f) := by
 have h1 := hs.small
 refine ⟨by omega, by omega, by rw [strL_len]; omega, fun k hk => ?_, ?_⟩
 ·rw [strL_get]
  exact (str_raw hs k (by rw [strL_len] at hk; exact hk)).1
 ·have := str_words hs (27 + n) (Nat.le_refl _)
  rw [strL_len]
  omega
def tS (p : Nat) : Nat := [0, 0, 1, 2, 2, 2, 2, 6, 19].getD p 19
def parB : Bool := (List.range 8).all fun p => decide (tS p ≤ tS (p + 1)) && decide (tS (p + 1) ≤ 19) && ((List.range 19).all fun j => !(decide (tS p ≤ j) && decide (j < tS (p + 1))) || (layKind (headL.getD j noIn) == 9 && decide (partOf (headL.getD j noIn) = p))) &&
 (p == 1 || !(layKind (headL.getD (tS (p + 1)) noIn) == 9) || decide (partOf (headL.getD (tS (p + 1)) noIn) ≠ p))
theorem parB_true : parB = true := by kernel_rfl
theorem str_parted : Parted (strL n f) tS := by
 have hb := List.all_eq_true.1 parB_true
 have hp : ∀ p, p < 8 → _ := fun p hp => hb p (List.mem_range.2 hp)
 simp only [Bool.and_eq_true, decide_eq_true_eq, List.all_eq_true, List.mem_range, Bool.or_eq_true, Bool.not_eq_true', Bool.and_eq_false_iff, decide_eq_false_iff_not, beq_iff_eq, beq_eq_false_iff_ne] at hp
 refine ⟨rfl, fun p h => (hp p h).1.1.1, ?_, fun p h j hj h1 h2 => ?_, fun p h h1 hl hk => ?_, rfl⟩
 ·rw [strL_len]; show 19 ≤ 27 + n; omega
 ·have h19 := (hp p h).1.1.2
  have hj19 : j < 19 := by omega
  rw [strL_get, strAt_head (by omega)]
  rcases (hp p h).1.2 j hj19 with (q | q) | q
  ·omega
  ·omega
  ·exact q
 ·have h19 := (hp p h).1.1.2
  rw [strL_get, strAt_head (by omega)] at hk ⊢
  rcases (hp p h).2 with (q | q) | q
  ·exact absurd q h1
  ·exact absurd hk q
  ·exact q
theorem nextOf_str {k : Nat} (h : k < 27 + n) : nextOf (strL n f) k = (layKind (strAt n f k) : Int) := by
 unfold nextOf
 rw [dif_pos (by rw [strL_len]; exact h), strL_get]
theorem rest_kind : (layKind (headL.getD 19 noIn) == 1 && layKind (headL.getD 20 noIn) == 3 && layKind (headL.getD 21 noIn) == 0 && layKind (headL.getD 22 noIn) == 0) = true := by kernel_rfl
theorem line_kind : ([128, 130, 132, 134, 135, 137, 138, 139, 194, 195, 196, 197, 198, 199].all fun op => layKind (lineJ op) == 0) = true := by kernel_rfl
theorem tail_kind : (layKind ((tailL 0).getD 0 noIn) == 0 && layKind ((tailL 0).getD 1 noIn) == 0 && layKind ((tailL 0).getD 2 noIn) == 7 && layKind ((tailL 0).getD 3 noIn) == 8) = true := by kernel_rfl
theorem layKind_op {i j : In} (h : i.op = j.op) (hv : i.op ≠ 59) : layKind i = layKind j := by
 have hj : j.op ≠ 59 := h ▸ hv
 have e1 : isVar i = false := by unfold isVar; simp [hv]
 have e2 : isVar j = false := by unfold isVar; simp [hj]
 unfold layKind partOf
 rw [e1, e2, h]
theorem isTwo_ne {op : Nat} (h : isTwo op = true) (x : Nat) (hx : isTwo x = false) : op ≠ x := fun e => by subst e; rw [h] at hx; cases hx
theorem str_one (hs : StrOk n f) : OneFn (strL n f) tS (25 + n) := by
 have hr := rest_kind
 have ht := tail_kind
 simp only [Bool.and_eq_true, beq_iff_eq] at hr ht
 refine ⟨str_parted, by rw [strL_len]; omega, by show 19 + 2 ≤ 25 + n; omega, ?_, ?_, ?_, fun j h1 h2 => ?_, ?_, ?_⟩
 ·show nextOf (strL n f) 19 = 1
  rw [nextOf_str (by omega), strAt_head (by omega), hr.1.1.1]; rfl
 ·show nextOf (strL n f) 20 = 3
  rw [nextOf_str (by omega), strAt_head (by omega), hr.1.1.2]; rfl
 ·show nextOf (strL n f) 21 ≠ 5
  rw [nextOf_str (by omega), strAt_head (by omega), hr.1.2]; decide
 ·have h1 : 21 ≤ j := h1
  rw [nextOf_str (by omega)]
  have hc := str_case (n := n) (f := f) j (by omega)
  generalize strAt n f j = i at hc ⊢
  cases hc with
  | head h =>
   rcases (show j = 21 ∨ j = 22 by omega) with rfl | rfl
   ·rw [hr.1.2]; rfl
   ·rw [hr.2]; rfl
  | line q h hk =>
   have h1 := List.all_eq_true.1 line_kind _ (isTwo_mem (hs.op q h))
   rw [layKind_op (i := lineI q (f q)) (j := lineJ (f q).op) rfl (isTwo_ne (hs.op q h) 59 rfl), beq_iff_eq.1 h1]; rfl
  | tail q h hk =>
   rcases (show q = 0 ∨ q = 1 by omega) with rfl | rfl
   ·rw [layKind_op (i := (tailL n).getD 0 noIn) (j := (tailL 0).getD 0 noIn) rfl (show (62 : Nat) ≠ 59 by decide), ht.1.1.1]; rfl
   ·rw [show ((tailL n).getD 1 noIn) = (tailL 0).getD 1 noIn from rfl, ht.1.1.2]; rfl
 ·rw [nextOf_str (by omega), strAt_tail (j := 2) (by omega), show ((tailL n).getD 2 noIn) = (tailL 0).getD 2 noIn from rfl, ht.1.2]; rfl
 ·rw [nextOf_str (by omega), strAt_tail (j := 3) (by omega), show ((tailL n).getD 3 noIn) = (tailL 0).getD 3 noIn from rfl, ht.2]; rfl
def resS (n k : Nat) : Nat := if k < 6 then 0 else if k < 19 then k - 5 else if k < 23 + n then k + 1 else 0
theorem head_res : ((List.range 23).all fun k => (headL.getD k noIn).res == resS 0 k) = true := by kernel_rfl
theorem str_res {k : Nat} (h : k < 27 + n) : (strAt n f k).res = resS n k := by
 have hc := str_case (n := n) (f := f) k h
 generalize strAt n f k = i at hc ⊢
 cases hc with
 | head h =>
  have h1 := List.all_eq_true.1 head_res k (List.mem_range.2 h)
  rw [beq_iff_eq.1 h1]
  unfold resS
  repeat' split
  all_goals omega
 | line j h hk =>
  subst hk
  unfold resS lineI
  rw [if_neg (by omega), if_neg (by omega), if_pos (by omega)]
  show 24 + j = _
  omega
 | tail j h hk =>
  subst hk
  unfold resS
  rw [if_neg (by omega), if_neg (by omega), if_neg (by omega)]
  rcases j with _ | _ | _ | _ | j
  ·rfl
  ·rfl
  ·rfl
  ·rfl
  ·omega
theorem mkK_at (l : List In) (hu : ∀ i j (hi : i < l.length) (hj : j < l.length), l[i].res = l[j].res → l[i].res ≠ 0 → i = j) (k : Nat) (hk : k < l.length) (h0 : l[k].res ≠ 0) : ∀ K, K ≤ l.length → l.length - K ≤ k → mkK l K l[k].res = some k
 | 0, _, h => by omega
 | K + 1, hK, h => by
  have hp : l.length - 1 - K < l.length := by omega
  have hg : l.getD (l.length - 1 - K) noIn = l[l.length - 1 - K] := by rw [List.getD_eq_getElem?_getD, List.getElem?_eq_getElem hp]; rfl
  simp only [mkK, hg]
  by_cases e : l.length - 1 - K = k
  ·subst e
   rw [if_neg h0]
   unfold kup
   rw [if_pos rfl]
  ·have ih := mkK_at l hu k hk h0 K (by omega) (by omega)
   split
   ·exact ih
   ·rename_i hz
    unfold kup
    rw [if_neg (fun q => e (hu _ _ hp hk q.symm hz))]
    exact ih
theorem resS_inj {i j : Nat} (h : resS n i = resS n j) (h0 : resS n i ≠ 0) : i = j := by
 unfold resS at h h0
 repeat' split at h
 all_goals (repeat' split at h0) <;> omega
def makS (id : Nat) : Nat := if id < 14 then id + 5 else id - 1
theorem resS_mak {id : Nat} (h : 1 ≤ id ∧ id ≤ 13 ∨ 20 ≤ id ∧ id < 24 + n) : resS n (makS id) = id ∧ makS id < 23 + n := by
 unfold resS makS
 repeat' split
 all_goals omega
theorem str_mk {id : Nat} (h : 1 ≤ id ∧ id ≤ 13 ∨ 20 ≤ id ∧ id < 24 + n) : mkK (strL n f) (strL n f).length id = some (makS id) := by
 obtain ⟨h1, h2⟩ := resS_mak h
 have hl : makS id < (strL n f).length := by rw [strL_len]; omega
 have he : (strL n f)[makS id].res = id := by rw [strL_get, str_res (by omega)]; exact h1
 have := mkK_at (strL n f) (fun i j hi hj e e0 => by
  rw [strL_len] at hi hj
  rw [strL_get, strL_get, str_res hi, str_res hj] at e
  rw [strL_get, str_res hi] at e0
  exact resS_inj e e0) (makS id) hl (by rw [he]; omega) _ (Nat.le_refl _) (by omega)
 rwa [he] at this
def idOk (n id : Nat) : Bool := decide (1 ≤ id ∧ id ≤ 13 ∨ 20 ≤ id ∧ id < 24 + n)
theorem head_ids : ((List.range 23).all fun k => (idsOf (headL.getD k noIn)).all fun id => idOk 0 id && (!(decide (6 ≤ k) && decide (k < 19)) || decide (makS id < k))) = true := by kernel_rfl
theorem idOk_up {id : Nat} (h : idOk 0 id = true) : 1 ≤ id ∧ id ≤ 13 ∨ 20 ≤ id ∧ id < 24 + n := by
 unfold idOk at h
 have := of_decide_eq_true h
 omega
theorem line_ids (k : Nat) (x : Ln) (hty : x.ty = 3 ∨ x.ty = 5) : idsOf (lineI k x) = [x.ty, x.x, x.y] := by
 obtain ⟨op, ty, a, b⟩ := x
 simp only at hty
 unfold idsOf idsTo lineI
 rw [if_neg (by simp only; omega)]
 rfl
theorem tail_ids {j : Nat} (h : j < 4) : ∀ id ∈ idsOf ((tailL n).getD j noIn), 1 ≤ id ∧ id ≤ 13 ∨ 20 ≤ id ∧ id < 24 + n := by
 rcases j with _ | _ | _ | _ | j
 ·rw [show idsOf ((tailL n).getD 0 noIn) = [12, 23 + n] from rfl]
  intro id hid
  simp only [List.mem_cons, List.not_mem_nil, or_false] at hid
  omega
 ·rw [show idsOf ((tailL n).getD 1 noIn) = [13, 9] from rfl]
  intro id hid
  simp only [List.mem_cons, List.not_mem_nil, or_false] at hid
  omega
 ·rw [show idsOf ((tailL n).getD 2 noIn) = [] from rfl]
  intro id hid
  cases hid
 ·rw [show idsOf ((tailL n).getD 3 noIn) = [] from rfl]
  intro id hid
  cases hid
 ·omega
theorem str_ids (hs : StrOk n f) : IdsOk (strL n f) tS := by
 refine ⟨fun k hk h0 => ?_, fun k hk id hid => ?_⟩
 ·have hk' := hk
  rw [strL_len] at hk'
  refine ⟨k, mkK_at (strL n f) (fun i j hi hj e e0 => ?_) k hk h0 _ (Nat.le_refl _) (by omega), Nat.le_refl _⟩
  rw [strL_len] at hi hj
  rw [strL_get, strL_get, str_res hi, str_res hj] at e
  rw [strL_get, str_res hi] at e0
  exact resS_inj e e0
 ·have hk' := hk
  rw [strL_len] at hk'
  rw [strL_get] at hid
  have hc := str_case (n := n) (f := f) k hk'
  generalize strAt n f k = i at hc hid
  cases hc with
  | head h =>
   have h1 := List.all_eq_true.1 (List.all_eq_true.1 head_ids k (List.mem_range.2 h)) id hid
   simp only [Bool.and_eq_true, Bool.or_eq_true, Bool.not_eq_true', Bool.and_eq_false_iff, decide_eq_false_iff_not, decide_eq_true_eq] at h1
   refine ⟨_, str_mk (idOk_up h1.1), fun h7 h8 => ?_⟩
   have h7 : 6 ≤ k := h7
   have h8 : k < 19 := h8
   rcases h1.2 with (q | q) | q
   ·omega
   ·omega
   ·exact q
  | line j h hk =>
   rw [line_ids j _ (hs.ty j h)] at hid
   have e1 := hs.x j h
   have e2 := hs.y j h
   have e3 := hs.ty j h
   refine ⟨_, str_mk (n := n) ?_, fun h7 h8 => ?_⟩
   ·simp only [List.mem_cons, List.not_mem_nil, or_false] at hid
    omega
   ·have h8 : k < 19 := h8
    omega
  | tail j h hk =>
   refine ⟨_, str_mk (tail_ids h id hid), fun h7 h8 => ?_⟩
   have h8 : k < 19 := h8
   omega
end
def dS (k : Nat) : Option TyD := [none, none, none, none, none, none, some ⟨1, 0, 0, false, 0, 0, 0, []⟩, some ⟨8, 0, 0, false, 0, 0, 0, [1]⟩, some ⟨3, 1, 1, false, 0, 0, 0, []⟩, some ⟨3, 1, 1, true, 0, 0, 0, []⟩, some ⟨4, 4, 2, false, 0, 4, 4, []⟩, some ⟨7, 0, 0, false, 1, 0, 0, [3]⟩, some ⟨7, 0, 0, false, 3, 0, 0, [3]⟩, some ⟨7, 0, 0, false, 3, 0, 0, [5]⟩].getD k none
def tabS : Nat → Option TyD := tabK headL dS 14
theorem dS_late {k : Nat} (h : 14 ≤ k) : dS k = none := by unfold dS; rw [List.getD_eq_getElem?_getD, List.getElem?_eq_none (by simpa using h)]; rfl
def vS (k : Nat) : Option (Nat × Nat × Nat) := if k = 15 ∨ k = 16 then some (1, 3, 1) else if k = 17 then some (3, 3, 1) else if k = 18 then some (3, 5, 4) else none
def varS (id : Nat) : Option (Nat × Nat × Nat) := if id = 13 then some (3, 5, 4) else if id = 12 then some (3, 3, 1) else if id = 11 then some (1, 3, 1) else if id = 10 then some (1, 3, 1) else none
section
variable {n : Nat} {f : Nat → Ln}
theorem str_headD {k : Nat} (h : k < 23) : (strL n f).getD k noIn = headL.getD k noIn := by rw [strL_getD k (by omega), strAt_head h]
theorem tabK_str : ∀ k, k ≤ 23 → tabK (strL n f) dS k = tabK headL dS k
 | 0, _ => rfl
 | k + 1, h => by simp only [tabK, tabK_str k (by omega), str_headD (show k < 23 by omega)]
theorem seenK_str : ∀ k, k ≤ 23 → seenK (strL n f) dS k = seenK headL dS k
 | 0, _ => rfl
 | k + 1, h => by simp only [seenK, seenK_str k (by omega), str_headD (show k < 23 by omega)]
theorem tabK_late {k : Nat} (h : 14 ≤ k) : tabK (strL n f) dS k = tabS := by
 induction k with
 | zero => omega
 | succ k ih =>
  rcases Nat.eq_or_lt_of_le h with e | e
  ·rw [← e]; exact tabK_str 14 (by omega)
  ·simp only [tabK, dS_late (show 14 ≤ k by omega)]; exact ih (by omega)
theorem late_head : ((List.range 23).all fun k => decide (k < 14) || !isTyOp (headL.getD k noIn).op) = true := by kernel_rfl
theorem late_line : ([128, 130, 132, 134, 135, 137, 138, 139, 194, 195, 196, 197, 198, 199].all fun op => !isTyOp op) = true := by kernel_rfl
theorem late_tail : ((List.range 4).all fun j => !isTyOp ((tailL 0).getD j noIn).op) = true := by kernel_rfl
theorem str_late (hs : StrOk n f) {k : Nat} (h1 : 14 ≤ k) (h2 : k < 27 + n) : isTyOp (strAt n f k).op = false := by
 by_cases h : k < 23
 ·rw [strAt_head h]
  have := List.all_eq_true.1 late_head k (List.mem_range.2 h)
  simp only [Bool.or_eq_true, decide_eq_true_eq, Bool.not_eq_true'] at this
  exact this.resolve_left (by omega)
 ·by_cases h3 : k < 23 + n
  ·rw [strAt_line (j := k - 23) (by omega) (by omega)]
   have := List.all_eq_true.1 late_line _ (isTwo_mem (hs.op (k - 23) (by omega)))
   show isTyOp (f (k - 23)).op = false
   simpa using this
  ·obtain ⟨j, hj⟩ : ∃ j, k = 23 + n + j := ⟨k - (23 + n), by omega⟩
   have hj4 : j < 4 := by omega
   rw [strAt_tail hj, (tail_like hj4).op]
   have := List.all_eq_true.1 late_tail j (List.mem_range.2 hj4)
   simpa using this
theorem head_one : ∀ k, k < 14 → OneD (tabK headL dS k) (headL.getD k noIn) (dS k) := fun k hk => by
 match k, hk with
 | 0, _ => exact .other _ rfl
 | 1, _ => exact .other _ rfl
 | 2, _ => exact .other _ rfl
 | 3, _ => exact .other _ rfl
 | 4, _ => exact .other _ rfl
 | 5, _ => exact .other _ rfl
 | 6, _ => exact .void 0 1
 | 7, _ => exact .fn 0 2 (idA 1) rfl rfl
 | 8, _ => exact .int 0 3 (numA 32) (numA 0) rfl (by decide)
 | 9, _ => exact .int 0 4 (numA 32) (numA 1) rfl (by decide)
 | 10, _ => exact .vec 0 5 (idA 4) (numA 4) rfl ⟨by decide, by decide⟩ (by decide)
 | 11, _ => exact .ptr 0 6 (enA 1) (idA 3) (by decide)
 | 12, _ => exact .ptr 0 7 (enA 3) (idA 3) (by decide)
 | 13, _ => exact .ptr 0 8 (enA 3) (idA 5) (by decide)
 | k + 14, h => omega
theorem head_fresh : ((List.range 14).all fun k => (dS k).isNone || ((seenK headL dS k (keyOf (headL.getD k noIn))).isNone && decide ((headL.getD k noIn).op < 100) && decide ((headL.getD k noIn).op ≠ 28) && decide ((headL.getD k noIn).op ≠ 30) && (headL.getD k noIn).args.all fun a => decide (a.n < 100))) = true := by kernel_rfl
theorem str_types (hs : StrOk n f) : TypesOk (strL n f) dS := by
 have hq : ∀ k, dS k ≠ none → k < 14 := fun k h => Nat.lt_of_not_le fun e => h (dS_late e)
 have hf : ∀ k, dS k ≠ none → _ := fun k h => (Bool.or_eq_true _ _ ▸ List.all_eq_true.1 head_fresh k (List.mem_range.2 (hq k h))).resolve_left (by simpa using h)
 simp only [Bool.and_eq_true, decide_eq_true_eq, List.all_eq_true, Option.isNone_iff_eq_none] at hf
 refine ⟨fun k h => ?_, fun k h hd => ?_, fun k h hd => ?_⟩
 ·rw [strL_get]
  have h2 : k < 27 + n := by rw [strL_len] at h; exact h
  by_cases h1 : k < 14
  ·rw [tabK_str k (by omega), strAt_head (by omega)]
   exact head_one k h1
  ·rw [dS_late (by omega)]
   exact .other _ (str_late hs (by omega) h2)
 ·have h1 := hq k hd
  rw [strL_get, seenK_str k (by omega), strAt_head (by omega)]
  exact (hf k hd).1.1.1.1
 ·have h1 := hq k hd
  have h2 := hf k hd
  rw [strL_get, strAt_head (by omega)]
  exact ⟨h2.1.1.1.2, h2.1.1.2, h2.1.2, fun j hj => h2.2 _ (List.getElem_mem hj)⟩
theorem str_const : ConstOk (strL n f) tS tabS vS := by
 refine ⟨fun k h => ?_, fun k h h1 h2 => ?_⟩
 ·have h' : k < 6 := h
  unfold vS
  rw [if_neg (by omega), if_neg (by omega), if_neg (by omega)]
 ·have h1' : 6 ≤ k := h1
  have h2' : k < 19 := h2
  rw [strL_get, strAt_head (by omega)]
  clear h h1 h2
  match k, h1', h2' with
  | 6, _, _ => exact .other _ (by decide)
  | 7, _, _ => exact .other _ (by decide)
  | 8, _, _ => exact .other _ (by decide)
  | 9, _, _ => exact .other _ (by decide)
  | 10, _, _ => exact .other _ (by decide)
  | 11, _, _ => exact .other _ (by decide)
  | 12, _, _ => exact .other _ (by decide)
  | 13, _, _ => exact .other _ (by decide)
  | 14, _, _ => exact .null 5 9 ⟨by decide, by decide⟩
  | 15, _, _ => exact .var 6 10 3 (enA 1) ⟨7, 0, 0, false, 1, 0, 0, [3]⟩ rfl rfl rfl rfl rfl ⟨by decide, by decide⟩
  | 16, _, _ => exact .var 6 11 3 (enA 1) ⟨7, 0, 0, false, 1, 0, 0, [3]⟩ rfl rfl rfl rfl rfl ⟨by decide, by decide⟩
  | 17, _, _ => exact .var 7 12 3 (enA 3) ⟨7, 0, 0, false, 3, 0, 0, [3]⟩ rfl rfl rfl rfl rfl ⟨by decide, by decide⟩
  | 18, _, _ => exact .var 8 13 5 (enA 3) ⟨7, 0, 0, false, 3, 0, 0, [5]⟩ rfl rfl rfl rfl rfl ⟨by decide, by decide⟩
  | k + 19, _, h => omega
theorem varK_str : ∀ k, k ≤ 23 → varK (strL n f) vS k = varK headL vS k
 | 0, _ => rfl
 | k + 1, h => by simp only [varK, varK_str k (by omega), str_headD (show k < 23 by omega)]
theorem str_vars : varK (strL n f) vS (tS 8) = varS := (varK_str 19 (by omega)).trans rfl
theorem str_ends (hs : StrOk n f) : EndsSo (strL n f) (25 + n) := by
 refine ⟨fun h => ?_, fun h => ?_, fun h => ?_⟩
 ·rw [strL_get, strAt_tail (j := 2) (by omega)]; rfl
 ·rw [strL_get, strAt_tail (j := 2) (by omega)]; rfl
 ·rw [strL_get, strAt_tail (j := 1) (by omega)]; exact ⟨by show (62 : Nat) ≠ 246; omega, by show (62 : Nat) ≠ 247; omega⟩
theorem no_head (x : Nat) (h : ((List.range 23).all fun k => !((headL.getD k noIn).op == x)) = true) (h2 : isTwo x = false) (h3 : ((List.range 4).all fun j => !(((tailL 0).getD j noIn).op == x)) = true) (hs : StrOk n f) : ∀ k (h : k < (strL n f).length), (strL n f)[k].op ≠ x := fun k hk => by
 rw [strL_get]
 have hk2 : k < 27 + n := by rw [strL_len] at hk; exact hk
 by_cases a : k < 23
 ·rw [strAt_head a]
  have := List.all_eq_true.1 h k (List.mem_range.2 a)
  simpa using this
 ·by_cases b : k < 23 + n
  ·rw [strAt_line (j := k - 23) (by omega) (by omega)]
   exact isTwo_ne (hs.op (k - 23) (by omega)) x h2
  ·obtain ⟨j, hj⟩ : ∃ j, k = 23 + n + j := ⟨k - (23 + n), by omega⟩
   have hj4 : j < 4 := by omega
   rw [strAt_tail hj, (tail_like hj4).op]
   have := List.all_eq_true.1 h3 j (List.mem_range.2 hj4)
   simpa using this
theorem str_no57 (hs : StrOk n f) : ∀ k (h : k < (strL n f).length), (strL n f)[k].op ≠ 57 := no_head 57 (by kernel_rfl) (by decide) (by kernel_rfl) hs
end
end Go.Proofs.YtbhijdmlonplgaaGreatDoor
namespace Go.Proofs.YtbhijdmlonplgaaGreatDoor
set_option linter.unusedVariables false
set_option linter.unusedSimpArgs false
set_option maxRecDepth 100000
set_option maxHeartbeats 4000000
open Go.RowKit
theorem fmF_at (l : List In) (hu : ∀ i j (hi : i < l.length) (hj : j < l.length), l[i].res = l[j].res → l[i].res ≠ 0 → i = j) (k : Nat) (hk : k < l.length) (h0 : l[k].res ≠ 0) : ∀ K, k < K → K ≤ l.length → fmF l K l[k].res = some k
 | 0, h, _ => by omega
 | K + 1, h, hK => by
  have hlt : K < l.length := by omega
  have e : l.getD K noIn = l[K] := getD_at l hlt
  simp only [fmF, e]
  by_cases hz : l[K].res = 0
  ·rw [if_pos hz]
   have : k ≠ K := fun q => by subst q; exact h0 hz
   exact fmF_at l hu k hk h0 K (by omega) (by omega)
  ·rw [if_neg hz]
   unfold kup
   by_cases hq : l[k].res = l[K].res
   ·rw [if_pos hq]
    have := hu k K hk hlt hq h0
    rw [this]
   ·rw [if_neg hq]
    have : k ≠ K := fun q => by subst q; exact hq rfl
    exact fmF_at l hu k hk h0 K (by omega) (by omega)
section
variable {n : Nat} {f : Nat → Ln}
theorem str_fm {id : Nat} (h : 1 ≤ id ∧ id ≤ 13 ∨ 20 ≤ id ∧ id < 24 + n) : fmF (strL n f) (strL n f).length id = some (makS id) := by
 obtain ⟨h1, h2⟩ := resS_mak h
 have hlen : makS id < (strL n f).length := by rw [strL_len]; omega
 have hr : ∀ k (hk : k < (strL n f).length), (strL n f)[k].res = resS n k := fun k hk => by rw [strL_get]; exact str_res (by rw [strL_len] at hk; exact hk)
 have h3 := hr _ hlen
 have := fmF_at (strL n f) (fun i j hi hj e e0 => by rw [hr i hi, hr j hj] at e; rw [hr i hi] at e0; exact resS_inj e e0) (makS id) hlen (by rw [h3, h1]; omega) (strL n f).length hlen (Nat.le_refl _)
 rw [h3, h1] at this
 exact this
theorem str_getD {k : Nat} (h : k < 27 + n) (i : In) (e : strAt n f k = i) : (strL n f).getD k noIn = i := (strL_getD k h).trans e
theorem str_ty {id : Nat} (h : 22 ≤ id ∧ id < 24 + n) (hs : ∀ j, j < n → 24 + j = id → (f j).ty = 3) (hk : StrOk n f) : ((strL n f).getD (makS id) noIn).ty = 3 ∧ ((strL n f).getD (makS id) noIn).op ≠ 54 := by
 have hm : makS id = id - 1 := by unfold makS; rw [if_neg (by omega)]
 rw [hm]
 by_cases h1 : id < 24
 ·have : id = 22 ∨ id = 23 := by omega
  rcases this with rfl | rfl
  ·rw [str_getD (by omega) _ (strAt_head (by omega))]; exact ⟨rfl, by decide⟩
  ·rw [str_getD (by omega) _ (strAt_head (by omega))]; exact ⟨rfl, by decide⟩
 ·rw [str_getD (by omega) _ (strAt_line (j := id - 24) (by omega) (by omega))]
  exact ⟨hs _ (by omega) (by omega), isTwo_ne (hk.op _ (by omega)) 54 (by decide)⟩
structure Bad (n : Nat) (f : Nat → Ln) (kb : Nat) : Prop where
 le : kb ≤ 27 + n
 good : ∀ j, j < n → 23 + j < kb → (f j).ty = 3
 bad : kb < 27 + n → ∃ j, j < n ∧ kb = 23 + j ∧ (f j).ty = 5
theorem sl_cells {W : World} {a : Option Addr} {l : List Ag} (h : Sl 3 AgAt W a l) (h0 : 0 < l.length) : ∃ b o, a = some ⟨b, o, none⟩ ∧ ∀ j (hj : j < l.length), W.cell? ⟨b, o + j * 3, none⟩ = some (.int .u8 l[j].kind) ∧ W.cell? ⟨b, o + j * 3 + 1, none⟩ = some (.int .u32 l[j].n) ∧ W.cell? ⟨b, o + j * 3 + 2, none⟩ = some (.string l[j].s) := by
 obtain ⟨b, o, e, _, hc⟩ := h.at_ h0
 exact ⟨b, o, e, fun j hj => ⟨(hc j hj).kind, (hc j hj).n, (hc j hj).s⟩⟩
theorem head_form : ((List.range 15).all fun k => !((headL.getD k noIn).op == 59) && !((formOf (headL.getD k noIn).op).part == 8)) = true := by kernel_rfl
theorem fun_form : ([54, 56, 61, 62, 248, 253, 128, 130, 132, 134, 135, 137, 138, 139, 194, 195, 196, 197, 198, 199].all fun op => !(op == 59) && !(op == 54 && false) && ((formOf op).part == 8)) = true := by kernel_rfl
theorem asked_in {op : Nat} (h : op ∈ [54, 56, 61, 62, 248, 253, 128, 130, 132, 134, 135, 137, 138, 139, 194, 195, 196, 197, 198, 199]) (ty res : Nat) (v : Value) (w : World) : Calls Tryz.prog 84 #[.agg #[.int .u16 op, .int .u32 ty, .int .u32 res, v]] w fun e w' => e = .returned (.bool true) ∧ Below w.heap.size w w' := by
 have := List.all_eq_true.1 fun_form op h
 simp only [Bool.and_eq_true, Bool.not_eq_true', beq_eq_false_iff_ne] at this
 exact tyasked_form op ty res v true this.1.1 this.2 w
theorem stab1 : tabS 1 = some ⟨1, 0, 0, false, 0, 0, 0, []⟩ := rfl
theorem stab2 : tabS 2 = some ⟨8, 0, 0, false, 0, 0, 0, [1]⟩ := rfl
theorem stab6 : tabS 6 = some ⟨7, 0, 0, false, 1, 0, 0, [3]⟩ := rfl
theorem stab7 : tabS 7 = some ⟨7, 0, 0, false, 3, 0, 0, [3]⟩ := rfl
theorem stab8 : tabS 8 = some ⟨7, 0, 0, false, 3, 0, 0, [5]⟩ := rfl
theorem back_late (hs : StrOk n f) : ∀ k, 20 ≤ k → k ≤ 27 + n → backK (strL n f) k = 1
 | 0, h, _ => by omega
 | k + 1, h, hk => by
  by_cases e : k = 19
  ·subst e
   have : (strL n f).getD 19 noIn = headL.getD 19 noIn := str_headD (by omega)
   simp only [backK, this]
   rfl
  ·have hk2 : k < (strL n f).length := by rw [strL_len]; omega
   have h1 : (strL n f).getD k noIn = (strL n f)[k] := getD_at _ hk2
   have h2 : (strL n f)[k].op ≠ 54 := by
    rw [strL_get]
    by_cases a : k < 23
    ·rw [strAt_head a]
     have h3 : k = 20 ∨ k = 21 ∨ k = 22 := by omega
     rcases h3 with rfl | rfl | rfl <;> decide
    ·by_cases c : k < 23 + n
     ·rw [strAt_line (j := k - 23) (by omega) (by omega)]
      exact isTwo_ne (hs.op _ (by omega)) 54 (by decide)
     ·obtain ⟨j, hj⟩ : ∃ j, k = 23 + n + j := ⟨k - (23 + n), by omega⟩
      have h4 : j = 0 ∨ j = 1 ∨ j = 2 ∨ j = 3 := by omega
      rw [strAt_tail hj]
      rcases h4 with rfl | rfl | rfl | rfl
      ·exact (by decide : (62 : Nat) ≠ 54)
      ·exact (by decide : (62 : Nat) ≠ 54)
      ·exact (by decide : (253 : Nat) ≠ 54)
      ·exact (by decide : (56 : Nat) ≠ 54)
   simp only [backK, h1, if_neg h2]
   exact back_late hs k (by omega) (by omega)
theorem nums_ok {K T mk b o cap back : Nat} {l : List In} {sv : Nat → Option Addr × Nat} {fm : Nat → Option Nat} {w : World} (h : Ckr K T mk b o cap back l sv fm tabS w) {ty : Nat} (ht : ty = 3 ∨ ty = 5) : Calls Tryz.prog 190 #[.pointer (some ⟨K, 0, none⟩), .int .u32 ty] w fun e w' => e = .returned (.bool true) ∧ Below w.heap.size w w' := by
 rcases ht with rfl | rfl
 ·exact tynums_own (K := K) (w := w) 3 _ rfl (fun W hb => tyleaf_plain (h.below hb) 3 (by decide))
 ·exact tynums_own (K := K) (w := w) 5 _ rfl (fun W hb => tyleaf_vec (h.below hb) 5 rfl ⟨by decide, by decide⟩ (by decide))
theorem alike_ok {lo T : Nat} {w : World} (h : TbIn lo T tabS w) {ty : Nat} (ht : ty = 3 ∨ ty = 5) : Calls Tryz.prog 258 #[.pointer (some ⟨T, 0, none⟩), .int .u32 ty, .int .u32 3] w fun e w' => e = .returned (.bool (decide (ty = 3))) ∧ Below w.heap.size w w' := by
 rcases ht with rfl | rfl
 ·exact alike_same h 3 3 (by decide) rfl rfl rfl rfl rfl ⟨by decide, by decide⟩
 ·exact alike_not h 5 3 (by decide) (by decide)
theorem str_fits (hs : StrOk n f) {kb : Nat} (hb : Bad n f kb) {b o cap : Nat} {sv : Nat → Option Addr × Nat} (hcap : (strL n f).length ≤ cap) : ∀ k (h : k < (strL n f).length), k ≤ kb → ∀ K T mk W, Ckr K T mk b o cap (backK (strL n f) (k + 1)) (strL n f) sv (fmF (strL n f) (strL n f).length) tabS W →
  Calls Tryz.prog 51 #[.pointer (some ⟨K, 0, none⟩), .int .i64 k] W fun e w' => e = .returned (.bool (decide (k < kb))) ∧ Below W.heap.size W w' := by
 intro k hk hkb K T mk W hC
 have hk2 : k < 27 + n := by rw [strL_len] at hk; exact hk
 have hsl := hC.ms.sl k hk
 have hkb2 := hb.le
 by_cases a : k < 23
 ·have hlt : k < kb := by
   rcases Nat.lt_or_ge kb (27 + n) with q | q
   ·obtain ⟨j, h1, h2, h3⟩ := hb.bad q; omega
   ·omega
  rw [decide_eq_true hlt]
  have e : (strL n f)[k] = headL.getD k noIn := by rw [strL_get, strAt_head a]
  by_cases c : k < 15
  ·have hf := List.all_eq_true.1 head_form k (List.mem_range.2 c)
   simp only [Bool.and_eq_true, Bool.not_eq_true', beq_eq_false_iff_ne] at hf
   exact tyfits_skip hC k hk (fun W2 h2 => by rw [e]; exact tyasked_form _ _ _ _ false hf.1 (by simpa using hf.2) W2)
  ·rw [e] at hsl
   have hk3 : k = 15 ∨ k = 16 ∨ k = 17 ∨ k = 18 ∨ k = 19 ∨ k = 20 ∨ k = 21 ∨ k = 22 := by omega
   rcases hk3 with rfl | rfl | rfl | rfl | rfl | rfl | rfl | rfl
   ·obtain ⟨ab, ao, ea, hc⟩ := sl_cells hsl (by decide)
    have q := (hc 0 (by decide)).2.1
    refine tyfits_skip hC 15 hk (fun W2 h2 => ?_)
    rw [e]
    show Calls _ _ #[.agg #[.int .u16 59, .int .u32 6, .int .u32 10, .slice (sv 15).1 1 (sv 15).2]] _ _
    rw [ea]
    exact tyasked_var 6 10 ab ao (sv 15).2 1 W2 (by decide) (cell_last q (block_lt_of_cell q) h2)
   ·obtain ⟨ab, ao, ea, hc⟩ := sl_cells hsl (by decide)
    have q := (hc 0 (by decide)).2.1
    refine tyfits_skip hC 16 hk (fun W2 h2 => ?_)
    rw [e]
    show Calls _ _ #[.agg #[.int .u16 59, .int .u32 6, .int .u32 11, .slice (sv 16).1 1 (sv 16).2]] _ _
    rw [ea]
    exact tyasked_var 6 11 ab ao (sv 16).2 1 W2 (by decide) (cell_last q (block_lt_of_cell q) h2)
   ·obtain ⟨ab, ao, ea, hc⟩ := sl_cells hsl (by decide)
    have q := (hc 0 (by decide)).2.1
    refine tyfits_skip hC 17 hk (fun W2 h2 => ?_)
    rw [e]
    show Calls _ _ #[.agg #[.int .u16 59, .int .u32 7, .int .u32 12, .slice (sv 17).1 1 (sv 17).2]] _ _
    rw [ea]
    exact tyasked_var 7 12 ab ao (sv 17).2 3 W2 (by decide) (cell_last q (block_lt_of_cell q) h2)
   ·obtain ⟨ab, ao, ea, hc⟩ := sl_cells hsl (by decide)
    have q := (hc 0 (by decide)).2.1
    refine tyfits_skip hC 18 hk (fun W2 h2 => ?_)
    rw [e]
    show Calls _ _ #[.agg #[.int .u16 59, .int .u32 8, .int .u32 13, .slice (sv 18).1 1 (sv 18).2]] _ _
    rw [ea]
    exact tyasked_var 8 13 ab ao (sv 18).2 3 W2 (by decide) (cell_last q (block_lt_of_cell q) h2)
   ·obtain ⟨ab, ao, ea, hc⟩ := sl_cells hsl (by decide)
    have q := (hc 1 (by decide)).2.1
    have h20 : 19 + 1 < (strL n f).length := by rw [strL_len]; omega
    refine tyfits_fn hC 19 hk (by rw [e]; rfl) (fun W2 h2 => ?_) (fun W2 h2 => ?_)
    ·rw [e]; exact asked_in (by decide) _ _ _ W2
    ·rw [e]
     show Calls _ _ #[_, .agg #[.int .u16 54, .int .u32 1, .int .u32 20, .slice (sv 19).1 2 (sv 19).2], _] _ _
     rw [ea]
     exact tyfunc_own (hC.below h2) 19 1 20 ab ao (sv 19).2 2 _ hcap (by rw [strL_len]; have := hs.small; omega) h20 (by rw [strL_get, strAt_head (by omega)]; decide) (cell_last q (block_lt_of_cell q) h2) stab2 rfl rfl rfl
   ·exact tyfits_nil hC 20 hk (by rw [e]; decide) (fun W2 h2 => by rw [e]; exact asked_in (by decide) _ _ _ W2) (fun W2 h2 => by rw [e]; exact tyasks_mem K 248 .nilFunc (by simp) W2)
   ·obtain ⟨ab, ao, ea, hc⟩ := sl_cells hsl (by decide)
    have q := (hc 0 (by decide)).2.1
    have g1 : (strL n f).getD 15 noIn = headL.getD 15 noIn := str_headD (by omega)
    refine tyfits_call hC 21 198 true hk (by rw [e]; decide) (hF := .inr (.inl rfl)) (fun W2 h2 => by rw [e]; exact asked_in (by decide) _ _ _ W2) (fun W2 h2 => by rw [e]; exact tyasks_mem K 61 _ (.inl ⟨rfl, rfl⟩) W2) (fun W2 h2 => ?_)
    rw [e]
    show Calls _ _ #[_, .agg #[.int .u16 61, .int .u32 3, .int .u32 22, .slice (sv 21).1 1 (sv 21).2]] _ _
    rw [ea]
    exact tyload_own (hC.below h2) 3 22 ab ao (sv 21).2 10 15 _ (cell_last q (block_lt_of_cell q) h2) (str_fm (n := n) (f := f) (id := 10) (by omega)) (by rw [g1]; decide) (by rw [g1]; exact stab6) rfl rfl rfl (by decide)
   ·obtain ⟨ab, ao, ea, hc⟩ := sl_cells hsl (by decide)
    have q := (hc 0 (by decide)).2.1
    have g1 : (strL n f).getD 16 noIn = headL.getD 16 noIn := str_headD (by omega)
    refine tyfits_call hC 22 198 true hk (by rw [e]; decide) (hF := .inr (.inl rfl)) (fun W2 h2 => by rw [e]; exact asked_in (by decide) _ _ _ W2) (fun W2 h2 => by rw [e]; exact tyasks_mem K 61 _ (.inl ⟨rfl, rfl⟩) W2) (fun W2 h2 => ?_)
    rw [e]
    show Calls _ _ #[_, .agg #[.int .u16 61, .int .u32 3, .int .u32 23, .slice (sv 22).1 1 (sv 22).2]] _ _
    rw [ea]
    exact tyload_own (hC.below h2) 3 23 ab ao (sv 22).2 11 16 _ (cell_last q (block_lt_of_cell q) h2) (str_fm (n := n) (f := f) (id := 11) (by omega)) (by rw [g1]; decide) (by rw [g1]; exact stab6) rfl rfl rfl (by decide)
 ·by_cases c : k < 23 + n
  ·obtain ⟨j, rfl⟩ : ∃ j, k = 23 + j := ⟨k - 23, by omega⟩
   have hj : j < n := by omega
   have e : (strL n f)[23 + j] = lineI j (f j) := by rw [strL_get, strAt_line hj rfl]
   rw [e] at hsl
   obtain ⟨ab, ao, ea, hc⟩ := sl_cells hsl (by simp [lineI])
   have q0 := hc 0 (by simp [lineI])
   have q1 := hc 1 (by simp [lineI])
   simp only [lineI, List.getElem_cons_zero, List.getElem_cons_succ, idA, Nat.zero_mul, Nat.add_zero, Nat.one_mul] at q0 q1
   have hty := hs.ty j hj
   have hop := hs.op j hj
   have hx := hs.x j hj
   have hy := hs.y j hj
   have h3 : decide ((f j).ty = 3) = decide (23 + j < kb) := by
    rcases Nat.lt_or_ge (23 + j) kb with q | q
    ·rw [decide_eq_true q, decide_eq_true (hb.good j hj q)]
    ·obtain ⟨j2, h1, h2, h5⟩ := hb.bad (by omega)
     have : j = j2 := by omega
     subst this
     rw [decide_eq_false (by omega), decide_eq_false (by omega)]
   have tx := str_ty (f := f) (n := n) (id := (f j).x) (by omega) (fun j2 hj2 e2 => hb.good j2 hj2 (by omega)) hs
   have ty := str_ty (f := f) (n := n) (id := (f j).y) (by omega) (fun j2 hj2 e2 => hb.good j2 hj2 (by omega)) hs
   have fx := str_fm (n := n) (f := f) (id := (f j).x) (by omega)
   have fy := str_fm (n := n) (f := f) (id := (f j).y) (by omega)
   have hmem : (f j).op ∈ [54, 56, 61, 62, 248, 253, 128, 130, 132, 134, 135, 137, 138, 139, 194, 195, 196, 197, 198, 199] := List.mem_append_right [54, 56, 61, 62, 248, 253] (isTwo_mem hop)
   rw [← h3]
   refine tyfits_call hC (23 + j) 132 _ hk (by rw [e]; exact isTwo_ne hop 54 (by decide)) (hF := .inl rfl) (fun W2 h2 => by rw [e]; exact asked_in hmem _ _ _ W2) (fun W2 h2 => ?_) (fun W2 h2 => ?_)
   ·rw [e]
    have := tyasks_line K (f j).op (.inl hop) W2
    unfold tyAsk at this
    rw [if_neg (isTwo_ne hop 61 (by decide)), if_neg (isTwo_ne hop 62 (by decide)), if_neg (isTwo_ne hop 253 (by decide)), if_neg (fun q => q.elim (isTwo_ne hop 56 (by decide)) (isTwo_ne hop 248 (by decide)))] at this
    exact this
   ·rw [e]
    show Calls _ _ #[_, .agg #[.int .u16 (f j).op, .int .u32 (f j).ty, .int .u32 (24 + j : Nat), .slice (sv (23 + j)).1 2 (sv (23 + j)).2]] _ _
    rw [ea]
    have hD := hC.below h2
    have two : Two ab ao (f j).x (f j).y W2 := ⟨cell_last q0.1 (block_lt_of_cell q0.1) h2, cell_last q0.2.1 (block_lt_of_cell q0.2.1) h2, cell_last q0.2.2 (block_lt_of_cell q0.2.2) h2, cell_last q1.1 (block_lt_of_cell q1.1) h2, cell_last q1.2.1 (block_lt_of_cell q1.2.1) h2, cell_last q1.2.2 (block_lt_of_cell q1.2.2) h2⟩
    refine tyarith_own (K := K) (w := W2) _ (f j).op (f j).ty (24 + j) ab ao (sv (23 + j)).2 (fun W3 h4 => nums_ok (hD.below h4) hty) (fun W3 h4 => ?_)
    refine tyalike_own _ (hD.below h4) ab ao _ (f j).x (f j).y _ _ (f j).ty (two.below h4) fx fy tx.2 ty.2 (fun W4 h5 => ?_) (fun W4 h5 => ?_)
    ·rw [tx.1]
     obtain ⟨lo, hT⟩ := ((hD.below h4).below h5).tb
     exact alike_ok hT hty
    ·rw [ty.1]
     obtain ⟨lo, hT⟩ := ((hD.below h4).below h5).tb
     exact alike_ok hT hty
  ·have hall : kb = 27 + n := by
    rcases Nat.lt_or_ge kb (27 + n) with q | q
    ·obtain ⟨j, h1, h2, h3⟩ := hb.bad q; omega
    ·omega
   subst hall
   rw [decide_eq_true hk2]
   obtain ⟨j, rfl⟩ : ∃ j, k = 23 + n + j := ⟨k - (23 + n), by omega⟩
   have hj4 : j = 0 ∨ j = 1 ∨ j = 2 ∨ j = 3 := by omega
   have e : (strL n f)[23 + n + j] = (tailL n).getD j noIn := by rw [strL_get, strAt_tail rfl]
   rw [e] at hsl
   rcases hj4 with rfl | rfl | rfl | rfl
   ·obtain ⟨ab, ao, ea, hc⟩ := sl_cells hsl (by simp [tailL])
    have q0 := (hc 0 (by simp [tailL])).2.1
    have q1 := (hc 1 (by simp [tailL])).2.1
    have g1 : (strL n f).getD 17 noIn = headL.getD 17 noIn := str_headD (by omega)
    have ty := str_ty (f := f) (n := n) (id := 23 + n) (by omega) (fun j2 hj2 e2 => hb.good j2 hj2 (by omega)) hs
    refine tyfits_call hC (23 + n + 0) 199 true hk (by rw [e]; exact (by decide : (62 : Nat) ≠ 54)) (hF := .inr (.inr (.inl rfl))) (fun W2 h2 => by rw [e]; exact asked_in (op := 62) (by decide) _ _ _ W2) (fun W2 h2 => by rw [e]; exact tyasks_mem K 62 _ (.inr (.inl ⟨rfl, rfl⟩)) W2) (fun W2 h2 => ?_)
    rw [e]
    show Calls _ _ #[_, .agg #[.int .u16 62, .int .u32 (0 : Nat), .int .u32 (0 : Nat), .slice (sv (23 + n + 0)).1 2 (sv (23 + n + 0)).2]] _ _
    rw [ea]
    exact tystore_own (hC.below h2) 0 0 ab ao (sv (23 + n + 0)).2 12 (23 + n) 17 (makS (23 + n)) _ (cell_last q0 (block_lt_of_cell q0) h2) (cell_last q1 (block_lt_of_cell q1) h2) (str_fm (n := n) (f := f) (id := 12) (by omega)) (str_fm (n := n) (f := f) (id := 23 + n) (by omega)) (by rw [g1]; decide) ty.2 (by rw [g1]; exact stab7) rfl rfl (by rw [ty.1]) (by rw [ty.1]; decide) (by decide)
   ·obtain ⟨ab, ao, ea, hc⟩ := sl_cells hsl (by simp [tailL])
    have q0 := (hc 0 (by simp [tailL])).2.1
    have q1 := (hc 1 (by simp [tailL])).2.1
    have g1 : (strL n f).getD 18 noIn = headL.getD 18 noIn := str_headD (by omega)
    have g2 : (strL n f).getD 14 noIn = headL.getD 14 noIn := str_headD (by omega)
    refine tyfits_call hC (23 + n + 1) 199 true hk (by rw [e]; exact (by decide : (62 : Nat) ≠ 54)) (hF := .inr (.inr (.inl rfl))) (fun W2 h2 => by rw [e]; exact asked_in (op := 62) (by decide) _ _ _ W2) (fun W2 h2 => by rw [e]; exact tyasks_mem K 62 _ (.inr (.inl ⟨rfl, rfl⟩)) W2) (fun W2 h2 => ?_)
    rw [e]
    show Calls _ _ #[_, .agg #[.int .u16 62, .int .u32 (0 : Nat), .int .u32 (0 : Nat), .slice (sv (23 + n + 1)).1 2 (sv (23 + n + 1)).2]] _ _
    rw [ea]
    exact tystore_own (hC.below h2) 0 0 ab ao (sv (23 + n + 1)).2 13 9 18 14 _ (cell_last q0 (block_lt_of_cell q0) h2) (cell_last q1 (block_lt_of_cell q1) h2) (str_fm (n := n) (f := f) (id := 13) (by omega)) (str_fm (n := n) (f := f) (id := 9) (by omega)) (by rw [g1]; decide) (by rw [g2]; decide) (by rw [g1]; exact stab8) rfl rfl (by rw [g2]; rfl) (by rw [g2]; decide) (by decide)
   ·refine tyfits_call hC (23 + n + 2) 136 true hk (by rw [e]; exact (by decide : (253 : Nat) ≠ 54)) (hF := .inr (.inr (.inr rfl))) (fun W2 h2 => by rw [e]; exact asked_in (op := 253) (by decide) _ _ _ W2) (fun W2 h2 => by rw [e]; exact tyasks_line K 253 (.inr rfl) W2) (fun W2 h2 => ?_)
    rw [e]
    exact tyleaves_own (hC.below h2) (_, _, _, _) (by rw [back_late hs _ (by omega) (by omega)]; rfl)
   ·exact tyfits_nil hC (23 + n + 3) hk (by rw [e]; exact (by decide : (56 : Nat) ≠ 54)) (fun W2 h2 => by rw [e]; exact asked_in (op := 56) (by decide) _ _ _ W2) (fun W2 h2 => by rw [e]; exact tyasks_mem K 56 .nilFunc (by simp) W2)
end
end Go.Proofs.YtbhijdmlonplgaaGreatDoor
