/- The straight module: sound, one function, its ids. -/
import Derived.Test.YtlkolghiknbbfaaGreatDoorBe
import Derived.Test.YtlkolghiknbbfaaGreatDoorBf
set_option linter.unusedVariables false
set_option linter.unusedSimpArgs false
set_option maxRecDepth 100000
set_option maxHeartbeats 4000000
namespace Go.Proofs.YtlkolghiknbbfaaGreatDoor
open Go.RowKit
section
variable {n : Nat} {f : Nat → Ln}
theorem jH.refl (i : In) : jH i i := ⟨rfl, Iff.rfl, Iff.rfl, rfl, fun k _ _ => ⟨rfl, rfl, fun _ => rfl⟩⟩
def rE (i : In) (b : Nat) : Bool := (i.ty == 0 || decide (i.ty < b)) && (i.res == 0 || decide (i.res < b)) && i.args.all fun a => !(a.kind == 1) || (decide (0 < a.n) && decide (a.n < b))
theorem jG.of {i : In} {b b' : Nat} (h : rE i b = true) (hb : b ≤ b') : jG i b' := by
 unfold rE at h;simp only [Bool.and_eq_true, Bool.or_eq_true, beq_iff_eq, decide_eq_true_eq, List.all_eq_true, Bool.not_eq_true', beq_eq_false_iff_ne] at h;obtain ⟨⟨h1, h2⟩, h3⟩ := h;refine ⟨h1.imp id (fun q => by omega), h2.imp id (fun q => by omega), fun k hk e => ?_⟩;rcases h3 _ (List.getElem_mem hk) with q | q
 ·exact absurd e q
 ·exact ⟨q.1, by omega⟩
def oK (i : In) (b : Nat) : Bool := (dx i b).1 == 0 && decide ((dx i b).2 ≤ 19)
theorem lV {i : In} {b : Nat} (h : oK i b = true) : (dx i b).1 = 0 ∧ (dx i b).2 ≤ 19 := by
 unfold oK at h;simpa using h
theorem JK : (ax.all fun i => rE i 30 && oK i 30) = true := by kernel_rfl
theorem IL : ((bQ 0).all fun i => rE i 30 && oK i 30) = true := by kernel_rfl
def tZ (op : Nat) : In := ⟨op, 3, 24, [eU 22, eU 22]⟩
theorem Iq : ([128, 130, 132, 134, 135, 137, 138, 139, 194, 195, 196, 197, 198, 199].all fun op => rE (tZ op) 30 && oK (tZ op) 30) = true := by kernel_rfl
theorem GN {k : Nat} (h : k < 23) : ax.getD k ai ∈ ax := by
 rw [List.getD_eq_getElem?_getD, List.getElem?_eq_getElem (show k < ax.length from h)];exact List.getElem_mem _
theorem ou (x y : Nat) : pY (eU x) (eU y) := ⟨rfl, rfl, fun h => absurd rfl h⟩
theorem GY (k : Nat) (x : Ln) (hty : x.ty = 3 ∨ x.ty = 5) : jH (dZ k x) (tZ x.op) :=
 ⟨rfl, by simp only [dZ, tZ]; omega, by simp only [dZ, tZ]; omega, rfl, fun j h h' => by
  rcases j with _ | _ | j
  ·exact ou _ _
  ·exact ou _ _
  ·exact absurd h (show ¬ (j + 1 + 1 < 2) by omega)⟩
theorem Le (hs : bu n f) {k : Nat} (hk : k < n) : jG (dZ k (f k)) (30 + n) := by
 have e1 := hs.x k hk;have e2 := hs.y k hk;have e3 := hs.ty k hk;refine ⟨.inr (by simp only [dZ]; omega), .inr (by simp only [dZ]; omega), fun j h _ => ?_⟩;rcases j with _ | _ | j
 ·show 0 < (f k).x ∧ (f k).x < 30 + n; omega
 ·show 0 < (f k).y ∧ (f k).y < 30 + n; omega
 ·exact absurd h (show ¬ (j + 1 + 1 < 2) by omega)
theorem jE {j : Nat} (h : j < 4) : jH ((bQ n).getD j ai) ((bQ 0).getD j ai) := by
 rcases j with _ | _ | _ | _ | j
 ·refine ⟨rfl, Iff.rfl, Iff.rfl, rfl, fun k h h' => ?_⟩
  rcases k with _ | _ | k
  ·exact ou _ _
  ·exact ou _ _
  ·exact absurd h (show ¬ (k + 1 + 1 < 2) by omega)
 ·exact jH.refl _
 ·exact jH.refl _
 ·exact jH.refl _
 ·omega
theorem Mj {j : Nat} (h : j < 4) : jG ((bQ n).getD j ai) (30 + n) := by
 rcases j with _ | _ | _ | _ | j
 ·refine ⟨.inl rfl, .inl rfl, fun k hk _ => ?_⟩
  rcases k with _ | _ | k
  ·show 0 < 12 ∧ 12 < 30 + n; omega
  ·show 0 < 23 + n ∧ 23 + n < 30 + n; omega
  ·exact absurd hk (show ¬ (k + 1 + 1 < 2) by omega)
 ·exact jG.of (b := 30) (by kernel_rfl) (by omega)
 ·exact jG.of (b := 30) (by kernel_rfl) (by omega)
 ·exact jG.of (b := 30) (by kernel_rfl) (by omega)
 ·omega
theorem Gj {j : Nat} (h : j < 4) : (bQ 0).getD j ai ∈ bQ 0 := by
 rw [List.getD_eq_getElem?_getD, List.getElem?_eq_getElem (show j < (bQ 0).length from h)];exact List.getElem_mem _
theorem En (hs : bu n f) (k : Nat) (h : k < 27 + n) : (dx (df n f k) (30 + n)).1 = 0 ∧ (dx (df n f k) (30 + n)).2 ≤ 19 := by
 have hc := kE (n := n) (f := f) k h;generalize df n f k = i at hc ⊢
 cases hc with
 | head h =>
  have h1 := List.all_eq_true.1 JK _ (GN h);rw [Bool.and_eq_true] at h1;rw [nX (jH.refl _) (jG.of h1.1 (by omega)) (jG.of h1.1 (Nat.le_refl _))];exact lV h1.2
 | line j h hk =>
  have h1 := List.all_eq_true.1 Iq _ (dn (hs.op j h));rw [Bool.and_eq_true] at h1;rw [nX (GY j (f j) (hs.ty j h)) (Le hs h) (jG.of h1.1 (Nat.le_refl _))];exact lV h1.2
 | tail j h hk =>
  have h1 := List.all_eq_true.1 IL _ (Gj h);rw [Bool.and_eq_true] at h1;rw [nX (jE h) (Mj h) (jG.of h1.1 (Nat.le_refl _))];exact lV h1.2
theorem uW (hs : bu n f) : ∀ k, k ≤ 27 + n → fZ (30 + n) (aj n f) k ≤ 20 * k
 | 0, _ => Nat.le_refl _
 | k + 1, h => by
  have ih := uW hs k (by omega);have h2 := (En hs k (by omega)).2;simp only [fZ, mW k (show k < 27 + n by omega)];omega
theorem eD (hs : bu n f) : iN (30 + n) (aj n f) := by
 have h1 := hs.small;refine ⟨by omega, by omega, by rw [ak]; omega, fun k hk => ?_, ?_⟩
 ·rw [aF]
  exact (En hs k (by rw [ak] at hk; exact hk)).1
 ·have := uW hs (27 + n) (Nat.le_refl _)
  rw [ak];omega
def tS (p : Nat) : Nat := [0, 0, 1, 2, 2, 2, 2, 6, 19].getD p 19
def parB : Bool := (List.range 8).all fun p => decide (tS p ≤ tS (p + 1)) && decide (tS (p + 1) ≤ 19) && ((List.range 19).all fun j => !(decide (tS p ≤ j) && decide (j < tS (p + 1))) || (bO (ax.getD j ai) == 9 && decide (partOf (ax.getD j ai) = p))) &&
 (p == 1 || !(bO (ax.getD (tS (p + 1)) ai) == 9) || decide (partOf (ax.getD (tS (p + 1)) ai) ≠ p))
theorem FV : parB = true := by kernel_rfl
theorem Ck : rF (aj n f) tS := by
 have hb := List.all_eq_true.1 FV;have hp : ∀ p, p < 8 → _ := fun p hp => hb p (List.mem_range.2 hp)
 simp only [Bool.and_eq_true, decide_eq_true_eq, List.all_eq_true, List.mem_range, Bool.or_eq_true, Bool.not_eq_true', Bool.and_eq_false_iff, decide_eq_false_iff_not, beq_iff_eq, beq_eq_false_iff_ne] at hp;refine ⟨rfl, fun p h => (hp p h).1.1.1, ?_, fun p h j hj h1 h2 => ?_, fun p h h1 hl hk => ?_, rfl⟩
 ·rw [ak]; show 19 ≤ 27 + n; omega
 ·have h19 := (hp p h).1.1.2
  have hj19 : j < 19 := by omega
  rw [aF, aI (by omega)];rcases (hp p h).1.2 j hj19 with (q | q) | q
  ·omega
  ·omega
  ·exact q
 ·have h19 := (hp p h).1.1.2
  rw [aF, aI (by omega)] at hk ⊢;rcases (hp p h).2 with (q | q) | q
  ·exact absurd q h1
  ·exact absurd hk q
  ·exact q
theorem iR {k : Nat} (h : k < 27 + n) : bC (aj n f) k = (bO (df n f k) : Int) := by
 unfold bC;rw [dif_pos (by rw [ak]; exact h), aF]
theorem GV : (bO (ax.getD 19 ai) == 1 && bO (ax.getD 20 ai) == 3 && bO (ax.getD 21 ai) == 0 && bO (ax.getD 22 ai) == 0) = true := by kernel_rfl
theorem Ga : ([128, 130, 132, 134, 135, 137, 138, 139, 194, 195, 196, 197, 198, 199].all fun op => bO (tZ op) == 0) = true := by kernel_rfl
theorem GI : (bO ((bQ 0).getD 0 ai) == 0 && bO ((bQ 0).getD 1 ai) == 0 && bO ((bQ 0).getD 2 ai) == 7 && bO ((bQ 0).getD 3 ai) == 8) = true := by kernel_rfl
theorem sV {i j : In} (h : i.op = j.op) (hv : i.op ≠ 59) : bO i = bO j := by
 have hj : j.op ≠ 59 := h ▸ hv;have e1 : isVar i = false := by unfold isVar; simp [hv]
 have e2 : isVar j = false := by unfold isVar; simp [hj]
 unfold bO partOf;rw [e1, e2, h]
theorem eT {op : Nat} (h : eH op = true) (x : Nat) (hx : eH x = false) : op ≠ x := fun e => by subst e; rw [h] at hx; cases hx
theorem jb (hs : bu n f) : jf (aj n f) tS (25 + n) := by
 have hr := GV;have ht := GI;simp only [Bool.and_eq_true, beq_iff_eq] at hr ht;refine ⟨Ck, by rw [ak]; omega, by show 19 + 2 ≤ 25 + n; omega, ?_, ?_, ?_, fun j h1 h2 => ?_, ?_, ?_⟩
 ·show bC (aj n f) 19 = 1
  rw [iR (by omega), aI (by omega), hr.1.1.1]; rfl
 ·show bC (aj n f) 20 = 3
  rw [iR (by omega), aI (by omega), hr.1.1.2]; rfl
 ·show bC (aj n f) 21 ≠ 5
  rw [iR (by omega), aI (by omega), hr.1.2]; decide
 ·have h1 : 21 ≤ j := h1
  rw [iR (by omega)];have hc := kE (n := n) (f := f) j (by omega);generalize df n f j = i at hc ⊢
  cases hc with
  | head h =>
   rcases (show j = 21 ∨ j = 22 by omega) with rfl | rfl
   ·rw [hr.1.2]; rfl
   ·rw [hr.2]; rfl
  | line q h hk =>
   have h1 := List.all_eq_true.1 Ga _ (dn (hs.op q h));rw [sV (i := dZ q (f q)) (j := tZ (f q).op) rfl (eT (hs.op q h) 59 rfl), beq_iff_eq.1 h1]; rfl
  | tail q h hk =>
   rcases (show q = 0 ∨ q = 1 by omega) with rfl | rfl
   ·rw [sV (i := (bQ n).getD 0 ai) (j := (bQ 0).getD 0 ai) rfl (show (62 : Nat) ≠ 59 by decide), ht.1.1.1]; rfl
   ·rw [show ((bQ n).getD 1 ai) = (bQ 0).getD 1 ai from rfl, ht.1.1.2]; rfl
 ·rw [iR (by omega), bI (j := 2) (by omega), show ((bQ n).getD 2 ai) = (bQ 0).getD 2 ai from rfl, ht.1.2]; rfl
 ·rw [iR (by omega), bI (j := 3) (by omega), show ((bQ n).getD 3 ai) = (bQ 0).getD 3 ai from rfl, ht.2]; rfl
def oo (n k : Nat) : Nat := if k < 6 then 0 else if k < 19 then k - 5 else if k < 23 + n then k + 1 else 0
theorem Jl : ((List.range 23).all fun k => (ax.getD k ai).res == oo 0 k) = true := by kernel_rfl
theorem jD {k : Nat} (h : k < 27 + n) : (df n f k).res = oo n k := by
 have hc := kE (n := n) (f := f) k h;generalize df n f k = i at hc ⊢
 cases hc with
 | head h =>
  have h1 := List.all_eq_true.1 Jl k (List.mem_range.2 h);rw [beq_iff_eq.1 h1];unfold oo
  repeat' split
  all_goals omega
 | line j h hk =>
  subst hk;unfold oo dZ;rw [if_neg (by omega), if_neg (by omega), if_pos (by omega)]
  show 24 + j = _
  omega
 | tail j h hk =>
  subst hk;unfold oo;rw [if_neg (by omega), if_neg (by omega), if_neg (by omega)];rcases j with _ | _ | _ | _ | j
  ·rfl
  ·rfl
  ·rfl
  ·rfl
  ·omega
theorem DF (l : List In) (hu : ∀ i j (hi : i < l.length) (hj : j < l.length), l[i].res = l[j].res → l[i].res ≠ 0 → i = j) (k : Nat) (hk : k < l.length) (h0 : l[k].res ≠ 0) : ∀ K, K ≤ l.length → l.length - K ≤ k → mkK l K l[k].res = some k
 | 0, _, h => by omega
 | K + 1, hK, h => by
  have hp : l.length - 1 - K < l.length := by omega
  have hg : l.getD (l.length - 1 - K) ai = l[l.length - 1 - K] := by rw [List.getD_eq_getElem?_getD, List.getElem?_eq_getElem hp]; rfl
  simp only [mkK, hg];by_cases e : l.length - 1 - K = k
  ·subst e
   rw [if_neg h0];unfold dJ;rw [if_pos rfl]
  ·have ih := DF l hu k hk h0 K (by omega) (by omega)
   split
   ·exact ih
   ·rename_i hz
    unfold dJ;rw [if_neg (fun q => e (hu _ _ hp hk q.symm hz))];exact ih
theorem rH {i j : Nat} (h : oo n i = oo n j) (h0 : oo n i ≠ 0) : i = j := by
 unfold oo at h h0
 repeat' split at h
 all_goals (repeat' split at h0) <;> omega
def mX (id : Nat) : Nat := if id < 14 then id + 5 else id - 1
theorem Bi {id : Nat} (h : 1 ≤ id ∧ id ≤ 13 ∨ 20 ≤ id ∧ id < 24 + n) : oo n (mX id) = id ∧ mX id < 23 + n := by
 unfold oo mX
 repeat' split
 all_goals omega
theorem BR {id : Nat} (h : 1 ≤ id ∧ id ≤ 13 ∨ 20 ≤ id ∧ id < 24 + n) : mkK (aj n f) (aj n f).length id = some (mX id) := by
 obtain ⟨h1, h2⟩ := Bi h;have hl : mX id < (aj n f).length := by rw [ak]; omega
 have he : (aj n f)[mX id].res = id := by rw [aF, jD (by omega)]; exact h1
 have := DF (aj n f) (fun i j hi hj e e0 => by
  rw [ak] at hi hj;rw [aF, aF, jD hi, jD hj] at e;rw [aF, jD hi] at e0
  exact rH e e0) (mX id) hl (by rw [he]; omega) _ (Nat.le_refl _) (by omega)
 rwa [he] at this
def Oj (n id : Nat) : Bool := decide (1 ≤ id ∧ id ≤ 13 ∨ 20 ≤ id ∧ id < 24 + n)
theorem JN : ((List.range 23).all fun k => (aX (ax.getD k ai)).all fun id => Oj 0 id && (!(decide (6 ≤ k) && decide (k < 19)) || decide (mX id < k))) = true := by kernel_rfl
theorem Lu {id : Nat} (h : Oj 0 id = true) : 1 ≤ id ∧ id ≤ 13 ∨ 20 ≤ id ∧ id < 24 + n := by
 unfold Oj at h;have := of_decide_eq_true h;omega
theorem zO (k : Nat) (x : Ln) (hty : x.ty = 3 ∨ x.ty = 5) : aX (dZ k x) = [x.ty, x.x, x.y] := by
 obtain ⟨op, ty, a, b⟩ := x;simp only at hty;unfold aX jl dZ;rw [if_neg (by simp only; omega)];rfl
theorem yQ {j : Nat} (h : j < 4) : ∀ id ∈ aX ((bQ n).getD j ai), 1 ≤ id ∧ id ≤ 13 ∨ 20 ≤ id ∧ id < 24 + n := by
 rcases j with _ | _ | _ | _ | j
 ·rw [show aX ((bQ n).getD 0 ai) = [12, 23 + n] from rfl]
  intro id hid;simp only [List.mem_cons, List.not_mem_nil, or_false] at hid;omega
 ·rw [show aX ((bQ n).getD 1 ai) = [13, 9] from rfl]
  intro id hid;simp only [List.mem_cons, List.not_mem_nil, or_false] at hid;omega
 ·rw [show aX ((bQ n).getD 2 ai) = [] from rfl]
  intro id hid
  cases hid
 ·rw [show aX ((bQ n).getD 3 ai) = [] from rfl]
  intro id hid
  cases hid
 ·omega
theorem kV (hs : bu n f) : nC (aj n f) tS := by
 refine ⟨fun k hk h0 => ?_, fun k hk id hid => ?_⟩
 ·have hk' := hk
  rw [ak] at hk';refine ⟨k, DF (aj n f) (fun i j hi hj e e0 => ?_) k hk h0 _ (Nat.le_refl _) (by omega), Nat.le_refl _⟩;rw [ak] at hi hj;rw [aF, aF, jD hi, jD hj] at e;rw [aF, jD hi] at e0;exact rH e e0
 ·have hk' := hk
  rw [ak] at hk';rw [aF] at hid;have hc := kE (n := n) (f := f) k hk';generalize df n f k = i at hc hid
  cases hc with
  | head h =>
   have h1 := List.all_eq_true.1 (List.all_eq_true.1 JN k (List.mem_range.2 h)) id hid;simp only [Bool.and_eq_true, Bool.or_eq_true, Bool.not_eq_true', Bool.and_eq_false_iff, decide_eq_false_iff_not, decide_eq_true_eq] at h1;refine ⟨_, BR (Lu h1.1), fun h7 h8 => ?_⟩;have h7 : 6 ≤ k := h7;have h8 : k < 19 := h8;rcases h1.2 with (q | q) | q
   ·omega
   ·omega
   ·exact q
  | line j h hk =>
   rw [zO j _ (hs.ty j h)] at hid;have e1 := hs.x j h;have e2 := hs.y j h;have e3 := hs.ty j h;refine ⟨_, BR (n := n) ?_, fun h7 h8 => ?_⟩
   ·simp only [List.mem_cons, List.not_mem_nil, or_false] at hid
    omega
   ·have h8 : k < 19 := h8
    omega
  | tail j h hk =>
   refine ⟨_, BR (yQ h id hid), fun h7 h8 => ?_⟩;have h8 : k < 19 := h8;omega
end
def dS (k : Nat) : Option dU := [none, none, none, none, none, none, some ⟨1, 0, 0, false, 0, 0, 0, []⟩, some ⟨8, 0, 0, false, 0, 0, 0, [1]⟩, some ⟨3, 1, 1, false, 0, 0, 0, []⟩, some ⟨3, 1, 1, true, 0, 0, 0, []⟩, some ⟨4, 4, 2, false, 0, 4, 4, []⟩, some ⟨7, 0, 0, false, 1, 0, 0, [3]⟩, some ⟨7, 0, 0, false, 3, 0, 0, [3]⟩, some ⟨7, 0, 0, false, 3, 0, 0, [5]⟩].getD k none
def fG : Nat → Option dU := iC ax dS 14
theorem xH {k : Nat} (h : 14 ≤ k) : dS k = none := by unfold dS; rw [List.getD_eq_getElem?_getD, List.getElem?_eq_none (by simpa using h)]; rfl
def vS (k : Nat) : Option (Nat × Nat × Nat) := if k = 15 ∨ k = 16 then some (1, 3, 1) else if k = 17 then some (3, 3, 1) else if k = 18 then some (3, 5, 4) else none
def iQ (id : Nat) : Option (Nat × Nat × Nat) := if id = 13 then some (3, 5, 4) else if id = 12 then some (3, 3, 1) else if id = 11 then some (1, 3, 1) else if id = 10 then some (1, 3, 1) else none
section
variable {n : Nat} {f : Nat → Ln}
theorem bK {k : Nat} (h : k < 23) : (aj n f).getD k ai = ax.getD k ai := by rw [mW k (by omega), aI h]
theorem rX : ∀ k, k ≤ 23 → iC (aj n f) dS k = iC ax dS k
 | 0, _ => rfl
 | k + 1, h => by simp only [iC, rX k (by omega), bK (show k < 23 by omega)]
theorem uV : ∀ k, k ≤ 23 → jm (aj n f) dS k = jm ax dS k
 | 0, _ => rfl
 | k + 1, h => by simp only [jm, uV k (by omega), bK (show k < 23 by omega)]
theorem vP {k : Nat} (h : 14 ≤ k) : iC (aj n f) dS k = fG := by
 induction k with
 | zero => omega
 | succ k ih =>
  rcases Nat.eq_or_lt_of_le h with e | e
  ·rw [← e]; exact rX 14 (by omega)
  ·simp only [iC, xH (show 14 ≤ k by omega)]; exact ih (by omega)
theorem EX : ((List.range 23).all fun k => decide (k < 14) || !ik (ax.getD k ai).op) = true := by kernel_rfl
theorem EQ : ([128, 130, 132, 134, 135, 137, 138, 139, 194, 195, 196, 197, 198, 199].all fun op => !ik op) = true := by kernel_rfl
theorem FW : ((List.range 4).all fun j => !ik ((bQ 0).getD j ai).op) = true := by kernel_rfl
theorem Im (hs : bu n f) {k : Nat} (h1 : 14 ≤ k) (h2 : k < 27 + n) : ik (df n f k).op = false := by
 by_cases h : k < 23
 ·rw [aI h]
  have := List.all_eq_true.1 EX k (List.mem_range.2 h);simp only [Bool.or_eq_true, decide_eq_true_eq, Bool.not_eq_true'] at this;exact this.resolve_left (by omega)
 ·by_cases h3 : k < 23 + n
  ·rw [dY (j := k - 23) (by omega) (by omega)]
   have := List.all_eq_true.1 EQ _ (dn (hs.op (k - 23) (by omega)))
   show ik (f (k - 23)).op = false
   simpa using this
  ·obtain ⟨j, hj⟩ : ∃ j, k = 23 + n + j := ⟨k - (23 + n), by omega⟩
   have hj4 : j < 4 := by omega
   rw [bI hj, (jE hj4).op];have := List.all_eq_true.1 FW j (List.mem_range.2 hj4);simpa using this
theorem Il : ∀ k, k < 14 → wK (iC ax dS k) (ax.getD k ai) (dS k) := fun k hk => by
 match k, hk with
 | 0, _ => exact .other _ rfl
 | 1, _ => exact .other _ rfl
 | 2, _ => exact .other _ rfl
 | 3, _ => exact .other _ rfl
 | 4, _ => exact .other _ rfl
 | 5, _ => exact .other _ rfl
 | 6, _ => exact .void 0 1
 | 7, _ => exact .fn 0 2 (eU 1) rfl rfl
 | 8, _ => exact .int 0 3 (iY 32) (iY 0) rfl (by decide)
 | 9, _ => exact .int 0 4 (iY 32) (iY 1) rfl (by decide)
 | 10, _ => exact .vec 0 5 (eU 4) (iY 4) rfl ⟨by decide, by decide⟩ (by decide)
 | 11, _ => exact .ptr 0 6 (kv 1) (eU 3) (by decide)
 | 12, _ => exact .ptr 0 7 (kv 3) (eU 3) (by decide)
 | 13, _ => exact .ptr 0 8 (kv 3) (eU 5) (by decide)
 | k + 14, h => omega
theorem CP : ((List.range 14).all fun k => (dS k).isNone || ((jm ax dS k (keyOf (ax.getD k ai))).isNone && decide ((ax.getD k ai).op < 100) && decide ((ax.getD k ai).op ≠ 28) && decide ((ax.getD k ai).op ≠ 30) && (ax.getD k ai).args.all fun a => decide (a.n < 100))) = true := by kernel_rfl
theorem pO (hs : bu n f) : qW (aj n f) dS := by
 have hq : ∀ k, dS k ≠ none → k < 14 := fun k h => Nat.lt_of_not_le fun e => h (xH e)
 have hf : ∀ k, dS k ≠ none → _ := fun k h => (Bool.or_eq_true _ _ ▸ List.all_eq_true.1 CP k (List.mem_range.2 (hq k h))).resolve_left (by simpa using h)
 simp only [Bool.and_eq_true, decide_eq_true_eq, List.all_eq_true, Option.isNone_iff_eq_none] at hf;refine ⟨fun k h => ?_, fun k h hd => ?_, fun k h hd => ?_⟩
 ·rw [aF]
  have h2 : k < 27 + n := by rw [ak] at h; exact h
  by_cases h1 : k < 14
  ·rw [rX k (by omega), aI (by omega)]
   exact Il k h1
  ·rw [xH (by omega)]
   exact .other _ (Im hs (by omega) h2)
 ·have h1 := hq k hd
  rw [aF, uV k (by omega), aI (by omega)];exact (hf k hd).1.1.1.1
 ·have h1 := hq k hd
  have h2 := hf k hd;rw [aF, aI (by omega)];exact ⟨h2.1.1.1.2, h2.1.1.2, h2.1.2, fun j hj => h2.2 _ (List.getElem_mem hj)⟩
theorem vV : wQ (aj n f) tS fG vS := by
 refine ⟨fun k h => ?_, fun k h h1 h2 => ?_⟩
 ·have h' : k < 6 := h
  unfold vS;rw [if_neg (by omega), if_neg (by omega), if_neg (by omega)]
 ·have h1' : 6 ≤ k := h1
  have h2' : k < 19 := h2;rw [aF, aI (by omega)];clear h h1 h2
  match k, h1', h2' with
  | 6, _, _ => exact .other _ (by decide)
  | 7, _, _ => exact .other _ (by decide)
  | 8, _, _ => exact .other _ (by decide)
  | 9, _, _ => exact .other _ (by decide)
  | 10, _, _ => exact .other _ (by decide)
  | 11, _, _ => exact .other _ (by decide)
  | 12, _, _ => exact .other _ (by decide)
  | 13, _, _ => exact .other _ (by decide)
  | 14, _, _ => exact .null 5 9 ⟨by decide, by decide⟩
  | 15, _, _ => exact .var 6 10 3 (kv 1) ⟨7, 0, 0, false, 1, 0, 0, [3]⟩ rfl rfl rfl rfl rfl ⟨by decide, by decide⟩
  | 16, _, _ => exact .var 6 11 3 (kv 1) ⟨7, 0, 0, false, 1, 0, 0, [3]⟩ rfl rfl rfl rfl rfl ⟨by decide, by decide⟩
  | 17, _, _ => exact .var 7 12 3 (kv 3) ⟨7, 0, 0, false, 3, 0, 0, [3]⟩ rfl rfl rfl rfl rfl ⟨by decide, by decide⟩
  | 18, _, _ => exact .var 8 13 5 (kv 3) ⟨7, 0, 0, false, 3, 0, 0, [5]⟩ rfl rfl rfl rfl rfl ⟨by decide, by decide⟩
  | k + 19, _, h => omega
theorem yS : ∀ k, k ≤ 23 → oP (aj n f) vS k = oP ax vS k
 | 0, _ => rfl
 | k + 1, h => by simp only [oP, yS k (by omega), bK (show k < 23 by omega)]
theorem Bt : oP (aj n f) vS (tS 8) = iQ := (yS 19 (by omega)).trans rfl
theorem Bz (hs : bu n f) : tO (aj n f) (25 + n) := by
 refine ⟨fun h => ?_, fun h => ?_, fun h => ?_⟩
 ·rw [aF, bI (j := 2) (by omega)]; rfl
 ·rw [aF, bI (j := 2) (by omega)]; rfl
 ·rw [aF, bI (j := 1) (by omega)]; exact ⟨by show (62 : Nat) ≠ 246; omega, by show (62 : Nat) ≠ 247; omega⟩
theorem mf (x : Nat) (h : ((List.range 23).all fun k => !((ax.getD k ai).op == x)) = true) (h2 : eH x = false) (h3 : ((List.range 4).all fun j => !(((bQ 0).getD j ai).op == x)) = true) (hs : bu n f) : ∀ k (h : k < (aj n f).length), (aj n f)[k].op ≠ x := fun k hk => by
 rw [aF];have hk2 : k < 27 + n := by rw [ak] at hk; exact hk
 by_cases a : k < 23
 ·rw [aI a]
  have := List.all_eq_true.1 h k (List.mem_range.2 a);simpa using this
 ·by_cases b : k < 23 + n
  ·rw [dY (j := k - 23) (by omega) (by omega)]
   exact eT (hs.op (k - 23) (by omega)) x h2
  ·obtain ⟨j, hj⟩ : ∃ j, k = 23 + n + j := ⟨k - (23 + n), by omega⟩
   have hj4 : j < 4 := by omega
   rw [bI hj, (jE hj4).op];have := List.all_eq_true.1 h3 j (List.mem_range.2 hj4);simpa using this
theorem yh (hs : bu n f) : ∀ k (h : k < (aj n f).length), (aj n f)[k].op ≠ 57 := mf 57 (by kernel_rfl) (by decide) (by kernel_rfl) hs
end
end Go.Proofs.YtlkolghiknbbfaaGreatDoor
namespace Go.Proofs.YtlkolghiknbbfaaGreatDoor
open Go.RowKit
theorem Cr (l : List In) (hu : ∀ i j (hi : i < l.length) (hj : j < l.length), l[i].res = l[j].res → l[i].res ≠ 0 → i = j) (k : Nat) (hk : k < l.length) (h0 : l[k].res ≠ 0) : ∀ K, k < K → K ≤ l.length → BG l K l[k].res = some k
 | 0, h, _ => by omega
 | K + 1, h, hK => by
  have hlt : K < l.length := by omega
  have e : l.getD K ai = l[K] := getD_at l hlt;simp only [BG, e];by_cases hz : l[K].res = 0
  ·rw [if_pos hz]
   have : k ≠ K := fun q => by subst q; exact h0 hz
   exact Cr l hu k hk h0 K (by omega) (by omega)
  ·rw [if_neg hz]
   unfold dJ;by_cases hq : l[k].res = l[K].res
   ·rw [if_pos hq]
    have := hu k K hk hlt hq h0;rw [this]
   ·rw [if_neg hq]
    have : k ≠ K := fun q => by subst q; exact hq rfl
    exact Cr l hu k hk h0 K (by omega) (by omega)
section
variable {n : Nat} {f : Nat → Ln}
theorem lK {id : Nat} (h : 1 ≤ id ∧ id ≤ 13 ∨ 20 ≤ id ∧ id < 24 + n) : BG (aj n f) (aj n f).length id = some (mX id) := by
 obtain ⟨h1, h2⟩ := Bi h;have hlen : mX id < (aj n f).length := by rw [ak]; omega
 have hr : ∀ k (hk : k < (aj n f).length), (aj n f)[k].res = oo n k := fun k hk => by rw [aF]; exact jD (by rw [ak] at hk; exact hk)
 have h3 := hr _ hlen;have := Cr (aj n f) (fun i j hi hj e e0 => by rw [hr i hi, hr j hj] at e; rw [hr i hi] at e0; exact rH e e0) (mX id) hlen (by rw [h3, h1]; omega) (aj n f).length hlen (Nat.le_refl _);rw [h3, h1] at this;exact this
theorem rO {k : Nat} (h : k < 27 + n) (i : In) (e : df n f k = i) : (aj n f).getD k ai = i := (mW k h).trans e
theorem DT {id : Nat} (h : 22 ≤ id ∧ id < 24 + n) (hs : ∀ j, j < n → 24 + j = id → (f j).ty = 3) (hk : bu n f) : ((aj n f).getD (mX id) ai).ty = 3 ∧ ((aj n f).getD (mX id) ai).op ≠ 54 := by
 have hm : mX id = id - 1 := by unfold mX; rw [if_neg (by omega)]
 rw [hm];by_cases h1 : id < 24
 ·have : id = 22 ∨ id = 23 := by omega
  rcases this with rfl | rfl
  ·rw [rO (by omega) _ (aI (by omega))]; exact ⟨rfl, by decide⟩
  ·rw [rO (by omega) _ (aI (by omega))]; exact ⟨rfl, by decide⟩
 ·rw [rO (by omega) _ (dY (j := id - 24) (by omega) (by omega))]
  exact ⟨hs _ (by omega) (by omega), eT (hk.op _ (by omega)) 54 (by decide)⟩
structure Na (n : Nat) (f : Nat → Ln) (kb : Nat) : Prop where
 le : kb ≤ 27 + n
 good : ∀ j, j < n → 23 + j < kb → (f j).ty = 3
 bad : kb < 27 + n → ∃ j, j < n ∧ kb = 23 + j ∧ (f j).ty = 5
theorem fH {W : World} {a : Option Addr} {l : List Ag} (h : Sl 3 cz W a l) (h0 : 0 < l.length) : ∃ b o, a = some ⟨b, o, none⟩ ∧ ∀ j (hj : j < l.length), W.cell? ⟨b, o + j * 3, none⟩ = some (.int .u8 l[j].kind) ∧ W.cell? ⟨b, o + j * 3 + 1, none⟩ = some (.int .u32 l[j].n) ∧ W.cell? ⟨b, o + j * 3 + 2, none⟩ = some (.string l[j].s) := by
 obtain ⟨b, o, e, _, hc⟩ := h.at_ h0;exact ⟨b, o, e, fun j hj => ⟨(hc j hj).kind, (hc j hj).n, (hc j hj).s⟩⟩
theorem EW : ((List.range 15).all fun k => !((ax.getD k ai).op == 59) && !((aS (ax.getD k ai).op).part == 8)) = true := by kernel_rfl
theorem Ji : ([54, 56, 61, 62, 248, 253, 128, 130, 132, 134, 135, 137, 138, 139, 194, 195, 196, 197, 198, 199].all fun op => !(op == 59) && !(op == 54 && false) && ((aS op).part == 8)) = true := by kernel_rfl
theorem iG {op : Nat} (h : op ∈ [54, 56, 61, 62, 248, 253, 128, 130, 132, 134, 135, 137, 138, 139, 194, 195, 196, 197, 198, 199]) (ty res : Nat) (v : Value) (w : World) : Qc 311 #[.agg #[.int .u16 op, .int .u32 ty, .int .u32 res, v]] w (.bool true) := by
 have := List.all_eq_true.1 Ji op h;simp only [Bool.and_eq_true, Bool.not_eq_true', beq_eq_false_iff_ne] at this;exact oF op ty res v true this.1.1 this.2 w
theorem stab2 : fG 2 = some ⟨8, 0, 0, false, 0, 0, 0, [1]⟩ := rfl
theorem Nh : fG 6 = some ⟨7, 0, 0, false, 1, 0, 0, [3]⟩ := rfl
theorem stab7 : fG 7 = some ⟨7, 0, 0, false, 3, 0, 0, [3]⟩ := rfl
theorem stab8 : fG 8 = some ⟨7, 0, 0, false, 3, 0, 0, [5]⟩ := rfl
theorem vZ (hs : bu n f) : ∀ k, 20 ≤ k → k ≤ 27 + n → lT (aj n f) k = 1
 | 0, h, _ => by omega
 | k + 1, h, hk => by
  by_cases e : k = 19
  ·subst e
   have : (aj n f).getD 19 ai = ax.getD 19 ai := bK (by omega);simp only [lT, this];rfl
  ·have hk2 : k < (aj n f).length := by rw [ak]; omega
   have h1 : (aj n f).getD k ai = (aj n f)[k] := getD_at _ hk2;have h2 : (aj n f)[k].op ≠ 54 := by
    rw [aF];by_cases a : k < 23
    ·rw [aI a]
     have h3 : k = 20 ∨ k = 21 ∨ k = 22 := by omega
     rcases h3 with rfl | rfl | rfl <;> decide
    ·by_cases c : k < 23 + n
     ·rw [dY (j := k - 23) (by omega) (by omega)]
      exact eT (hs.op _ (by omega)) 54 (by decide)
     ·obtain ⟨j, hj⟩ : ∃ j, k = 23 + n + j := ⟨k - (23 + n), by omega⟩
      have h4 : j = 0 ∨ j = 1 ∨ j = 2 ∨ j = 3 := by omega
      rw [bI hj];rcases h4 with rfl | rfl | rfl | rfl
      ·exact (by decide : (62 : Nat) ≠ 54)
      ·exact (by decide : (62 : Nat) ≠ 54)
      ·exact (by decide : (253 : Nat) ≠ 54)
      ·exact (by decide : (56 : Nat) ≠ 54)
   simp only [lT, h1, if_neg h2];exact vZ hs k (by omega) (by omega)
theorem KW {K T mk b o cap back : Nat} {l : List In} {sv : Nat → Option Addr × Nat} {fm : Nat → Option Nat} {w : World} (h : uz K T mk b o cap back l sv fm fG w) {ty : Nat} (ht : ty = 3 ∨ ty = 5) : Qc 392 #[.pointer (some ⟨K, 0, none⟩), .int .u32 ty] w (.bool true) := by
 rcases ht with rfl | rfl
 ·exact rZ (K := K) (w := w) 3 _ rfl (fun W hb => wS (h.below hb) 3 (by decide))
 ·exact rZ (K := K) (w := w) 5 _ rfl (fun W hb => Cy (h.below hb) 5 rfl ⟨by decide, by decide⟩ (by decide))
theorem yw {lo T : Nat} {w : World} (h : dX lo T fG w) {ty : Nat} (ht : ty = 3 ∨ ty = 5) : Qc 431 #[.pointer (some ⟨T, 0, none⟩), .int .u32 ty, .int .u32 3] w (.bool (decide (ty = 3))) := by
 rcases ht with rfl | rfl
 ·exact Dy h 3 3 (by decide) rfl rfl rfl rfl rfl ⟨by decide, by decide⟩
 ·exact FE h 5 3 (by decide) (by decide)
theorem Ip (hs : bu n f) {kb : Nat} (hb : Na n f kb) {b o cap : Nat} {sv : Nat → Option Addr × Nat} (hcap : (aj n f).length ≤ cap) : ∀ k (h : k < (aj n f).length), k ≤ kb → ∀ K T mk W, uz K T mk b o cap (lT (aj n f) (k + 1)) (aj n f) sv (BG (aj n f) (aj n f).length) fG W →
  Qc 275 #[.pointer (some ⟨K, 0, none⟩), .int .i64 k] W (.bool (decide (k < kb))) := by
 intro k hk hkb K T mk W hC;have hk2 : k < 27 + n := by rw [ak] at hk; exact hk
 have hsl := hC.ms.sl k hk;have hkb2 := hb.le;by_cases a : k < 23
 ·have hlt : k < kb := by
   rcases Nat.lt_or_ge kb (27 + n) with q | q
   ·obtain ⟨j, h1, h2, h3⟩ := hb.bad q; omega
   ·omega
  rw [decide_eq_true hlt];have e : (aj n f)[k] = ax.getD k ai := by rw [aF, aI a]
  by_cases c : k < 15
  ·have hf := List.all_eq_true.1 EW k (List.mem_range.2 c)
   simp only [Bool.and_eq_true, Bool.not_eq_true', beq_eq_false_iff_ne] at hf;exact ji hC k hk (fun W2 h2 => by rw [e]; exact oF _ _ _ _ false hf.1 (by simpa using hf.2) W2)
  ·rw [e] at hsl
   have hk3 : k = 15 ∨ k = 16 ∨ k = 17 ∨ k = 18 ∨ k = 19 ∨ k = 20 ∨ k = 21 ∨ k = 22 := by omega
   rcases hk3 with rfl | rfl | rfl | rfl | rfl | rfl | rfl | rfl
   ·obtain ⟨ab, ao, ea, hc⟩ := fH hsl (by decide)
    have q := (hc 0 (by decide)).2.1;refine ji hC 15 hk (fun W2 h2 => ?_);rw [e]
    show Calls _ _ #[.agg #[.int .u16 59, .int .u32 6, .int .u32 10, .slice (sv 15).1 1 (sv 15).2]] _ _
    rw [ea];exact jU 6 10 ab ao (sv 15).2 1 W2 (by decide) (ae q (block_lt_of_cell q) h2)
   ·obtain ⟨ab, ao, ea, hc⟩ := fH hsl (by decide)
    have q := (hc 0 (by decide)).2.1;refine ji hC 16 hk (fun W2 h2 => ?_);rw [e]
    show Calls _ _ #[.agg #[.int .u16 59, .int .u32 6, .int .u32 11, .slice (sv 16).1 1 (sv 16).2]] _ _
    rw [ea];exact jU 6 11 ab ao (sv 16).2 1 W2 (by decide) (ae q (block_lt_of_cell q) h2)
   ·obtain ⟨ab, ao, ea, hc⟩ := fH hsl (by decide)
    have q := (hc 0 (by decide)).2.1;refine ji hC 17 hk (fun W2 h2 => ?_);rw [e]
    show Calls _ _ #[.agg #[.int .u16 59, .int .u32 7, .int .u32 12, .slice (sv 17).1 1 (sv 17).2]] _ _
    rw [ea];exact jU 7 12 ab ao (sv 17).2 3 W2 (by decide) (ae q (block_lt_of_cell q) h2)
   ·obtain ⟨ab, ao, ea, hc⟩ := fH hsl (by decide)
    have q := (hc 0 (by decide)).2.1;refine ji hC 18 hk (fun W2 h2 => ?_);rw [e]
    show Calls _ _ #[.agg #[.int .u16 59, .int .u32 8, .int .u32 13, .slice (sv 18).1 1 (sv 18).2]] _ _
    rw [ea];exact jU 8 13 ab ao (sv 18).2 3 W2 (by decide) (ae q (block_lt_of_cell q) h2)
   ·obtain ⟨ab, ao, ea, hc⟩ := fH hsl (by decide)
    have q := (hc 1 (by decide)).2.1;have h20 : 19 + 1 < (aj n f).length := by rw [ak]; omega
    refine FU hC 19 hk (by rw [e]; rfl) (fun W2 h2 => ?_) (fun W2 h2 => ?_)
    ·rw [e]; exact iG (by decide) _ _ _ W2
    ·rw [e]
     show Calls _ _ #[_, .agg #[.int .u16 54, .int .u32 1, .int .u32 20, .slice (sv 19).1 2 (sv 19).2], _] _ _
     rw [ea];exact CO (hC.below h2) 19 1 20 ab ao (sv 19).2 2 _ hcap (by rw [ak]; have := hs.small; omega) h20 (by rw [aF, aI (by omega)]; decide) (ae q (block_lt_of_cell q) h2) stab2 rfl rfl rfl
   ·exact uy hC 20 hk (by rw [e]; decide) (fun W2 h2 => by rw [e]; exact iG (by decide) _ _ _ W2) (fun W2 h2 => by rw [e]; exact iV K 248 .nilFunc (by simp) W2)
   ·obtain ⟨ab, ao, ea, hc⟩ := fH hsl (by decide)
    have q := (hc 0 (by decide)).2.1;have g1 : (aj n f).getD 15 ai = ax.getD 15 ai := bK (by omega);refine gJ hC 21 400 true hk (by rw [e]; decide) (hF := .inr (.inl rfl)) (fun W2 h2 => by rw [e]; exact iG (by decide) _ _ _ W2) (fun W2 h2 => by rw [e]; exact iV K 61 _ (.inl ⟨rfl, rfl⟩) W2) (fun W2 h2 => ?_);rw [e]
    show Calls _ _ #[_, .agg #[.int .u16 61, .int .u32 3, .int .u32 22, .slice (sv 21).1 1 (sv 21).2]] _ _
    rw [ea];exact tJ (hC.below h2) 3 22 ab ao (sv 21).2 10 15 _ (ae q (block_lt_of_cell q) h2) (lK (n := n) (f := f) (id := 10) (by omega)) (by rw [g1]; decide) (by rw [g1]; exact Nh) rfl rfl rfl (by decide)
   ·obtain ⟨ab, ao, ea, hc⟩ := fH hsl (by decide)
    have q := (hc 0 (by decide)).2.1;have g1 : (aj n f).getD 16 ai = ax.getD 16 ai := bK (by omega);refine gJ hC 22 400 true hk (by rw [e]; decide) (hF := .inr (.inl rfl)) (fun W2 h2 => by rw [e]; exact iG (by decide) _ _ _ W2) (fun W2 h2 => by rw [e]; exact iV K 61 _ (.inl ⟨rfl, rfl⟩) W2) (fun W2 h2 => ?_);rw [e]
    show Calls _ _ #[_, .agg #[.int .u16 61, .int .u32 3, .int .u32 23, .slice (sv 22).1 1 (sv 22).2]] _ _
    rw [ea];exact tJ (hC.below h2) 3 23 ab ao (sv 22).2 11 16 _ (ae q (block_lt_of_cell q) h2) (lK (n := n) (f := f) (id := 11) (by omega)) (by rw [g1]; decide) (by rw [g1]; exact Nh) rfl rfl rfl (by decide)
 ·by_cases c : k < 23 + n
  ·obtain ⟨j, rfl⟩ : ∃ j, k = 23 + j := ⟨k - 23, by omega⟩
   have hj : j < n := by omega
   have e : (aj n f)[23 + j] = dZ j (f j) := by rw [aF, dY hj rfl]
   rw [e] at hsl;obtain ⟨ab, ao, ea, hc⟩ := fH hsl (by simp [dZ]);have q0 := hc 0 (by simp [dZ]);have q1 := hc 1 (by simp [dZ]);simp only [dZ, List.getElem_cons_zero, List.getElem_cons_succ, eU, Nat.zero_mul, Nat.add_zero, Nat.one_mul] at q0 q1;have hty := hs.ty j hj;have hop := hs.op j hj;have hx := hs.x j hj;have hy := hs.y j hj;have h3 : decide ((f j).ty = 3) = decide (23 + j < kb) := by
    rcases Nat.lt_or_ge (23 + j) kb with q | q
    ·rw [decide_eq_true q, decide_eq_true (hb.good j hj q)]
    ·obtain ⟨j2, h1, h2, h5⟩ := hb.bad (by omega)
     have : j = j2 := by omega
     subst this;rw [decide_eq_false (by omega), decide_eq_false (by omega)]
   have tx := DT (f := f) (n := n) (id := (f j).x) (by omega) (fun j2 hj2 e2 => hb.good j2 hj2 (by omega)) hs;have ty := DT (f := f) (n := n) (id := (f j).y) (by omega) (fun j2 hj2 e2 => hb.good j2 hj2 (by omega)) hs;have fx := lK (n := n) (f := f) (id := (f j).x) (by omega);have fy := lK (n := n) (f := f) (id := (f j).y) (by omega);have hmem : (f j).op ∈ [54, 56, 61, 62, 248, 253, 128, 130, 132, 134, 135, 137, 138, 139, 194, 195, 196, 197, 198, 199] := List.mem_append_right [54, 56, 61, 62, 248, 253] (dn hop);rw [← h3];refine gJ hC (23 + j) 360 _ hk (by rw [e]; exact eT hop 54 (by decide)) (hF := .inl rfl) (fun W2 h2 => by rw [e]; exact iG hmem _ _ _ W2) (fun W2 h2 => ?_) (fun W2 h2 => ?_)
   ·rw [e]
    have := qE K (f j).op (.inl hop) W2;unfold Nt at this;rw [if_neg (eT hop 61 (by decide)), if_neg (eT hop 62 (by decide)), if_neg (eT hop 253 (by decide)), if_neg (fun q => q.elim (eT hop 56 (by decide)) (eT hop 248 (by decide)))] at this;exact this
   ·rw [e]
    show Calls _ _ #[_, .agg #[.int .u16 (f j).op, .int .u32 (f j).ty, .int .u32 (24 + j : Nat), .slice (sv (23 + j)).1 2 (sv (23 + j)).2]] _ _
    rw [ea];have hD := hC.below h2;have two : Two ab ao (f j).x (f j).y W2 := ⟨ae q0.1 (block_lt_of_cell q0.1) h2, ae q0.2.1 (block_lt_of_cell q0.2.1) h2, ae q0.2.2 (block_lt_of_cell q0.2.2) h2, ae q1.1 (block_lt_of_cell q1.1) h2, ae q1.2.1 (block_lt_of_cell q1.2.1) h2, ae q1.2.2 (block_lt_of_cell q1.2.2) h2⟩;refine Am (K := K) (w := W2) _ (f j).op (f j).ty (24 + j) ab ao (sv (23 + j)).2 (fun W3 h4 => KW (hD.below h4) hty) (fun W3 h4 => ?_);refine Bb _ (hD.below h4) ab ao _ (f j).x (f j).y _ _ (f j).ty (two.below h4) fx fy tx.2 ty.2 (fun W4 h5 => ?_) (fun W4 h5 => ?_)
    ·rw [tx.1]
     obtain ⟨lo, hT⟩ := ((hD.below h4).below h5).tb;exact yw hT hty
    ·rw [ty.1]
     obtain ⟨lo, hT⟩ := ((hD.below h4).below h5).tb;exact yw hT hty
  ·have hall : kb = 27 + n := by
    rcases Nat.lt_or_ge kb (27 + n) with q | q
    ·obtain ⟨j, h1, h2, h3⟩ := hb.bad q; omega
    ·omega
   subst hall;rw [decide_eq_true hk2];obtain ⟨j, rfl⟩ : ∃ j, k = 23 + n + j := ⟨k - (23 + n), by omega⟩;have hj4 : j = 0 ∨ j = 1 ∨ j = 2 ∨ j = 3 := by omega
   have e : (aj n f)[23 + n + j] = (bQ n).getD j ai := by rw [aF, bI rfl]
   rw [e] at hsl;rcases hj4 with rfl | rfl | rfl | rfl
   ·obtain ⟨ab, ao, ea, hc⟩ := fH hsl (by simp [bQ])
    have q0 := (hc 0 (by simp [bQ])).2.1;have q1 := (hc 1 (by simp [bQ])).2.1;have g1 : (aj n f).getD 17 ai = ax.getD 17 ai := bK (by omega);have ty := DT (f := f) (n := n) (id := 23 + n) (by omega) (fun j2 hj2 e2 => hb.good j2 hj2 (by omega)) hs;refine gJ hC (23 + n + 0) 401 true hk (by rw [e]; exact (by decide : (62 : Nat) ≠ 54)) (hF := .inr (.inr (.inl rfl))) (fun W2 h2 => by rw [e]; exact iG (op := 62) (by decide) _ _ _ W2) (fun W2 h2 => by rw [e]; exact iV K 62 _ (.inr (.inl ⟨rfl, rfl⟩)) W2) (fun W2 h2 => ?_);rw [e]
    show Calls _ _ #[_, .agg #[.int .u16 62, .int .u32 (0 : Nat), .int .u32 (0 : Nat), .slice (sv (23 + n + 0)).1 2 (sv (23 + n + 0)).2]] _ _
    rw [ea];exact qx (hC.below h2) 0 0 ab ao (sv (23 + n + 0)).2 12 (23 + n) 17 (mX (23 + n)) _ (ae q0 (block_lt_of_cell q0) h2) (ae q1 (block_lt_of_cell q1) h2) (lK (n := n) (f := f) (id := 12) (by omega)) (lK (n := n) (f := f) (id := 23 + n) (by omega)) (by rw [g1]; decide) ty.2 (by rw [g1]; exact stab7) rfl rfl (by rw [ty.1]) (by rw [ty.1]; decide) (by decide)
   ·obtain ⟨ab, ao, ea, hc⟩ := fH hsl (by simp [bQ])
    have q0 := (hc 0 (by simp [bQ])).2.1;have q1 := (hc 1 (by simp [bQ])).2.1;have g1 : (aj n f).getD 18 ai = ax.getD 18 ai := bK (by omega);have g2 : (aj n f).getD 14 ai = ax.getD 14 ai := bK (by omega);refine gJ hC (23 + n + 1) 401 true hk (by rw [e]; exact (by decide : (62 : Nat) ≠ 54)) (hF := .inr (.inr (.inl rfl))) (fun W2 h2 => by rw [e]; exact iG (op := 62) (by decide) _ _ _ W2) (fun W2 h2 => by rw [e]; exact iV K 62 _ (.inr (.inl ⟨rfl, rfl⟩)) W2) (fun W2 h2 => ?_);rw [e]
    show Calls _ _ #[_, .agg #[.int .u16 62, .int .u32 (0 : Nat), .int .u32 (0 : Nat), .slice (sv (23 + n + 1)).1 2 (sv (23 + n + 1)).2]] _ _
    rw [ea];exact qx (hC.below h2) 0 0 ab ao (sv (23 + n + 1)).2 13 9 18 14 _ (ae q0 (block_lt_of_cell q0) h2) (ae q1 (block_lt_of_cell q1) h2) (lK (n := n) (f := f) (id := 13) (by omega)) (lK (n := n) (f := f) (id := 9) (by omega)) (by rw [g1]; decide) (by rw [g2]; decide) (by rw [g1]; exact stab8) rfl rfl (by rw [g2]; rfl) (by rw [g2]; decide) (by decide)
   ·refine gJ hC (23 + n + 2) 364 true hk (by rw [e]; exact (by decide : (253 : Nat) ≠ 54)) (hF := .inr (.inr (.inr rfl))) (fun W2 h2 => by rw [e]; exact iG (op := 253) (by decide) _ _ _ W2) (fun W2 h2 => by rw [e]; exact qE K 253 (.inr rfl) W2) (fun W2 h2 => ?_)
    rw [e];exact xI (hC.below h2) (_, _, _, _) (by rw [vZ hs _ (by omega) (by omega)]; rfl)
   ·exact uy hC (23 + n + 3) hk (by rw [e]; exact (by decide : (56 : Nat) ≠ 54)) (fun W2 h2 => by rw [e]; exact iG (op := 56) (by decide) _ _ _ W2) (fun W2 h2 => by rw [e]; exact iV K 56 .nilFunc (by simp) W2)
end
end Go.Proofs.YtlkolghiknbbfaaGreatDoor
