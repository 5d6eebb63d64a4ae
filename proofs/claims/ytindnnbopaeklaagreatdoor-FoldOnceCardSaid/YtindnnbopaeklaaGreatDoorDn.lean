/- The law's module, as data: its types, numbers, end, flow; what is made of it. -/
import Derived.Test.YtindnnbopaeklaaGreatDoorDl
import Derived.Test.YtindnnbopaeklaaGreatDoorDc
import Derived.Test.YtindnnbopaeklaaGreatDoorAu
import Derived.Test.YtindnnbopaeklaaGreatDoorBp
import Derived.Test.YtindnnbopaeklaaGreatDoorDk
import Derived.Test.YtindnnbopaeklaaGreatDoorBe
import Derived.Test.YtindnnbopaeklaaGreatDoorBf
namespace Go.Proofs.YtindnnbopaeklaaGreatDoor
set_option linter.unusedVariables false
set_option linter.unusedSimpArgs false
set_option maxRecDepth 100000
set_option maxHeartbeats 1000000
open Go.RowKit
def intD : TyD := ⟨3, 1, 1, false, 0, 0, 0, []⟩
def fnD : TyD := ⟨8, 0, 0, false, 0, 0, 0, [1]⟩
def dC (k : Nat) : Option TyD := [none, some intD, some fnD].getD k none
def tabC : Nat → Option TyD := kup (kup (fun _ => none) 1 intD) 2 fnD
def vC (a b k : Nat) : Option Nat := if k = 3 then some a else if k = 4 then some b else none
theorem dC_late {k : Nat} (h : 3 ≤ k) : dC k = none := by unfold dC; rw [List.getD_eq_getElem?_getD, List.getElem?_eq_none (by simpa using h)]; rfl
theorem isTwo_not {op : Nat} (h : isTwo op = true) (x : Nat) (hx : isTwo x = false) : op ≠ x := fun e => by subst e; rw [h] at hx; cases hx
section
variable {op a b : Nat}
theorem cst_ne (x : Nat) (h2 : isTwo x = false) (hx : (restL.all fun i => !(i.op == x)) = true) (h43 : 43 ≠ x) (h : isTwo op = true) : ∀ k (hk : k < (cstL op a b).length), (cstL op a b)[k].op ≠ x := fun k hk => by
 have hr : ∀ j ∈ restL, j.op ≠ x := fun j hj => by simpa using List.all_eq_true.1 hx j hj
 have H : ∀ i ∈ cstL op a b, i.op ≠ x := fun i hi => by
  simp only [cstL, List.mem_cons, List.not_mem_nil, or_false] at hi
  rcases hi with rfl | rfl | rfl | rfl | rfl | rfl | rfl | rfl | rfl | rfl
  ·exact hr _ (by simp [restL])
  ·exact hr _ (by simp [restL])
  ·exact hr _ (by simp [restL])
  ·exact h43
  ·exact h43
  ·exact hr _ (by simp [restL])
  ·exact hr _ (by simp [restL])
  ·exact isTwo_not h x h2
  ·exact hr _ (by simp [restL])
  ·exact hr _ (by simp [restL])
 exact H _ (List.getElem_mem hk)
theorem two_ty : (twoOps.all fun op => !isTyOp op) = true := by kernel_rfl
theorem cst_tab : tabK (cstL op a b) dC (cstL op a b).length = tabC := by kernel_rfl
theorem cst_oneD (h : isTwo op = true) : ∀ k, k < 10 → OneD (tabK (cstL op a b) dC k) ((cstL op a b).getD k noIn) (dC k) := fun k hk => by
 have hs : (getD_ (tabK (cstL op a b) dC 2) 1).size = 1 := by kernel_rfl
 have h2 := List.all_eq_true.1 two_ty op (isTwo_mem h)
 rw [Bool.not_eq_true'] at h2
 rcases k with _ | _ | _ | _ | _ | _ | _ | _ | _ | _ | k
 ·exact .other _ rfl
 ·exact .int 0 1 (aN 32) (aN 0) rfl (by decide)
 ·exact .fn 0 2 (aI 1) (.inr (Nat.lt_of_lt_of_eq Nat.zero_lt_one hs.symm)) (.inr (Nat.lt_of_lt_of_eq Nat.zero_lt_one hs.symm))
 ·exact .other _ rfl
 ·exact .other _ rfl
 ·exact .other _ rfl
 ·exact .other _ rfl
 ·exact .other _ h2
 ·exact .other _ rfl
 ·exact .other _ rfl
 ·omega
theorem cst_fresh : ((List.range 3).all fun k => (dC k).isNone || ((seenK (cstL op a b) dC k (keyOf ((cstL op a b).getD k noIn))).isNone && decide (((cstL op a b).getD k noIn).op < 100) && decide (((cstL op a b).getD k noIn).op ≠ 28) && decide (((cstL op a b).getD k noIn).op ≠ 30) && ((cstL op a b).getD k noIn).args.all fun a => decide (a.n < 100))) = true := by kernel_rfl
theorem cst_types (h : isTwo op = true) : TypesOk (cstL op a b) dC := by
 have hq : ∀ k, dC k ≠ none → k < 3 := fun k h => Nat.lt_of_not_le fun e => h (dC_late e)
 have hf : ∀ k, dC k ≠ none → _ := fun k h => (Bool.or_eq_true _ _ ▸ List.all_eq_true.1 (cst_fresh (op := op) (a := a) (b := b)) k (List.mem_range.2 (hq k h))).resolve_left (by simpa using h)
 simp only [Bool.and_eq_true, decide_eq_true_eq, List.all_eq_true, Option.isNone_iff_eq_none] at hf
 refine ⟨fun k hk => ?_, fun k hk hd => ?_, fun k hk hd => ?_⟩
 ·rw [← getD_at _ hk]
  exact cst_oneD h k hk
 ·rw [← getD_at _ hk]
  exact (hf k hd).1.1.1.1
 ·have h2 := hf k hd
  rw [getD_at _ hk] at h2
  exact ⟨h2.1.1.1.2, h2.1.1.2, h2.1.2, fun j hj => h2.2 _ (List.getElem_mem hj)⟩
theorem cst_nums : NumsOk (cstL op a b) tC (tabK (cstL op a b) dC (cstL op a b).length) (vC a b) := by
 rw [cst_tab]
 refine ⟨fun k h => ?_, fun k hk h1 h2 => ?_⟩
 ·have h' : k < 1 := h
  unfold vC
  rw [if_neg (by omega), if_neg (by omega)]
 ·have h1' : 1 ≤ k := h1
  have h2' : k < 5 := h2
  rw [← getD_at _ hk]
  clear h1 h2 hk
  rcases (show k = 1 ∨ k = 2 ∨ k = 3 ∨ k = 4 by omega) with rfl | rfl | rfl | rfl
  ·exact .other _ (show (21 : Nat) ∉ _ by decide)
  ·exact .other _ (show (33 : Nat) ∉ _ by decide)
  ·exact .num 1 3 (aN a) rfl
  ·exact .num 1 4 (aN b) rfl
def cvC (op a b : Nat) : Nat → Option (Nat × Nat) := cvK (cstL op a b) (vC a b) (tC 8)
theorem cvC_3 : cvC op a b 3 = some (1, a) := by kernel_rfl
theorem cvC_4 : cvC op a b 4 = some (1, b) := by kernel_rfl
theorem idC : idK (cstL op a b) (vC a b) (tC 8) = [3, 4] := by kernel_rfl
theorem cst_ends (h : isTwo op = true) : EndsSo (cstL op a b) 8 :=
 ⟨fun h => rfl, fun h => ⟨_, rfl⟩, fun h' => ⟨isTwo_not h 246 rfl, isTwo_not h 247 rfl⟩⟩
theorem cst_may : ((List.range 10).all fun k => decide (k < 6) || (idsOf ((cstL op a b).getD k noIn)).all fun id => match hmF (cstL op a b) 6 6 2 id with | none => true | some x => x.lab || decide (x.at_ < k)) = true := by kernel_rfl
theorem cst_flow : ∀ k (hk : k < (cstL op a b).length), tC 8 + 1 ≤ k → k < 8 + 1 → ∀ id ∈ idsOf (cstL op a b)[k], MayOk (hmF (cstL op a b) ((cstL op a b).getD (tC 8 + 1) noIn).res (tC 8 + 1) (8 + 1 - (tC 8 + 1 + 1))) id k := by
 intro k hk h6 h9 id hid x hx
 have h6 : 6 ≤ k := h6
 have hx : hmF (cstL op a b) 6 6 2 id = some x := hx
 have h1 := List.all_eq_true.1 (cst_may (op := op) (a := a) (b := b)) k (List.mem_range.2 hk)
 rw [getD_at _ hk, Bool.or_eq_true, decide_eq_true_eq] at h1
 have h2 := List.all_eq_true.1 (h1.resolve_left (by omega)) id hid
 rw [hx] at h2
 simpa using h2
def outC (there : Bool) (r z a b : Nat) : List In := [⟨14, 0, 0, [aE 0, aE 0]⟩, ⟨21, 0, 1, [aN 32, aN 0]⟩, ⟨33, 0, 2, [aI 1]⟩, ⟨43, 1, 3, [aN a]⟩, ⟨43, 1, 4, [aN b]⟩] ++ madeL there 1 r z ++ [⟨54, 1, 5, [aE 0, aI 2]⟩, ⟨248, 0, 6, []⟩, ⟨254, 0, 0, [aI r]⟩, ⟨56, 0, 0, []⟩]
theorem out_is (there : Bool) (r z : Nat) : outL (cstL op a b) (madeL there 1 r z) r (cstL op a b).length = outC there r z a b := by cases there <;> kernel_rfl
end
theorem out_raw {there : Bool} {r z a b : Nat} (hr : there = true → r = 3 ∨ r = 4) (hf : there = false → r = 20) : ∀ i ∈ outC there r z a b, rawGd i (20 + (madeL there 1 r z).length) = true := by
 have hq : ∀ j ∈ restL, rawGd j 20 = true ∧ rawGd j 21 = true := fun j hj => by
  have := List.all_eq_true.1 raw_rest j hj
  simpa only [Bool.and_eq_true] using this
 cases there with
 | true =>
  intro i hi
  show rawGd i 20 = true
  have hb : rawGd ⟨254, 0, 0, [aI r]⟩ 20 = true := List.all_eq_true.1 raw_back' r (by rcases hr rfl with rfl | rfl <;> simp)
  simp only [outC, madeL, if_true, List.append_nil, List.cons_append, List.nil_append, List.mem_cons, List.not_mem_nil, or_false] at hi
  rcases hi with rfl | rfl | rfl | rfl | rfl | rfl | rfl | rfl | rfl
  ·exact (hq _ (by simp [restL])).1
  ·exact (hq _ (by simp [restL])).1
  ·exact (hq _ (by simp [restL])).1
  ·exact raw_3 a
  ·exact raw_4 b
  ·exact (hq _ (by simp [restL])).1
  ·exact (hq _ (by simp [restL])).1
  ·exact hb
  ·exact (hq _ (by simp [restL])).1
 | false =>
  obtain rfl := hf rfl
  intro i hi
  show rawGd i 21 = true
  have hb : rawGd ⟨254, 0, 0, [aI 20]⟩ 21 = true := List.all_eq_true.1 raw_back 20 (by simp)
  simp only [outC, madeL, Bool.false_eq_true, if_false, List.cons_append, List.nil_append, List.mem_cons, List.not_mem_nil, or_false] at hi
  rcases hi with rfl | rfl | rfl | rfl | rfl | rfl | rfl | rfl | rfl | rfl
  ·exact (hq _ (by simp [restL])).2
  ·exact (hq _ (by simp [restL])).2
  ·exact (hq _ (by simp [restL])).2
  ·exact raw_3' a
  ·exact raw_4' b
  ·exact raw_20 z
  ·exact (hq _ (by simp [restL])).2
  ·exact (hq _ (by simp [restL])).2
  ·exact hb
  ·exact (hq _ (by simp [restL])).2
theorem out_len (there : Bool) (r z a b : Nat) : (outC there r z a b).length = 9 + (madeL there 1 r z).length ∧ (madeL there 1 r z).length ≤ 1 := by
 cases there
 ·exact ⟨rfl, Nat.le_refl 1⟩
 ·exact ⟨rfl, Nat.zero_le 1⟩
theorem out_sound {there : Bool} {r z a b : Nat} (hr : there = true → r = 3 ∨ r = 4) (hf : there = false → r = 20) : Sound (20 + (madeL there 1 r z).length) (outC there r z a b) := by
 have hg := out_raw (a := a) (b := b) (z := z) hr hf
 obtain ⟨h1, h2⟩ := out_len there r z a b
 refine ⟨by omega, by omega, by omega, fun k hk => (rawGd_out (hg _ (List.getElem_mem hk))).1, ?_⟩
 have := words_le (fun i hi => (rawGd_out (hg i hi)).2) (outC there r z a b).length (Nat.le_refl _)
 omega
theorem out_fit {there : Bool} {r z a b : Nat} (hr : r < 4294967296) (hz : z < 4294967296) (ha : a < 4294967296) (hb : b < 4294967296) : ∀ k (hk : k < (outC there r z a b).length), InFit (outC there r z a b)[k] := fun k hk => by
 have hs : (⟨#[]⟩ : ByteArray).size = 0 := rfl
 have h : ∀ i ∈ outC there r z a b, InFit i := fun i hi => by
  have hm : i = ⟨43, 1, r, [⟨2, z, ⟨#[]⟩⟩]⟩ ∨ i ∈ [⟨14, 0, 0, [aE 0, aE 0]⟩, ⟨21, 0, 1, [aN 32, aN 0]⟩, ⟨33, 0, 2, [aI 1]⟩, ⟨43, 1, 3, [aN a]⟩, ⟨43, 1, 4, [aN b]⟩, ⟨54, 1, 5, [aE 0, aI 2]⟩, ⟨248, 0, 6, []⟩, ⟨254, 0, 0, [aI r]⟩, (⟨56, 0, 0, []⟩ : In)] := by
   cases there <;> simp [outC, madeL] at hi ⊢ <;> grind
  simp only [List.mem_cons, List.not_mem_nil, or_false] at hm
  rcases hm with rfl | rfl | rfl | rfl | rfl | rfl | rfl | rfl | rfl | rfl <;> refine ⟨?_, ?_, ?_, ?_, ?_⟩ <;> simp [aI, aN, aE, hs] <;> omega
 exact h _ (List.getElem_mem hk)
end Go.Proofs.YtindnnbopaeklaaGreatDoor
namespace Go.Proofs.YtindnnbopaeklaaGreatDoor
set_option linter.unusedVariables false
set_option linter.unusedSimpArgs false
set_option maxRecDepth 100000
set_option maxHeartbeats 4000000
open Go.RowKit
theorem sl_at {W : World} {a : Option Addr} {l : List Ag} (h : Sl 3 AgAt W a l) (h0 : 0 < l.length) : ∃ b o, a = some ⟨b, o, none⟩ ∧ ∀ j (hj : j < l.length), W.cell? ⟨b, o + j * 3, none⟩ = some (.int .u8 l[j].kind) ∧ W.cell? ⟨b, o + j * 3 + 1, none⟩ = some (.int .u32 l[j].n) ∧ W.cell? ⟨b, o + j * 3 + 2, none⟩ = some (.string l[j].s) := by
 obtain ⟨b, o, e, _, hc⟩ := h.at_ h0
 exact ⟨b, o, e, fun j hj => ⟨(hc j hj).kind, (hc j hj).n, (hc j hj).s⟩⟩
theorem cst_form (op a b : Nat) : ((List.range 5).all fun k => !(((cstL op a b).getD k noIn).op == 59) && !((formOf ((cstL op a b).getD k noIn).op).part == 8)) = true := by kernel_rfl
def askL : List Nat := [54, 56, 248, 254, 128, 130, 132, 134, 135, 137, 138, 139, 194, 195, 196, 197, 198, 199]
theorem ask_form : (askL.all fun op => !(op == 59) && ((formOf op).part == 8)) = true := by kernel_rfl
theorem ask_in {op : Nat} (h : op ∈ askL) (ty res : Nat) (v : Value) (w : World) : Calls Tryz.prog 257 #[.agg #[.int .u16 op, .int .u32 ty, .int .u32 res, v]] w fun e w' => e = .returned (.bool true) ∧ Below w.heap.size w w' := by
 have := List.all_eq_true.1 ask_form op h
 simp only [Bool.and_eq_true, Bool.not_eq_true', beq_eq_false_iff_ne] at this
 exact tyasked_form op ty res v true this.1 this.2 w
theorem nums_1 {K T mk b o cap back : Nat} {l : List In} {sv : Nat → Option Addr × Nat} {fm : Nat → Option Nat} {w : World} (h : Ckr K T mk b o cap back l sv fm tabC w) : Calls Tryz.prog 335 #[.pointer (some ⟨K, 0, none⟩), .int .u32 (1 : Nat)] w fun e w' => e = .returned (.bool true) ∧ Below w.heap.size w w' :=
 tynums_own (K := K) (w := w) 1 _ rfl (fun W hb => tyleaf_plain (h.below hb) 1 (by decide))
theorem alike_1 {lo T : Nat} {w : World} (h : TbIn lo T tabC w) : Calls Tryz.prog 386 #[.pointer (some ⟨T, 0, none⟩), .int .u32 (1 : Nat), .int .u32 (1 : Nat)] w fun e w' => e = .returned (.bool true) ∧ Below w.heap.size w w' :=
 alike_same h 1 1 (by decide) rfl rfl rfl rfl rfl ⟨by decide, by decide⟩
theorem back_9 {op x y : Nat} (h : isTwo op = true) : backK (cstL op x y) (8 + 1) = 1 := by
 have e7 : ¬ ((cstL op x y).getD 7 noIn).op = 54 := isTwo_not h 54 rfl
 have e8 : ¬ ((cstL op x y).getD 8 noIn).op = 54 := (by decide : ¬ (254 : Nat) = 54)
 show (if ((cstL op x y).getD 8 noIn).op = 54 then _ else backK (cstL op x y) 8) = 1
 rw [if_neg e8]
 show (if ((cstL op x y).getD 7 noIn).op = 54 then _ else backK (cstL op x y) 7) = 1
 rw [if_neg e7]
 kernel_rfl
theorem fm_3 (op x y : Nat) : fmF (cstL op x y) (cstL op x y).length 3 = some 3 := by kernel_rfl
theorem fm_4 (op x y : Nat) : fmF (cstL op x y) (cstL op x y).length 4 = some 4 := by kernel_rfl
theorem fm_7 (op x y : Nat) : fmF (cstL op x y) (cstL op x y).length 7 = some 7 := by kernel_rfl
theorem cst_fits {op x y : Nat} (h2 : isTwo op = true) {b o cap : Nat} {sv : Nat → Option Addr × Nat} (hcap : 10 ≤ cap) : ∀ k (h : k < (cstL op x y).length), ∀ K T mk W, Ckr K T mk b o cap (backK (cstL op x y) (k + 1)) (cstL op x y) sv (fmF (cstL op x y) (cstL op x y).length) tabC W →
  Calls Tryz.prog 224 #[.pointer (some ⟨K, 0, none⟩), .int .i64 k] W fun e w' => e = .returned (.bool true) ∧ Below W.heap.size W w' := by
 intro k hk K T mk W hC
 have hk2 : k < 10 := hk
 have hsl := hC.ms.sl k hk
 by_cases a : k < 5
 ·have hf := List.all_eq_true.1 (cst_form op x y) k (List.mem_range.2 a)
  simp only [Bool.and_eq_true, Bool.not_eq_true', beq_eq_false_iff_ne] at hf
  rw [getD_at _ hk] at hf
  exact tyfits_skip hC k hk (fun W2 h3 => tyasked_form _ _ _ _ false hf.1 (by simpa using hf.2) W2)
 ·rcases (show k = 5 ∨ k = 6 ∨ k = 7 ∨ k = 8 ∨ k = 9 by omega) with rfl | rfl | rfl | rfl | rfl
  ·have e : (cstL op x y)[5]'hk = ⟨54, 1, 5, [aE 0, aI 2]⟩ := rfl
   rw [e] at hsl
   obtain ⟨ab, ao, ea, hc⟩ := sl_at hsl (by decide)
   have q := (hc 1 (by decide)).2.1
   refine tyfits_fn hC 5 hk (by rw [e]) (fun W2 h3 => ?_) (fun W2 h3 => ?_)
   ·rw [e]; exact ask_in (op := 54) (by decide) _ _ _ W2
   ·rw [e]
    show Calls _ _ #[_, .agg #[.int .u16 54, .int .u32 (1 : Nat), .int .u32 (5 : Nat), .slice (sv 5).1 2 (sv 5).2], _] _ _
    rw [ea]
    exact tyfunc_own (hC.below h3) 5 1 5 ab ao (sv 5).2 2 fnD hcap (by show 10 ≤ 2000; omega) (by show 6 < 10; omega) (by show (248 : Nat) ≠ 55; decide) (cell_last q (block_lt_of_cell q) h3) rfl rfl rfl rfl
  ·have e : (cstL op x y)[6]'hk = ⟨248, 0, 6, []⟩ := rfl
   exact tyfits_nil hC 6 hk (by rw [e]; decide) (fun W2 h3 => by rw [e]; exact ask_in (op := 248) (by decide) _ _ _ W2) (fun W2 h3 => by rw [e]; exact tyasks_mem K 248 .nilFunc (by simp) W2)
  ·have e : (cstL op x y)[7]'hk = ⟨op, 1, 7, [aI 3, aI 4]⟩ := rfl
   rw [e] at hsl
   obtain ⟨ab, ao, ea, hc⟩ := sl_at hsl (by simp)
   have q0 := hc 0 (by simp)
   have q1 := hc 1 (by simp)
   simp only [List.getElem_cons_zero, List.getElem_cons_succ, aI, Nat.zero_mul, Nat.add_zero, Nat.one_mul] at q0 q1
   have hmem : op ∈ askL := List.mem_append_right [54, 56, 248, 254] (isTwo_mem h2)
   refine tyfits_call hC 7 293 true hk (by rw [e]; exact isTwo_not h2 54 rfl) (hF := .inl rfl) (fun W2 h3 => by rw [e]; exact ask_in hmem _ _ _ W2) (fun W2 h3 => ?_) (fun W2 h3 => ?_)
   ·rw [e]
    have := tyasks_line K op (.inl h2) W2
    unfold tyAsk at this
    rw [if_neg (isTwo_not h2 254 rfl), if_neg (fun q => q.elim (isTwo_not h2 56 rfl) (isTwo_not h2 248 rfl))] at this
    exact this
   ·rw [e]
    show Calls _ _ #[_, .agg #[.int .u16 op, .int .u32 (1 : Nat), .int .u32 (7 : Nat), .slice (sv 7).1 2 (sv 7).2]] _ _
    rw [ea]
    have hD := hC.below h3
    have two : Two ab ao 3 4 W2 := ⟨cell_last q0.1 (block_lt_of_cell q0.1) h3, cell_last q0.2.1 (block_lt_of_cell q0.2.1) h3, cell_last q0.2.2 (block_lt_of_cell q0.2.2) h3, cell_last q1.1 (block_lt_of_cell q1.1) h3, cell_last q1.2.1 (block_lt_of_cell q1.2.1) h3, cell_last q1.2.2 (block_lt_of_cell q1.2.2) h3⟩
    refine tyarith_own (K := K) (w := W2) true op 1 7 ab ao (sv 7).2 (fun W3 h4 => nums_1 (hD.below h4)) (fun W3 h4 => ?_)
    refine tyalike_own true (hD.below h4) ab ao _ 3 4 3 4 1 (two.below h4) (fm_3 op x y) (fm_4 op x y) (show (43 : Nat) ≠ 54 by decide) (show (43 : Nat) ≠ 54 by decide) (fun W4 h5 => ?_) (fun W4 h5 => ?_)
    ·obtain ⟨lo, hT⟩ := ((hD.below h4).below h5).tb
     exact alike_1 hT
    ·obtain ⟨lo, hT⟩ := ((hD.below h4).below h5).tb
     exact alike_1 hT
  ·have e : (cstL op x y)[8]'hk = ⟨254, 0, 0, [aI 7]⟩ := rfl
   rw [e] at hsl
   rw [back_9 h2] at hC
   obtain ⟨ab, ao, ea, hc⟩ := sl_at hsl (by decide)
   have q := (hc 0 (by decide)).2.1
   refine tyfits_call hC 8 298 true hk (by rw [e]; decide) (hF := .inr rfl) (fun W2 h3 => by rw [e]; exact ask_in (op := 254) (by decide) _ _ _ W2) (fun W2 h3 => by rw [e]; exact tyasks_line K 254 (.inr rfl) W2) (fun W2 h3 => ?_)
   rw [e]
   show Calls _ _ #[_, .agg #[.int .u16 254, .int .u32 (0 : Nat), .int .u32 (0 : Nat), .slice (sv 8).1 1 (sv 8).2]] _ _
   rw [ea]
   exact tygives_own (hC.below h3) 254 0 0 ab ao (sv 8).2 7 7 (by decide) (cell_last q (block_lt_of_cell q) h3) (fm_7 op x y) (isTwo_not h2 54 rfl) rfl
  ·have e : (cstL op x y)[9]'hk = ⟨56, 0, 0, []⟩ := rfl
   exact tyfits_nil hC 9 hk (by rw [e]; decide) (fun W2 h3 => by rw [e]; exact ask_in (op := 56) (by decide) _ _ _ W2) (fun W2 h3 => by rw [e]; exact tyasks_mem K 56 .nilFunc (by simp) W2)
end Go.Proofs.YtindnnbopaeklaaGreatDoor
