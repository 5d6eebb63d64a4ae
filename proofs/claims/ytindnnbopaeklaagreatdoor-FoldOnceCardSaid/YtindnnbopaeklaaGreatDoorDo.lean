/- The law's module: Which, Known, Module. -/
import Derived.Test.YtindnnbopaeklaaGreatDoorDn
import Derived.Test.YtindnnbopaeklaaGreatDoorBr
import Derived.Test.YtindnnbopaeklaaGreatDoorBs
import Derived.Test.YtindnnbopaeklaaGreatDoorBb
import Derived.Test.YtindnnbopaeklaaGreatDoorDm
namespace Go.Proofs.YtindnnbopaeklaaGreatDoor
set_option linter.unusedVariables false
set_option linter.unusedSimpArgs false
set_option maxRecDepth 100000
set_option maxHeartbeats 4000000
open Go.RowKit Go.MapKept
section
variable {op x y b o cap : Nat} {sv : Nat → Option Addr × Nat} {w : World}
theorem numsC (gen : Nat) (hM : Ms w b o (cstL op x y) sv) (h2 : isTwo op = true) :
  Calls Tryz.prog 53 #[.agg #[.int .u32 gen, .int .u32 (20 : Nat), .slice (some ⟨b, o, none⟩) (cstL op x y).length cap]] w fun r w' => (∃ P T, r = .returned (.tuple #[.pointer (some ⟨P, 0, none⟩), .agg #[.int .i64 0, .int .i64 0]]) ∧ PnIn w.heap.size P T tabC (cvC op x y) [3, 4] w') ∧ Below w.heap.size w w' := by
 have := nums_own gen 20 b o cap (cstL op x y) sv tC 8 dC (vC x y) w hM (cst_sound h2) (cst_one h2) (cst_ids op x y) (cst_types h2) cst_nums
 rw [cst_tab, idC] at this
 exact this
theorem constsC (gen : Nat) (hM : Ms w b o (cstL op x y) sv) (h2 : isTwo op = true) :
  Calls Tryz.prog 53 #[.agg #[.int .u32 gen, .int .u32 (20 : Nat), .slice (some ⟨b, o, none⟩) (cstL op x y).length cap]] w fun r w' => (∃ P T, r = .returned (.tuple #[.pointer (some ⟨P, 0, none⟩), .agg #[.int .i64 0, .int .i64 0]]) ∧ PlIn w.heap.size P T tabC (fun _ => none) w') ∧ Below w.heap.size w w' := by
 refine (numsC gen hM h2).mono ?_
 rintro e w' ⟨⟨P, T, rfl, h⟩, hb⟩
 exact ⟨⟨P, T, rfl, h.pl⟩, hb⟩
theorem callsC (gen : Nat) (hM : Ms w b o (cstL op x y) sv) (h2 : isTwo op = true) (hcap : 10 ≤ cap) :
  Calls Tryz.prog 173 #[.agg #[.int .u32 gen, .int .u32 (20 : Nat), .slice (some ⟨b, o, none⟩) (cstL op x y).length cap]] w fun r w' => (∃ C, r = .returned (.tuple #[.pointer (some ⟨C, 0, none⟩), .agg #[.int .i64 0, .int .i64 0]]) ∧ CaIn C w.heap.size w') ∧ Below w.heap.size w w' :=
 cnew_own gen 20 b o cap (cstL op x y) sv tC 8 w hM (cst_sound h2) (cst_one h2) (cst_ids op x y) hcap (cst_ne 57 rfl (by kernel_rfl) (by decide) h2)
theorem faceC (gen : Nat) (hM : Ms w b o (cstL op x y) sv) (h2 : isTwo op = true) (hcap : 10 ≤ cap) :
  Calls Tryz.prog 226 #[.agg #[.int .u32 gen, .int .u32 (20 : Nat), .slice (some ⟨b, o, none⟩) (cstL op x y).length cap]] w fun e w' => (∃ v, e = .returned (.tuple #[v, .agg #[.int .i64 0, .int .i64 0]])) ∧ Below w.heap.size w w' := by
 have n15 := cst_ne (op := op) (a := x) (b := y) 15 rfl (by kernel_rfl) (by decide) h2
 have n71 := cst_ne (op := op) (a := x) (b := y) 71 rfl (by kernel_rfl) (by decide) h2
 have hn : (cstL op x y).length ≤ 2000 := by show 10 ≤ 2000; omega
 refine faceall_none gen 20 b o cap (cstL op x y) sv w hM hn n15 (fun W hb => ?_)
 refine (fstart_own gen 20 b o cap (cstL op x y) sv tC 8 tabC (fun _ => none) W (hM.below hb) (cst_sound h2) (cst_one h2) (fun k hk h => absurd h (n71 k hk)) (fun W2 h3 => constsC gen ((hM.below hb).below h3) h2) (fun W2 h3 => callsC gen ((hM.below hb).below h3) h2 hcap)).mono ?_
 rintro e w' ⟨K, P, T, C, gf, gc, gd, b2, cb, f3, D, lo1, hi1, lo2, hi2, lo3, hi3, rfl, hf, HO⟩
 refine ⟨K, _, rfl, HO, fun W2 h3 => ?_⟩
 exact fcheck_own K b o cap (cstL op x y) sv W2 (h3.cell 1 4 rfl rfl) (hM.below h3.below) hn (fun k hk h => absurd h (n15 k hk)) (fun k hk h => absurd h (n15 k hk)) (fun k hk h => absurd h (n15 k hk)) (fun k hk h => absurd h (n71 k hk)) (cst_ne 16 rfl (by kernel_rfl) (by decide) h2) (cst_ne 252 rfl (by kernel_rfl) (by decide) h2)
theorem asksC (gen : Nat) (hM : Ms w b o (cstL op x y) sv) (h2 : isTwo op = true) (hcap : 10 ≤ cap) (k : Nat) (hk : k < 10) :
  Calls Tryz.prog (fo k) #[mdV gen 20 (some ⟨b, o, none⟩) (cstL op x y).length cap] w fun e w' => e = .returned (.agg #[.int .i64 0, .int .i64 0]) ∧ Below w.heap.size w w' := by
 have hsl := hM.back
 have hs := cst_sound (a := x) (b := y) h2
 have ho := cst_one (a := x) (b := y) h2
 have hi := cst_ids op x y
 have he := cst_ends (a := x) (b := y) h2
 unfold mdV
 rcases (show k = 0 ∨ k = 1 ∨ k = 2 ∨ k = 3 ∨ k = 4 ∨ k = 5 ∨ k = 6 ∨ k = 7 ∨ k = 8 ∨ k = 9 by omega) with rfl | rfl | rfl | rfl | rfl | rfl | rfl | rfl | rfl | rfl
 ·exact shape_ok gen 20 _ cap _ w hsl hs
 ·exact lcheck_own gen 20 _ cap _ tC 8 w hsl hs ho
 ·exact icheck_own gen 20 b o cap _ sv tC 8 w hM hs ho hi
 ·refine chr1_own gen 20 _ _ cap 0 0 w (fun W2 h3 => ?_)
  refine (tnew_own gen 20 b o cap _ sv tC 8 dC W2 (hM.below h3) hs ho hi (cst_types h2)).mono ?_
  rintro e w' ⟨⟨T, rfl, _⟩, h⟩
  exact ⟨⟨_, rfl⟩, h⟩
 ·refine chr2_own gen 20 _ _ cap 0 0 w (fun W2 h3 => ?_)
  refine (constsC gen (hM.below h3) h2).mono ?_
  rintro e w' ⟨⟨P, T, rfl, _⟩, h⟩
  exact ⟨⟨_, rfl⟩, h⟩
 ·exact nmodule_own gen 20 b o cap _ sv tC 8 w hM hs ho hi he
 ·refine chr3_own gen 20 _ _ cap 0 0 w (fun W2 h3 => ?_)
  refine (callsC gen (hM.below h3) h2 hcap).mono ?_
  rintro e w' ⟨⟨C, rfl, _⟩, h⟩
  exact ⟨⟨_, rfl⟩, h⟩
 ·refine (tycheck_own gen 20 b o cap (cstL op x y) sv tabC (fun _ => none) (cstL op x y).length w hM (by show 10 ≤ 2000; omega) (Nat.le_refl _) (fun W2 h3 => constsC gen (hM.below h3) h2) (fun k2 hk2 hkb K T mk W2 hC => ?_)).mono ?_
  ·rw [decide_eq_true hk2]
   exact cst_fits h2 hcap k2 hk2 K T mk W2 hC
  ·rintro e w' ⟨rfl, h⟩
   rw [if_pos rfl]
   exact ⟨rfl, h⟩
 ·exact flow_own gen 20 b o cap _ sv tC 8 w hM hs ho hi he (fun k2 hk2 _ _ => cst_ne 245 rfl (by kernel_rfl) (by decide) h2 k2 hk2) cst_flow
 ·refine facecheck_own gen 20 _ _ cap 0 0 w (fun W2 h3 => ?_)
  exact faceC gen (hM.below h3) h2 hcap
theorem whichC (gen : Nat) (hM : Ms w b o (cstL op x y) sv) (h2 : isTwo op = true) (hcap : 10 ≤ cap) :
  Calls Tryz.prog 52 #[.agg #[.int .u32 gen, .int .u32 (20 : Nat), .slice (some ⟨b, o, none⟩) (cstL op x y).length cap]] w fun e w' => (∃ s, e = .returned (.tuple #[.string s, .agg #[.int .i64 0, .int .i64 0]])) ∧ Below w.heap.size w w' := by
 have := which_own gen 20 (some ⟨b, o, none⟩) (cstL op x y).length cap 10 1 1 (by omega) (by omega) w (fun k hk hst W2 h3 => by
  have hz : saysV 10 1 1 k = (0, 0) := by unfold saysV; rw [if_neg (by omega)]
  rw [hz]
  exact asksC gen (hM.below h3) h2 hcap k hk)
 unfold mdV at this
 refine this.mono ?_
 rintro e w' ⟨s, rfl, h⟩
 exact ⟨⟨s, rfl⟩, h⟩
theorem readC (gen : Nat) (hM : Ms w b o (cstL op x y) sv) (h2 : isTwo op = true) (hcap : 10 ≤ cap) (hx : x < 4294967296) (hy : y < 4294967296) :
  Calls Tryz.prog 14 #[.agg #[.int .u32 gen, .int .u32 (20 : Nat), .slice (some ⟨b, o, none⟩) (cstL op x y).length cap]] w fun e w' => FdEnd gen 20 (.slice (some ⟨b, o, none⟩) (cstL op x y).length cap) 1 tabC (cvC op x y) [3, 4] (bin2 op x y) w e w' := by
 have h6 : 6 < (cstL op x y).length := by show 6 < 10; omega
 have h7 : 7 < (cstL op x y).length := by show 7 < 10; omega
 have h8 : 8 < (cstL op x y).length := by show 8 < 10; omega
 have hsl := hM.sl 7 h7
 obtain ⟨ab, ao, ea, hc⟩ := sl_at (l := [aI 3, aI 4]) hsl (by simp)
 have q0 := hc 0 (by simp)
 have q1 := hc 1 (by simp)
 simp only [List.getElem_cons_zero, List.getElem_cons_succ, aI, Nat.zero_mul, Nat.add_zero, Nat.one_mul] at q0 q1
 have two : Two ab ao 3 4 w := ⟨q0.1, q0.2.1, q0.2.2, q1.1, q1.2.1, q1.2.2⟩
 have i7 : InC w b (o + 28) op 1 7 (.slice (some ⟨ab, ao, none⟩) 2 (sv 7).2) := by
  have h := hM.args 7 h7
  rw [ea] at h
  exact ⟨hM.op 7 h7, hM.ty 7 h7, hM.res 7 h7, h⟩
 refine fread_own gen 20 b o (cstL op x y).length cap 5 6 op 1 ab ao (sv 7).2 3 4 1 1 x y tabC (cvC op x y) [3, 4] (sv 6).1 (sv 8).1 0 (sv 6).2 1 (sv 8).2 w (by show 9 ≤ 10; omega) hcap h2 ⟨hM.op 6 h6, hM.ty 6 h6, hM.res 6 h6, hM.args 6 h6⟩ i7 ⟨hM.op 8 h8, hM.ty 8 h8, hM.res 8 h8, hM.args 8 h8⟩ two cvC_3 cvC_4 hx hy (fun W hb => whichC gen (hM.below hb) h2 hcap) (fun W hb => numsC gen (hM.below hb) h2) (fun W hb => ?_)
 exact cutq_own gen 20 _ cap _ tC 8 W (hM.below hb).back (cst_sound h2) (cst_one h2)
end
theorem knumbers_own (op : Nat) (w : World) : Calls Tryz.prog 4 #[.int .u16 op] w fun e w' => e = .returned (.bool (isTwo op)) ∧ w' = w := by
 cases h : isTwo op with
 | true =>
  have hm := isTwo_mem h
  simp only [List.mem_cons, List.not_mem_nil, or_false] at hm
  clear h
  rcases hm with rfl | rfl | rfl | rfl | rfl | rfl | rfl | rfl | rfl | rfl | rfl | rfl | rfl | rfl
  all_goals
   go_enter Tryz.func4, Tryz.ntmps4
   go_wp2_with fail
   go_ret
   exact ⟨rfl, rfl⟩
 | false =>
  have hn : ∀ x : Nat, isTwo x = true → ((op : Int) == (x : Int)) = false := fun x hx => by
   rw [beq_eq_false_iff_ne]
   intro e
   have : op = x := by omega
   subst this
   rw [h] at hx
   cases hx
  have i0 : ((op : Int) == 128) = false := hn 128 rfl
  have i1 : ((op : Int) == 130) = false := hn 130 rfl
  have i2 : ((op : Int) == 132) = false := hn 132 rfl
  have i3 : ((op : Int) == 134) = false := hn 134 rfl
  have i4 : ((op : Int) == 135) = false := hn 135 rfl
  have i5 : ((op : Int) == 137) = false := hn 137 rfl
  have i6 : ((op : Int) == 138) = false := hn 138 rfl
  have i7 : ((op : Int) == 139) = false := hn 139 rfl
  have i8 : ((op : Int) == 194) = false := hn 194 rfl
  have i9 : ((op : Int) == 195) = false := hn 195 rfl
  have i10 : ((op : Int) == 196) = false := hn 196 rfl
  have i11 : ((op : Int) == 197) = false := hn 197 rfl
  have i12 : ((op : Int) == 198) = false := hn 198 rfl
  have i13 : ((op : Int) == 199) = false := hn 199 rfl
  clear hn h
  go_enter Tryz.func4, Tryz.ntmps4
  go_wp2_with fail
  go_ret
  exact ⟨rfl, rfl⟩
structure OutOk (out : List In) (r q z : Nat) : Prop where
 len : out.length = 9 ∨ out.length = 10
 back : out.getD (out.length - 2) noIn = ⟨254, 0, 0, [aI r]⟩
 lt : q < out.length
 hit : out.getD q noIn = ⟨43, 1, r, [aN z]⟩
 first : ∀ j, j < q → (out.getD j noIn).res ≠ r
theorem out_3 (z a b : Nat) (h : a = z) : OutOk (outC true 3 z a b) 3 3 z := by
 subst h
 refine ⟨.inl rfl, rfl, by show _ < 9; omega, rfl, fun j hj => ?_⟩
 rcases (show j = 0 ∨ j = 1 ∨ j = 2 by omega) with rfl | rfl | rfl
 ·exact (by decide : (0 : Nat) ≠ 3)
 ·exact (by decide : (1 : Nat) ≠ 3)
 ·exact (by decide : (2 : Nat) ≠ 3)
theorem out_4 (z a b : Nat) (h : b = z) : OutOk (outC true 4 z a b) 4 4 z := by
 subst h
 refine ⟨.inl rfl, rfl, by show _ < 9; omega, rfl, fun j hj => ?_⟩
 rcases (show j = 0 ∨ j = 1 ∨ j = 2 ∨ j = 3 by omega) with rfl | rfl | rfl | rfl
 ·exact (by decide : (0 : Nat) ≠ 4)
 ·exact (by decide : (1 : Nat) ≠ 4)
 ·exact (by decide : (2 : Nat) ≠ 4)
 ·exact (by decide : (3 : Nat) ≠ 4)
theorem out_20 (z a b : Nat) : OutOk (outC false 20 z a b) 20 5 z := by
 refine ⟨.inr rfl, rfl, by show _ < 10; omega, rfl, fun j hj => ?_⟩
 rcases (show j = 0 ∨ j = 1 ∨ j = 2 ∨ j = 3 ∨ j = 4 by omega) with rfl | rfl | rfl | rfl | rfl
 ·exact (by decide : (0 : Nat) ≠ 20)
 ·exact (by decide : (1 : Nat) ≠ 20)
 ·exact (by decide : (2 : Nat) ≠ 20)
 ·exact (by decide : (3 : Nat) ≠ 20)
 ·exact (by decide : (4 : Nat) ≠ 20)
theorem cst_res7 (op a b : Nat) : ((List.range 10).all fun k => (((cstL op a b).getD k noIn).res == 7) == (k == 7)) = true := by kernel_rfl
theorem cst_lens (op a b : Nat) : ((List.range 10).all fun k => decide (((cstL op a b).getD k noIn).args.length ≤ 1000)) = true := by kernel_rfl
section
variable {op x y b o cap z : Nat} {sv : Nat → Option Addr × Nat} {w : World}
theorem moduleC (gen : Nat) (there : Bool) (r : Nat) (hM : Ms w b o (cstL op x y) sv) (h2 : isTwo op = true) (hcap : 10 ≤ cap) (hx : x < 4294967296) (hy : y < 4294967296) (hz : bin2 op x y = z) (hz2 : z < 4294967296) (hnil : ∀ k (hk : k < (cstL op x y).length), (cstL op x y)[k].args = [] → sv k = (none, 0))
  (ht : there = true → (x = z ∨ y = z) ∧ r = if x = z then 3 else 4) (hf : there = false → x ≠ z ∧ y ≠ z ∧ r = 20) :
  Calls Tryz.prog 9 #[.agg #[.int .u32 gen, .int .u32 (20 : Nat), .slice (some ⟨b, o, none⟩) (cstL op x y).length cap]] w fun e w' => FmEnd gen (20 + (madeL there 1 r z).length) (outC there r z x y) w e w' := by
 have hr3 : there = true → r = 3 ∨ r = 4 := fun h => by rw [(ht h).2]; split <;> simp
 have hr20 : there = false → r = 20 := fun h => (hf h).2.2
 have hrl : r < 4294967296 := by
  cases there with
  | true => rcases hr3 rfl with rfl | rfl <;> omega
  | false => rw [hr20 rfl]; omega
 have h7 : ∀ k (hk : k < (cstL op x y).length), (cstL op x y)[k].res = 7 ↔ k = 7 := fun k hk => by
  have := List.all_eq_true.1 (cst_res7 op x y) k (List.mem_range.2 hk)
  rw [getD_at _ hk] at this
  rw [beq_iff_eq, Bool.eq_iff_iff, beq_iff_eq, beq_iff_eq] at this
  exact this
 have := fmodule_own there r gen 20 b o cap 1 3 4 x y z tabC (cvC op x y) (cstL op x y) sv tC w hM (by show 10 ≤ 2000; omega) (by show 9 ≤ 10; omega) hcap h7
  (fun k hk => ⟨cst_ne 5 rfl (by kernel_rfl) (by decide) h2 k hk, cst_ne 6 rfl (by kernel_rfl) (by decide) h2 k hk, cst_ne 71 rfl (by kernel_rfl) (by decide) h2 k hk⟩)
  cvC_3 cvC_4 rfl hz2 (by omega) ht hf rfl hnil
  (fun k hk => by
   have := List.all_eq_true.1 (cst_lens op x y) k (List.mem_range.2 hk)
   rw [getD_at _ hk] at this
   exact of_decide_eq_true this)
  (by rw [out_is]; exact ⟨by rw [(out_len there r z x y).1]; omega, out_sound hr3 hr20, out_fit hrl hz2 hx hy⟩)
  (fun W hb => by rw [← hz]; exact readC gen (hM.below hb) h2 hcap hx hy)
  (fun W hb => parts_own gen 20 _ cap _ tC 8 W (hM.below hb).back (cst_sound h2) (cst_one h2))
 rw [out_is] at this
 exact this
theorem moduleQ (gen : Nat) (hM : Ms w b o (cstL op x y) sv) (h2 : isTwo op = true) (hcap : 10 ≤ cap) (hx : x < 4294967296) (hy : y < 4294967296) (hz : bin2 op x y = z) (hz2 : z < 4294967296) (hnil : ∀ k (hk : k < (cstL op x y).length), (cstL op x y)[k].args = [] → sv k = (none, 0)) :
  Calls Tryz.prog 9 #[.agg #[.int .u32 gen, .int .u32 (20 : Nat), .slice (some ⟨b, o, none⟩) (cstL op x y).length cap]] w fun e w' => ∃ (bd : Nat) (out : List In) (r q : Nat), OutOk out r q z ∧ FmEnd gen bd out w e w' := by
 by_cases a : x = z
 ·exact (moduleC gen true 3 hM h2 hcap hx hy hz hz2 hnil (fun _ => ⟨.inl a, by rw [if_pos a]⟩) (fun h => by cases h)).mono fun e w' h => ⟨_, _, _, _, out_3 z x y a, h⟩
 ·by_cases c : y = z
  ·exact (moduleC gen true 4 hM h2 hcap hx hy hz hz2 hnil (fun _ => ⟨.inr c, by rw [if_neg a]⟩) (fun h => by cases h)).mono fun e w' h => ⟨_, _, _, _, out_4 z x y c, h⟩
  ·exact (moduleC gen false 20 hM h2 hcap hx hy hz hz2 hnil (fun h => by cases h) (fun _ => ⟨a, c, rfl⟩)).mono fun e w' h => ⟨_, _, _, _, out_20 z x y, h⟩
end
theorem folded_own (w : World) : Calls Tryz.prog 5 #[] w fun e w' => e = .returned (.bool true) ∧ Below w.heap.size w w' := by
 have cC : ∀ W, Calls Tryz.prog 6 #[.int .u16 128, .int .u32 2, .int .u32 3] W fun e w' => ∃ g sv, e = .returned (.agg #[.int .u32 0, .int .u32 20, .slice (some ⟨g, 0, none⟩) 10 10]) ∧ Ms w' g 0 (cstL 128 2 3) sv ∧ (∀ k (hk : k < (cstL 128 2 3).length), (cstL 128 2 3)[k].args = [] → sv k = (none, 0)) ∧ Below W.heap.size W w' := fun W => constant_own 128 2 3 (by omega) (by omega) (by omega) W
 go_enter Tryz.func5, Tryz.ntmps5
 go_wp2_with fail
 refine (cC _).mono ?_
 clear cC
 rintro e w1 ⟨g1, sv, rfl, hM, hnil, hb1⟩
 have HO := Own.nil w1
 go_wp2_with (first | ((first | (with_reducible refine sp_al HO ?_; intro g hg; rw [← hg.out]; clear hg) | (refine sp_wk HO rfl 28 _ _ rfl rfl rfl (by kernel_rfl) (by rfl) (by simp [Value.oneCell']) ?_)); clear HO; (try clear kk); intro W' HO; (try simp only [zTz, zTs, zTa] at HO); (try have kk := HO.kk)) | (refine sp_lk HO rfl 28 _ rfl rfl _ Tryz.underlying28 rfl (by kernel_rfl) ?_))
 obtain ⟨gM, rfl⟩ : ∃ q, q = g := ⟨_, rfl⟩
 have cF : Calls Tryz.prog 9 #[.agg #[.int .u32 0, .int .u32 20, .slice (some ⟨g1, 0, none⟩) 10 10]] W' fun e w' => ∃ g c sv, e = .returned (.tuple #[.agg #[.int .u32 0, .int .u32 21, .slice (some ⟨g, 0, none⟩) 10 c], .agg #[.int .i64 0, .int .i64 0]]) ∧ Ms w' g 0 (outC false 20 5 2 3) sv ∧ Below W'.heap.size W' w' := moduleC (z := 5) 0 false 20 (hM.below HO.below) rfl (Nat.le_refl _) (by omega) (by omega) (by kernel_rfl) (by omega) hnil (fun h => by cases h) (fun _ => ⟨by omega, by omega, rfl⟩)
 refine cF.mono ?_
 clear cF
 rintro e w2 ⟨g2, c, sv2, rfl, hM2, hb2⟩
 have m2 := (HO.then hb2).cell 0 2 rfl rfl
 have zM := (HO.then hb2).lt 0 rfl
 have HB := hid (hb1.trans ((HO.then hb2).below.mono hb1.size))
 (try clear kk)
 clear HO hM hnil hb2 hb1
 have HO := Own.nil w2
 go_wp2_with (first | ((first | (with_reducible refine sp_al HO ?_; intro g hg; rw [← hg.out]; clear hg) | (refine sp_wk HO rfl 28 _ _ rfl rfl rfl (by kernel_rfl) (by rfl) (by simp [Value.oneCell']) ?_) | (refine sp_wk HO rfl 36 _ _ rfl rfl rfl (by kernel_rfl) (by rfl) (by simp [Value.oneCell']) ?_)); clear HO; (try clear kk); intro W' HO; (try simp only [zTz, zTs, zTa] at HO); (try have kk := HO.kk)))
 have hMM := hM2.below HO.below
 have m2 := cell_last m2 zM HO.below
 have hop : ∀ k, k < 10 → ∃ u : Nat, u ≠ 128 ∧ W'.cell? ⟨g2, k * 4, none⟩ = some (.int .u16 u) := fun k hk => by
  have h := hMM.op k hk
  rw [Nat.zero_add] at h
  have h1 := of_decide_eq_true (List.all_eq_true.1 (show ((List.range 10).all fun k => decide (((outC false 20 5 2 3).getD k noIn).op ≠ 128)) = true by kernel_rfl) k (List.mem_range.2 hk))
  rw [getD_at _ (show k < (outC false 20 5 2 3).length from hk)] at h1
  exact ⟨_, h1, h⟩
 have zg := hMM.lt
 clear hMM
 have HP := hid hop
 clear hop
 go_loopw [4] (fun x4 wv => ∃ k : Nat, k ≤ 10 ∧ x4 = .int .i64 k ∧ wv = W') (fun x _ => 10 - (intOf x).toNat)
 case atStart => exact ⟨0, by omega, rfl, rfl⟩
 case round =>
  obtain ⟨k, hk, rfl, rfl⟩ := hrel
  by_cases hk2 : k < 10
  ·obtain ⟨u, hu, hc⟩ := HP.out k hk2
   have i4 : (k : Int) < 10 := by omega
   have i5 : ((u : Int) == 128) = false := by rw [beq_eq_false_iff_ne]; omega
   have HK := hid hk2
   clear hk hk2 hu
   (try simp only [zTz, zTs, zTa, zDs, zDz] at HO); (try have kk := HO.kk)
   go_wp2_with fail
   exact ⟨⟨k + 1, HK.out, by go_num, trivial⟩, by have := HK.out; simp [intOf]; omega⟩
  ·obtain rfl : k = 10 := by omega
   (try simp only [zTz, zTs, zTa, zDs, zDz] at HO); (try have kk := HO.kk)
   go_wp2_with fail
   go_ret
   exact ⟨rfl, HB.out.trans (HO.below.mono HB.out.size)⟩
section
variable {out : List In} {r q z g : Nat} {sv : Nat → Option Addr × Nat} {W : World}
theorem OutOk.at_ (h : OutOk out r q z) (hM : Ms W g 0 out sv) (p : Nat) (hp : p + 2 = out.length) : ∃ ab ao cm, W.cell? ⟨g, p * 4, none⟩ = some (.int .u16 254) ∧ W.cell? ⟨g, p * 4 + 1, none⟩ = some (.int .u32 0) ∧ W.cell? ⟨g, p * 4 + 2, none⟩ = some (.int .u32 0) ∧ W.cell? ⟨g, p * 4 + 3, none⟩ = some (.slice (some ⟨ab, ao, none⟩) 1 cm) ∧ W.cell? ⟨ab, ao + 1, none⟩ = some (.int .u32 r) := by
 have hk : p < out.length := by omega
 have e : out[p] = ⟨254, 0, 0, [aI r]⟩ := by
  have := h.back
  rw [← hp, Nat.add_sub_cancel, getD_at _ hk] at this
  exact this
 have h0 := hM.op p hk
 have h1 := hM.ty p hk
 have h2 := hM.res p hk
 have h3 := hM.args p hk
 have hs := hM.sl p hk
 rw [e, Nat.zero_add] at h0 h1 h2 h3
 rw [e] at hs
 obtain ⟨ab, ao, ea, hc⟩ := sl_at hs (Nat.zero_lt_one)
 rw [ea] at h3
 exact ⟨ab, ao, _, h0, h1, h2, h3, (hc 0 (Nat.zero_lt_one)).2.1⟩
theorem OutOk.hit_ (h : OutOk out r q z) (hM : Ms W g 0 out sv) : ∃ ab ao cm, W.cell? ⟨g, q * 4, none⟩ = some (.int .u16 43) ∧ W.cell? ⟨g, q * 4 + 2, none⟩ = some (.int .u32 r) ∧ W.cell? ⟨g, q * 4 + 3, none⟩ = some (.slice (some ⟨ab, ao, none⟩) 1 cm) ∧ W.cell? ⟨ab, ao + 1, none⟩ = some (.int .u32 z) := by
 have hk := h.lt
 have e : out[q] = ⟨43, 1, r, [aN z]⟩ := by
  have := h.hit
  rw [getD_at _ hk] at this
  exact this
 have h0 := hM.op q hk
 have h2 := hM.res q hk
 have h3 := hM.args q hk
 have hs := hM.sl q hk
 rw [e, Nat.zero_add] at h0 h2 h3
 rw [e] at hs
 obtain ⟨ab, ao, ea, hc⟩ := sl_at hs (Nat.zero_lt_one)
 rw [ea] at h3
 exact ⟨ab, ao, _, h0, h2, h3, (hc 0 (Nat.zero_lt_one)).2.1⟩
theorem OutOk.miss_ (h : OutOk out r q z) (hM : Ms W g 0 out sv) (k : Nat) (hk : k < q) : ∃ x : Nat, x ≠ r ∧ W.cell? ⟨g, k * 4 + 2, none⟩ = some (.int .u32 x) := by
 have hk2 : k < out.length := Nat.lt_trans hk h.lt
 have h2 := hM.res k hk2
 have h5 := h.first k hk
 rw [getD_at _ hk2] at h5
 rw [Nat.zero_add] at h2
 exact ⟨_, h5, h2⟩
end
theorem once_own (op x y : Nat) (ho : op < 65536) (hx : x < 4294967296) (hy : y < 4294967296) (w : World) :
  Calls Tryz.prog 3 #[.int .u16 op, .int .u32 x, .int .u32 y] w fun e w' => e = .returned (.bool true) ∧ Below w.heap.size w w' := by
 have cN := fun W => knumbers_own op W
 cases h2 : isTwo op with
 | false =>
  rw [h2] at cN
  have HO := Own.nil w
  go_enter Tryz.func3, Tryz.ntmps3
  go_wp2_with (first | (go_at_call 4; (with_reducible refine (cN _).mono ?_); rintro e w1 ⟨rfl, rfl⟩) | (go_at_call 5; (with_reducible refine (folded_own _).mono ?_); rintro e w1 ⟨rfl, hn1⟩; replace HO := HO.then hn1; clear hn1))
  go_ret
  exact ⟨rfl, HO.below⟩
 | true =>
  rw [h2] at cN
  obtain ⟨z, hz, hz2⟩ : ∃ z : Nat, bin2 op x y = z ∧ z < 4294967296 := by
   have := bin2_bd op h2 x y (by omega) (by omega) (by omega)
   exact ⟨(bin2 op x y).toNat, by omega, by omega⟩
  have cB := fun W => binary_own op h2 x y (by omega) (by omega) (by omega) (by omega) W
  simp only [hz] at cB
  have cC := fun W => constant_own op x y ho hx hy W
  have HZ := hid (And.intro h2 (And.intro hz hz2))
  have HX := hid (And.intro hx hy)
  clear h2 hz hz2 hx hy ho
  go_enter Tryz.func3, Tryz.ntmps3
  go_wp2_with (go_at_call 4; (with_reducible refine (cN _).mono ?_); rintro e w1 ⟨rfl, rfl⟩)
  refine (cC _).mono ?_
  clear cC cN
  rintro e w1 ⟨g1, sv, rfl, hM, hnil, hb1⟩
  have HO := Own.nil w1
  have HM := hid hM
  have HN := hid hnil
  have HB1 := hid hb1
  clear hM hnil hb1
  go_wp2_with (first | ((first | (with_reducible refine sp_al HO ?_; intro g hg; rw [← hg.out]; clear hg) | (refine sp_wk HO rfl 28 _ _ rfl rfl rfl (by kernel_rfl) (by rfl) (by simp [Value.oneCell']) ?_)); clear HO; (try clear kk); intro W' HO; (try simp only [zTz, zTs, zTa] at HO); (try have kk := HO.kk)) | (refine sp_lk HO rfl 28 _ rfl rfl _ Tryz.underlying28 rfl (by kernel_rfl) ?_) | (go_at_call 7; (with_reducible refine (cB _).mono ?_); rintro e w2 ⟨rfl, hn1⟩; replace HO := HO.then hn1; clear hn1; (try clear kk); (try simp only [zTz, zTs, zTa, zDs, zDz] at HO); (try have kk := HO.kk)))
  obtain ⟨gM, rfl⟩ : ∃ q, q = g := ⟨_, rfl⟩
  have cK := fknown_own 0 20 g1 0 10 10 1 z tabC (cvC op x y) [3, 4] w2 (fun W hb => by
   rw [← HZ.out.2.1]
   exact readC 0 ((HM.out.below HO.below).below hb) HZ.out.1 (Nat.le_refl _) HX.out.1 HX.out.2)
  refine cK.mono ?_
  clear cK cB
  rintro e w3 ⟨G, cG, R, cR, gw, cw, rfl, k1, k2, k3, hb3⟩
  have H1 := hid (HO.then hb3)
  (try clear kk)
  clear HO hb3
  have HO := Own.nil w3
  have z1 := block_lt_of_cell k1
  have z2 := block_lt_of_cell k2
  have z3 := block_lt_of_cell k3
  go_wp2_with (first | ((with_reducible refine sp_alloc HO ?_); clear HO; (try clear kk); intro g W' hg HO; rw [← hg.out]; clear hg; (try simp only [zTz, zTs, zTa] at HO); (try have kk := HO.kk)) | ((((refine sp_wk HO rfl 36 _ _ rfl rfl rfl (by kernel_rfl) (by rfl) (by simp [Value.oneCell']) ?_); clear HO; (try clear kk); intro W' HO; (try simp only [zTz, zTs, zTa] at HO); (try have kk := HO.kk))); have q1 := cell_last k1 z1 HO.below; have q2 := cell_last k2 z2 HO.below; have q3 := cell_last k3 z3 HO.below) | (replace HO := H1.out.then HO.below; (refine sp_lk HO rfl 28 _ rfl rfl _ Tryz.underlying28 rfl (by kernel_rfl) ?_)))
  have cM := moduleQ 0 (HM.out.below HO.below) HZ.out.1 (Nat.le_refl _) HX.out.1 HX.out.2 HZ.out.2.1 HZ.out.2.2 HN.out
  refine cM.mono ?_
  clear cM
  rintro e w5 ⟨bd, out, r, q, hOk, g2, c, sv2, rfl, hM5, hb5⟩
  have HB := hid (HB1.out.trans ((HO.then hb5).below.mono HB1.out.size))
  (try clear kk)
  clear HO hb5 H1 k1 k2 k3 z1 z2 z3 q1 q2 q3 HM HN HZ HX HB1
  have HO := Own.nil w5
  have HK := hid hOk
  have hl := hOk.len
  obtain ⟨n, hn⟩ : ∃ n, out.length = n := ⟨_, rfl⟩
  rw [hn] at hl ⊢
  obtain ⟨ab, ao, cm, a0, a1, a2, a3, a4⟩ := hOk.at_ hM5 (n - 2) (by omega)
  have za := block_lt_of_cell a4
  have zg := hM5.lt
  have HQ := hid hn
  clear hOk hn
  rcases hl with rfl | rfl
  all_goals
   simp only [Nat.reduceSub, Nat.reduceMul, Nat.reduceAdd] at a0 a1 a2 a3 a4
   go_wp2_with (first | ((with_reducible refine sp_alloc HO ?_); clear HO; (try clear kk); intro g W' hg HO; rw [← hg.out]; clear hg; (try simp only [zTz, zTs, zTa] at HO); (try have kk := HO.kk)) | ((((first | (refine sp_wk HO rfl 28 _ _ rfl rfl rfl (by kernel_rfl) (by rfl) (by simp [Value.oneCell']) ?_) | (refine sp_wk HO rfl 36 _ _ rfl rfl rfl (by kernel_rfl) (by rfl) (by simp [Value.oneCell']) ?_)); clear HO; (try clear kk); intro W' HO; (try simp only [zTz, zTs, zTa] at HO); (try have kk := HO.kk))); have q0 := cell_last a0 zg HO.below; have q1 := cell_last a1 zg HO.below; have q2 := cell_last a2 zg HO.below; have q3 := cell_last a3 zg HO.below; have q4 := cell_last a4 za HO.below) | ((((refine sp_wk HO rfl 43 _ _ rfl rfl rfl (by kernel_rfl) (by rfl) (by simp [Value.oneCell']) ?_); clear HO; (try clear kk); intro W' HO; (try simp only [zTz, zTs, zTa] at HO); (try have kk := HO.kk))); have q4 := cell_last a4 za HO.below))
   have hq := HK.out.lt
   rw [HQ.out] at hq
   have HL := hid hq
   have HM5 := hid hM5
   have HA := hid (And.intro a4 za)
   clear a0 a1 a2 a3 a4 q0 q1 q2 q3 q4 za zg hM5 HQ hq
   obtain ⟨L0, hL0, H0⟩ := name_list HO
   clear HO
   replace H0 := hid H0
   (try clear kk)
   go_loopw [16] (fun x16 wv => ∃ k : Nat, k ≤ q ∧ x16 = .int .i64 k ∧ Own noX w5 L0 wv) (fun x _ => q - (intOf x).toNat)
   case atStart => exact ⟨0, by omega, rfl, H0.out⟩
   case round =>
    obtain ⟨k, hk, rfl, HO⟩ := hrel
    clear H0
    have hMM := HM5.out.below HO.below
    have q4 := cell_last HA.out.1 HA.out.2 HO.below
    have zg2 := hMM.lt
    have za2 := block_lt_of_cell q4
    rw [hL0.out] at HO
    have hq := HL.out
    by_cases hk2 : k < q
    ·obtain ⟨u, hu, hc⟩ := HK.out.miss_ hMM k hk2
     have i4 : (k : Int) < _ := Int.ofNat_lt.2 (Nat.lt_trans hk2 hq)
     have i5 : ((u : Int) == r) = false := by rw [beq_eq_false_iff_ne]; omega
     have HK2 := hid hk2
     clear hk hk2 hu hMM hq
     (try simp only [zTz, zTs, zTa, zDs, zDz] at HO); (try have kk := HO.kk)
     go_wp2_with fail
     go_region
     go_wp2_with fail
     exact ⟨⟨k + 1, HK2.out, by go_num, by rw [hL0.out]; exact HO.drew⟩, by have := HK2.out; simp [intOf]; omega⟩
    ·obtain rfl : k = q := by omega
     obtain ⟨bb, bo, bm, h0, h2, h3, h4⟩ := HK.out.hit_ hMM
     have zb2 := block_lt_of_cell h4
     have i4 : (k : Int) < _ := Int.ofNat_lt.2 hq
     clear hk hk2 hq hMM
     (try simp only [zTz, zTs, zTa, zDs, zDz] at HO); (try have kk := HO.kk)
     go_wp2_with fail
     go_region
     replace HO := HO.drew
     have hMM := HM5.out.below HO.below
     obtain ⟨bb, bo, bm, h0, h2, h3, h4⟩ := HK.out.hit_ hMM
     have zb2 := block_lt_of_cell h4
     (try simp only [zTz, zTs, zTa, zDs, zDz] at HO); (try have kk := HO.kk)
     go_wp2_with fail
     go_ret
     exact ⟨rfl, HB.out.trans (HO.below.mono HB.out.size)⟩
theorem once_int (a0 a1 a2 : Int) (e0 : 0 ≤ a0 ∧ a0 < 65536) (e1 : 0 ≤ a1 ∧ a1 < 4294967296) (e2 : 0 ≤ a2 ∧ a2 < 4294967296) (w : World) :
  Calls Tryz.prog 3 #[.int .u16 a0, .int .u32 a1, .int .u32 a2] w fun e w' => e = .returned (.bool true) ∧ Below w.heap.size w w' := by
 obtain ⟨op, rfl⟩ := Int.eq_ofNat_of_zero_le e0.1
 obtain ⟨x, rfl⟩ := Int.eq_ofNat_of_zero_le e1.1
 obtain ⟨y, rfl⟩ := Int.eq_ofNat_of_zero_le e2.1
 exact once_own op x y (by omega) (by omega) (by omega) w
end Go.Proofs.YtindnnbopaeklaaGreatDoor
