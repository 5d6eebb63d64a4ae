/- Arithmetic of two words: what each operation makes. -/
import Derived.Test.YtindnnbopaeklaaGreatDoorAa
namespace Go.Proofs.YtindnnbopaeklaaGreatDoor
set_option linter.unusedVariables false
set_option linter.unusedSimpArgs false
set_option maxRecDepth 100000
open Go.ChangeShapes Go.WideShapes Go.ChangeAt Go.RowKit
def sg (a : Int) : Int := if a < 2147483648 then a else a - 4294967296
def tr (b : Bool) : Int := if b then 1 else 0
theorem sg_bd (a : Int) (h : 0 ≤ a) (h' : a < 4294967296) : -2147483648 ≤ sg a ∧ sg a < 2147483648 := by unfold sg; split <;> omega
theorem wrap32_sg (a : Int) (h : 0 ≤ a) (h' : a < 4294967296) : wrap32 a = sg a := by
 unfold wrap32 sg; split <;> omega
theorem tdiv_bd (s t : Int) (h1 : -2147483648 ≤ s) (h2 : s < 2147483648) : -2147483648 ≤ s.tdiv t ∧ s.tdiv t ≤ 2147483648 := by
 have h := Int.natAbs_tdiv_le_natAbs s t
 omega
theorem sg_ne {b : Int} (hb : 0 ≤ b) (hb' : b < 4294967296) (h : b ≠ 0) : sg b ≠ 0 := by unfold sg; split <;> omega
def sdS (a b : Int) : Int := if b = 0 then 0 else (sg a).tdiv (sg b) % 4294967296
def srS (a b : Int) : Int := tr (b != 0) * ((a - b * sdS a b) % 4294967296) % 4294967296
def smS (a b : Int) : Int := if srS a b ≠ 0 ∧ wrap32 (bits BinOp.xor IntKind.u32 (srS a b) b) < 0 then (srS a b + b) % 4294967296 else srS a b
def udS (a b : Int) : Int := if b = 0 then 0 else a / b
def umS (a b : Int) : Int := tr (b != 0) * ((a - b * udS a b) % 4294967296) % 4294967296
theorem belowN {B : Nat} {a w : World} (h : Below B a w) (n : Nat) : Below B a (w.drewN n) := h.trans ⟨rfl, rfl, rfl, Nat.le_refl _, fun _ _ => rfl⟩
theorem truth_own (b : Bool) (w : World) : Calls Tryz.prog 29 #[.bool b] w fun e w' => e = .returned (.int .u32 (tr b)) ∧ w' = w := by
 cases b <;>
 ·go_enter Tryz.func29, Tryz.ntmps29
  go_wp2_with fail
  go_ret
  exact ⟨rfl, rfl⟩
theorem a128 (a b : Int) (ha : 0 ≤ a) (ha' : a < 4294967296) (hb : 0 ≤ b) (hb' : b < 4294967296) (w : World) : Calls Tryz.prog 24 #[.int .u32 a, .int .u32 b] w fun e w' => e = .returned (.int .u32 ((a + b) % 4294967296)) ∧ w' = w := by
 go_enter Tryz.func24, Tryz.ntmps24
 go_wp2_with fail
 go_ret
 exact ⟨rfl, rfl⟩
theorem a130 (a b : Int) (ha : 0 ≤ a) (ha' : a < 4294967296) (hb : 0 ≤ b) (hb' : b < 4294967296) (w : World) : Calls Tryz.prog 25 #[.int .u32 a, .int .u32 b] w fun e w' => e = .returned (.int .u32 ((a - b) % 4294967296)) ∧ w' = w := by
 go_enter Tryz.func25, Tryz.ntmps25
 go_wp2_with fail
 go_ret
 exact ⟨rfl, rfl⟩
theorem a132 (a b : Int) (ha : 0 ≤ a) (ha' : a < 4294967296) (hb : 0 ≤ b) (hb' : b < 4294967296) (w : World) : Calls Tryz.prog 26 #[.int .u32 a, .int .u32 b] w fun e w' => e = .returned (.int .u32 ((a * b) % 4294967296)) ∧ w' = w := by
 go_enter Tryz.func26, Tryz.ntmps26
 go_wp2_with fail
 go_ret
 exact ⟨rfl, rfl⟩
theorem a194 (a b : Int) (ha : 0 ≤ a) (ha' : a < 4294967296) (hb : 0 ≤ b) (hb' : b < 4294967296) (w : World) : Calls Tryz.prog 46 #[.int .u32 a, .int .u32 b] w fun e w' => e = .returned (.int .u32 (a / 2 ^ (b % 32).toNat)) ∧ w' = w := by
 go_enter Tryz.func46, Tryz.ntmps46
 go_wp2_with fail
 go_ret
 exact ⟨rfl, rfl⟩
theorem a195 (a b : Int) (ha : 0 ≤ a) (ha' : a < 4294967296) (hb : 0 ≤ b) (hb' : b < 4294967296) (w : World) : Calls Tryz.prog 47 #[.int .u32 a, .int .u32 b] w fun e w' => e = .returned (.int .u32 (sg a / 2 ^ (b % 32).toNat % 4294967296)) ∧ w' = w := by
 have wa := wrap32_sg a ha ha'
 go_enter Tryz.func47, Tryz.ntmps47
 go_wp2_with fail
 go_ret
 exact ⟨rfl, rfl⟩
theorem a196 (a b : Int) (ha : 0 ≤ a) (ha' : a < 4294967296) (hb : 0 ≤ b) (hb' : b < 4294967296) (w : World) : Calls Tryz.prog 48 #[.int .u32 a, .int .u32 b] w fun e w' => e = .returned (.int .u32 (a * 2 ^ (b % 32).toNat % 4294967296)) ∧ w' = w := by
 go_enter Tryz.func48, Tryz.ntmps48
 go_wp2_with fail
 go_ret
 exact ⟨rfl, rfl⟩
theorem a197 (a b : Int) (ha : 0 ≤ a) (ha' : a < 4294967296) (hb : 0 ≤ b) (hb' : b < 4294967296) (w : World) : Calls Tryz.prog 49 #[.int .u32 a, .int .u32 b] w fun e w' => e = .returned (.int .u32 (bits BinOp.or IntKind.u32 a b)) ∧ w' = w := by
 go_enter Tryz.func49, Tryz.ntmps49
 go_wp2_with fail
 go_ret
 exact ⟨rfl, rfl⟩
theorem a198 (a b : Int) (ha : 0 ≤ a) (ha' : a < 4294967296) (hb : 0 ≤ b) (hb' : b < 4294967296) (w : World) : Calls Tryz.prog 50 #[.int .u32 a, .int .u32 b] w fun e w' => e = .returned (.int .u32 (bits BinOp.xor IntKind.u32 a b)) ∧ w' = w := by
 go_enter Tryz.func50, Tryz.ntmps50
 go_wp2_with fail
 go_ret
 exact ⟨rfl, rfl⟩
theorem a199 (a b : Int) (ha : 0 ≤ a) (ha' : a < 4294967296) (hb : 0 ≤ b) (hb' : b < 4294967296) (w : World) : Calls Tryz.prog 51 #[.int .u32 a, .int .u32 b] w fun e w' => e = .returned (.int .u32 (bits BinOp.and IntKind.u32 a b)) ∧ w' = w := by
 go_enter Tryz.func51, Tryz.ntmps51
 go_wp2_with fail
 go_ret
 exact ⟨rfl, rfl⟩
theorem a134 (a b : Int) (ha : 0 ≤ a) (ha' : a < 4294967296) (hb : 0 ≤ b) (hb' : b < 4294967296) (w : World) : Calls Tryz.prog 23 #[.int .u32 a, .int .u32 b] w fun e w' => e = .returned (.int .u32 (udS a b)) ∧ w' = w := by
 unfold udS
 by_cases h : b = 0
 ·subst h
  go_enter Tryz.func23, Tryz.ntmps23
  go_wp2_with fail
  go_ret
  exact ⟨rfl, rfl⟩
 ·have hz : (b == 0) = false := by simpa using h
  have hp : 1 ≤ b := by omega
  rw [if_neg h]
  clear h
  go_enter Tryz.func23, Tryz.ntmps23
  go_wp2_with fail
  go_ret
  exact ⟨rfl, rfl⟩
theorem a135 (a b : Int) (ha : 0 ≤ a) (ha' : a < 4294967296) (hb : 0 ≤ b) (hb' : b < 4294967296) (w : World) : Calls Tryz.prog 27 #[.int .u32 a, .int .u32 b] w fun e w' => e = .returned (.int .u32 (sdS a b)) ∧ w' = w := by
 unfold sdS
 by_cases h : b = 0
 ·subst h
  go_enter Tryz.func27, Tryz.ntmps27
  go_wp2_with fail
  go_ret
  exact ⟨rfl, rfl⟩
 ·have hz : (b == 0) = false := by simpa using h
  have wa := wrap32_sg a ha ha'
  have wb := wrap32_sg b hb hb'
  have s1 := sg_bd a ha ha'
  have s2 := sg_bd b hb hb'
  have sne := sg_ne hb hb' h
  have sz : (sg b == 0) = false := by simpa using sne
  have t1 := tdiv_bd (sg a) (sg b) s1.1 s1.2
  rw [if_neg h]
  clear h sz
  go_enter Tryz.func27, Tryz.ntmps27
  go_wp2_with fail
  go_ret
  exact ⟨rfl, rfl⟩
theorem sd_bd (a b : Int) (ha : 0 ≤ a) (ha' : a < 4294967296) : 0 ≤ sdS a b ∧ sdS a b < 4294967296 := by unfold sdS; split <;> omega
theorem sr_bd (a b : Int) : 0 ≤ srS a b ∧ srS a b < 4294967296 := by unfold srS; omega
theorem a138 (a b : Int) (ha : 0 ≤ a) (ha' : a < 4294967296) (hb : 0 ≤ b) (hb' : b < 4294967296) (w : World) : Calls Tryz.prog 30 #[.int .u32 a, .int .u32 b] w fun e w' => e = .returned (.int .u32 (srS a b)) ∧ w' = w := by
 have hc := a135 a b ha ha' hb hb'
 have hs : srS a b = tr (b != 0) * ((a - b * sdS a b) % 4294967296) % 4294967296 := rfl
 rw [hs]
 clear hs
 generalize sdS a b = x at hc ⊢
 go_enter Tryz.func30, Tryz.ntmps30
 go_wp2_with (first | (go_at_call 29; refine (truth_own _ _).mono ?_; rintro e w1 ⟨rfl, rfl⟩) | (go_at_call 27; refine (hc _).mono ?_; rintro e w1 ⟨rfl, rfl⟩))
 go_ret
 exact ⟨rfl, rfl⟩
theorem a139 (a b : Int) (ha : 0 ≤ a) (ha' : a < 4294967296) (hb : 0 ≤ b) (hb' : b < 4294967296) (w : World) : Calls Tryz.prog 31 #[.int .u32 a, .int .u32 b] w fun e w' => e = .returned (.int .u32 (smS a b)) ∧ w' = w := by
 have hc := a138 a b ha ha' hb hb'
 have hD := sr_bd a b
 unfold smS
 generalize srS a b = x at hc hD
 by_cases c : x ≠ 0 ∧ wrap32 (bits BinOp.xor IntKind.u32 x b) < 0
 ·rw [if_pos c]
  have c0 : (x != 0) = true := by simpa using c.1
  have c1 : decide (wrap32 (bits BinOp.xor IntKind.u32 x b) < 0) = true := by simpa using c.2
  clear c
  go_enter Tryz.func31, Tryz.ntmps31
  go_wp2_with (go_at_call 30; refine (hc _).mono ?_; rintro e w1 ⟨rfl, rfl⟩)
  go_ret
  exact ⟨rfl, rfl⟩
 ·rw [if_neg c]
  by_cases c2 : x = 0
  ·subst c2
   clear c
   go_enter Tryz.func31, Tryz.ntmps31
   go_wp2_with (go_at_call 30; refine (hc _).mono ?_; rintro e w1 ⟨rfl, rfl⟩)
   go_ret
   exact ⟨rfl, rfl⟩
  ·have c0 : (x != 0) = true := by simpa using c2
   have c1 : decide (wrap32 (bits BinOp.xor IntKind.u32 x b) < 0) = false := by
    simp only [decide_eq_false_iff_not]; exact fun h => c ⟨c2, h⟩
   clear c c2
   go_enter Tryz.func31, Tryz.ntmps31
   go_wp2_with (go_at_call 30; refine (hc _).mono ?_; rintro e w1 ⟨rfl, rfl⟩)
   go_ret
   exact ⟨rfl, rfl⟩
theorem a137 (a b : Int) (ha : 0 ≤ a) (ha' : a < 4294967296) (hb : 0 ≤ b) (hb' : b < 4294967296) (w : World) (B : Nat) (hB : w.cell? ⟨B, 0, none⟩ = some (.func (.func 23) #[] #[])) :
  Calls Tryz.prog 28 #[.int .u32 a, .int .u32 b, .pointer (some ⟨B, 0, none⟩)] w fun e w' => e = .returned (.int .u32 (umS a b)) ∧ Below w.heap.size w w' := by
 have hc := a134 a b ha ha' hb hb'
 have hs : umS a b = tr (b != 0) * ((a - b * udS a b) % 4294967296) % 4294967296 := rfl
 rw [hs]
 clear hs
 generalize udS a b = x at hc ⊢
 go_enter Tryz.func28, Tryz.ntmps28
 go_wp2_with fail
 go_quiet (first | (go_at_call 29; exact Calls.quiet_of_same (truth_own _ _)) | (go_at_call 23; exact Calls.quiet_of_same (hc _)))
 go_wp2_with fail
 go_ret
 exact ⟨rfl, belowN (Below.refl _ _) _⟩
def ent (k : IntKind) (n : Int) (v : Value) (c : Nat) : MapEntry := { key := .int k n, val := v, born := c }
theorem alloc_set (w : World) (o o' : Obj) : (w.alloc o).heap.setIfInBounds w.heap.size o' = (w.alloc o').heap := by
 show (w.heap.push o).setIfInBounds w.heap.size o' = w.heap.push o'
 apply Array.ext'
 simp
theorem run_ins {P : Program} (t kt et : TypeId) (k : IntKind) (n : Int) (v : Value) (es : Array MapEntry) (c : Nat) (w : World)
  (ht : P.underlying t = some (.map kt et)) (hk : P.underlying kt = some (.int k))
  (hf : Instr.findNow (.int k) (.int k n) es.toList 0 = some none) :
  (Instr.mapUpdate t (.map (some w.heap.size)) (.int k n) v).run P (w.alloc (.map es c)) = .ok () (w.alloc (.map (es.push (ent k n v c)) (c + 1))) := by
 have hc : (Instr.checkKey false 10000 kt (.int k n)).run P (w.alloc (.map es c)) = .ok () (w.alloc (.map es c)) := MapKept.run_checkKey (k := .int k n) hk (by simp [MapKept.IsKey]) false 9999
 simp [Instr.mapUpdate, run_underlying ht, MapKept.run_getObj_map (alloc_at w _), hc, MapKept.run_findKey hk hf, MapKept.run_setObj_map _ (alloc_at w _), Result.andThen, ent]
 rw [alloc_set]
 rfl
theorem run_look {P : Program} (t kt et : TypeId) (k : IntKind) (n : Int) (v : Value) (i r : Nat) (es : Array MapEntry) (c : Nat) (w : World)
  (ht : P.underlying t = some (.map kt et)) (hk : P.underlying kt = some (.int k)) (hr : w.heap[r]? = some (.map es c))
  (hf : Instr.findNow (.int k) (.int k n) es.toList 0 = some (some (i, v))) :
  (Instr.lookup t (.map (some r)) (.int k n) false).run P w = .ok v w := by
 have hc : (Instr.checkKey es.isEmpty 10000 kt (.int k n)).run P w = .ok () w := MapKept.run_checkKey (k := .int k n) hk (by simp [MapKept.IsKey]) _ 9999
 simp [Instr.lookup, run_underlying ht, MapKept.run_getObj_map hr, hc, MapKept.run_findKey hk hf, Result.andThen]
 done
theorem run_look_none {P : Program} (t kt et : TypeId) (k : IntKind) (n : Int) (z : Value) (r : Nat) (es : Array MapEntry) (c : Nat) (w : World)
  (ht : P.underlying t = some (.map kt et)) (hk : P.underlying kt = some (.int k)) (hr : w.heap[r]? = some (.map es c))
  (hz : (zeroValue et).run P w = .ok z w)
  (hf : Instr.findNow (.int k) (.int k n) es.toList 0 = some none) :
  (Instr.lookup t (.map (some r)) (.int k n) false).run P w = .ok z w := by
 have hc : (Instr.checkKey es.isEmpty 10000 kt (.int k n)).run P w = .ok () w := MapKept.run_checkKey (k := .int k n) hk (by simp [MapKept.IsKey]) _ 9999
 simp [Instr.lookup, run_underlying ht, MapKept.run_getObj_map hr, hc, MapKept.run_findKey hk hf, Result.andThen, hz]
 done
def ents (k : IntKind) : List (Int × Value) → Nat → List MapEntry
 | [], _ => []
 | (n, v) :: l, c => ent k n v c :: ents k l (c + 1)
def at_ (n : Int) : List (Int × Value) → Option Value
 | [] => none
 | (m, v) :: l => if n = m then some v else at_ n l
theorem findNow_none (k : IntKind) (n : Int) (l : List (Int × Value)) : ∀ c i, at_ n l = none → Instr.findNow (.int k) (.int k n) (ents k l c) i = some none := by
 induction l with
 | nil => intro c i _; rfl
 | cons p l ih =>
  obtain ⟨m, v⟩ := p
  intro c i h
  by_cases e : n = m
  ·simp [at_, e] at h
  ·simp only [at_, if_neg e] at h
   have hb : (n == m) = false := by simpa using e
   simp only [ents, ent, Instr.findNow, Instr.sameNow, if_true, hb]
   exact ih _ _ h
theorem findNow_some (k : IntKind) (n : Int) (v : Value) (l : List (Int × Value)) : ∀ c i, at_ n l = some v → ∃ j, Instr.findNow (.int k) (.int k n) (ents k l c) i = some (some (j, v)) := by
 induction l with
 | nil => intro c i h; cases h
 | cons p l ih =>
  obtain ⟨m, u⟩ := p
  intro c i h
  by_cases e : n = m
  ·simp only [at_, if_pos e, Option.some.injEq] at h
   exact ⟨i, by simp [ents, ent, Instr.findNow, Instr.sameNow, e, h]⟩
  ·simp only [at_, if_neg e] at h
   have hb : (n == m) = false := by simpa using e
   simp only [ents, ent, Instr.findNow, Instr.sameNow, if_true, hb]
   exact ih _ _ h
def mapObj (k : IntKind) (l : List (Int × Value)) : Obj := .map (ents k l 0).toArray l.length
theorem mlook_some {P : Program} (t kt et : TypeId) (k : IntKind) (n : Int) (v : Value) (l : List (Int × Value)) (w : World)
  (ht : P.underlying t = some (.map kt et)) (hk : P.underlying kt = some (.int k)) (hf : at_ n l = some v) :
  (Instr.lookup t (.map (some w.heap.size)) (.int k n) false).run P (w.alloc (mapObj k l)) = .ok v (w.alloc (mapObj k l)) := by
 obtain ⟨j, hj⟩ := findNow_some k n v l 0 0 hf
 exact run_look t kt et k n v j _ _ _ _ ht hk (alloc_at w _) hj
theorem mlook_none {P : Program} (t kt et : TypeId) (k : IntKind) (n : Int) (z : Value) (l : List (Int × Value)) (w : World)
  (ht : P.underlying t = some (.map kt et)) (hk : P.underlying kt = some (.int k)) (hz : ∀ w, (zeroValue et).run P w = .ok z w) (hf : at_ n l = none) :
  (Instr.lookup t (.map (some w.heap.size)) (.int k n) false).run P (w.alloc (mapObj k l)) = .ok z (w.alloc (mapObj k l)) :=
 run_look_none t kt et k n z _ _ _ _ ht hk (alloc_at w _) (hz _) (findNow_none k n l 0 0 hf)
def isTwo (op : Nat) : Bool := [128, 130, 132, 134, 135, 137, 138, 139, 194, 195, 196, 197, 198, 199].contains op
theorem isTwo_mem {op : Nat} (h : isTwo op = true) : op ∈ [128, 130, 132, 134, 135, 137, 138, 139, 194, 195, 196, 197, 198, 199] := by
 unfold isTwo at h
 exact List.contains_iff_mem.1 h
def bin2 (op : Nat) (a b : Int) : Int :=
 if op = 128 then (a + b) % 4294967296
 else if op = 130 then (a - b) % 4294967296
 else if op = 132 then (a * b) % 4294967296
 else if op = 134 then udS a b
 else if op = 135 then sdS a b
 else if op = 137 then umS a b
 else if op = 138 then srS a b
 else if op = 139 then smS a b
 else if op = 194 then a / 2 ^ (b % 32).toNat
 else if op = 195 then sg a / 2 ^ (b % 32).toNat % 4294967296
 else if op = 196 then a * 2 ^ (b % 32).toNat % 4294967296
 else if op = 197 then bits BinOp.or IntKind.u32 a b
 else if op = 198 then bits BinOp.xor IntKind.u32 a b
 else if op = 199 then bits BinOp.and IntKind.u32 a b
 else 0
def oneL : List (Int × Value) := [(83, .func (.func 185) #[] #[]), (124, .func (.func 185) #[] #[]), (126, .func (.func 186) #[] #[]), (168, .func (.func 187) #[] #[]), (200, .func (.func 188) #[] #[]), (204, .func (.func 189) #[] #[]), (205, .func (.func 190) #[] #[])]
def twoL (B : Nat) : List (Int × Value) := [(128, .func (.func 24) #[] #[]), (130, .func (.func 25) #[] #[]), (132, .func (.func 26) #[] #[]), (134, .func (.func 23) #[] #[]), (135, .func (.func 27) #[] #[]), (137, .func (.func 28) #[] #[.pointer (some ⟨B, 0, none⟩)]), (138, .func (.func 30) #[] #[]), (139, .func (.func 31) #[] #[]), (164, .func (.func 32) #[] #[]), (165, .func (.func 33) #[] #[]), (166, .func (.func 34) #[] #[]), (167, .func (.func 35) #[] #[]), (170, .func (.func 36) #[] #[]), (171, .func (.func 37) #[] #[]), (172, .func (.func 38) #[] #[]), (173, .func (.func 39) #[] #[]), (174, .func (.func 40) #[] #[]), (175, .func (.func 41) #[] #[]), (176, .func (.func 42) #[] #[]), (177, .func (.func 43) #[] #[]), (178, .func (.func 44) #[] #[]), (179, .func (.func 45) #[] #[]), (194, .func (.func 46) #[] #[]), (195, .func (.func 47) #[] #[]), (196, .func (.func 48) #[] #[]), (197, .func (.func 49) #[] #[]), (198, .func (.func 50) #[] #[]), (199, .func (.func 51) #[] #[])]
def pairL : List (Int × Value) := [(149, .func (.func 192) #[] #[]), (150, .func (.func 193) #[] #[]), (151, .func (.func 194) #[] #[]), (152, .func (.func 196) #[] #[])]
theorem ones_any (w : World) : Calls Tryz.prog 145 #[] w fun e w' => e = .returned (.map (some w.heap.size)) ∧ w' = w.alloc (mapObj .u16 oneL) := by
 have hmm := @run_makeMap Tryz.prog
 go_enter Tryz.func145, Tryz.ntmps145
 go_wp2_with fail
 iterate 7
  (rw [run_ins 220 22 219 .u16 _ _ _ _ _ Tryz.underlying220 Tryz.underlying22 rfl]
   go_wp2_with fail)
 go_ret
 exact ⟨rfl, rfl⟩
theorem pairs_any (w : World) : Calls Tryz.prog 146 #[] w fun e w' => e = .returned (.map (some w.heap.size)) ∧ w' = w.alloc (mapObj .u16 pairL) := by
 have hmm := @run_makeMap Tryz.prog
 go_enter Tryz.func146, Tryz.ntmps146
 go_wp2_with fail
 iterate 4
  (rw [run_ins 224 22 223 .u16 _ _ _ _ _ Tryz.underlying224 Tryz.underlying22 rfl]
   go_wp2_with fail)
 go_ret
 exact ⟨rfl, rfl⟩
def twoW (w : World) : World := (w.alloc (.cells #[.func (.func 23) #[] #[]] 48)).alloc (mapObj .u16 (twoL w.heap.size))
set_option maxHeartbeats 4000000 in
theorem twos_any (w : World) : Calls Tryz.prog 13 #[] w fun e w' => e = .returned (.map (some (w.heap.size + 1))) ∧ w' = twoW w := by
 have hmm := @run_makeMap Tryz.prog
 obtain ⟨W, hW⟩ : ∃ W, W = w.alloc (.cells #[.func (.func 23) #[] #[]] 48) := ⟨_, rfl⟩
 have hs : W.heap.size = w.heap.size + 1 := by rw [hW]; show (w.heap.push _).size = _; simp
 have ins := fun n v es c h => run_ins (P := Tryz.prog) 50 22 49 .u16 n v es c W Tryz.underlying50 Tryz.underlying22 h
 rw [hs, hW] at ins
 clear hs hW
 go_enter Tryz.func13, Tryz.ntmps13
 go_wp2_with fail
 iterate 28
  (rw [ins _ _ _ _ rfl]
   go_wp2_with fail)
 go_ret
 exact ⟨rfl, rfl⟩
theorem twoW_size (w : World) : (w.alloc (.cells #[.func (.func 23) #[] #[]] 48)).heap.size = w.heap.size + 1 := by
 show (w.heap.push _).size = _; simp
theorem twoW_below (w : World) : Below w.heap.size w (twoW w) := bal (bal (Below.refl _ _) _) _
theorem zeroOne (w : World) : (zeroValue 219).run Tryz.prog w = .ok .nilFunc w := by kernel_rfl
theorem nnlOne (w : World) : (binOp BinOp.neq 219 .nilFunc .nilFunc).run Tryz.prog w = .ok (.bool false) w := by kernel_rfl
theorem zeroTwo (w : World) : (zeroValue 49).run Tryz.prog w = .ok .nilFunc w := by kernel_rfl
theorem eqlTwo (n : Nat) (c : Array Value) (w : World) : (binOp BinOp.eql 49 (.func (.func n) #[] c) .nilFunc).run Tryz.prog w = .ok (.bool false) w := by kernel_rfl
theorem neqTwo (n : Nat) (c : Array Value) (w : World) : (binOp BinOp.neq 49 (.func (.func n) #[] c) .nilFunc).run Tryz.prog w = .ok (.bool true) w := by kernel_rfl
theorem nnlTwo (w : World) : (binOp BinOp.neq 49 .nilFunc .nilFunc).run Tryz.prog w = .ok (.bool false) w := by kernel_rfl
theorem zeroPr (w : World) : (zeroValue 223).run Tryz.prog w = .ok .nilFunc w := by kernel_rfl
theorem eqlPr (w : World) : (binOp BinOp.eql 223 .nilFunc .nilFunc).run Tryz.prog w = .ok (.bool true) w := by kernel_rfl
theorem nnlPr (w : World) : (binOp BinOp.neq 223 .nilFunc .nilFunc).run Tryz.prog w = .ok (.bool false) w := by kernel_rfl
theorem binary_some (op : Nat) (a b x : Int) (n : Nat) (c : Array Value) (w : World) (h : at_ op (twoL w.heap.size) = some (.func (.func n) #[] c))
  (hcf : ∀ w, (callFunc n (#[.int .u32 a, .int .u32 b] ++ c)).run Tryz.prog w = .ok (.enter n (#[.int .u32 a, .int .u32 b] ++ c)) w)
  (hc : Calls Tryz.prog n (#[.int .u32 a, .int .u32 b] ++ c) (twoW w) fun e w' => e = .returned (.int .u32 x) ∧ Below (twoW w).heap.size (twoW w) w') :
  Calls Tryz.prog 7 #[.int .u16 op, .int .u32 a, .int .u32 b] w fun e w' => e = .returned (.tuple #[.int .u32 x, .bool true]) ∧ Below w.heap.size w w' := by
 have hl := mlook_some (P := Tryz.prog) 50 22 49 .u16 op _ (twoL w.heap.size) (w.alloc (.cells #[.func (.func 23) #[] #[]] 48)) Tryz.underlying50 Tryz.underlying22 h
 rw [twoW_size] at hl
 change Sem.run _ _ (twoW w) = Result.ok _ (twoW w) at hl
 have he := eqlTwo n c
 go_enter Tryz.func7, Tryz.ntmps7
 go_wp2_with (first | (go_at_call 13; refine (twos_any _).mono ?_; rintro e w1 ⟨rfl, rfl⟩) | (refine hc.mono ?_; rintro e w1 ⟨rfl, hB⟩))
 go_ret2
 exact ⟨rfl, bcall (twoW_below w) hB⟩
theorem keepB {x : Int} {w w' : World} {e : Ending} (h : e = .returned (.int .u32 x) ∧ w' = w) : e = .returned (.int .u32 x) ∧ Below w.heap.size w w' := ⟨h.1, h.2 ▸ Below.refl _ _⟩
theorem binary_own (op : Nat) (h : isTwo op = true) (a b : Int) (ha : 0 ≤ a) (ha' : a < 4294967296) (hb : 0 ≤ b) (hb' : b < 4294967296) (w : World) :
  Calls Tryz.prog 7 #[.int .u16 op, .int .u32 a, .int .u32 b] w fun e w' => e = .returned (.tuple #[.int .u32 (bin2 op a b), .bool true]) ∧ Below w.heap.size w w' := by
 have hm := isTwo_mem h
 simp only [List.mem_cons, List.not_mem_nil, or_false] at hm
 clear h
 rcases hm with rfl | rfl | rfl | rfl | rfl | rfl | rfl | rfl | rfl | rfl | rfl | rfl | rfl | rfl
 ·exact binary_some _ _ _ _ 24 _ w rfl (fun _ => by kernel_rfl) ((a128 a b ha ha' hb hb' _).mono fun _ _ => keepB)
 ·exact binary_some _ _ _ _ 25 _ w rfl (fun _ => by kernel_rfl) ((a130 a b ha ha' hb hb' _).mono fun _ _ => keepB)
 ·exact binary_some _ _ _ _ 26 _ w rfl (fun _ => by kernel_rfl) ((a132 a b ha ha' hb hb' _).mono fun _ _ => keepB)
 ·exact binary_some _ _ _ _ 23 _ w rfl (fun _ => by kernel_rfl) ((a134 a b ha ha' hb hb' _).mono fun _ _ => keepB)
 ·exact binary_some _ _ _ _ 27 _ w rfl (fun _ => by kernel_rfl) ((a135 a b ha ha' hb hb' _).mono fun _ _ => keepB)
 ·exact binary_some _ _ _ _ 28 _ w rfl (fun _ => by kernel_rfl) (a137 a b ha ha' hb hb' _ w.heap.size (by show (World.alloc _ _).cell? _ = _; rw [World.cell?_alloc_past _ _ _ (by rw [twoW_size]; omega), World.cell?_alloc_at _ _ _ _ rfl]; rfl))
 ·exact binary_some _ _ _ _ 30 _ w rfl (fun _ => by kernel_rfl) ((a138 a b ha ha' hb hb' _).mono fun _ _ => keepB)
 ·exact binary_some _ _ _ _ 31 _ w rfl (fun _ => by kernel_rfl) ((a139 a b ha ha' hb hb' _).mono fun _ _ => keepB)
 ·exact binary_some _ _ _ _ 46 _ w rfl (fun _ => by kernel_rfl) ((a194 a b ha ha' hb hb' _).mono fun _ _ => keepB)
 ·exact binary_some _ _ _ _ 47 _ w rfl (fun _ => by kernel_rfl) ((a195 a b ha ha' hb hb' _).mono fun _ _ => keepB)
 ·exact binary_some _ _ _ _ 48 _ w rfl (fun _ => by kernel_rfl) ((a196 a b ha ha' hb hb' _).mono fun _ _ => keepB)
 ·exact binary_some _ _ _ _ 49 _ w rfl (fun _ => by kernel_rfl) ((a197 a b ha ha' hb hb' _).mono fun _ _ => keepB)
 ·exact binary_some _ _ _ _ 50 _ w rfl (fun _ => by kernel_rfl) ((a198 a b ha ha' hb hb' _).mono fun _ _ => keepB)
 ·exact binary_some _ _ _ _ 51 _ w rfl (fun _ => by kernel_rfl) ((a199 a b ha ha' hb hb' _).mono fun _ _ => keepB)
theorem two_fun {op : Nat} (h : isTwo op = true) (B : Nat) : ∃ n c, at_ op (twoL B) = some (.func (.func n) #[] c) := by
 have hm := isTwo_mem h
 simp only [List.mem_cons, List.not_mem_nil, or_false] at hm
 rcases hm with rfl | rfl | rfl | rfl | rfl | rfl | rfl | rfl | rfl | rfl | rfl | rfl | rfl | rfl <;> exact ⟨_, _, rfl⟩
theorem none_in {op : Nat} (h : isTwo op = true) : at_ op oneL = none ∧ at_ op pairL = none := by
 have hm := isTwo_mem h
 simp only [List.mem_cons, List.not_mem_nil, or_false] at hm
 rcases hm with rfl | rfl | rfl | rfl | rfl | rfl | rfl | rfl | rfl | rfl | rfl | rfl | rfl | rfl <;> exact ⟨rfl, rfl⟩
theorem pair_none (op : Nat) (h : isTwo op = true) (a b : Int) (w : World) :
  Calls Tryz.prog 237 #[.int .u16 op, .int .u32 a, .int .u32 b] w fun e w' => e = .returned (.tuple #[.int .u32 0, .int .u32 0, .bool false]) ∧ Below w.heap.size w w' := by
 have hl := mlook_none (P := Tryz.prog) 224 22 223 .u16 op .nilFunc pairL w Tryz.underlying224 Tryz.underlying22 zeroPr (none_in h).2
 have he := eqlPr
 go_enter Tryz.func237, Tryz.ntmps237
 go_wp2_with (go_at_call 146; refine (pairs_any _).mono ?_; rintro e w1 ⟨rfl, rfl⟩)
 go_ret3
 exact ⟨rfl, bal (Below.refl _ _) _⟩
theorem arity_own (op r : Nat) (h1 : at_ op oneL = none) (h3 : at_ op pairL = none) (h2 : (r = 2 ∧ ∀ B, ∃ n c, at_ op (twoL B) = some (.func (.func n) #[] c)) ∨ (r = 0 ∧ ∀ B, at_ op (twoL B) = none)) (hop : op ≠ 154 ∧ op ≠ 155 ∧ op ≠ 169 ∧ op ≠ 202 ∧ op ≠ 203 ∧ op ≠ 201) (w : World) :
  Calls Tryz.prog 103 #[.int .u16 op] w fun e w' => e = .returned (.int .i64 r) ∧ Below w.heap.size w w' := by
 have i154 : ((op : Int) == 154) = false := by rw [beq_eq_false_iff_ne]; omega
 have i155 : ((op : Int) == 155) = false := by rw [beq_eq_false_iff_ne]; omega
 have i169 : ((op : Int) == 169) = false := by rw [beq_eq_false_iff_ne]; omega
 have i202 : ((op : Int) == 202) = false := by rw [beq_eq_false_iff_ne]; omega
 have i203 : ((op : Int) == 203) = false := by rw [beq_eq_false_iff_ne]; omega
 have i201 : ((op : Int) == 201) = false := by rw [beq_eq_false_iff_ne]; omega
 clear hop
 have l1 := fun w => mlook_none (P := Tryz.prog) 220 22 219 .u16 op .nilFunc oneL w Tryz.underlying220 Tryz.underlying22 zeroOne h1
 have l3 := fun w => mlook_none (P := Tryz.prog) 224 22 223 .u16 op .nilFunc pairL w Tryz.underlying224 Tryz.underlying22 zeroPr h3
 have q1 := nnlOne
 have q3 := nnlPr
 clear h1 h3
 rcases h2 with ⟨rfl, h2⟩ | ⟨rfl, h2⟩
 ·obtain ⟨n, c, hn⟩ := h2 (w.alloc (mapObj .u16 oneL)).heap.size
  have l2 := mlook_some (P := Tryz.prog) 50 22 49 .u16 op _ (twoL (w.alloc (mapObj .u16 oneL)).heap.size) ((w.alloc (mapObj .u16 oneL)).alloc (.cells #[.func (.func 23) #[] #[]] 48)) Tryz.underlying50 Tryz.underlying22 hn
  rw [twoW_size] at l2
  change Sem.run _ _ (twoW _) = Result.ok _ (twoW _) at l2
  simp only [World.size_alloc] at l2
  have q2 := neqTwo n c
  have hB := bcall (bal (Below.refl _ w) (mapObj .u16 oneL)) (twoW_below _)
  clear hn h2
  go_enter Tryz.func103, Tryz.ntmps103
  go_wp2_with (first | (go_at_call 145; refine (ones_any _).mono ?_; rintro e w1 ⟨rfl, rfl⟩) | (go_at_call 13; refine (twos_any _).mono ?_; rintro e w2 ⟨rfl, rfl⟩))
  go_ret
  exact ⟨rfl, hB⟩
 ·have l2 := mlook_none (P := Tryz.prog) 50 22 49 .u16 op .nilFunc (twoL (w.alloc (mapObj .u16 oneL)).heap.size) ((w.alloc (mapObj .u16 oneL)).alloc (.cells #[.func (.func 23) #[] #[]] 48)) Tryz.underlying50 Tryz.underlying22 zeroTwo (h2 _)
  rw [twoW_size] at l2
  change Sem.run _ _ (twoW _) = Result.ok _ (twoW _) at l2
  simp only [World.size_alloc] at l2
  have q2 := nnlTwo
  have hB := bal (bcall (bal (Below.refl _ w) (mapObj .u16 oneL)) (twoW_below _)) (mapObj .u16 pairL)
  clear h2
  go_enter Tryz.func103, Tryz.ntmps103
  go_wp2_with (first | (go_at_call 145; refine (ones_any _).mono ?_; rintro e w1 ⟨rfl, rfl⟩) | (go_at_call 13; refine (twos_any _).mono ?_; rintro e w2 ⟨rfl, rfl⟩) | (go_at_call 146; refine (pairs_any _).mono ?_; rintro e w3 ⟨rfl, rfl⟩))
  go_ret
  exact ⟨rfl, hB⟩
theorem arity_two (op : Nat) (h : isTwo op = true) (w : World) : Calls Tryz.prog 103 #[.int .u16 op] w fun e w' => e = .returned (.int .i64 2) ∧ Below w.heap.size w w' :=
 arity_own op 2 (none_in h).1 (none_in h).2 (.inl ⟨rfl, two_fun h⟩) (by
  have hm := isTwo_mem h
  simp only [List.mem_cons, List.not_mem_nil, or_false] at hm
  omega) w
theorem arity_none (op : Nat) (h : op = 248 ∨ op = 254) (w : World) : Calls Tryz.prog 103 #[.int .u16 op] w fun e w' => e = .returned (.int .i64 0) ∧ Below w.heap.size w w' := by
 rcases h with rfl | rfl <;> exact arity_own _ 0 rfl rfl (.inr ⟨rfl, fun _ => rfl⟩) (by decide) w
theorem bin2_bd (op : Nat) (h : isTwo op = true) (a b : Int) (ha : 0 ≤ a) (ha' : a < 4294967296) (hbz : 0 ≤ b) : 0 ≤ bin2 op a b ∧ bin2 op a b < 4294967296 := by
 have w3 : ∀ o : BinOp, 0 ≤ bits o IntKind.u32 a b ∧ bits o IntKind.u32 a b < 4294967296 := fun o => by
  have e : ∀ n : Int, IntKind.u32.wrap n = n % 4294967296 := fun n => by simp [IntKind.wrap, IntKind.bits, IntKind.signed]
  unfold bits
  rw [e]
  omega
 have h7 := sd_bd a b ha ha'
 have h8 := sr_bd a b
 have h9 : 0 ≤ smS a b ∧ smS a b < 4294967296 := by unfold smS; split <;> omega
 have h6 : 0 ≤ umS a b ∧ umS a b < 4294967296 := by unfold umS; omega
 have h5 : 0 ≤ udS a b ∧ udS a b < 4294967296 := by
  unfold udS
  split
  ·omega
  ·rename_i h
   rcases Int.lt_or_gt_of_ne h with h1 | h1
   ·have := hbz; omega
   ·have := Int.ediv_nonneg ha (Int.le_of_lt h1)
    have := Int.ediv_le_self b ha
    omega
 have h4 : 0 ≤ a / 2 ^ (b % 32).toNat ∧ a / 2 ^ (b % 32).toNat < 4294967296 := by
  have h2 : (0 : Int) < 2 ^ (b % 32).toNat := Int.pow_pos (by omega)
  have := Int.ediv_nonneg ha (Int.le_of_lt h2)
  have := Int.ediv_le_self (2 ^ (b % 32).toNat) ha
  omega
 have hm := isTwo_mem h
 simp only [List.mem_cons, List.not_mem_nil, or_false] at hm
 rcases hm with rfl | rfl | rfl | rfl | rfl | rfl | rfl | rfl | rfl | rfl | rfl | rfl | rfl | rfl
 all_goals first | exact w3 _ | exact h4 | exact h5 | exact h6 | exact h7 | exact h8 | exact h9 | exact ⟨Int.emod_nonneg _ (by decide), Int.emod_lt_of_pos _ (by decide)⟩ | exact ⟨by decide, by decide⟩
end Go.Proofs.YtindnnbopaeklaaGreatDoor
