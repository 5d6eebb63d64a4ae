/- Arithmetic of two words: what each operation makes. -/
import Derived.Test.YtlkolghiknbbfaaGreatDoorBu
set_option linter.unusedVariables false
set_option linter.unusedSimpArgs false
set_option maxRecDepth 100000
namespace Go.Proofs.YtlkolghiknbbfaaGreatDoor
open Go.ChangeShapes Go.WideShapes Go.ChangeAt Go.RowKit
def sg (a : Int) : Int := if a < 2147483648 then a else a - 4294967296
def tr (b : Bool) : Int := if b then 1 else 0
theorem Nj (a : Int) (h : 0 ≤ a) (h' : a < 4294967296) : -2147483648 ≤ sg a ∧ sg a < 2147483648 := by unfold sg; split <;> omega
theorem pW (a : Int) (h : 0 ≤ a) (h' : a < 4294967296) : wrap32 a = sg a := by
 unfold wrap32 sg; split <;> omega
theorem LU (s t : Int) (h1 : -2147483648 ≤ s) (h2 : s < 2147483648) : -2147483648 ≤ s.tdiv t ∧ s.tdiv t ≤ 2147483648 := by
 have h := Int.natAbs_tdiv_le_natAbs s t;omega
theorem sg_ne {b : Int} (hb : 0 ≤ b) (hb' : b < 4294967296) (h : b ≠ 0) : sg b ≠ 0 := by unfold sg; split <;> omega
def MH (a b : Int) : Int := if b = 0 then 0 else (sg a).tdiv (sg b) % 4294967296
def Ir (a b : Int) : Int := tr (b != 0) * ((a - b * MH a b) % 4294967296) % 4294967296
def smS (a b : Int) : Int := if Ir a b ≠ 0 ∧ wrap32 (bits BinOp.xor IntKind.u32 (Ir a b) b) < 0 then (Ir a b + b) % 4294967296 else Ir a b
def Mf (a b : Int) : Int := if b = 0 then 0 else a / b
def umS (a b : Int) : Int := tr (b != 0) * ((a - b * Mf a b) % 4294967296) % 4294967296
theorem NU {B : Nat} {a w : World} (h : Below B a w) (n : Nat) : Below B a (w.drewN n) := h.trans ⟨rfl, rfl, rfl, Nat.le_refl _, fun _ _ => rfl⟩
theorem vH (b : Bool) (w : World) : Calls Tryz.prog 39 #[.bool b] w fun e w' => e = .returned (.int .u32 (tr b)) ∧ w' = w := by
 cases b <;>
 ·go_enter Tryz.func39, Tryz.ntmps39
  go_wp2_with fail;go_ret;exact ⟨rfl, rfl⟩
theorem a128 (a b : Int) (ha : 0 ≤ a) (ha' : a < 4294967296) (hb : 0 ≤ b) (hb' : b < 4294967296) (w : World) : Calls Tryz.prog 34 #[.int .u32 a, .int .u32 b] w fun e w' => e = .returned (.int .u32 ((a + b) % 4294967296)) ∧ w' = w := by
 go_enter Tryz.func34, Tryz.ntmps34;go_wp2_with fail;go_ret;exact ⟨rfl, rfl⟩
theorem a130 (a b : Int) (ha : 0 ≤ a) (ha' : a < 4294967296) (hb : 0 ≤ b) (hb' : b < 4294967296) (w : World) : Calls Tryz.prog 35 #[.int .u32 a, .int .u32 b] w fun e w' => e = .returned (.int .u32 ((a - b) % 4294967296)) ∧ w' = w := by
 go_enter Tryz.func35, Tryz.ntmps35;go_wp2_with fail;go_ret;exact ⟨rfl, rfl⟩
theorem a132 (a b : Int) (ha : 0 ≤ a) (ha' : a < 4294967296) (hb : 0 ≤ b) (hb' : b < 4294967296) (w : World) : Calls Tryz.prog 36 #[.int .u32 a, .int .u32 b] w fun e w' => e = .returned (.int .u32 ((a * b) % 4294967296)) ∧ w' = w := by
 go_enter Tryz.func36, Tryz.ntmps36;go_wp2_with fail;go_ret;exact ⟨rfl, rfl⟩
theorem a194 (a b : Int) (ha : 0 ≤ a) (ha' : a < 4294967296) (hb : 0 ≤ b) (hb' : b < 4294967296) (w : World) : Calls Tryz.prog 56 #[.int .u32 a, .int .u32 b] w fun e w' => e = .returned (.int .u32 (a / 2 ^ (b % 32).toNat)) ∧ w' = w := by
 go_enter Tryz.func56, Tryz.ntmps56;go_wp2_with fail;go_ret;exact ⟨rfl, rfl⟩
theorem a195 (a b : Int) (ha : 0 ≤ a) (ha' : a < 4294967296) (hb : 0 ≤ b) (hb' : b < 4294967296) (w : World) : Calls Tryz.prog 57 #[.int .u32 a, .int .u32 b] w fun e w' => e = .returned (.int .u32 (sg a / 2 ^ (b % 32).toNat % 4294967296)) ∧ w' = w := by
 have wa := pW a ha ha';go_enter Tryz.func57, Tryz.ntmps57;go_wp2_with fail;go_ret;exact ⟨rfl, rfl⟩
theorem a196 (a b : Int) (ha : 0 ≤ a) (ha' : a < 4294967296) (hb : 0 ≤ b) (hb' : b < 4294967296) (w : World) : Calls Tryz.prog 58 #[.int .u32 a, .int .u32 b] w fun e w' => e = .returned (.int .u32 (a * 2 ^ (b % 32).toNat % 4294967296)) ∧ w' = w := by
 go_enter Tryz.func58, Tryz.ntmps58;go_wp2_with fail;go_ret;exact ⟨rfl, rfl⟩
theorem a197 (a b : Int) (ha : 0 ≤ a) (ha' : a < 4294967296) (hb : 0 ≤ b) (hb' : b < 4294967296) (w : World) : Calls Tryz.prog 59 #[.int .u32 a, .int .u32 b] w fun e w' => e = .returned (.int .u32 (bits BinOp.or IntKind.u32 a b)) ∧ w' = w := by
 go_enter Tryz.func59, Tryz.ntmps59;go_wp2_with fail;go_ret;exact ⟨rfl, rfl⟩
theorem a198 (a b : Int) (ha : 0 ≤ a) (ha' : a < 4294967296) (hb : 0 ≤ b) (hb' : b < 4294967296) (w : World) : Calls Tryz.prog 60 #[.int .u32 a, .int .u32 b] w fun e w' => e = .returned (.int .u32 (bits BinOp.xor IntKind.u32 a b)) ∧ w' = w := by
 go_enter Tryz.func60, Tryz.ntmps60;go_wp2_with fail;go_ret;exact ⟨rfl, rfl⟩
theorem a199 (a b : Int) (ha : 0 ≤ a) (ha' : a < 4294967296) (hb : 0 ≤ b) (hb' : b < 4294967296) (w : World) : Calls Tryz.prog 61 #[.int .u32 a, .int .u32 b] w fun e w' => e = .returned (.int .u32 (bits BinOp.and IntKind.u32 a b)) ∧ w' = w := by
 go_enter Tryz.func61, Tryz.ntmps61;go_wp2_with fail;go_ret;exact ⟨rfl, rfl⟩
theorem a134 (a b : Int) (ha : 0 ≤ a) (ha' : a < 4294967296) (hb : 0 ≤ b) (hb' : b < 4294967296) (w : World) : Calls Tryz.prog 33 #[.int .u32 a, .int .u32 b] w fun e w' => e = .returned (.int .u32 (Mf a b)) ∧ w' = w := by
 unfold Mf;by_cases h : b = 0
 ·subst h
  go_enter Tryz.func33, Tryz.ntmps33;go_wp2_with fail;go_ret;exact ⟨rfl, rfl⟩
 ·have hz : (b == 0) = false := by simpa using h
  have hp : 1 ≤ b := by omega
  rw [if_neg h];clear h;go_enter Tryz.func33, Tryz.ntmps33;go_wp2_with fail;go_ret;exact ⟨rfl, rfl⟩
theorem a135 (a b : Int) (ha : 0 ≤ a) (ha' : a < 4294967296) (hb : 0 ≤ b) (hb' : b < 4294967296) (w : World) : Calls Tryz.prog 37 #[.int .u32 a, .int .u32 b] w fun e w' => e = .returned (.int .u32 (MH a b)) ∧ w' = w := by
 unfold MH;by_cases h : b = 0
 ·subst h
  go_enter Tryz.func37, Tryz.ntmps37;go_wp2_with fail;go_ret;exact ⟨rfl, rfl⟩
 ·have hz : (b == 0) = false := by simpa using h
  have wa := pW a ha ha';have wb := pW b hb hb';have s1 := Nj a ha ha';have s2 := Nj b hb hb';have sne := sg_ne hb hb' h;have sz : (sg b == 0) = false := by simpa using sne
  have t1 := LU (sg a) (sg b) s1.1 s1.2;rw [if_neg h];clear h sz;go_enter Tryz.func37, Tryz.ntmps37;go_wp2_with fail;go_ret;exact ⟨rfl, rfl⟩
theorem sd_bd (a b : Int) (ha : 0 ≤ a) (ha' : a < 4294967296) : 0 ≤ MH a b ∧ MH a b < 4294967296 := by unfold MH; split <;> omega
theorem Ni (a b : Int) : 0 ≤ Ir a b ∧ Ir a b < 4294967296 := by unfold Ir; omega
theorem a138 (a b : Int) (ha : 0 ≤ a) (ha' : a < 4294967296) (hb : 0 ≤ b) (hb' : b < 4294967296) (w : World) : Calls Tryz.prog 40 #[.int .u32 a, .int .u32 b] w fun e w' => e = .returned (.int .u32 (Ir a b)) ∧ w' = w := by
 have hc := a135 a b ha ha' hb hb';have hs : Ir a b = tr (b != 0) * ((a - b * MH a b) % 4294967296) % 4294967296 := rfl;rw [hs];clear hs;generalize MH a b = x at hc ⊢;go_enter Tryz.func40, Tryz.ntmps40;go_wp2_with (first | (go_at_call 39; refine (vH _ _).mono ?_; rintro e w1 ⟨rfl, rfl⟩) | (go_at_call 37; refine (hc _).mono ?_; rintro e w1 ⟨rfl, rfl⟩));go_ret;exact ⟨rfl, rfl⟩
theorem a139 (a b : Int) (ha : 0 ≤ a) (ha' : a < 4294967296) (hb : 0 ≤ b) (hb' : b < 4294967296) (w : World) : Calls Tryz.prog 41 #[.int .u32 a, .int .u32 b] w fun e w' => e = .returned (.int .u32 (smS a b)) ∧ w' = w := by
 have hc := a138 a b ha ha' hb hb';have hD := Ni a b;unfold smS;generalize Ir a b = x at hc hD;by_cases c : x ≠ 0 ∧ wrap32 (bits BinOp.xor IntKind.u32 x b) < 0
 ·rw [if_pos c]
  have c0 : (x != 0) = true := by simpa using c.1
  have c1 : decide (wrap32 (bits BinOp.xor IntKind.u32 x b) < 0) = true := by simpa using c.2
  clear c;go_enter Tryz.func41, Tryz.ntmps41;go_wp2_with (go_at_call 40; refine (hc _).mono ?_; rintro e w1 ⟨rfl, rfl⟩);go_ret;exact ⟨rfl, rfl⟩
 ·rw [if_neg c]
  by_cases c2 : x = 0
  ·subst c2
   clear c;go_enter Tryz.func41, Tryz.ntmps41;go_wp2_with (go_at_call 40; refine (hc _).mono ?_; rintro e w1 ⟨rfl, rfl⟩);go_ret;exact ⟨rfl, rfl⟩
  ·have c0 : (x != 0) = true := by simpa using c2
   have c1 : decide (wrap32 (bits BinOp.xor IntKind.u32 x b) < 0) = false := by
    simp only [decide_eq_false_iff_not]; exact fun h => c ⟨c2, h⟩
   clear c c2;go_enter Tryz.func41, Tryz.ntmps41;go_wp2_with (go_at_call 40; refine (hc _).mono ?_; rintro e w1 ⟨rfl, rfl⟩);go_ret;exact ⟨rfl, rfl⟩
theorem a137 (a b : Int) (ha : 0 ≤ a) (ha' : a < 4294967296) (hb : 0 ≤ b) (hb' : b < 4294967296) (w : World) (B : Nat) (hB : w.cell? ⟨B, 0, none⟩ = some (.func (.func 33) #[] #[])) :
  Qc 38 #[.int .u32 a, .int .u32 b, .pointer (some ⟨B, 0, none⟩)] w (.int .u32 (umS a b)) := by
 have hc := a134 a b ha ha' hb hb';have hs : umS a b = tr (b != 0) * ((a - b * Mf a b) % 4294967296) % 4294967296 := rfl;rw [hs];clear hs;generalize Mf a b = x at hc ⊢;go_enter Tryz.func38, Tryz.ntmps38;go_wp2_with fail;go_quiet (first | (go_at_call 39; exact Calls.quiet_of_same (vH _ _)) | (go_at_call 33; exact Calls.quiet_of_same (hc _)));go_wp2_with fail;go_ret;exact ⟨rfl, NU (Below.refl _ _) _⟩
def ent (k : IntKind) (n : Int) (v : Value) (c : Nat) : MapEntry := { key := .int k n, val := v, born := c }
theorem GH (w : World) (o o' : Obj) : (w.alloc o).heap.setIfInBounds w.heap.size o' = (w.alloc o').heap := by
 show (w.heap.push o).setIfInBounds w.heap.size o' = w.heap.push o'
 apply Array.ext';simp
theorem xw {P : Program} (t kt et : TypeId) (k : IntKind) (n : Int) (v : Value) (es : Array MapEntry) (c : Nat) (w : World)
  (ht : P.underlying t = some (.map kt et)) (hk : P.underlying kt = some (.int k))
  (hf : Instr.findNow (.int k) (.int k n) es.toList 0 = some none) :
  (Instr.mapUpdate t (.map (some w.heap.size)) (.int k n) v).run P (w.alloc (.map es c)) = .ok () (w.alloc (.map (es.push (ent k n v c)) (c + 1))) := by
 have hc : (Instr.checkKey false 10000 kt (.int k n)).run P (w.alloc (.map es c)) = .ok () (w.alloc (.map es c)) := MapKept.run_checkKey (k := .int k n) hk (by simp [MapKept.IsKey]) false 9999;simp [Instr.mapUpdate, run_underlying ht, MapKept.run_getObj_map (alloc_at w _), hc, MapKept.run_findKey hk hf, MapKept.run_setObj_map _ (alloc_at w _), Result.andThen, ent];rw [GH];rfl
theorem KQ {P : Program} (t kt et : TypeId) (k : IntKind) (n : Int) (v : Value) (i r : Nat) (es : Array MapEntry) (c : Nat) (w : World)
  (ht : P.underlying t = some (.map kt et)) (hk : P.underlying kt = some (.int k)) (hr : w.heap[r]? = some (.map es c))
  (hf : Instr.findNow (.int k) (.int k n) es.toList 0 = some (some (i, v))) :
  (Instr.lookup t (.map (some r)) (.int k n) false).run P w = .ok v w := by
 have hc : (Instr.checkKey es.isEmpty 10000 kt (.int k n)).run P w = .ok () w := MapKept.run_checkKey (k := .int k n) hk (by simp [MapKept.IsKey]) _ 9999;simp [Instr.lookup, run_underlying ht, MapKept.run_getObj_map hr, hc, MapKept.run_findKey hk hf, Result.andThen]
 done
theorem uF {P : Program} (t kt et : TypeId) (k : IntKind) (n : Int) (z : Value) (r : Nat) (es : Array MapEntry) (c : Nat) (w : World)
  (ht : P.underlying t = some (.map kt et)) (hk : P.underlying kt = some (.int k)) (hr : w.heap[r]? = some (.map es c))
  (hz : (zeroValue et).run P w = .ok z w)
  (hf : Instr.findNow (.int k) (.int k n) es.toList 0 = some none) :
  (Instr.lookup t (.map (some r)) (.int k n) false).run P w = .ok z w := by
 have hc : (Instr.checkKey es.isEmpty 10000 kt (.int k n)).run P w = .ok () w := MapKept.run_checkKey (k := .int k n) hk (by simp [MapKept.IsKey]) _ 9999;simp [Instr.lookup, run_underlying ht, MapKept.run_getObj_map hr, hc, MapKept.run_findKey hk hf, Result.andThen, hz]
 done
def Da (k : IntKind) : List (Int × Value) → Nat → List MapEntry
 | [], _ => []
 | (n, v) :: l, c => ent k n v c :: Da k l (c + 1)
def at_ (n : Int) : List (Int × Value) → Option Value
 | [] => none
 | (m, v) :: l => if n = m then some v else at_ n l
theorem wB (k : IntKind) (n : Int) (l : List (Int × Value)) : ∀ c i, at_ n l = none → Instr.findNow (.int k) (.int k n) (Da k l c) i = some none := by
 induction l with
 | nil => intro c i _; rfl
 | cons p l ih =>
  obtain ⟨m, v⟩ := p;intro c i h;by_cases e : n = m
  ·simp [at_, e] at h
  ·simp only [at_, if_neg e] at h
   have hb : (n == m) = false := by simpa using e
   simp only [Da, ent, Instr.findNow, Instr.sameNow, if_true, hb];exact ih _ _ h
theorem wT (k : IntKind) (n : Int) (v : Value) (l : List (Int × Value)) : ∀ c i, at_ n l = some v → ∃ j, Instr.findNow (.int k) (.int k n) (Da k l c) i = some (some (j, v)) := by
 induction l with
 | nil => intro c i h; cases h
 | cons p l ih =>
  obtain ⟨m, u⟩ := p;intro c i h;by_cases e : n = m
  ·simp only [at_, if_pos e, Option.some.injEq] at h
   exact ⟨i, by simp [Da, ent, Instr.findNow, Instr.sameNow, e, h]⟩
  ·simp only [at_, if_neg e] at h
   have hb : (n == m) = false := by simpa using e
   simp only [Da, ent, Instr.findNow, Instr.sameNow, if_true, hb];exact ih _ _ h
def gz (k : IntKind) (l : List (Int × Value)) : Obj := .map (Da k l 0).toArray l.length
theorem sS {P : Program} (t kt et : TypeId) (k : IntKind) (n : Int) (v : Value) (l : List (Int × Value)) (w : World)
  (ht : P.underlying t = some (.map kt et)) (hk : P.underlying kt = some (.int k)) (hf : at_ n l = some v) :
  (Instr.lookup t (.map (some w.heap.size)) (.int k n) false).run P (w.alloc (gz k l)) = .ok v (w.alloc (gz k l)) := by
 obtain ⟨j, hj⟩ := wT k n v l 0 0 hf;exact KQ t kt et k n v j _ _ _ _ ht hk (alloc_at w _) hj
theorem kZ {P : Program} (t kt et : TypeId) (k : IntKind) (n : Int) (z : Value) (l : List (Int × Value)) (w : World)
  (ht : P.underlying t = some (.map kt et)) (hk : P.underlying kt = some (.int k)) (hz : ∀ w, (zeroValue et).run P w = .ok z w) (hf : at_ n l = none) :
  (Instr.lookup t (.map (some w.heap.size)) (.int k n) false).run P (w.alloc (gz k l)) = .ok z (w.alloc (gz k l)) :=
 uF t kt et k n z _ _ _ _ ht hk (alloc_at w _) (hz _) (wB k n l 0 0 hf)
def qM (op : Nat) (a b : Int) : Int :=
 if op = 128 then (a + b) % 4294967296
 else if op = 130 then (a - b) % 4294967296
 else if op = 132 then (a * b) % 4294967296
 else if op = 134 then Mf a b
 else if op = 135 then MH a b
 else if op = 137 then umS a b
 else if op = 138 then Ir a b
 else if op = 139 then smS a b
 else if op = 194 then a / 2 ^ (b % 32).toNat
 else if op = 195 then sg a / 2 ^ (b % 32).toNat % 4294967296
 else if op = 196 then a * 2 ^ (b % 32).toNat % 4294967296
 else if op = 197 then bits BinOp.or IntKind.u32 a b
 else if op = 198 then bits BinOp.xor IntKind.u32 a b
 else if op = 199 then bits BinOp.and IntKind.u32 a b
 else 0
def um : List (Int × Value) := [(83, .func (.func 321) #[] #[]), (124, .func (.func 321) #[] #[]), (126, .func (.func 322) #[] #[]), (168, .func (.func 323) #[] #[]), (200, .func (.func 324) #[] #[]), (204, .func (.func 325) #[] #[]), (205, .func (.func 326) #[] #[])]
def yj (B : Nat) : List (Int × Value) := [(128, .func (.func 34) #[] #[]), (130, .func (.func 35) #[] #[]), (132, .func (.func 36) #[] #[]), (134, .func (.func 33) #[] #[]), (135, .func (.func 37) #[] #[]), (137, .func (.func 38) #[] #[.pointer (some ⟨B, 0, none⟩)]), (138, .func (.func 40) #[] #[]), (139, .func (.func 41) #[] #[]), (164, .func (.func 42) #[] #[]), (165, .func (.func 43) #[] #[]), (166, .func (.func 44) #[] #[]), (167, .func (.func 45) #[] #[]), (170, .func (.func 46) #[] #[]), (171, .func (.func 47) #[] #[]), (172, .func (.func 48) #[] #[]), (173, .func (.func 49) #[] #[]), (174, .func (.func 50) #[] #[]), (175, .func (.func 51) #[] #[]), (176, .func (.func 52) #[] #[]), (177, .func (.func 53) #[] #[]), (178, .func (.func 54) #[] #[]), (179, .func (.func 55) #[] #[]), (194, .func (.func 56) #[] #[]), (195, .func (.func 57) #[] #[]), (196, .func (.func 58) #[] #[]), (197, .func (.func 59) #[] #[]), (198, .func (.func 60) #[] #[]), (199, .func (.func 61) #[] #[])]
def vK : List (Int × Value) := [(149, .func (.func 328) #[] #[]), (150, .func (.func 329) #[] #[]), (151, .func (.func 330) #[] #[]), (152, .func (.func 331) #[] #[])]
theorem Al (w : World) : Calls Tryz.prog 283 #[] w fun e w' => e = .returned (.map (some w.heap.size)) ∧ w' = w.alloc (gz .u16 um) := by
 have hmm := @run_makeMap Tryz.prog;go_enter Tryz.func283, Tryz.ntmps283;go_wp2_with fail;iterate 7
  (rw [xw 380 26 379 .u16 _ _ _ _ _ Tryz.underlying380 Tryz.underlying26 rfl]
   go_wp2_with fail)
 go_ret;exact ⟨rfl, rfl⟩
theorem uU (w : World) : Calls Tryz.prog 284 #[] w fun e w' => e = .returned (.map (some w.heap.size)) ∧ w' = w.alloc (gz .u16 vK) := by
 have hmm := @run_makeMap Tryz.prog;go_enter Tryz.func284, Tryz.ntmps284;go_wp2_with fail;iterate 4
  (rw [xw 383 26 382 .u16 _ _ _ _ _ Tryz.underlying383 Tryz.underlying26 rfl]
   go_wp2_with fail)
 go_ret;exact ⟨rfl, rfl⟩
def sJ (w : World) : World := (w.alloc (.cells #[.func (.func 33) #[] #[]] 57)).alloc (gz .u16 (yj w.heap.size))
set_option maxHeartbeats 4000000 in
theorem sF (w : World) : Calls Tryz.prog 13 #[] w fun e w' => e = .returned (.map (some (w.heap.size + 1))) ∧ w' = sJ w := by
 have hmm := @run_makeMap Tryz.prog;obtain ⟨W, hW⟩ : ∃ W, W = w.alloc (.cells #[.func (.func 33) #[] #[]] 57) := ⟨_, rfl⟩;have hs : W.heap.size = w.heap.size + 1 := by rw [hW]; show (w.heap.push _).size = _; simp
 have ins := fun n v es c h => xw (P := Tryz.prog) 59 26 58 .u16 n v es c W Tryz.underlying59 Tryz.underlying26 h
 rw [hs, hW] at ins;clear hs hW;go_enter Tryz.func13, Tryz.ntmps13;go_wp2_with fail;iterate 28
  (rw [ins _ _ _ _ rfl]
   go_wp2_with fail)
 go_ret;exact ⟨rfl, rfl⟩
theorem mO (w : World) : (w.alloc (.cells #[.func (.func 33) #[] #[]] 57)).heap.size = w.heap.size + 1 := by
 show (w.heap.push _).size = _; simp
theorem nO (w : World) : Bl w (sJ w) := bP (bP (Below.refl _ _) _) _
theorem LV (w : World) : (zeroValue 379).run Tryz.prog w = .ok .nilFunc w := by kernel_rfl
theorem Om (w : World) : (binOp BinOp.neq 379 .nilFunc .nilFunc).run Tryz.prog w = .ok (.bool false) w := by kernel_rfl
theorem LJ (w : World) : (zeroValue 58).run Tryz.prog w = .ok .nilFunc w := by kernel_rfl
theorem Oq (n : Nat) (c : Array Value) (w : World) : (binOp BinOp.eql 58 (.func (.func n) #[] c) .nilFunc).run Tryz.prog w = .ok (.bool false) w := by kernel_rfl
theorem NA (n : Nat) (c : Array Value) (w : World) : (binOp BinOp.neq 58 (.func (.func n) #[] c) .nilFunc).run Tryz.prog w = .ok (.bool true) w := by kernel_rfl
theorem Nv (w : World) : (binOp BinOp.neq 58 .nilFunc .nilFunc).run Tryz.prog w = .ok (.bool false) w := by kernel_rfl
theorem Jh (w : World) : (zeroValue 382).run Tryz.prog w = .ok .nilFunc w := by kernel_rfl
theorem eqlPr (w : World) : (binOp BinOp.eql 382 .nilFunc .nilFunc).run Tryz.prog w = .ok (.bool true) w := by kernel_rfl
theorem nnlPr (w : World) : (binOp BinOp.neq 382 .nilFunc .nilFunc).run Tryz.prog w = .ok (.bool false) w := by kernel_rfl
theorem bJ (op : Nat) (a b x : Int) (n : Nat) (c : Array Value) (w : World) (h : at_ op (yj w.heap.size) = some (.func (.func n) #[] c))
  (hcf : ∀ w, (callFunc n (#[.int .u32 a, .int .u32 b] ++ c)).run Tryz.prog w = .ok (.enter n (#[.int .u32 a, .int .u32 b] ++ c)) w)
  (hc : Calls Tryz.prog n (#[.int .u32 a, .int .u32 b] ++ c) (sJ w) fun e w' => e = .returned (.int .u32 x) ∧ Below (sJ w).heap.size (sJ w) w') :
  Qc 5 #[.int .u16 op, .int .u32 a, .int .u32 b] w (.tuple #[.int .u32 x, .bool true]) := by
 have hl := sS (P := Tryz.prog) 59 26 58 .u16 op _ (yj w.heap.size) (w.alloc (.cells #[.func (.func 33) #[] #[]] 57)) Tryz.underlying59 Tryz.underlying26 h;rw [mO] at hl;change Sem.run _ _ (sJ w) = Result.ok _ (sJ w) at hl;have he := Oq n c;go_enter Tryz.func5, Tryz.ntmps5;go_wp2_with (first | (go_at_call 13; refine (sF _).mono ?_; rintro e w1 ⟨rfl, rfl⟩) | (refine hc.mono ?_; rintro e w1 ⟨rfl, hB⟩));go_ret2;exact ⟨rfl, az (nO w) hB⟩
theorem kD {x : Int} {w w' : World} {e : Ending} (h : e = .returned (.int .u32 x) ∧ w' = w) : e = .returned (.int .u32 x) ∧ Bl w w' := ⟨h.1, h.2 ▸ Below.refl _ _⟩
theorem tY (op : Nat) (h : eH op = true) (a b : Int) (ha : 0 ≤ a) (ha' : a < 4294967296) (hb : 0 ≤ b) (hb' : b < 4294967296) (w : World) :
  Qc 5 #[.int .u16 op, .int .u32 a, .int .u32 b] w (.tuple #[.int .u32 (qM op a b), .bool true]) := by
 have hm := dn h;simp only [List.mem_cons, List.not_mem_nil, or_false] at hm;clear h;rcases hm with rfl | rfl | rfl | rfl | rfl | rfl | rfl | rfl | rfl | rfl | rfl | rfl | rfl | rfl
 ·exact bJ _ _ _ _ 34 _ w rfl (fun _ => by kernel_rfl) ((a128 a b ha ha' hb hb' _).mono fun _ _ => kD)
 ·exact bJ _ _ _ _ 35 _ w rfl (fun _ => by kernel_rfl) ((a130 a b ha ha' hb hb' _).mono fun _ _ => kD)
 ·exact bJ _ _ _ _ 36 _ w rfl (fun _ => by kernel_rfl) ((a132 a b ha ha' hb hb' _).mono fun _ _ => kD)
 ·exact bJ _ _ _ _ 33 _ w rfl (fun _ => by kernel_rfl) ((a134 a b ha ha' hb hb' _).mono fun _ _ => kD)
 ·exact bJ _ _ _ _ 37 _ w rfl (fun _ => by kernel_rfl) ((a135 a b ha ha' hb hb' _).mono fun _ _ => kD)
 ·exact bJ _ _ _ _ 38 _ w rfl (fun _ => by kernel_rfl) (a137 a b ha ha' hb hb' _ w.heap.size (by show (World.alloc _ _).cell? _ = _; rw [World.cell?_alloc_past _ _ _ (by rw [mO]; omega), World.cell?_alloc_at _ _ _ _ rfl]; rfl))
 ·exact bJ _ _ _ _ 40 _ w rfl (fun _ => by kernel_rfl) ((a138 a b ha ha' hb hb' _).mono fun _ _ => kD)
 ·exact bJ _ _ _ _ 41 _ w rfl (fun _ => by kernel_rfl) ((a139 a b ha ha' hb hb' _).mono fun _ _ => kD)
 ·exact bJ _ _ _ _ 56 _ w rfl (fun _ => by kernel_rfl) ((a194 a b ha ha' hb hb' _).mono fun _ _ => kD)
 ·exact bJ _ _ _ _ 57 _ w rfl (fun _ => by kernel_rfl) ((a195 a b ha ha' hb hb' _).mono fun _ _ => kD)
 ·exact bJ _ _ _ _ 58 _ w rfl (fun _ => by kernel_rfl) ((a196 a b ha ha' hb hb' _).mono fun _ _ => kD)
 ·exact bJ _ _ _ _ 59 _ w rfl (fun _ => by kernel_rfl) ((a197 a b ha ha' hb hb' _).mono fun _ _ => kD)
 ·exact bJ _ _ _ _ 60 _ w rfl (fun _ => by kernel_rfl) ((a198 a b ha ha' hb hb' _).mono fun _ _ => kD)
 ·exact bJ _ _ _ _ 61 _ w rfl (fun _ => by kernel_rfl) ((a199 a b ha ha' hb hb' _).mono fun _ _ => kD)
theorem ME {op : Nat} (h : eH op = true) (B : Nat) : ∃ n c, at_ op (yj B) = some (.func (.func n) #[] c) := by
 have hm := dn h;simp only [List.mem_cons, List.not_mem_nil, or_false] at hm;rcases hm with rfl | rfl | rfl | rfl | rfl | rfl | rfl | rfl | rfl | rfl | rfl | rfl | rfl | rfl <;> exact ⟨_, _, rfl⟩
theorem xO {op : Nat} (h : eH op = true) : at_ op um = none ∧ at_ op vK = none := by
 have hm := dn h;simp only [List.mem_cons, List.not_mem_nil, or_false] at hm;rcases hm with rfl | rfl | rfl | rfl | rfl | rfl | rfl | rfl | rfl | rfl | rfl | rfl | rfl | rfl <;> exact ⟨rfl, rfl⟩
theorem EE (op : Nat) (h : eH op = true) (a b : Int) (w : World) :
  Qc 287 #[.int .u16 op, .int .u32 a, .int .u32 b] w (.tuple #[.int .u32 0, .int .u32 0, .bool false]) := by
 have hl := kZ (P := Tryz.prog) 383 26 382 .u16 op .nilFunc vK w Tryz.underlying383 Tryz.underlying26 Jh (xO h).2;have he := eqlPr;go_enter Tryz.func287, Tryz.ntmps287;go_wp2_with (go_at_call 284; refine (uU _).mono ?_; rintro e w1 ⟨rfl, rfl⟩);go_ret3;exact ⟨rfl, bP (Below.refl _ _) _⟩
theorem ES (op r : Nat) (h1 : at_ op um = none) (h3 : at_ op vK = none) (h2 : (r = 2 ∧ ∀ B, ∃ n c, at_ op (yj B) = some (.func (.func n) #[] c)) ∨ (r = 0 ∧ ∀ B, at_ op (yj B) = none)) (hop : op ≠ 154 ∧ op ≠ 155 ∧ op ≠ 169 ∧ op ≠ 202 ∧ op ≠ 203 ∧ op ≠ 201) (w : World) :
  Qc 253 #[.int .u16 op] w (.int .i64 r) := by
 have i154 : ((op : Int) == 154) = false := by rw [beq_eq_false_iff_ne]; omega
 have i155 : ((op : Int) == 155) = false := by rw [beq_eq_false_iff_ne]; omega
 have i169 : ((op : Int) == 169) = false := by rw [beq_eq_false_iff_ne]; omega
 have i202 : ((op : Int) == 202) = false := by rw [beq_eq_false_iff_ne]; omega
 have i203 : ((op : Int) == 203) = false := by rw [beq_eq_false_iff_ne]; omega
 have i201 : ((op : Int) == 201) = false := by rw [beq_eq_false_iff_ne]; omega
 clear hop;have l1 := fun w => kZ (P := Tryz.prog) 380 26 379 .u16 op .nilFunc um w Tryz.underlying380 Tryz.underlying26 LV h1
 have l3 := fun w => kZ (P := Tryz.prog) 383 26 382 .u16 op .nilFunc vK w Tryz.underlying383 Tryz.underlying26 Jh h3
 have q1 := Om;have q3 := nnlPr;clear h1 h3;rcases h2 with ⟨rfl, h2⟩ | ⟨rfl, h2⟩
 ·obtain ⟨n, c, hn⟩ := h2 (w.alloc (gz .u16 um)).heap.size
  have l2 := sS (P := Tryz.prog) 59 26 58 .u16 op _ (yj (w.alloc (gz .u16 um)).heap.size) ((w.alloc (gz .u16 um)).alloc (.cells #[.func (.func 33) #[] #[]] 57)) Tryz.underlying59 Tryz.underlying26 hn;rw [mO] at l2;change Sem.run _ _ (sJ _) = Result.ok _ (sJ _) at l2;simp only [World.size_alloc] at l2;have q2 := NA n c;have hB := az (bP (Below.refl _ w) (gz .u16 um)) (nO _);clear hn h2;go_enter Tryz.func253, Tryz.ntmps253;go_wp2_with (first | (go_at_call 283; refine (Al _).mono ?_; rintro e w1 ⟨rfl, rfl⟩) | (go_at_call 13; refine (sF _).mono ?_; rintro e w2 ⟨rfl, rfl⟩));go_ret;exact ⟨rfl, hB⟩
 ·have l2 := kZ (P := Tryz.prog) 59 26 58 .u16 op .nilFunc (yj (w.alloc (gz .u16 um)).heap.size) ((w.alloc (gz .u16 um)).alloc (.cells #[.func (.func 33) #[] #[]] 57)) Tryz.underlying59 Tryz.underlying26 LJ (h2 _)
  rw [mO] at l2;change Sem.run _ _ (sJ _) = Result.ok _ (sJ _) at l2;simp only [World.size_alloc] at l2;have q2 := Nv;have hB := bP (az (bP (Below.refl _ w) (gz .u16 um)) (nO _)) (gz .u16 vK);clear h2;go_enter Tryz.func253, Tryz.ntmps253;go_wp2_with (first | (go_at_call 283; refine (Al _).mono ?_; rintro e w1 ⟨rfl, rfl⟩) | (go_at_call 13; refine (sF _).mono ?_; rintro e w2 ⟨rfl, rfl⟩) | (go_at_call 284; refine (uU _).mono ?_; rintro e w3 ⟨rfl, rfl⟩));go_ret;exact ⟨rfl, hB⟩
theorem EL (op : Nat) (h : eH op = true) (w : World) : Qc 253 #[.int .u16 op] w (.int .i64 2) :=
 ES op 2 (xO h).1 (xO h).2 (.inl ⟨rfl, ME h⟩) (by
  have hm := dn h;simp only [List.mem_cons, List.not_mem_nil, or_false] at hm
  omega) w
theorem xy (op : Nat) (h : eH op = true) (a b : Int) (ha : 0 ≤ a) (ha' : a < 4294967296) (hbz : 0 ≤ b) : 0 ≤ qM op a b ∧ qM op a b < 4294967296 := by
 have w3 : ∀ o : BinOp, 0 ≤ bits o IntKind.u32 a b ∧ bits o IntKind.u32 a b < 4294967296 := fun o => by
  have e : ∀ n : Int, IntKind.u32.wrap n = n % 4294967296 := fun n => by simp [IntKind.wrap, IntKind.bits, IntKind.signed]
  unfold bits;rw [e];omega
 have h7 := sd_bd a b ha ha';have h8 := Ni a b;have h9 : 0 ≤ smS a b ∧ smS a b < 4294967296 := by unfold smS; split <;> omega
 have h6 : 0 ≤ umS a b ∧ umS a b < 4294967296 := by unfold umS; omega
 have h5 : 0 ≤ Mf a b ∧ Mf a b < 4294967296 := by
  unfold Mf
  split
  ·omega
  ·rename_i h
   rcases Int.lt_or_gt_of_ne h with h1 | h1
   ·have := hbz; omega
   ·have := Int.ediv_nonneg ha (Int.le_of_lt h1)
    have := Int.ediv_le_self b ha;omega
 have h4 : 0 ≤ a / 2 ^ (b % 32).toNat ∧ a / 2 ^ (b % 32).toNat < 4294967296 := by
  have h2 : (0 : Int) < 2 ^ (b % 32).toNat := Int.pow_pos (by omega);have := Int.ediv_nonneg ha (Int.le_of_lt h2);have := Int.ediv_le_self (2 ^ (b % 32).toNat) ha;omega
 have hm := dn h;simp only [List.mem_cons, List.not_mem_nil, or_false] at hm;rcases hm with rfl | rfl | rfl | rfl | rfl | rfl | rfl | rfl | rfl | rfl | rfl | rfl | rfl | rfl
 all_goals first | exact w3 _ | exact h4 | exact h5 | exact h6 | exact h7 | exact h8 | exact h9 | exact ⟨Int.emod_nonneg _ (by decide), Int.emod_lt_of_pos _ (by decide)⟩ | exact ⟨by decide, by decide⟩
end Go.Proofs.YtlkolghiknbbfaaGreatDoor
namespace Go.Proofs.YtlkolghiknbbfaaGreatDoor
def dh (ln : Nat → Nat × Int × Int) (a b : Nat) : Nat → List Nat
 | 0 => [a, b]
 | k + 1 => dh ln a b k ++ [(qM (ln k).1 ((dh ln a b k).getD (bh (ln k).2.1 (k + 2)) 0 : Nat) ((dh ln a b k).getD (bh (ln k).2.2 (k + 2)) 0 : Nat)).toNat]
section
variable {ln : Nat → Nat × Int × Int} {a b : Nat}
theorem gQ : ∀ k, (dh ln a b k).length = k + 2
 | 0 => rfl
 | k + 1 => by rw [dh, List.length_append, gQ k]; rfl
theorem iT : ∀ (k d j : Nat), j < k + 2 → (dh ln a b (k + d)).getD j 0 = (dh ln a b k).getD j 0
 | k, 0, j, _ => rfl
 | k, d + 1, j, h => by
  rw [← iT k d j h, show k + (d + 1) = (k + d) + 1 by omega, dh, List.getD_eq_getElem?_getD, List.getElem?_append_left (by rw [gQ]; omega), ← List.getD_eq_getElem?_getD]
structure EO (n : Nat) (f : Nat → Ln) (a b : Nat) (v : Nat → Nat) : Prop where
 v0 : v 0 = a
 v1 : v 1 = b
 vs : ∀ j, j < n → ((v (j + 2) : Nat) : Int) = qM (f j).op (v ((f j).x - 22)) (v ((f j).y - 22))
 lt : ∀ j, j < n + 2 → v j < 4294967296
theorem ol (ha : a < 4294967296) (hb : b < 4294967296) : ∀ k, (∀ j, j < k → eH (ln j).1 = true) → ∀ j, j < k + 2 → (dh ln a b k).getD j 0 < 4294967296
 | 0, _, 0, _ => ha
 | 0, _, 1, _ => hb
 | 0, _, j + 2, h => by omega
 | k + 1, ht, j, h => by
  by_cases e : j < k + 2
  ·rw [iT k 1 j e]
   exact ol ha hb k (fun j hj => ht j (by omega)) j e
  ·obtain rfl : j = k + 2 := by omega
   have ih := ol ha hb k (fun j hj => ht j (by omega));have h1 := ih (bh (ln k).2.1 (k + 2)) (nk _ _ (by omega));have h2 := ih (bh (ln k).2.2 (k + 2)) (nk _ _ (by omega));have := (xy (ln k).1 (ht k (by omega)) ((dh ln a b k).getD (bh (ln k).2.1 (k + 2)) 0 : Nat) ((dh ln a b k).getD (bh (ln k).2.2 (k + 2)) 0 : Nat) (by omega) (by omega) (by omega)).2;rw [dh, List.getD_eq_getElem?_getD, List.getElem?_append_right (by rw [gQ]; exact Nat.le_refl _), gQ, Nat.sub_self]
   show Int.toNat _ < _
   omega
theorem MQ (n : Nat) (ha : a < 4294967296) (hb : b < 4294967296) (ht : ∀ j, j < n → eH (ln j).1 = true) : EO n (xW ln) a b (fun j => (dh ln a b n).getD j 0) := by
 refine ⟨?_, ?_, fun j hj => ?_, ol ha hb n ht⟩
 ·have := iT (ln := ln) (a := a) (b := b) 0 n 0 (by omega)
  rw [Nat.zero_add] at this;exact this
 ·have := iT (ln := ln) (a := a) (b := b) 0 n 1 (by omega)
  rw [Nat.zero_add] at this;exact this
 ·have hb1 := nk (ln j).2.1 (j + 2) (by omega)
  have hb2 := nk (ln j).2.2 (j + 2) (by omega);have e0 := iT (ln := ln) (a := a) (b := b) (j + 1) (n - (j + 1)) (j + 2) (by omega);have e1 := iT (ln := ln) (a := a) (b := b) j (n - j) (bh (ln j).2.1 (j + 2)) hb1;have e2 := iT (ln := ln) (a := a) (b := b) j (n - j) (bh (ln j).2.2 (j + 2)) hb2;rw [show j + 1 + (n - (j + 1)) = n by omega] at e0;rw [show j + (n - j) = n by omega] at e1 e2;have ih := ol (ln := ln) ha hb j (fun q hq => ht q (by omega));have h1 := ih (bh (ln j).2.1 (j + 2)) hb1;have h2 := ih (bh (ln j).2.2 (j + 2)) hb2;have hp := (xy (ln j).1 (ht j hj) ((dh ln a b j).getD (bh (ln j).2.1 (j + 2)) 0 : Nat) ((dh ln a b j).getD (bh (ln j).2.2 (j + 2)) 0 : Nat) (by omega) (by omega) (by omega)).1
  show (((dh ln a b n).getD (j + 2) 0 : Nat) : Int) = qM (ln j).1 ((dh ln a b n).getD (22 + bh (ln j).2.1 (j + 2) - 22) 0 : Nat) ((dh ln a b n).getD (22 + bh (ln j).2.2 (j + 2) - 22) 0 : Nat)
  rw [Nat.add_sub_cancel_left, Nat.add_sub_cancel_left, e0, e1, e2, dh, List.getD_eq_getElem?_getD, List.getElem?_append_right (by rw [gQ]; exact Nat.le_refl _), gQ, Nat.sub_self];exact Int.toNat_of_nonneg hp
end
end Go.Proofs.YtlkolghiknbbfaaGreatDoor
