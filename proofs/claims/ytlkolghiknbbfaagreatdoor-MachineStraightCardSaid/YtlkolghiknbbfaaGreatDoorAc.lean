/- The letters of arguments; an operation's letters. -/
import Derived.Test.YtlkolghiknbbfaaGreatDoorAb
set_option linter.unusedVariables false
set_option linter.unusedSimpArgs false
namespace Go.Proofs.YtlkolghiknbbfaaGreatDoor
open Go.RowKit Go.Lib
def FX : List (Nat × ByteArray) := [
 (107, ⟨#[48, 32, 77, 97, 116, 114, 105, 120, 32, 49, 32, 83, 104, 97, 100, 101, 114, 32]⟩),
 (97, ⟨#[48, 32, 76, 111, 103, 105, 99, 97, 108, 32]⟩),
 (109, ⟨#[48, 32, 83, 105, 109, 112, 108, 101, 32, 49, 32, 71, 76, 83, 76, 52, 53, 48, 32]⟩),
 (101, ⟨#[48, 32, 86, 101, 114, 116, 101, 120, 32, 52, 32, 70, 114, 97, 103, 109, 101, 110, 116, 32]⟩),
 (120, ⟨#[55, 32, 79, 114, 105, 103, 105, 110, 85, 112, 112, 101, 114, 76, 101, 102, 116, 32]⟩),
 (108, ⟨#[48, 32, 85, 110, 107, 110, 111, 119, 110, 32, 49, 32, 69, 83, 83, 76, 32, 50, 32, 71, 76, 83, 76, 32]⟩),
 (99, ⟨#[49, 32, 73, 110, 112, 117, 116, 32, 51, 32, 79, 117, 116, 112, 117, 116, 32, 54, 32, 80, 114, 105, 118, 97, 116, 101, 32, 55, 32, 70, 117, 110, 99, 116, 105, 111, 110, 32]⟩),
 (100, ⟨#[48, 32, 82, 101, 108, 97, 120, 101, 100, 80, 114, 101, 99, 105, 115, 105, 111, 110, 32, 49, 49, 32, 66, 117, 105, 108, 116, 73, 110, 32, 49, 52, 32, 70, 108, 97, 116, 32, 51, 48, 32, 76, 111, 99, 97, 116, 105, 111, 110, 32]⟩),
 (102, ⟨#[48, 32, 78, 111, 110, 101, 32, 49, 32, 73, 110, 108, 105, 110, 101, 32, 50, 32, 68, 111, 110, 116, 73, 110, 108, 105, 110, 101, 32, 52, 32, 80, 117, 114, 101, 32, 56, 32, 67, 111, 110, 115, 116, 32]⟩),
 (104, ⟨#[48, 32, 78, 111, 110, 101, 32, 49, 32, 70, 108, 97, 116, 116, 101, 110, 32, 50, 32, 68, 111, 110, 116, 70, 108, 97, 116, 116, 101, 110, 32]⟩),
 (103, ⟨#[48, 32, 78, 111, 110, 101, 32, 49, 32, 85, 110, 114, 111, 108, 108, 32, 50, 32, 68, 111, 110, 116, 85, 110, 114, 111, 108, 108, 32]⟩)]
def jq (c : Nat) : ByteArray := look c FX
set_option maxHeartbeats 4000000 in
theorem uw (c : Nat) (w : World) : Calls Tryz.prog 341 #[.int .u8 c] w fun e w' => e = .returned (.string (jq c)) ∧ w = w' := by
 unfold jq;by_cases h : c ∈ FX.map Prod.fst
 ·simp only [FX, List.map, List.mem_cons, List.not_mem_nil, or_false] at h
  rcases h with rfl | rfl | rfl | rfl | rfl | rfl | rfl | rfl | rfl | rfl | rfl
  all_goals
   go_enter Tryz.func341, Tryz.ntmps341;go_wp2;go_ret;exact ⟨rfl, rfl⟩
 ·rw [mi h]
  simp only [FX, List.map, List.mem_cons, List.not_mem_nil, or_false, not_or, ja, Int.cast_ofNat_Int] at h;obtain ⟨_, _, _, _, _, _, _, _, _, _, _⟩ := h;go_enter Tryz.func341, Tryz.ntmps341;go_wp2;go_ret;exact ⟨rfl, rfl⟩
def kindOf (c : Nat) : Nat := if c = 105 then 1 else if c = 110 then 2 else if c = 115 then 3 else if (jq c).size = 0 then 0 else 4
set_option maxHeartbeats 1000000 in
theorem yL (c : Nat) (w : World) : Calls Tryz.prog 299 #[.int .u8 c] w fun e w' => e = .returned (.int .u8 (kindOf c)) ∧ w = w' := by
 have c1 := uw c;unfold kindOf;by_cases h1 : c = 105
 ·subst h1
  go_enter Tryz.func299, Tryz.ntmps299;go_wp2;go_ret;exact ⟨rfl, rfl⟩
 by_cases h2 : c = 110
 ·subst h2
  go_enter Tryz.func299, Tryz.ntmps299;go_wp2;go_ret;exact ⟨rfl, rfl⟩
 by_cases h3 : c = 115
 ·subst h3
  go_enter Tryz.func299, Tryz.ntmps299;go_wp2;go_ret;exact ⟨rfl, rfl⟩
 rw [if_neg h1, if_neg h2, if_neg h3];have t1 := (ja c 105).1 h1;have t2 := (ja c 110).1 h2;have t3 := (ja c 115).1 h3;simp only [Int.cast_ofNat_Int] at t1 t2 t3;generalize jq c = s at c1 ⊢;clear h1 h2 h3;rcases Nat.eq_zero_or_pos s.size with h | h
 ·rw [lZ h] at c1 ⊢
  go_enter Tryz.func299, Tryz.ntmps299;go_wp2_with (go_at_call 341; (with_reducible refine (c1 _).mono ?_); rintro e w' ⟨rfl, rfl⟩);go_ret;exact ⟨rfl, rfl⟩
 ·have hne := gH h
  rw [if_neg (by omega)];clear h;go_enter Tryz.func299, Tryz.ntmps299;go_wp2_with (go_at_call 341; (with_reducible refine (c1 _).mono ?_); rintro e w' ⟨rfl, rfl⟩);go_ret;exact ⟨rfl, rfl⟩
def nR (s : ByteArray) (i : Int) : Nat := if 0 ≤ i ∧ i < s.size then (s.get! i.toNat).toNat else 0
theorem Ex (s : ByteArray) (i : Int) (h0 : 0 ≤ i) (h : i < s.size) : ∃ z : Nat, Hid (z = (s.get! i.toNat).toNat) ∧ z < 256 ∧ ∀ w, (Instr.index 9 (.string s) (.int .i64 i)).run Tryz.prog w = .ok (.int .u8 z) w := by
 obtain ⟨k, rfl⟩ := Int.eq_ofNat_of_zero_le h0;exact oW s k (by omega)
set_option maxHeartbeats 1000000 in
theorem FB (f : Fm) (i : Int) (w : World) (hz : f.fixed.size ≤ 64) : Qc 376 #[f.val, .int .i64 i] w (.int .u8 (nR f.fixed i)) := by
 obtain ⟨op, name, ty, res, fx, rs, most, part⟩ := f;simp only at hz ⊢;unfold Fm.val Fm.cells;simp only;by_cases h0 : 0 ≤ i
 ·by_cases h1 : i < fx.size
  ·obtain ⟨z, hz1, hz2, hix⟩ := Ex fx i h0 h1
   rw [show nR fx i = z by rw [hz1]; exact if_pos ⟨h0, h1⟩];go_enter Tryz.func376, Tryz.ntmps376;go_wp2;go_ret;exact ⟨rfl, bP (Below.refl _ _) _⟩
  ·rw [show nR fx i = 0 from if_neg (fun h => h1 h.2)]
   have h2 : (fx.size : Int) ≤ i := by omega
   clear h1;go_enter Tryz.func376, Tryz.ntmps376;go_wp2;go_ret;exact ⟨rfl, bP (Below.refl _ _) _⟩
 ·rw [show nR fx i = 0 from if_neg (fun h => h0 h.1)]
  have h2 : i < 0 := by omega
  clear h0;go_enter Tryz.func376, Tryz.ntmps376;go_wp2;go_ret;exact ⟨rfl, bP (Below.refl _ _) _⟩
def xV (f : Fm) (i : Int) : Nat :=
 if i - f.fixed.size < 0 ∨ f.rest.size = 0 ∨ 0 < f.most ∧ (f.most : Int) * f.rest.size ≤ i - f.fixed.size then 0 else (f.rest.get! ((i - f.fixed.size).toNat % f.rest.size)).toNat
set_option maxHeartbeats 1000000 in
theorem IZ (f : Fm) (i : Int) (w : World) (hz : f.fixed.size ≤ 64) (hr : f.rest.size ≤ 64) (hm : f.most ≤ 255) (hi : 0 ≤ i) (hi2 : i ≤ 1152921504606846976) : Qc 377 #[f.val, .int .i64 i] w (.int .u8 (xV f i)) := by
 obtain ⟨op, name, ty, res, fx, rs, most, part⟩ := f;unfold xV;simp only at hz hr hm ⊢;unfold Fm.val Fm.cells;simp only;by_cases h0 : i - fx.size < 0
 ·rw [if_pos (.inl h0)]
  go_enter Tryz.func377, Tryz.ntmps377;go_wp2;go_ret;exact ⟨rfl, bP (Below.refl _ _) _⟩
 have h1 : 0 ≤ i - fx.size := by omega
 rcases Nat.eq_zero_or_pos rs.size with h2 | h2
 ·rw [if_pos (.inr (.inl h2)), lZ h2]
  clear h0 h2;go_enter Tryz.func377, Tryz.ntmps377;go_wp2;go_ret;exact ⟨rfl, bP (Below.refl _ _) _⟩
 have hne := gH h2;have hmul : (most : Int) * rs.size ≤ 255 * 64 := Int.mul_le_mul (by omega) (by omega) (by omega) (by omega);have hmul0 : 0 ≤ (most : Int) * rs.size := Int.mul_nonneg (by omega) (by omega);by_cases h3 : 0 < most ∧ (most : Int) * rs.size ≤ i - fx.size
 ·rw [if_pos (.inr (.inr h3))]
  obtain ⟨h4, h5⟩ := h3;clear h0;go_enter Tryz.func377, Tryz.ntmps377;go_wp2;go_ret;exact ⟨rfl, bP (Below.refl _ _) _⟩
 ·rw [if_neg (by rintro (h | h | h); exact h0 h; omega; exact h3 h)]
  obtain ⟨z, hz1, hz2, hix⟩ := Ex rs ((i - fx.size) % rs.size) (Int.emod_nonneg _ (by omega)) (Int.emod_lt_of_pos _ (by omega));have hzz : (rs.get! ((i - fx.size).toNat % rs.size)).toNat = z := by
   rw [hz1, Int.toNat_emod h1 (by omega), Int.toNat_natCast]
  rw [hzz];have htm : Int.tmod (i - fx.size) rs.size = (i - fx.size) % rs.size := Int.tmod_eq_emod_of_nonneg h1;by_cases h4 : 0 < most
  ·have h5 : i - fx.size < (most : Int) * rs.size := by omega
   clear h0 h3 hzz;go_enter Tryz.func377, Tryz.ntmps377;go_wp2;go_quiet (fail);go_wp2;go_ret;exact ⟨rfl, below_drewN (bP (Below.refl _ _) _) _⟩
  ·obtain rfl : most = 0 := by omega
   clear h0 h3 hzz h4;go_enter Tryz.func377, Tryz.ntmps377;go_wp2;go_quiet (fail);go_wp2;go_ret;exact ⟨rfl, below_drewN (bP (Below.refl _ _) _) _⟩
theorem Es {k : IntKind} {a b : Int} (h : a = b) : Ending.returned (.int k a) = .returned (.int k b) := by rw [h]
theorem ko (w : World) (o0 o1 : Obj) : ((w.alloc o0).alloc o1).heap[w.heap.size + 1]? = some o1 := by
 have h := alloc_at (w.alloc o0) o1
 rwa [World.size_alloc] at h
structure Fm.Small (f : Fm) : Prop where
 fixed : f.fixed.size ≤ 64
 rest : f.rest.size ≤ 64
 most : f.most ≤ 255
def bN (f : Fm) (i : Int) : Nat := if i < 0 then 0 else if nR f.fixed i = 0 then xV f i else nR f.fixed i
set_option maxHeartbeats 1000000 in
theorem rQ (f : Fm) (i : Int) (w : World) (hf : f.Small) (hi2 : i ≤ 1152921504606846976) : Qc 340 #[f.val, .int .i64 i] w (.int .u8 (bN f i)) := by
 unfold bN;by_cases h0 : i < 0
 ·rw [if_pos h0]
  obtain ⟨op, name, ty, res, fx, rs, most, part⟩ := f;unfold Fm.val Fm.cells;simp only;go_enter Tryz.func340, Tryz.ntmps340;go_wp2;go_ret;exact ⟨rfl, bP (Below.refl _ _) _⟩
 have h1 : 0 ≤ i := by omega
 rw [if_neg h0];have c1 := fun W => FB f i W hf.fixed
 have c2 := fun W => IZ f i W hf.fixed hf.rest hf.most h1 hi2
 generalize nR f.fixed i = x at c1 ⊢;generalize xV f i = y at c2 ⊢;obtain ⟨r, hr⟩ : ∃ r, Hid ((if x = 0 then y else x) = r) := ⟨_, rfl⟩;rw [hr.out];obtain ⟨op, name, ty, res, fx, rs, most, part⟩ := f;unfold Fm.val Fm.cells at c1 c2 ⊢;simp only at c1 c2 ⊢;have hd : decide (i < 0) = false := by simpa using h0
 clear h0 hf;go_enter Tryz.func340, Tryz.ntmps340;go_wp2;refine iB (fun W => W.cell? ⟨w.heap.size + 1, 0, none⟩ = some (.func (.func 376) #[(Fm.val ⟨op, name, ty, res, fx, rs, most, part⟩)] #[]) ∧ W.cell? ⟨w.heap.size + 1, 1, none⟩ = some (.func (.func 377) #[(Fm.val ⟨op, name, ty, res, fx, rs, most, part⟩)] #[]) ∧ Bl w W)
  ⟨(cell_of_row _ _ 0 _ _ _ (ko w _ _)).trans rfl, (cell_of_row _ _ 1 _ _ _ (ko w _ _)).trans rfl, bP (bP (Below.refl _ _) _) _⟩ ?_
 rintro W0 ⟨a0, a1, hb0⟩;unfold Fm.val Fm.cells at a0 a1;simp only at a0 a1;have hbl := block_lt_of_cell (a := ⟨w.heap.size + 1, 0, none⟩) a0;have A0 := hid a0;have A1 := hid a1;clear a0 a1;go_loopw [16] (fun n wr => ∃ k : Nat, k ≤ 2 ∧ n = .int .i64 k ∧ (1 ≤ k → x = 0) ∧ (2 ≤ k → y = 0) ∧ Bl W0 wr) (fun n _ => 2 - (intOf n).toNat)
 case atStart => exact ⟨0, by omega, rfl, by omega, by omega, Below.refl _ _⟩
 case round =>
  obtain ⟨k, hk, rfl, hx, hy, hB⟩ := hrel;have hb := hb0.trans (hB.mono hb0.size);have HX := hid hx;have HY := hid hy;clear hx hy;rcases (show k = 0 ∨ k = 1 ∨ k = 2 by omega) with rfl | rfl | rfl
  ·have a0 := (hB.cell (p := ⟨w.heap.size + 1, 0, none⟩) hbl).trans A0.out
   by_cases e : x = 0
   ·subst e
    go_wp2_with (go_at_call 376; (with_reducible refine (c1 _).mono ?_); rintro e w1 ⟨rfl, hn1⟩);go_roundw
    case rel => exact ⟨1, by omega, rfl, fun _ => (by first | rfl | trivial), by omega, hB.trans (hn1.mono hB.size)⟩
    case measure => simp [intOf]
   ·have e1 := (ja x 0).1 e
    have e2 : ((x : Int) != 0) = true := by simp; omega
    have E := hid e;clear e;go_wp2_with (go_at_call 376; (with_reducible refine (c1 _).mono ?_); rintro e w1 ⟨rfl, hn1⟩);go_ret;exact ⟨Es (by rw [← hr.out, if_neg E.out]), az hb hn1⟩
  ·have a1 := (hB.cell (p := ⟨w.heap.size + 1, 1, none⟩) hbl).trans A1.out
   by_cases e : y = 0
   ·subst e
    go_wp2_with (go_at_call 377; (with_reducible refine (c2 _).mono ?_); rintro e w1 ⟨rfl, hn1⟩);go_roundw
    case rel => exact ⟨2, by omega, rfl, fun _ => HX.out (by omega), fun _ => (by first | rfl | trivial), hB.trans (hn1.mono hB.size)⟩
    case measure => simp [intOf]
   ·have e2 : ((y : Int) != 0) = true := by simp; omega
    clear e;go_wp2_with (go_at_call 377; (with_reducible refine (c2 _).mono ?_); rintro e w1 ⟨rfl, hn1⟩);go_ret;exact ⟨Es (by rw [← hr.out, if_pos (HX.out (by omega))]), az hb hn1⟩
  ·go_wp2
   go_ret;exact ⟨Es (by rw [← hr.out, if_pos (HX.out (by omega)), HY.out (by omega)]; rfl), hb⟩
theorem nN (op : Nat) : (aS op).Small := by
 unfold aS;by_cases h : (rowOf op).size = 0
 ·simp only [if_pos h]
  exact ⟨by decide, by decide, by decide⟩
 ·simp only [if_neg h]
  have hs : (rowOf op).size ≤ 64 := by
   rcases Bo op with e | e
   ·rw [e]; decide
   ·exact (Ef e).small
  have hl := ut (rowOf op) (rowOf op).size;refine ⟨Nat.le_trans (hl.2 2) hs, Nat.le_trans (hl.2 3) hs, ?_⟩
  show (if _ then _ else _ : Nat) ≤ 255
  split
  ·omega
  ·exact Nat.le_trans (Nat.sub_le _ _) (Nat.le_of_lt_succ (UInt8.toNat_lt _))
theorem Kq {w : World} {g : Nat} {t : TypeId} {a b c d e f i j : Value} (h : w.heap[g]? = some (.cells #[a, b, c, d, e, f, i, j] t (0, 0))) : w.cell? ⟨g, 0, none⟩ = some a ∧ w.cell? ⟨g, 1, none⟩ = some b ∧ w.cell? ⟨g, 2, none⟩ = some c ∧ w.cell? ⟨g, 3, none⟩ = some d ∧ w.cell? ⟨g, 4, none⟩ = some e ∧ w.cell? ⟨g, 5, none⟩ = some f ∧ w.cell? ⟨g, 6, none⟩ = some i ∧ w.cell? ⟨g, 7, none⟩ = some j :=
 ⟨(cell_of_row _ _ 0 _ _ _ h).trans rfl, (cell_of_row _ _ 1 _ _ _ h).trans rfl, (cell_of_row _ _ 2 _ _ _ h).trans rfl, (cell_of_row _ _ 3 _ _ _ h).trans rfl, (cell_of_row _ _ 4 _ _ _ h).trans rfl, (cell_of_row _ _ 5 _ _ _ h).trans rfl, (cell_of_row _ _ 6 _ _ _ h).trans rfl, (cell_of_row _ _ 7 _ _ _ h).trans rfl⟩
theorem Fw (op : Nat) (i : Int) (w : World) (hi2 : i ≤ 1152921504606846976) : Qc 298 #[.int .u16 op, .int .i64 i] w (.int .u8 (bN (aS op) i)) := by
 have c1 := tH op;have c2 := fun W => rQ (aS op) i W (nN op) hi2
 have hB := Below.refl w.heap.size w;generalize aS op = f at c1 c2 ⊢;generalize jL op = b at c1;generalize bN f i = z at c2 ⊢;obtain ⟨op', name, ty, res, fx, rs, most, part⟩ := f;unfold Fm.val Fm.cells at c1 c2;simp only at c1 c2;go_enter Tryz.func298, Tryz.ntmps298;go_wp2_with (first | (go_at_call 266; (with_reducible refine (c1 _).mono ?_); rintro e w1 ⟨rfl, hn1⟩; replace hB := bP (az hB hn1) (.cells #[.int .u16 op', .string name, .bool ty, .bool res, .string fx, .string rs, .int .i64 most, .int .u8 part] 352)) | (go_at_call 340; (with_reducible refine (c2 _).mono ?_); rintro e w2 ⟨rfl, hn2⟩; replace hB := az hB hn2));go_ret;exact ⟨rfl, hB⟩
structure Sc (k : IntKind) (w : World) (a : Option Addr) (l : List Nat) : Prop where
 at_ : 0 < l.length → ∃ b o, a = some ⟨b, o, none⟩ ∧ b < w.heap.size ∧ ∀ i (h : i < l.length), w.cell? ⟨b, o + i, none⟩ = some (.int k l[i])
theorem Sc.below {k : IntKind} {w w' : World} {a : Option Addr} {l : List Nat} (h : Sc k w a l) (hb : Bl w w') : Sc k w' a l :=
 ⟨fun hp => by
  obtain ⟨b, o, rfl, hlt, hc⟩ := h.at_ hp
  exact ⟨b, o, rfl, Nat.lt_of_lt_of_le hlt hb.size, fun i hi => (hb.cell (p := ⟨b, o + i, none⟩) hlt).trans (hc i hi)⟩⟩
def lD (op : Nat) (l : List Nat) : Prop :=
 jL op = true ∧ (∀ i (h : i < l.length), l[i] ≠ 0 ∧ kindOf (bN (aS op) i) = l[i]) ∧ (aS op).fixed.size ≤ l.length ∧ ((aS op).rest.size = 0 ∨ (l.length - (aS op).fixed.size) % (aS op).rest.size = 0)
structure Eu (op : Nat) (l : List Nat) (e : Ending) : Prop where
 out : ∃ (n : Int) (b : Bool), e = .returned (.tuple #[.int .i64 n, .bool b]) ∧ (b = true ↔ lD op l)
set_option maxRecDepth 100000 in
set_option maxHeartbeats 2000000 in
theorem yB (op : Nat) (a : Option Addr) (cap : Nat) (l : List Nat) (w : World) (h : Sc .u8 w a l) (hl : l.length ≤ 1152921504606846976) :
  Calls Tryz.prog 302 #[.int .u16 op, .slice a l.length cap] w fun e w' => Eu op l e ∧ Bl w w' := by
 have c1 := tH op;have c2 := fun (i : Nat) (hi : i < l.length) W => rQ (aS op) i W (nN op) (by omega)
 have hB := Below.refl w.heap.size w;have HF := hid (show ∀ b : Bool, (b = true ↔ lD op l) ↔ (b = true ↔ lD op l) from fun _ => Iff.rfl);have HS := hid h;have hsm := hid (nN op);obtain ⟨f, hf⟩ : ∃ f, Hid (aS op = f) := ⟨_, rfl⟩;rw [hf.out] at c1 c2;obtain ⟨ib, hib⟩ : ∃ b, Hid (jL op = b) := ⟨_, rfl⟩;rw [hib.out] at c1;obtain ⟨op', name, ty, res, fx, rs, most, part⟩ := f;unfold Fm.val Fm.cells at c1 c2;simp only at c1 c2;have C2 := hid c2;clear h c2
 cases ib with
 | false =>
  go_enter Tryz.func302, Tryz.ntmps302;go_wp2_with (go_at_call 266; (with_reducible refine (c1 _).mono ?_); rintro e w1 ⟨rfl, hn1⟩; replace hB := bP (az hB hn1) (.cells #[.int .u16 op', .string name, .bool ty, .bool res, .string fx, .string rs, .int .i64 most, .int .u8 part] 352));go_ret2;refine ⟨⟨⟨0, false, rfl, ⟨fun h => (by cases h), fun h => ?_⟩⟩⟩, hB⟩;have := h.1;rw [hib.out] at this;exact this
 | true =>
  go_enter Tryz.func302, Tryz.ntmps302;go_wp2_with (go_at_call 266; (with_reducible refine (c1 _).mono ?_); rintro e w1 ⟨rfl, hn1⟩; replace hB := bP (bP (az hB hn1) (.cells #[.int .u16 op', .string name, .bool ty, .bool res, .string fx, .string rs, .int .i64 most, .int .u8 part] 352)) (.cells #[.int .u16 op', .string name, .bool ty, .bool res, .string fx, .string rs, .int .i64 most, .int .u8 part] 440));refine iB (fun W => W.heap[w1.heap.size + 1]? = some (.cells #[.int .u16 op', .string name, .bool ty, .bool res, .string fx, .string rs, .int .i64 most, .int .u8 part] 440 (0, 0)) ∧ Bl w W) ⟨ko w1 _ _, hB⟩ ?_;rintro W0 ⟨g0, hb0⟩;have hs1 := hn1.size;generalize w1.heap.size = B at g0 hs1 ⊢;clear hB hn1;have G0 := hid g0;have HB0 := hid hb0;clear g0 hb0;go_loopw [23] (fun n wr => ∃ k : Nat, k ≤ l.length ∧ n = .int .i64 k ∧ (∀ i (h : i < l.length), i < k → l[i] ≠ 0 ∧ kindOf (bN (aS op) i) = l[i]) ∧ Bl W0 wr) (fun n _ => l.length - (intOf n).toNat)
  case atStart => exact ⟨0, by omega, rfl, by omega, Below.refl _ _⟩
  case round =>
   obtain ⟨k, hk, rfl, hx, hB⟩ := hrel;have HX := hid hx;clear hx;by_cases hlt : k < l.length
   ·have hS := HS.out.below (HB0.out.trans (hB.mono HB0.out.size))
    obtain ⟨b, o, rfl, hbl, hc⟩ := hS.at_ (by omega);have hck := hc k hlt;have hbB : B + 1 < W0.heap.size := (Array.getElem?_eq_some_iff.1 G0.out).1;have g1 := (hB.block (B + 1) hbB).trans G0.out;obtain ⟨x, hx⟩ : ∃ x, Hid (l[k] = x) := ⟨_, hid rfl⟩;rw [hx.out] at hck;have c2 := fun W => C2.out k hlt W
    clear hc;have fin (h : ¬ (x ≠ 0 ∧ kindOf (bN (aS op) k) = x)) : ¬ lD op l := fun hf => h (by have := hf.2.1 k hlt; rwa [hx.out] at this)
    have FIN := hid fin;have HBB := hid (HB0.out.trans (hB.mono HB0.out.size));clear fin;by_cases e : x = 0
    ·have e1 : ((x : Int) == 0) = true := by rw [e]; rfl
     have E := hid e;clear e;go_wp2;go_ret2;refine ⟨⟨⟨k, false, rfl, ⟨fun h => (by cases h), fun h => (FIN.out (fun h => h.1 E.out) h).elim⟩⟩⟩, HBB.out⟩
    ·have e1 := (ja x 0).1 e
     have E := hid e;obtain ⟨h0, h1, h2, h3, h4, h5, h6, h7⟩ := Kq g1;have c3 := fun W => yL (bN (aS op) k) W
     rw [hf.out] at c3;by_cases e2 : kindOf (bN (aS op) k) = x
     ·have E2 := hid e2
      rw [hf.out] at e2;rw [e2] at c3;generalize bN _ _ = z at c2 c3;clear e e2 g1;go_wp2_with (first | (go_at_call 340; (with_reducible refine (c2 _).mono ?_); rintro e w2 ⟨rfl, hn2⟩) | (go_at_call 299; (with_reducible refine (c3 _).mono ?_); rintro e w3 ⟨rfl, rfl⟩));go_roundw
      case rel =>
       refine ⟨k + 1, hlt, by go_num, fun i hi hik => ?_, hB.trans (hn2.mono hB.size)⟩;rcases Nat.lt_succ_iff_lt_or_eq.1 hik with h | rfl
       ·exact HX.out i hi h
       ·rw [hx.out]; exact ⟨E.out, E2.out⟩
      case measure => simp [intOf]; omega
     ·have E2 := hid e2
      have e3 : ((kindOf (bN (aS op) k) : Int) != x) = true := by simp; omega
      rw [hf.out] at e3;generalize kindOf _ = z2 at c3 e3;generalize bN _ _ = z at c2 c3;clear e e2 g1;go_wp2_with (first | (go_at_call 340; (with_reducible refine (c2 _).mono ?_); rintro e w2 ⟨rfl, hn2⟩) | (go_at_call 299; (with_reducible refine (c3 _).mono ?_); rintro e w3 ⟨rfl, rfl⟩));go_ret2;exact ⟨⟨⟨k, false, rfl, ⟨fun h => (by cases h), fun h => (FIN.out (fun h => E2.out h.2) h).elim⟩⟩⟩, az HBB.out hn2⟩
   ·obtain rfl : k = l.length := by omega
    have HBB := hid (HB0.out.trans (hB.mono HB0.out.size));have hbB : B + 1 < W0.heap.size := (Array.getElem?_eq_some_iff.1 G0.out).1;have g1 := (hB.block (B + 1) hbB).trans G0.out;obtain ⟨h0, h1, h2, h3, h4, h5, h6, h7⟩ := Kq g1;have hsm2 := hsm.out;rw [hf.out] at hsm2;obtain ⟨z1, z2, z3⟩ := hsm2;simp only at z1 z2 z3;have good : lD op l ↔ (fx.size ≤ l.length ∧ (rs.size = 0 ∨ (l.length - fx.size) % rs.size = 0)) := by
     unfold lD;rw [hib.out, hf.out];exact ⟨fun h => h.2.2, fun h => ⟨rfl, fun i hi => (by have := HX.out i hi hi; rwa [hf.out] at this), h⟩⟩
    have GOOD := hid good;clear good g1 hB hlt;by_cases m0 : fx.size ≤ l.length
    ·have m1 : 0 ≤ (l.length : Int) - fx.size := by omega
     rcases Nat.eq_zero_or_pos rs.size with hr | hr
     ·obtain rfl := lZ hr
      clear hr;go_wp2;go_ret2;exact ⟨⟨⟨0, true, rfl, ⟨fun _ => GOOD.out.2 ⟨m0, .inl rfl⟩, fun _ => rfl⟩⟩⟩, HBB.out⟩
     ·have hne := gH hr
      have htm : Int.tmod ((l.length : Int) - fx.size) rs.size = ((l.length : Int) - fx.size) % rs.size := Int.tmod_eq_emod_of_nonneg m1;have hzz : ((l.length : Int) - fx.size) % rs.size = (((l.length - fx.size) % rs.size : Nat) : Int) := by
       rw [show ((l.length : Int) - fx.size) = ((l.length - fx.size : Nat) : Int) by omega];exact (Int.natCast_emod _ _).symm
      generalize (l.length - fx.size) % rs.size = z at hzz GOOD;have hrr := hid hr;have hnz : ¬ ((rs.size : Int) = 0) := by omega
      by_cases m2 : z = 0
      ·subst m2
       have htm0 : Int.tmod ((l.length : Int) - fx.size) rs.size = 0 := by rw [htm, hzz]; rfl
       clear hzz htm;go_wp2;go_ret2;exact ⟨⟨⟨0, true, rfl, ⟨fun _ => GOOD.out.2 ⟨m0, .inr (by first | rfl | trivial)⟩, fun _ => rfl⟩⟩⟩, HBB.out⟩
      ·have m3 := hid m2
       rw [hzz] at htm;have m4 : ((z : Int) != 0) = true := by simp; omega
       clear hzz m2;go_wp2;go_ret2;exact ⟨⟨⟨l.length, false, rfl, ⟨fun h => (by cases h), fun h => (by rcases (GOOD.out.1 h).2 with h | h; have := hrr.out; omega; exact (m3.out h).elim)⟩⟩⟩, HBB.out⟩
    ·have m1 : (l.length : Int) - fx.size < 0 := by omega
     go_wp2;go_ret2;exact ⟨⟨⟨l.length, false, rfl, ⟨fun h => (by cases h), fun h => (m0 (GOOD.out.1 h).1).elim⟩⟩⟩, HBB.out⟩
end Go.Proofs.YtlkolghiknbbfaaGreatDoor
namespace Go.Proofs.YtlkolghiknbbfaaGreatDoor
open Go.RowKit Go.Lib Go.Shelf
attribute [local go_sem] Oper.semAt_some
def kz (s : ByteArray) : Nat → Nat
 | 0 => 0
 | k + 1 => 10 * kz s k + ((s.get! k).toNat - 48)
def wo (s : ByteArray) : Prop := s.size ≤ 4 ∧ ∀ k, k < s.size → 48 ≤ (s.get! k).toNat ∧ (s.get! k).toNat ≤ 57
theorem Af (s : ByteArray) (h : wo s) (k : Nat) (hk : k ≤ s.size) : kz s k < 10 ^ k := by
 induction k with
 | zero => simp [kz]
 | succ k ih =>
  have := ih (by omega);have := h.2 k (by omega);simp only [kz, Nat.pow_succ];omega
set_option maxHeartbeats 1000000 in
theorem CR (s : ByteArray) (w : World) (hd : wo s) : Qc 419 #[.string s] w (.int .u32 (kz s s.size)) := by
 have HD := hid hd;clear hd;go_enter Tryz.func419, Tryz.ntmps419;go_wp2;refine iB (fun W => W.heap[w.heap.size]? = some (.stringIter s 0) ∧ Bl w W) ⟨alloc_at w _, bP (Below.refl _ w) _⟩ ?_;rintro W0 ⟨f0, b0⟩;go_loopw [3] (fun n wr => ∃ k : Nat, k ≤ s.size ∧ n = .int .u32 (kz s k) ∧ wr.heap[w.heap.size]? = some (.stringIter s k) ∧ Bl w wr) (fun _ wr => s.size - wr.iterPos w.heap.size)
 case atStart => exact ⟨0, by omega, rfl, f0, b0⟩
 case round =>
  clear f0 b0;obtain ⟨k, hk, rfl, f0, hB⟩ := hrel;have hm0 : wr.iterPos w.heap.size = k := iterPos_of f0;by_cases hlt : k < s.size
  ·have hn : kz s k < 1000 := Nat.lt_of_lt_of_le (Af s HD.out k hk) (Nat.pow_le_pow_right (by omega : 10 > 0) (show k ≤ 3 by have := HD.out.1; omega))
   obtain ⟨z, hz0, hz1, hz2, hnx⟩ : ∃ (z : Nat), Hid (z = (s.get! k).toNat) ∧ 48 ≤ z ∧ z ≤ 57 ∧ (∀ ty, (Instr.next (.pointer (some ⟨w.heap.size, 0, none⟩)) true ty).run Tryz.prog wr = .ok (.tuple #[.bool true, .int .i64 k, .int .i32 z]) (wr.iterAt w.heap.size s (k + 1))) := by
    have h := HD.out.2 k hlt;have e : (s.get! k).toNat = (s[k]).toNat := by rw [kK s k hlt]
    exact ⟨_, rfl, h.1, h.2, fun ty => by rw [e]; exact run_next_ascii_at (P := Tryz.prog) wr w.heap.size s k ty f0 hlt (by omega)⟩
   have F0 := hid (iterAt_heap wr w.heap.size s k (k + 1) f0);have HB := hid (below_iterAt hB (k := w.heap.size) (by omega) s (k + 1));have HM := hid (show (wr.iterAt w.heap.size s (k + 1)).iterPos w.heap.size = k + 1 from iterPos_of F0.out);have HM0 := hid hm0;have HN := hid (show kz s (k + 1) = 10 * kz s k + (z - 48) by rw [hz0.out]; rfl);have HL := hid hlt;clear hlt f0 hB hm0;generalize kz s k = n at hn HN;go_wp2;go_roundw
   case rel => exact ⟨k + 1, HL.out, by rw [HN.out]; go_num, F0.out, HB.out⟩
   case measure => have := HL.out; rw [HM.out, HM0.out]; omega
  ·obtain rfl : k = s.size := by omega
   have hnx := fun ty => run_next_end_at (P := Tryz.prog) wr w.heap.size s s.size ty f0 hlt
   clear hlt f0 hm0;go_wp2;go_ret;exact ⟨rfl, hB⟩
theorem sj {F : Fence} {n : Nat} {P : Program} {c : Code} {Q : Exit → Act → World → Prop} {a : Act} {w : World} (G : World → Prop) (h : G w) (k : ∀ W, G W → c.wpIn F n P Q a W) : c.wpIn F n P Q a w := k w h
def dR (s : ByteArray) : Nat → Nat × ByteArray × Bool × List (Nat × ByteArray)
 | 0 => (0, ⟨#[]⟩, false, [])
 | k + 1 =>
  let (n, word, numbered, out) := dR s k
  if s.get! k = 32 then (if numbered then (n, ⟨#[]⟩, false, out ++ [(n, word)]) else (kz word word.size, ⟨#[]⟩, true, out)) else (n, word ++ ⟨#[s.get! k]⟩, numbered, out)
def wC (s : ByteArray) : Bool := decide (s.size ≤ 4) && (List.range s.size).all fun k => decide (48 ≤ (s.get! k).toNat) && decide ((s.get! k).toNat ≤ 57)
theorem Gt {s : ByteArray} (h : wC s = true) : wo s := by
 simp only [wC, Bool.and_eq_true, decide_eq_true_eq, List.all_eq_true, List.mem_range] at h;exact h
def xM (s : ByteArray) : Bool :=
 decide (s.size ≤ 100) && (List.range s.size).all fun k => decide ((s.get! k).toNat < 128) && (decide (s.get! k ≠ 32) || (dR s k).2.2.1 || wC (dR s k).2.1)
theorem Li (c : Nat) : xM (jq c) = true := by
 have h : (FX.all fun p => xM p.2) = true := by kernel_rfl
 unfold jq;rcases oU c FX with e | e
 ·rw [e]; rfl
 ·exact List.all_eq_true.1 h _ e
structure Jv (s : ByteArray) : Prop where
 small : s.size ≤ 100
 ascii : ∀ k, k < s.size → (s.get! k).toNat < 128
 digits : ∀ k, k < s.size → s.get! k = 32 → (dR s k).2.2.1 = false → wo (dR s k).2.1
theorem Hl {s : ByteArray} (h : xM s = true) : Jv s := by
 simp only [xM, Bool.and_eq_true, decide_eq_true_eq, List.all_eq_true, List.mem_range, Bool.or_eq_true] at h;refine ⟨h.1, fun k hk => (h.2 k hk).1, fun k hk e1 e2 => ?_⟩;rcases (h.2 k hk).2 with (e | e) | e
 ·exact (e e1).elim
 ·rw [e2] at e; cases e
 ·exact Gt e
theorem Gl (s : ByteArray) (k : Nat) : (dR s k).2.1.size ≤ k := by
 induction k with
 | zero => exact Nat.le_refl _
 | succ k ih =>
  simp only [dR]
  split
  ·split <;> exact Nat.zero_le _
  ·show ((dR s k).2.1 ++ ⟨#[s.get! k]⟩ : ByteArray).size ≤ k + 1
   rw [ByteArray.size_append];have e : (ByteArray.mk #[s.get! k]).size = 1 := rfl;omega
theorem Kc (s : ByteArray) (h : Jv s) (k : Nat) (hk : k ≤ s.size) : (dR s k).1 < 10000 := by
 induction k with
 | zero => simp [dR]
 | succ k ih =>
  have := ih (by omega);simp only [dR]
  split
  ·rename_i e
   split
   ·exact this
   ·rename_i e2
    have hd := h.digits k (by omega) e (by simpa using e2);exact Nat.lt_of_lt_of_le (Af _ hd _ (Nat.le_refl _)) (Nat.pow_le_pow_right (by omega : 10 > 0) hd.1)
  ·exact this
theorem Jq (s : ByteArray) (k d : Nat) : (dR s k).2.2.2 <+: (dR s (k + d)).2.2.2 := by
 induction d with
 | zero => exact List.prefix_refl _
 | succ d ih =>
  refine ih.trans ?_;rw [← Nat.add_assoc];simp only [dR]
  split
  ·split
   ·exact List.prefix_append _ _
   ·exact List.prefix_refl _
  ·exact List.prefix_refl _
def jV (c : Nat) : List (Nat × ByteArray) := (dR (jq c) (jq c).size).2.2.2
def Lr (c : Nat) (k : Nat) : Array Value := #[.int .u32 (((jV c)[k]?.getD (0, ⟨#[]⟩)).1 : Nat), .string ((jV c)[k]?.getD (0, ⟨#[]⟩)).2]
set_option maxHeartbeats 2000000 in
set_option maxRecDepth 100000 in
theorem Cn (c : Nat) (g : Nat) : Iu 418 #[.pointer (some ⟨g, 0, none⟩)] (fun W => W.cell? ⟨g, 0, none⟩ = some (.int .u8 c)) (Lr c) (jV c).length := by
 intro l J Jx W hF hl hJ hJx hY h0;have HY := hid hY;have HJ := hid hJ;have HJX := hid hJx;clear hY hJ hJx;refine (callsIn_wide (n := 1)).1 ?_;refine callsIn_of_wp Tryz.func418 rfl trivial ?_ rfl;simp only [Tryz.ntmps418, List.size_toArray, List.length_cons, List.length_nil, Nat.reduceAdd, Nat.reduceSub, Array.replicate_succ, Array.replicate_zero, List.push_toArray, List.append_toArray, List.nil_append, List.cons_append]
 gi_wp2_with (refine ⟨trivial, ?_⟩; gi_at_call 341; refine (callsIn_wide.2 (uw c _)).mono ?_; rintro e w1 ⟨rfl, rfl⟩)
 have SM := hid (Hl (Li c));obtain ⟨s, hs⟩ : ∃ s, Hid (jq c = s) := ⟨_, rfl⟩;have HN := hid (show (jV c).length = (dR s s.size).2.2.2.length by rw [← hs.out]; rfl)
 have HE := hid (show ∀ k (h : k < (dR s s.size).2.2.2.length), Lr c k = #[.int .u32 (((dR s s.size).2.2.2[k]).1 : Nat), .string ((dR s s.size).2.2.2[k]).2] from fun k h => by
  have e : jV c = (dR s s.size).2.2.2 := by rw [← hs.out]; rfl
  unfold Lr;rw [e, List.getElem?_eq_getElem (h := h)]
  rfl)
 rw [hs.out] at SM;rw [hs.out];refine sj (fun X => X.heap[W.heap.size]? = some (.stringIter s 0) ∧ Bl W X) ⟨alloc_at W _, bP (Below.refl _ W) _⟩ ?_;rintro W0 ⟨f0, b0⟩;have hj0 := HJ.out 0 _ _ h0 b0;have hs0 := b0.size;have hlt0 := (Array.getElem?_eq_some_iff.1 f0).1
 gi_loopw [3, 4, 5, 6] (fun v3 v4 v5 v6 wr => ∃ k : Nat, k ≤ s.size ∧ v3 = .int .u32 (dR s k).1 ∧ v5 = .string (dR s k).2.1 ∧ v6 = .bool (dR s k).2.2.1 ∧ J (dR s k).2.2.2.length wr ∧ wr.heap[W.heap.size]? = some (.stringIter s k) ∧ W.heap.size < wr.heap.size) (fun _ _ _ _ wr => s.size - wr.iterPos W.heap.size)
 case atStart => exact ⟨0, by omega, rfl, rfl, rfl, hj0, f0, hlt0⟩
 case round =>
  clear f0 b0 hj0 hlt0 hs0;obtain ⟨k, hk, rfl, rfl, rfl, hj, f0, hsz⟩ := hrel;have hm0 : wr.iterPos W.heap.size = k := iterPos_of f0;by_cases hlt : k < s.size
  ·obtain ⟨z, hz0, hnx⟩ : ∃ (z : Int), Hid (z = (s.get! k).toNat ∧ z < 128) ∧ (∀ ty, (Instr.next (.pointer (some ⟨W.heap.size, 0, none⟩)) true ty).run Tryz.prog wr = .ok (.tuple #[.bool true, .int .i64 k, .int .i32 z]) (wr.iterAt W.heap.size s (k + 1))) := by
    have h := SM.out.ascii k hlt;have e : (s.get! k).toNat = (s[k]).toNat := by rw [kK s k hlt]
    exact ⟨_, ⟨rfl, by omega⟩, fun ty => by rw [e]; exact run_next_ascii_at (P := Tryz.prog) wr W.heap.size s k ty f0 hlt (by omega)⟩
   have F0 := hid (iterAt_heap wr W.heap.size s k (k + 1) f0);have HM := hid (show (wr.iterAt W.heap.size s (k + 1)).iterPos W.heap.size = k + 1 from iterPos_of F0.out);have HM0 := hid hm0;have HL := hid hlt;have hjn := HJ.out _ _ _ hj (below_iterAt (Below.refl W.heap.size wr) (k := W.heap.size) (Nat.le_refl _) s (k + 1));have HSZ := hid hsz;have hszn : W.heap.size < (wr.iterAt W.heap.size s (k + 1)).heap.size := (Array.getElem?_eq_some_iff.1 F0.out).1;clear hlt f0 hm0 hj hsz;by_cases e : s.get! k = 32
   ·have e1 : (z != 32) = false := by rw [hz0.out.1, e]; rfl
    have E := hid e;clear e;have HD := hid (SM.out.digits k HL.out E.out);have HNM := hid (Kc s SM.out k hk);have HPRE := hid (Jq s (k + 1) (s.size - (k + 1)));rw [show k + 1 + (s.size - (k + 1)) = s.size by have := HL.out; omega] at HPRE
    cases hnb : (dR s k).2.2.1 with
    | false =>
     have HR := hid (show dR s (k + 1) = (kz (dR s k).2.1 (dR s k).2.1.size, ⟨#[]⟩, true, (dR s k).2.2.2) from (if_pos E.out).trans (if_neg (by rw [hnb]; exact Bool.false_ne_true)));rw [hnb] at HD;clear HPRE;replace hnb := hid hnb;generalize dR s k = q at hjn HR HD hnb ⊢;obtain ⟨n, word, numbered, out⟩ := q;obtain rfl : numbered = false := hnb.out;simp only at hjn HR HD ⊢;have c1 := fun w => CR word w (HD.out (by first | rfl | trivial))
     generalize kz word word.size = n2 at c1 HR;have hj2 : ∀ W2, Below (wr.iterAt W.heap.size s (k + 1)).heap.size (wr.iterAt W.heap.size s (k + 1)) W2 → Hid (J out.length W2) := fun W2 hb => HJ.out _ _ _ hjn (hb.mono (Nat.le_of_lt hszn))
     clear hjn
     gi_wp2_with (refine ⟨trivial, ?_⟩; gi_at_call 419; refine (callsIn_wide.2 (c1 _)).mono ?_; rintro e w1 ⟨rfl, hn1⟩)
     have f1 := (hn1.block _ hszn).trans F0.out;have hs1 := hn1.size;exact ⟨⟨k + 1, HL.out, by rw [HR.out], by rw [HR.out], by rw [HR.out], by rw [HR.out]; exact (hj2 w1 hn1).out, f1, by omega⟩, by have := HL.out; rw [iterPos_of f1, HM0.out]; omega⟩
    | true =>
     have HR := hid (show dR s (k + 1) = ((dR s k).1, ⟨#[]⟩, false, (dR s k).2.2.2 ++ [((dR s k).1, (dR s k).2.1)]) from (if_pos E.out).trans (if_pos hnb));rw [HR.out] at HPRE;clear HD;replace hnb := hid hnb;generalize dR s k = q at hjn HR HPRE HNM hnb ⊢;obtain ⟨n, word, numbered, out⟩ := q;obtain rfl : numbered = true := hnb.out;simp only at hjn HR HPRE ⊢;have hle := HPRE.out.length_le;rw [List.length_append, List.length_singleton] at hle;have hget : (dR s s.size).2.2.2[out.length]'(by omega) = (n, word) := by
      rw [← HPRE.out.getElem (by simp)];simp
     have hY1 := HY.out out.length (wr.iterAt W.heap.size s (k + 1)) (by rw [HN.out]; omega) hjn (by omega);rw [HE.out out.length (by omega), hget] at hY1;simp only at hY1;obtain ⟨fn, tmps, assign, body, hy, hR⟩ := hY1;have hnm : n < 10000 := HNM.out;clear hget hle hjn;gi_wp2;refine hR.mono ?_;rintro e W3 ⟨⟨rfl, hJ3⟩ | ⟨rfl, hJx3⟩, hA3⟩
     ·have f3 := (hA3.2 _ (Nat.le_refl _) hszn).trans F0.out
      have hs3 := hA3.1;have HJ3 := hid hJ3;clear hJ3;gi_wp2;exact ⟨⟨k + 1, HL.out, by rw [HR.out], by rw [HR.out], by rw [HR.out], by rw [HR.out]; simpa using HJ3.out, f3, by omega⟩, by have := HL.out; rw [iterPos_of f3, HM0.out]; omega⟩
     ·have HJX3 := hid hJx3
      clear hJx3;have hs3 := hA3.1;gi_wp2;refine bodyPost_ret (results_none rfl _ _ _) rfl ?_;exact ⟨⟨_, rfl⟩, .inr ⟨_, HJX3.out⟩, by omega, fun b h1 h2 => by omega⟩
   ·have e1 : (z != 32) = true := by
     rw [hz0.out.1, bne_iff_ne];intro h;exact e (by apply UInt8.toNat_inj.1; show _ = 32; omega)
    have hcv : Utf8.encode z = ⟨#[s.get! k]⟩ := by rw [hz0.out.1]; exact tN _ (by have := hz0.out; omega)
    have hsz2 : (dR s k).2.1.size + 1 ≤ 9223372036854775807 := by have := Gl s k; have := SM.out.small; omega
    have E := hid e;clear e;have HR := hid (show dR s (k + 1) = ((dR s k).1, (dR s k).2.1 ++ ⟨#[s.get! k]⟩, (dR s k).2.2.1, (dR s k).2.2.2) from if_neg E.out);generalize dR s k = q at hjn HR hsz2 ⊢;obtain ⟨n, word, numbered, out⟩ := q;generalize s.get! k = c at hcv HR;simp only at hjn hsz2 HR ⊢;gi_wp2;exact ⟨⟨k + 1, HL.out, by rw [HR.out], by rw [HR.out], by rw [HR.out], by rw [HR.out]; exact hjn, F0.out, hszn⟩, by have := HL.out; rw [HM.out, HM0.out]; omega⟩
  ·obtain rfl : k = s.size := by omega
   have hnx := fun ty => run_next_end_at (P := Tryz.prog) wr W.heap.size s s.size ty f0 hlt
   have hj' := hid hj;clear hlt f0 hm0 hj;gi_wp2;go_end0;exact ⟨⟨_, rfl⟩, .inl (by rw [HN.out]; exact hj'.out), by omega, fun b h1 h2 => by omega⟩
theorem Gf (c : Nat) (w : World) : Calls Tryz.prog 379 #[.int .u8 c] w fun e w' => e = .returned (.func (.func 418) #[] #[.pointer (some ⟨w.heap.size, 0, none⟩)]) ∧ w' = w.alloc (.cells #[.int .u8 c] 5) := by
 go_enter Tryz.func379, Tryz.ntmps379;go_wp2;go_ret;exact ⟨rfl, rfl⟩
def jY (c n : Nat) : Option ByteArray := ((jV c).find? fun p => p.1 == n).map Prod.snd
theorem four (w : World) (o0 o1 o2 o3 : Obj) : ((((w.alloc o0).alloc o1).alloc o2).alloc o3).heap[w.heap.size]? = some o0 ∧ ((((w.alloc o0).alloc o1).alloc o2).alloc o3).heap[w.heap.size + 1]? = some o1 ∧ ((((w.alloc o0).alloc o1).alloc o2).alloc o3).heap[w.heap.size + 2]? = some o2 ∧ ((((w.alloc o0).alloc o1).alloc o2).alloc o3).heap[w.heap.size + 3]? = some o3 := by
 obtain ⟨h0, h1, h2⟩ := three w o0 o1 o2;have h3 := alloc_at (((w.alloc o0).alloc o1).alloc o2) o3;simp only [World.size_alloc] at h3;exact ⟨(Below.heap_alloc _ _ _ (by simp <;> omega)).trans h0, (Below.heap_alloc _ _ _ (by simp <;> omega)).trans h1, (Below.heap_alloc _ _ _ (by simp <;> omega)).trans h2, h3⟩
structure rM (B n c : Nat) (r : ByteArray) (f : Bool) (w W : World) : Prop where
 n : W.heap[B]? = some (.cells #[.int .u32 n] 22 (0, 0))
 r : W.heap[B + 1]? = some (.cells #[.string r] 9 (0, 0))
 f : W.heap[B + 2]? = some (.cells #[.bool f] 4 (0, 0))
 c : W.heap[B + 3]? = some (.cells #[.int .u8 c] 5 (0, 0))
 below : Below B w W
theorem rM.keep {B n c : Nat} {r : ByteArray} {f : Bool} {w W W' : World} (h : rM B n c r f w W) (hb : Below (B + 4) W W') : rM B n c r f w W' :=
 ⟨(hb.block _ (by omega)).trans h.n, (hb.block _ (by omega)).trans h.r, (hb.block _ (by omega)).trans h.f, (hb.block _ (by omega)).trans h.c, h.below.trans (hb.mono (by omega))⟩
theorem rM.set {B n c : Nat} {r : ByteArray} {f : Bool} {w W : World} (h : rM B n c r f w W) (r' : ByteArray) (f' : Bool) : rM B n c r' f' w ((W.setCell ⟨B + 1, 0, none⟩ (.string r')).setCell ⟨B + 2, 0, none⟩ (.bool f')) :=
 ⟨(heap_setCell_other _ ⟨B + 2, 0, none⟩ _ _ (by show _ ≠ B + 2; omega)).trans ((heap_setCell_other _ ⟨B + 1, 0, none⟩ _ _ (by show _ ≠ B + 1; omega)).trans h.n),
  (heap_setCell_other _ ⟨B + 2, 0, none⟩ _ _ (by show _ ≠ B + 2; omega)).trans (heap_setCell_same W (B + 1) 0 _ _ _ h.r),
  heap_setCell_same _ (B + 2) 0 _ _ _ ((heap_setCell_other _ ⟨B + 1, 0, none⟩ _ _ (by show _ ≠ B + 1; omega)).trans h.f),
  (heap_setCell_other _ ⟨B + 2, 0, none⟩ _ _ (by show _ ≠ B + 2; omega)).trans ((heap_setCell_other _ ⟨B + 1, 0, none⟩ _ _ (by show _ ≠ B + 1; omega)).trans h.c),
  (h.below.setCell (p := ⟨B + 1, 0, none⟩) (by show B ≤ B + 1; omega) _).setCell (p := ⟨B + 2, 0, none⟩) (by show B ≤ B + 2; omega) _⟩
theorem rM.cells {B n c : Nat} {r : ByteArray} {f : Bool} {w W : World} (h : rM B n c r f w W) : W.cell? ⟨B, 0, none⟩ = some (.int .u32 n) ∧ W.cell? ⟨B + 1, 0, none⟩ = some (.string r) ∧ W.cell? ⟨B + 1 + 1, 0, none⟩ = some (.bool f) ∧ W.frozen? ⟨B + 1, 0, none⟩ = false ∧ W.frozen? ⟨B + 1 + 1, 0, none⟩ = false :=
 ⟨by rw [cell_of_row _ _ _ _ _ _ h.n]; rfl, by rw [cell_of_row _ _ _ _ _ _ h.r]; rfl, by rw [cell_of_row _ _ _ _ _ _ h.f]; rfl, frozen_of_row W _ 0 _ _ h.r, frozen_of_row W _ 0 _ _ h.f⟩
structure Kw (c n k : Nat) : Prop where
 out : ((jV c).take k).find? (fun p => p.1 == n) = none
theorem JP (c n k : Nat) (x : Nat × ByteArray) (hx : (jV c)[k]? = some x) (h : Kw c n k) :
  (x.1 = n → jY c n = some x.2) ∧ (x.1 ≠ n → Kw c n (k + 1)) := by
 have e : (jV c).take (k + 1) = (jV c).take k ++ [x] := by rw [List.take_add_one, hx]; rfl
 refine ⟨fun h1 => ?_, fun h1 => ?_⟩
 ·unfold jY
  have h2 : (jV c).find? (fun p => p.1 == n) = (((jV c).take (k + 1)) ++ (jV c).drop (k + 1)).find? (fun p => p.1 == n) := by rw [List.take_append_drop]
  rw [h2, e, List.find?_append, List.find?_append, h.out];simp [h1]
 ·refine ⟨?_⟩
  rw [e, List.find?_append, h.out];simp [h1]
theorem Cx {B : Nat} (A : World) (a b : Addr) (v u : Value) (h : a.block < B) (h2 : b.block < B) : Aside B A ((A.setCell a v).setCell b u) :=
 ⟨by rw [World.size_setCell, World.size_setCell]; exact Nat.le_refl _, fun k hk _ => (heap_setCell_other _ b k u (by omega)).trans (heap_setCell_other A a k v (by omega))⟩
theorem Ce (A : World) (a b : Addr) (v u : Value) (k : Nat) (h : k ≠ a.block) (h2 : k ≠ b.block) : ((A.setCell a v).setCell b u).heap[k]? = A.heap[k]? := (heap_setCell_other _ b k u h2).trans (heap_setCell_other A a k v h)
set_option maxHeartbeats 2000000 in
set_option maxRecDepth 100000 in
theorem Ju (c n : Nat) (w : World) : Qc 345 #[.int .u8 c, .int .u32 n] w (.tuple #[.string ((jY c n).getD ⟨#[]⟩), .bool (jY c n).isSome]) := by
 refine (callsIn_wide (n := 4)).1 ?_;refine callsIn_of_wp_marks Tryz.func345 rfl trivial ?_ rfl;simp only [Tryz.ntmps345, List.size_toArray, List.length_cons, List.length_nil, Nat.reduceAdd, Nat.reduceSub, Array.replicate_succ, Array.replicate_zero, List.push_toArray, List.append_toArray, List.nil_append, List.cons_append]
 gi_wp2_with (refine ⟨trivial, ?_⟩; gi_at_call 379; refine (callsIn_wide.2 (Gf _ _)).mono ?_; rintro e w1 ⟨rfl, rfl⟩)
 refine sj (fun W => rM w.heap.size n c ⟨#[]⟩ false w W ∧ W.heap.size = w.heap.size + 4) ⟨⟨(four w _ _ _ _).1, (four w _ _ _ _).2.1, (four w _ _ _ _).2.2.1, (four w _ _ _ _).2.2.2, bP (bP (bP (bP (Below.refl _ w) _) _) _) _⟩, by simp⟩ ?_;rintro W0 ⟨h0, hz⟩;refine qK (hit := Cn c (w.heap.size + 3)) (fun C hb => by rw [cell_of_row _ _ _ _ _ _ (h0.keep (by rw [← hz]; exact hb)).c]; rfl) rfl (enters_of Tryz.func418 (by kernel_rfl) rfl) (fun _ => rfl)
  (fun k A => rM w.heap.size n c ⟨#[]⟩ false w A ∧ Kw c n k) (fun q k A => q = .ret ∧ ∃ r, jY c n = some r ∧ rM w.heap.size n c r true w A)
  (fun k A C h hb => ⟨h.1.keep (by rw [← hz]; exact hb), h.2⟩) (fun q k A C h hb => by
   obtain ⟨h1, r, h2, h3⟩ := h
   exact ⟨h1, r, h2, h3.keep (by rw [← hz]; exact hb)⟩) ⟨h0, ⟨rfl⟩⟩ ?round ?done ?stop
 case round =>
  rintro l k W hk ⟨hh, hnone⟩ hle hlt hz1;obtain ⟨⟨m, s⟩, hp⟩ : ∃ p, Hid ((jV c)[k]? = some p) := ⟨_, hid (List.getElem?_eq_getElem hk)⟩;have hit := hid (JP c n k _ hp.out hnone);unfold Lr;rw [hp.out];gi_wp2;refine ⟨Aside.refl _ _, fun o' => ?_⟩;replace hh := hh.keep (aY (l := l) W o' (by omega));generalize W.putObj l o' = W2 at hh ⊢;obtain ⟨c0, c1, c2, f1, f2⟩ := hh.cells;by_cases e : m = n
  ·have e1 : ((m : Int) == n) = true := by simp [e]
   have E := hid e;clear e;gi_wp2;exact ⟨Cx _ _ _ _ _ (by show w.heap.size + 1 < _; omega) (by show w.heap.size + 1 + 1 < _; omega), rfl, _, hit.out.1 E.out, hh.set _ _⟩
  ·have e1 := (ja m n).1 e
   have E := hid e;clear e;gi_wp2;exact ⟨Aside.refl _ _, hh, hit.out.2 E.out⟩
 case done =>
  rintro W3 ⟨hh, hnone⟩ hz1 hd;have hno : jY c n = none := by
   unfold jY;have := hnone.out;rw [List.take_length] at this;rw [this];rfl
  have HNO := hid hno;clear hnone hno;obtain ⟨c0, c1, c2, f1, f2⟩ := hh.cells;have hf := hh.set ⟨#[]⟩ false;rw [hz] at hd ⊢;have hd2 := (Ce W3 ⟨w.heap.size + 1, 0, none⟩ ⟨w.heap.size + 2, 0, none⟩ (.string ⟨#[]⟩) (.bool false) (w.heap.size + 4) (by show _ ≠ w.heap.size + 1; omega) (by show _ ≠ w.heap.size + 2; omega)).trans hd;gi_wp2;refine ⟨by simp, .inl ⟨_, _, rfl, run_takeDeferred hd2, ?_⟩⟩;obtain ⟨d0, d1, d2, _, _⟩ := (hf.keep (aY (l := w.heap.size + 4) _ (.deferred none) (by omega))).cells;refine ⟨.tuple #[.string ⟨#[]⟩, .bool false], ?_, by rw [HNO.out]; rfl, hf.below.trans (aY _ _ (by omega))⟩;simp [results, Tryz.f345, go_sem, d1, d2]
 case stop =>
  rintro q k W3 ⟨rfl, r, hr, hh⟩ hz1 hd;have HR := hid hr;clear hr;rw [hz] at hd ⊢;gi_wp2;refine ⟨by simp, .inl ⟨_, _, rfl, run_takeDeferred hd, ?_⟩⟩;obtain ⟨d0, d1, d2, _, _⟩ := (hh.keep (aY (l := w.heap.size + 4) _ (.deferred none) (by omega))).cells;refine ⟨.tuple #[.string r, .bool true], ?_, by rw [HR.out]; rfl, hh.below.trans (aY _ _ (by omega))⟩;simp [results, Tryz.f345, go_sem, d1, d2]
end Go.Proofs.YtlkolghiknbbfaaGreatDoor
