/- What is wrong with an id, an enumerant, the number of arguments. -/
import Derived.Test.YtlkolghiknbbfaaGreatDoorAc
import Derived.Lib.Bytealg
import Derived.Deep.RegionLaw
set_option linter.unusedVariables false
set_option linter.unusedSimpArgs false
namespace Go.Proofs.YtlkolghiknbbfaaGreatDoor
open Go.RowKit
theorem sc_of {k : IntKind} {w : World} {a : Option Addr} {l : List Nat} (h : Sl 1 (rR k) w a l) : Sc k w a l := ⟨fun hp => by
 obtain ⟨b, o, rfl, hlt, hc⟩ := h.at_ hp
 exact ⟨b, o, rfl, hlt, fun i hi => by have := hc i hi; rwa [Nat.mul_one] at this⟩⟩
def nA (n bound : Nat) : Nat := if n = 0 ∨ bound ≤ n then 43 else 0
theorem KN (n bound : Nat) (w : World) : Calls Tryz.prog 297 #[.int .u32 n, .int .u32 bound] w fun e w' => e = .returned (.int .i64 (nA n bound)) ∧ w = w' := by
 by_cases h : n = 0
 ·rw [show nA n bound = 43 from if_pos (.inl h)]
  subst h;go_enter Tryz.func297, Tryz.ntmps297;go_wp2
  all_goals
   go_ret;exact ⟨rfl, rfl⟩
 have e1 : ((n : Int) == 0) = false := by simp [h]
 by_cases h2 : bound ≤ n
 ·rw [show nA n bound = 43 from if_pos (.inr h2)]
  have e2 : (bound : Int) ≤ n := by omega
  have e3 : decide ((bound : Int) ≤ n) = true := by simpa using h2
  clear h h2;go_enter Tryz.func297, Tryz.ntmps297;go_wp2;go_ret;exact ⟨rfl, rfl⟩
 ·rw [show nA n bound = 0 from if_neg (by omega)]
  clear h;go_enter Tryz.func297, Tryz.ntmps297;go_wp2;go_ret;exact ⟨rfl, rfl⟩
def Ei (c n : Nat) : Nat := if (jY c n).isSome then 0 else 31
theorem ER (c n : Nat) (w : World) : Qc 301 #[.int .u8 c, .int .u32 n] w (.int .i64 (Ei c n)) := by
 have c1 := Ju c n;unfold Ei;generalize (jY c n).getD ⟨#[]⟩ = s at c1;generalize (jY c n).isSome = b at c1 ⊢
 cases b
 all_goals
  go_enter Tryz.func301, Tryz.ntmps301;go_wp2_with (go_at_call 345; (with_reducible refine (c1 _).mono ?_); rintro e w1 ⟨rfl, hn1⟩);go_ret;exact ⟨rfl, hn1⟩
instance (op : Nat) (l : List Nat) : Decidable (lD op l) := by unfold lD; infer_instance
def dF (l : List Ag) : List Nat := l.map Ag.kind
def fI (op : Nat) (l : List Ag) : Nat := if lD op (dF l) then 0 else 42
theorem el_u8 : El 308 5 1 1 := El.of Tryz.underlying308 (z := .int .u8 0) (by kernel_rfl) rfl (by omega)
set_option maxRecDepth 100000 in
set_option maxHeartbeats 1000000 in
theorem vL (f : Fm) (a : Option Addr) (cap : Nat) (l : List Ag) (w : World) (h : Sl 3 cz w a l) (hl : l.length ≤ 140737488355328) :
  Qc 269 #[f.val, .slice a l.length cap] w (.int .i64 (fI f.op l)) := by
 have c1 := yB f.op;obtain ⟨op, name, ty, res, fx, rs, most, part⟩ := f;unfold Fm.val Fm.cells;simp only at c1 ⊢;obtain ⟨r, hr⟩ : ∃ r, Hid (fI op l = r) := ⟨_, hid rfl⟩;rw [hr.out];have HS := hid h;clear h;go_enter Tryz.func269, Tryz.ntmps269;go_wp2;refine iB (fun W => W.heap[w.heap.size]? = some (.cells #[.int .u16 op, .string name, .bool ty, .bool res, .string fx, .string rs, .int .i64 most, .int .u8 part] 352 (0, 0)) ∧ Bl w W) ⟨alloc_at w _, bP (Below.refl _ w) _⟩ ?_;rintro W0 ⟨g0, b0⟩;have hlt0 := (Array.getElem?_eq_some_iff.1 g0).1;go_loopw [5, 12] (fun v n wr => ∃ k : Nat, k ≤ l.length ∧ n = .int .i64 k ∧ wr.ownsRow W0.heap.size 5 1 v k ((dF (l.take k)).map fun x : Nat => Value.int .u8 (x : Int)) ∧ Bl W0 wr) (fun _ n _ => l.length - (intOf n).toNat)
 case atStart => exact ⟨0, by omega, rfl, World.ownsRow_nil _ _ _ _, Below.refl _ _⟩
 case round =>
  obtain ⟨k, hk, rfl, ho, hB⟩ := hrel;have HO := hid ho;by_cases hlt : k < l.length
  ·obtain ⟨b, o, rfl, hbl, hc⟩ := (HS.out.below cz.lasts (az b0 hB)).at_ (by omega)
   have hck := hc k hlt;obtain ⟨x, hx⟩ : ∃ x, Hid (l[k] = x) := ⟨_, hid rfl⟩;rw [hx.out] at hck;obtain ⟨d0, d1, d2, d3, d4, d5⟩ := hck;clear hc ho g0;go_wp2_with (first | ((with_reducible refine aA ?_); refine mU el_u8 rfl _ _ rfl W0.heap.size u5 k _ rfl (HO.out.alloc _) _ _ rfl (by simp) rfl (by simp [Value.oneCell']) (by omega) (by omega) (Nat.le_trans hB.size (by simp)) ?_; intro g' cap' w' h1' h2' h3' h4'));refine ⟨⟨k + 1, hlt, by go_num, ?_, below_grown (bP hB _) h2' (fun k hk => (HO.out.lt k hk).1)⟩, by simp [intOf]; omega⟩;have e : (dF (l.take (k + 1))) = dF (l.take k) ++ [x.kind] := by
    unfold dF;rw [List.take_add_one, List.getElem?_eq_getElem hlt, hx.out];simp
   rw [e, List.map_append];exact h1'
  ·obtain rfl : k = l.length := by omega
   rw [List.take_length] at ho;obtain ⟨a2, cap2, rfl, h2⟩ := ma (by rw [show (dF l).length = l.length by simp [dF]]; exact ho);rw [show (dF l).length = l.length by simp [dF]] at HO ⊢;have c2 : ∀ W, Sc .u8 W a2 (dF l) → Calls Tryz.prog 302 #[.int .u16 op, .slice a2 l.length cap2] W fun e w' => (∃ n : Int, e = .returned (.tuple #[.int .i64 n, .bool (decide (lD op (dF l)))])) ∧ Bl W w' := fun W h => by
    have := c1 a2 cap2 (dF l) W h (by simp [dF]; omega);rw [show (dF l).length = l.length by simp [dF]] at this;refine this.mono ?_;rintro e w' ⟨⟨n, b, rfl, hb⟩, hB⟩;refine ⟨⟨n, ?_⟩, hB⟩;rw [show decide (lD op (dF l)) = b by rw [Bool.eq_iff_iff, decide_eq_true_iff]; exact hb.symm]
   have H2 := hid (sc_of h2);have g1 := (hB.block _ hlt0).trans g0;have hcell : wr.cell? ⟨w.heap.size, 0, none⟩ = some (.int .u16 op) := by rw [cell_of_row _ _ _ _ _ _ g1]; rfl
   have HB := hid (az b0 hB);by_cases hfit : lD op (dF l)
   ·have hr0 : r = 0 := by rw [← hr.out]; exact if_pos hfit
    subst hr0;simp only [hfit, decide_true] at c2;clear ho h2 hB b0 g0 g1 c1 hlt hfit;go_wp2_with (first | (go_at_call 302; (with_reducible refine (c2 _ H2.out).mono ?_); rintro e w1 ⟨⟨z, rfl⟩, hn1⟩));go_ret;exact ⟨rfl, az HB.out hn1⟩
   ·have hr0 : r = 42 := by rw [← hr.out]; exact if_neg hfit
    subst hr0;simp only [hfit, decide_false] at c2;clear ho h2 hB b0 g0 g1 c1 hlt hfit;go_wp2_with (first | (go_at_call 302; (with_reducible refine (c2 _ H2.out).mono ?_); rintro e w1 ⟨⟨z, rfl⟩, hn1⟩));go_ret;exact ⟨rfl, az HB.out hn1⟩
def MI (s : ByteArray) : Bool := s.data.toList.contains 0
theorem EM (s : ByteArray) : 0 ≤ Lib.indexByte s.data.toList 0 ↔ MI s = true := by
 unfold MI
 induction s.data.toList with
 | nil => simp [Lib.indexByte]
 | cons b l ih =>
  simp only [Lib.indexByte, List.contains_cons];have h2 := Lib.indexByte_ge l 0;by_cases e : b = 0
  ·simp [e]
  ·have e1 : (b == 0) = false := by simpa using e
   have e2 : ((0 : UInt8) == b) = false := by simpa using Ne.symm e
   rw [e1, e2, Bool.false_or, ← ih];simp only [Bool.false_eq_true, if_false];by_cases e3 : Lib.indexByte l 0 = -1
   ·simp [e3]
   ·have e4 : (Lib.indexByte l 0 == -1) = false := by simpa using e3
    rw [e4];simp only [Bool.false_eq_true, if_false];omega
theorem Jz {s : ByteArray} (h : MI s = false) (k : Nat) (hk : k < s.size) : (s.get! k).toNat ≠ 0 := by
 intro e;have e2 : s.get! k = 0 := UInt8.toNat_inj.1 e;have hm : s.get! k ∈ s.data.toList := by
  rw [kK s k hk];exact List.getElem_mem (l := s.data.toList) (by simpa using hk)
 rw [e2] at hm;unfold MI at h;rw [List.contains_iff_mem.2 hm] at h
 cases h
set_option maxRecDepth 100000 in
theorem Ig (s : ByteArray) (c : Int) (w : World) : Calls Tryz.prog 378 #[.string s, .int .u8 c] w fun e w' => e = .returned (.int .i64 (Lib.indexByte s.data.toList c.toNat.toUInt8)) ∧ w = w' := by
 go_enter Tryz.func378, Tryz.ntmps378;go_wp2;rw [run_callFunc_extern Tryz.func417 (by kernel_rfl) (by kernel_rfl) (by kernel_rfl) (e := Extern.BytealgIndexByte.indexByte) (by kernel_rfl), Lib.run_indexByteString];simp only [Result.andThen];rw [Oper.upon_value];go_wp2;go_ret;exact ⟨rfl, rfl⟩
theorem uL (s : ByteArray) (c : Int) (w : World) : Calls Tryz.prog 342 #[.string s, .int .u8 c] w fun e w' => e = .returned (.int .i64 (Lib.indexByte s.data.toList c.toNat.toUInt8)) ∧ w = w' := by
 go_enter Tryz.func342, Tryz.ntmps342;go_wp2_with (go_at_call 378; (with_reducible refine (Ig _ _ _).mono ?_); rintro e w1 ⟨rfl, rfl⟩);go_ret;exact ⟨rfl, rfl⟩
def room (s : ByteArray) : Nat := s.size / 4 + 1
theorem zu (s : ByteArray) (w : World) (hs : s.size ≤ 140737488355328) : Calls Tryz.prog 344 #[.string s] w fun e w' => e = .returned (.int .i64 (room s)) ∧ w = w' := by
 go_enter Tryz.func344, Tryz.ntmps344;go_wp2;go_ret;exact ⟨by unfold room; go_num, rfl⟩
theorem gG : El 24 22 1 4 := El.of Tryz.underlying24 (z := .int .u32 0) (by kernel_rfl) rfl (by omega)
def Words (xs : List Value) (n : Nat) : Prop := xs.length = n ∧ ∀ i, i < n → ∃ z : Nat, z < 4294967296 ∧ xs[i]? = some (.int .u32 z)
theorem Ch (n : Nat) : Words (madeCells (Value.int .u32 0).cells (n * 1)).toList n := by
 refine ⟨by simp [madeCells], fun i hi => ⟨0, by omega, ?_⟩⟩;simp [madeCells, Value.cells, hi, Nat.mod_one]
theorem EJ {xs : List Value} {n : Nat} (h : Words xs n) (k z : Nat) (hz : z < 4294967296) : Words (xs.set k (.int .u32 z)) n := by
 refine ⟨by rw [List.length_set]; exact h.1, fun i hi => ?_⟩;by_cases e : k = i
 ·subst e
  exact ⟨z, hz, by rw [List.getElem?_set_self (by rw [h.1]; exact hi)]⟩
 ·rw [List.getElem?_set_ne e]
  exact h.2 i hi
theorem bB {B : Nat} {w w' : World} (h : Below B w w') : Below B w w'.drew := ⟨h.os, h.tape, h.output, h.size, h.block⟩
structure Fe (s : ByteArray) (w w' : World) (e : Ending) : Prop where
 big : 65535 < room s → e = .returned (.tuple #[.slice none 0 0, .int .i64 4])
 small : room s ≤ 65535 → ∃ v xs, e = .returned (.tuple #[v, .int .i64 0]) ∧ w'.ownsRow w.heap.size 22 1 v (room s) xs ∧ Words xs (room s)
 below : Bl w w'
set_option maxRecDepth 100000 in
set_option maxHeartbeats 2000000 in
theorem CY (s : ByteArray) (w : World) (hs : s.size ≤ 140737488355328) (hn : MI s = false) :
  Calls Tryz.prog 343 #[.string s] w fun e w' => Fe s w w' e := by
 have c1 := fun W => zu s W hs
 obtain ⟨q, hq⟩ : ∃ q, Hid (room s = q) := ⟨_, hid rfl⟩;rw [hq.out] at c1;have HN := hid hn;clear hn;go_enter Tryz.func343, Tryz.ntmps343;go_wp2;go_loopw [9] (fun n wr => ∃ k : Nat, k ≤ s.size ∧ n = .int .i64 k ∧ Hid (wr = w)) (fun n _ => s.size - (intOf n).toNat)
 case atStart => exact ⟨0, by omega, rfl, hid rfl⟩
 case round =>
  obtain ⟨k, hk, rfl, hw⟩ := hrel;obtain rfl : w = wr := hw.symm;by_cases hlt : k < s.size
  ·obtain ⟨z, hz1, hz2, hix⟩ := oW s k hlt
   have hz3 : ((z : Int) == 0) = false := by
    have := Jz HN.out k hlt;have e : z = (s.get! k).toNat := hz1.out;simp; omega
   go_wp2;go_roundw
   case rel => exact ⟨k + 1, by omega, by go_num, (by first | exact hid rfl | trivial)⟩
   case measure => simp [intOf]; omega
  ·obtain rfl : k = s.size := by omega
   by_cases hbig : 65535 < q
   ·go_wp2_with (go_at_call 344; (with_reducible refine (c1 _).mono ?_); rintro e w1 ⟨rfl, rfl⟩)
    go_ret2;exact ⟨fun _ => rfl, fun h => by have := hq.out; omega, Below.refl _ _⟩
   ·obtain ⟨i0, hi, hz0, hz1, hz2⟩ := info_parts (P := Tryz.prog) (e := 22) (z := .int .u32 0) (size := 1) (bytes := 4) (by kernel_rfl)
    go_wp2_with (first | (go_at_call 344; (with_reducible refine (c1 _).mono ?_); rintro e w1 ⟨rfl, rfl⟩) | (at_make; refine wpList_make_full w rfl _ _ 24 rfl w.heap.size 22 i0 (.int .u32 0) 1 gG.slice hi hz0 hz1 _ _ _ _ q rfl rfl rfl rfl (by rw [hz2]; omega) (by unfold maxLen; omega) (Nat.le_refl _) ?_; intro W1 hown hgr));have hB0 : Bl w W1 := (Below.refl _ _).grown hgr (Nat.le_refl _) (fun k hk => by cases hk);have hw0 := Ch q;generalize (madeCells (Value.int .u32 0).cells (q * 1)).toList = xs0 at hown hw0;clear hgr hi hz0 hz1 hz2 c1;go_loopw [25] (fun n wq => ∃ (k : Nat) (xs : List Value), k ≤ s.size ∧ n = .int .i64 k ∧ wq.ownsRow w.heap.size 22 1 (.slice (some ⟨w.heap.size, 0, none⟩) q q) q xs ∧ Words xs q ∧ Bl w wq) (fun n _ => s.size - (intOf n).toNat)
    case atStart => exact ⟨0, xs0, by omega, rfl, hown, hw0, hB0⟩
    case round =>
     clear hown hw0 hB0;obtain ⟨k, xs, hk, rfl, ho, hx, hB⟩ := hrel;by_cases hlt : k < s.size
     ·obtain ⟨z, hz1, hz2, hix⟩ := oW s k hlt
      have hq4 : k / 4 < q := by have := hq.out; unfold room at this; omega
      obtain ⟨y, hy, hxy⟩ := hx.2 (k / 4) hq4;have hc2 : wr.cell? ⟨w.heap.size, k / 4, none⟩ = some (.int .u32 y) := by rw [ho.cellAt (k / 4) (by omega)]; exact hxy
      have hf2 := ho.frozenAt (k / 4);have HO := hid ho;clear ho;have e4 : Int.tdiv (k : Int) 4 = ((k / 4 : Nat) : Int) := (Int.ofNat_tdiv k 4).symm;have e5 : Int.tmod (k : Int) 4 = ((k % 4 : Nat) : Int) := (Int.ofNat_tmod k 4).symm;go_wp2;go_region;go_wp2;obtain ⟨x, hx1, hx2⟩ : ∃ x : Nat, bits BinOp.or IntKind.u32 y (z * 2 ^ (8 * (k % 4)) % 4294967296) = (x : Int) ∧ x < 4294967296 := by
       have h1 := bits_lo_u32 .or y (z * 2 ^ (8 * (k % 4)) % 4294967296);have h2 := bits_hi_u32 .or y (z * 2 ^ (8 * (k % 4)) % 4294967296);exact ⟨(bits BinOp.or IntKind.u32 y (z * 2 ^ (8 * (k % 4)) % 4294967296)).toNat, by omega, by omega⟩
      rw [hx1];exact ⟨⟨k + 1, _, by omega, by go_num, (HO.out.stored (k / 4) (.int .u32 x)).1, EJ hx (k / 4) x hx2, bB (Below.setCell hB (p := ⟨w.heap.size, k / 4, none⟩) (Nat.le_refl _) _)⟩, by simp [intOf]; omega⟩
     ·obtain rfl : k = s.size := by omega
      have HO := hid ho;clear ho hlt;go_wp2;go_ret2;exact ⟨fun h => by have := hq.out; omega, fun _ => ⟨_, xs, rfl, by rw [hq.out]; exact HO.out, by rw [hq.out]; exact hx⟩, hB⟩
def kY (f : Fm) (bound : Nat) (v : Value) (room : Nat) : Array Value := #[.int .u16 f.op, .string f.name, .bool f.ty, .bool f.res, .string f.fixed, .string f.rest, .int .i64 f.most, .int .u8 f.part, .int .u32 bound, v, .int .i64 room]
structure Wr (B g : Nat) (f : Fm) (bound n room : Nat) (v : Value) (w : World) : Prop where
 cells : w.heap[g]? = some (.cells (kY f bound v room) 357 (0, 0))
 own : ∃ xs, w.ownsRow B 22 1 v n xs
 ne : v.ownBlock ≠ some g
 ge : B ≤ g
theorem Wr.lt {B g : Nat} {f : Fm} {bound n room : Nat} {v : Value} {w : World} (h : Wr B g f bound n room v w) : g < w.heap.size := (Array.getElem?_eq_some_iff.1 h.cells).1
theorem Wr.below {B g : Nat} {f : Fm} {bound n room : Nat} {v : Value} {w w' : World} (h : Wr B g f bound n room v w) (hb : Bl w w') : Wr B g f bound n room v w' :=
 ⟨(hb.block g h.lt).trans h.cells, h.own.imp fun _ k => own_below k hb, h.ne, h.ge⟩
structure eQ (g : Nat) (v v' : Value) (w w' : World) : Prop where
 os : w'.os = w.os
 tape : w'.tape = w.tape
 output : w'.output = w.output
 size : w.heap.size ≤ w'.heap.size
 block : ∀ k, k < w.heap.size → k ≠ g → v.ownBlock ≠ some k → w'.heap[k]? = w.heap[k]?
 own : v'.ownBlock = v.ownBlock ∨ ∀ k, v'.ownBlock = some k → w.heap.size ≤ k
theorem eQ.refl (g : Nat) (v : Value) (w : World) : eQ g v v w w := ⟨rfl, rfl, rfl, Nat.le_refl _, fun _ _ _ _ => rfl, .inl rfl⟩
theorem eQ.trans {g : Nat} {v v' u : Value} {w w' W : World} (h : eQ g v v' w w') (k : eQ g v' u w' W) : eQ g v u w W :=
 ⟨k.os.trans h.os, k.tape.trans h.tape, k.output.trans h.output, Nat.le_trans h.size k.size, fun b hb h1 h2 => (k.block b (Nat.lt_of_lt_of_le hb h.size) h1 (by
  rcases h.own with e | e
  ·rw [e]; exact h2
  ·intro e2; have := e b e2; omega)).trans (h.block b hb h1 h2), by
  rcases k.own with e | e
  ·rw [e]; exact h.own
  ·exact .inr fun b hb => Nat.le_trans h.size (e b hb)⟩
theorem eQ.of_below {g : Nat} {v : Value} {w w' : World} (h : Bl w w') : eQ g v v w w' := ⟨h.os, h.tape, h.output, h.size, fun k hk _ _ => h.block k hk, .inl rfl⟩
theorem eQ.below {g B : Nat} {v v' : Value} {w w' : World} {f : Fm} {bound n room : Nat} (h : eQ g v v' w w') (k : Wr B g f bound n room v w) (hB : B ≤ w.heap.size) : Below B w w' :=
 ⟨h.os, h.tape, h.output, h.size, fun b hb => h.block b (Nat.lt_of_lt_of_le hb hB) (by have := k.ge; omega) (by
  obtain ⟨xs, ho⟩ := k.own
  intro e; have := (ho.lt b e).1; omega)⟩
theorem eQ.drewN {g : Nat} {v v' : Value} {w w' : World} (h : eQ g v v' w w') (q : Nat) : eQ g v v' w (w'.drewN q) := ⟨h.os, h.tape, h.output, h.size, h.block, h.own⟩
theorem eQ.drew {g : Nat} {v v' : Value} {w w' : World} (h : eQ g v v' w w') : eQ g v v' w w'.drew := ⟨h.os, h.tape, h.output, h.size, h.block, h.own⟩
theorem Wr.drewN {B g : Nat} {f : Fm} {bound n rm : Nat} {v : Value} {w : World} (h : Wr B g f bound n rm v w) (q : Nat) : Wr B g f bound n rm v (w.drewN q) := ⟨h.cells, h.own, h.ne, h.ge⟩
theorem Wr.drew {B g : Nat} {f : Fm} {bound n rm : Nat} {v : Value} {w : World} (h : Wr B g f bound n rm v w) : Wr B g f bound n rm v w.drew := ⟨h.cells, h.own, h.ne, h.ge⟩
theorem aZ {w : World} {g : Nat} {f : Fm} {bound room : Nat} {v : Value} (h : w.heap[g]? = some (.cells (kY f bound v room) 357 (0, 0))) :
  w.cell? ⟨g, 0, none⟩ = some (.int .u16 f.op) ∧ w.cell? ⟨g, 8, none⟩ = some (.int .u32 bound) ∧ w.cell? ⟨g, 9, none⟩ = some v ∧ w.cell? ⟨g, 10, none⟩ = some (.int .i64 room) ∧ w.frozen? ⟨g, 9, none⟩ = false ∧ w.frozen? ⟨g, 10, none⟩ = false :=
 ⟨(cell_of_row _ _ 0 _ _ _ h).trans rfl, (cell_of_row _ _ 8 _ _ _ h).trans rfl, (cell_of_row _ _ 9 _ _ _ h).trans rfl, (cell_of_row _ _ 10 _ _ _ h).trans rfl, frozen_of_row w _ 9 _ _ h, frozen_of_row w _ 10 _ _ h⟩
theorem Ih {w : World} {g : Nat} {f : Fm} {bound room : Nat} {v : Value} (v' : Value) (room' : Nat) (h : w.heap[g]? = some (.cells (kY f bound v room) 357 (0, 0))) :
  ((w.setCell ⟨g, 9, none⟩ v').setCell ⟨g, 10, none⟩ (.int .i64 room')).heap[g]? = some (.cells (kY f bound v' room') 357 (0, 0)) := by
 exact (heap_setCell_same _ g 10 _ _ _ (heap_setCell_same w g 9 _ _ _ h)).trans rfl
theorem gL {w : World} {B g n sz : Nat} {e : TypeId} {v u : Value} {xs : List Value} (k : Nat) (h : w.ownsRow B e sz v n xs) (hne : v.ownBlock ≠ some g) : (w.setCell ⟨g, k, none⟩ u).ownsRow B e sz v n xs :=
 h.kept (row := some g) ⟨rfl, rfl, rfl, by simp, fun k hk hne => heap_setCell_other _ _ _ _ (by intro e; exact hne (by rw [e]))⟩ (.inr hne)
theorem zU {w w' : World} {g g' n : Nat} {v : Value} (k : Nat) (u1 u2 : Value) (h : w.grownBy w' v.ownBlock) (h3 : v.ownBlock = some g' ∨ w.heap.size ≤ g') (k2 : Nat) (cap : Nat) : eQ g v (.slice (some ⟨g', 0, none⟩) n cap) w ((w'.setCell ⟨g, k, none⟩ u1).setCell ⟨g, k2, none⟩ u2) :=
 ⟨h.os, h.tape, h.output, by rw [World.size_setCell, World.size_setCell]; exact h.size, fun b hb h1 h2 => (heap_setCell_other _ ⟨g, k2, none⟩ b _ h1).trans ((heap_setCell_other _ ⟨g, k, none⟩ b _ h1).trans (h.block b hb (Ne.symm h2))), by
  rcases h3 with e | e
  ·exact .inl (by rw [e]; rfl)
  ·exact .inr fun b hb => (by simp [Value.ownBlock] at hb; omega)⟩
set_option maxRecDepth 100000 in
set_option maxHeartbeats 1000000 in
theorem Eg (B g : Nat) (f : Fm) (bound n room x : Nat) (v : Value) (w : World) (h : Wr B g f bound n room v w) (hB : B ≤ w.heap.size) (hn : n ≤ 1152921504606) (hr : room ≤ 1152921504606846) :
  Calls Tryz.prog 296 #[.pointer (some ⟨g, 0, none⟩), .int .u32 x] w fun e w' => (∃ v, e = .returned v) ∧ ∃ v', Wr B g f bound (n + 1) (room + 1) v' w' ∧ eQ g v v' w w' := by
 obtain ⟨xs, ho⟩ := h.own;have hg := h.cells;have hne := h.ne;have hge := hid h.ge;obtain ⟨c0, c8, c9, c10, f9, f10⟩ := aZ hg;have hlt := (Array.getElem?_eq_some_iff.1 hg).1;have HG := hid hg;have HO := hid ho;have HNE := hid hne;clear h hg ho hne;go_enter Tryz.func296, Tryz.ntmps296;go_wp2_with (first | (at_builtin; refine mU gG rfl _ _ rfl B v n xs rfl HO.out _ _ rfl (by simp) rfl (by simp [Value.oneCell']) (by omega) (by omega) hB ?_; intro g' cap' w' h1' h2' h3' h4'; obtain ⟨d0, d8, d9, d10, e9, e10⟩ := aZ ((h2'.block g hlt (Ne.symm HNE.out)).trans HG.out)));go_end0;have hg' : g' ≠ g := by
  rcases h3' with h | h
  ·intro e; subst e; exact HNE.out h
  ·omega
 refine ⟨⟨_, rfl⟩, _, ⟨Ih (.slice (some ⟨g', 0, none⟩) (n + 1) cap') (room + 1) ((h2'.block g hlt (Ne.symm HNE.out)).trans HG.out), ⟨_, gL 10 (gL 9 h1' ?_) ?_⟩, ?_, hge.out⟩, zU 9 _ _ h2' (h3'.imp id (by omega)) 10 _⟩
 ·simpa [Value.ownBlock] using hg'
 ·simpa [Value.ownBlock] using hg'
 ·simpa [Value.ownBlock] using hg'
def iH (must : Bool) (n bound lacks : Nat) : Nat := if must != decide (n ≠ 0) then lacks else if must then nA n bound else 0
set_option maxHeartbeats 1000000 in
theorem AO (B g : Nat) (f : Fm) (bound n room x lacks : Nat) (must : Bool) (v : Value) (w : World) (h : Wr B g f bound n room v w) (hB : B ≤ w.heap.size) (hn : n ≤ 1152921504606) (hr : room ≤ 1152921504606846) :
  Calls Tryz.prog 267 #[.pointer (some ⟨g, 0, none⟩), .bool must, .int .u32 x, .int .i64 lacks] w fun e w' => e = .returned (.int .i64 (iH must x bound lacks)) ∧ ∃ v', Wr B g f bound (n + if must && decide (x ≠ 0) then 1 else 0) (room + if must && decide (x ≠ 0) then 1 else 0) v' w' ∧ eQ g v v' w w' := by
 have c1 := fun W h1 h2 => Eg B g f bound n room x v W h1 h2 hn hr
 have c2 := KN x bound;have H := hid h;clear h;obtain ⟨r, hr⟩ : ∃ r, Hid (iH must x bound lacks = r) := ⟨_, hid rfl⟩;rw [hr.out]
 cases must
 ·simp only [Bool.false_and, Bool.false_eq_true, if_false, Nat.add_zero]
  by_cases e : x = 0
  ·have hr0 : r = 0 := by rw [← hr.out, e]; rfl
   subst hr0 e;go_enter Tryz.func267, Tryz.ntmps267;go_wp2;go_ret;exact ⟨rfl, _, H.out, eQ.refl _ _ _⟩
  ·have hr0 : r = lacks := by rw [← hr.out]; simp [iH, e]
   subst hr0;have e1 : ((x : Int) != 0) = true := by simp [e]
   go_enter Tryz.func267, Tryz.ntmps267;go_wp2;go_ret;exact ⟨rfl, _, H.out, eQ.refl _ _ _⟩
 ·simp only [Bool.true_and]
  by_cases e : x = 0
  ·have hr0 : r = lacks := by rw [← hr.out, e]; rfl
   subst hr0 e;simp only [ne_eq, not_true_eq_false, decide_false, Bool.false_eq_true, if_false, Nat.add_zero];go_enter Tryz.func267, Tryz.ntmps267;go_wp2;go_ret;exact ⟨rfl, _, H.out, eQ.refl _ _ _⟩
  ·have hr0 : r = nA x bound := by rw [← hr.out]; simp [iH, e]
   have e1 : ((x : Int) != 0) = true := by simp [e]
   simp only [ne_eq, e, not_false_eq_true, decide_true, if_true];rw [← hr0] at c2;clear hr hr0 e;go_enter Tryz.func267, Tryz.ntmps267;go_wp2_with (first | (go_at_call 296; (with_reducible refine (c1 _ H.out hB).mono ?_); rintro e w1 ⟨⟨v0, rfl⟩, v1, hw1, hb1⟩; obtain ⟨d0, d8, d9, d10, e9, e10⟩ := aZ hw1.cells; replace hw1 := hid hw1) | (go_at_call 297; (with_reducible refine (c2 _).mono ?_); rintro e w2 ⟨rfl, rfl⟩));go_ret;exact ⟨rfl, _, hw1.out, hb1⟩
def rf (s : ByteArray) : Nat := if MI s then 13 else 0
def mM (s : ByteArray) : Nat := if MI s || decide (65535 < room s) then 0 else room s
def kF (s : ByteArray) : Nat := if MI s then 0 else room s
theorem Ma {w : World} {B g : Nat} {f : Fm} {bound n rm : Nat} {v : Value} (h : Wr B g f bound n rm v w) (rm' : Nat) : Wr B g f bound n rm' v (w.setCell ⟨g, 10, none⟩ (.int .i64 rm')) :=
 ⟨(heap_setCell_same w g 10 _ _ _ h.cells).trans rfl, h.own.imp fun _ k => gL 10 k h.ne, h.ne, h.ge⟩
theorem Kr {w w' : World} {g : Nat} {v v' : Value} (k : Nat) (u : Value) (h : eQ g v v' w w') : eQ g v v' w (w'.setCell ⟨g, k, none⟩ u) :=
 ⟨h.os, h.tape, h.output, by rw [World.size_setCell]; exact h.size, fun b hb h1 h2 => (heap_setCell_other _ ⟨g, k, none⟩ b _ h1).trans (h.block b hb h1 h2), h.own⟩
theorem FC {w : World} {ops : Array Oper} {rest : List Oper} {o : Oper} {a : Act} {Q : Exit → Act → World → Prop} {t e : TypeId} {sz bytes : Nat} (E : El t e sz bytes) (hgd : o.guard = none) (s x : Operand)
  (ho : o.op = .call { callee := .builtin .append, args := #[s, x], argTypes := #[t, t] })
  (base : Nat) (v : Value) (n : Nat) (xs : List Value) (hs : a.eval s = v) (hown : w.ownsRow base e sz v n xs) (g2 m c : Nat) (news : List Value) (hx : a.eval x = .slice (some ⟨g2, 0, none⟩) m c)
  (hl : news.length = m * sz) (hnews : ∀ j u, news[j]? = some u → w.cell? ⟨g2, j, none⟩ = some u) (h1 : ∀ u ∈ news, u.oneCell' = true) (hm : 0 < m) (hsmall : (n + m) * bytes ≤ 140737488355328) (h63 : n + m ≤ 140737488355328) (hbase : base ≤ w.heap.size)
  (h : ∀ g' cap w', w'.ownsRow base e sz (.slice (some ⟨g', 0, none⟩) (n + m) cap) (n + m) (xs ++ news) → w.grownBy w' v.ownBlock → (v.ownBlock = some g' ∨ g' = w.heap.size) → g' < w'.heap.size →
   wpList Tryz.prog ops Q rest (a.put o.dst (.slice (some ⟨g', 0, none⟩) (n + m) cap)) w') : wpList Tryz.prog ops Q (o :: rest) a w := by
 obtain ⟨i, z, hi, hz0, hz1, hz2, hz3⟩ := E.info;refine wpList_append_lies w hgd s x t ho base e i z sz bytes E.slice hi hz0 hz1 hz2 hz3 E.pos v n xs hs hown ⟨g2, 0, none⟩ m c news hx hl ?_ h1 hm (by unfold maxLen; omega) hsmall hbase _ rfl h;intro j u hu;rw [bH, Nat.zero_add];exact hnews j u hu
theorem Words.one {xs : List Value} {n : Nat} (h : Words xs n) : ∀ u ∈ xs, u.oneCell' = true := by
 intro u hu;obtain ⟨i, hi, rfl⟩ := List.getElem_of_mem hu;obtain ⟨z, _, hz⟩ := h.2 i (by rw [← h.1]; exact hi);rw [List.getElem?_eq_getElem hi] at hz;rw [Option.some.inj hz];rfl
set_option maxRecDepth 100000 in
set_option maxHeartbeats 2000000 in
theorem Ja (B g : Nat) (f : Fm) (bound n rm : Nat) (s : ByteArray) (v0 : Value) (w : World) (h : Wr B g f bound n rm v0 w) (hB : B ≤ w.heap.size) (hn : n ≤ 1152921504606) (hr : rm ≤ 115292150460684) (hs : s.size ≤ 140737488355328) :
  Calls Tryz.prog 300 #[.pointer (some ⟨g, 0, none⟩), .string s] w fun e w' => e = .returned (.int .i64 (rf s)) ∧ ∃ v', Wr B g f bound (n + mM s) (rm + kF s) v' w' ∧ eQ g v0 v' w w' := by
 have c1 := fun W => uL s 0 W
 have ci := hid (EM s);have c3 := fun W => zu s W hs
 have H := hid h;clear h;unfold rf mM kF
 cases hnul : MI s
 ·simp only [Bool.false_eq_true, if_false, Bool.false_or]
  have hi : Lib.indexByte s.data.toList 0 < 0 := by have := ci.out; rw [hnul] at this; simp at this; omega
  have c2 := fun W => CY s W hs hnul
  have hz : (0 : Int).toNat.toUInt8 = 0 := rfl;rw [hz] at c1;generalize Lib.indexByte s.data.toList 0 = z at hi c1;have hq : room s ≤ 140737488355328 := by unfold room; omega
  by_cases hbig : 65535 < room s
  ·simp only [hbig, decide_true, if_true, Nat.add_zero]
   have C2 : ∀ W, Qc 343 #[.string s] W (.tuple #[.slice none 0 0, .int .i64 4]) := fun W => (c2 W).mono fun e w' h => ⟨h.big hbig, h.below⟩
   generalize room s = q at c3 hq hbig ⊢;clear c2 ci hz;go_enter Tryz.func300, Tryz.ntmps300;go_wp2_with (first | (go_at_call 342; (with_reducible refine (c1 _).mono ?_); rintro e w1 ⟨rfl, rfl⟩) | (go_at_call 343; (with_reducible refine (C2 _).mono ?_); rintro e w1 ⟨rfl, hn1⟩));have H1 := hid (H.out.below hn1);obtain ⟨d0, d8, d9, d10, e9, e10⟩ := aZ H1.out.cells;go_region_law (first | (go_simp; go_at_call 344; (with_reducible refine (c3 _).mono ?_); rintro e w2 ⟨rfl, rfl⟩))
   all_goals
    go_wp2;go_ret;rw [show IntKind.i64.wrap ((rm : Int) + q) = ((rm + q : Nat) : Int) by rw [IntWalk.i64_in _ (by omega)]; omega];exact ⟨rfl, _, (Ma H1.out (rm + q)).drew, (Kr 10 _ (eQ.of_below hn1)).drew⟩
  ·simp only [hbig, decide_false, Bool.false_eq_true, if_false]
   have C2 : ∀ W, Calls Tryz.prog 343 #[.string s] W fun e w' => (∃ v xs, e = .returned (.tuple #[v, .int .i64 0]) ∧ w'.ownsRow W.heap.size 22 1 v (room s) xs ∧ Words xs (room s)) ∧ Bl W w' := fun W => (c2 W).mono fun e w' h => ⟨h.small (by omega), h.below⟩
   have hq1 : 0 < room s := by unfold room; omega
   have hbig2 : room s ≤ 65535 := by omega
   generalize room s = q at C2 hq1 hbig2 ⊢;clear c2 c3 ci hz hbig;go_enter Tryz.func300, Tryz.ntmps300;go_wp2_with (first | (go_at_call 342; (with_reducible refine (c1 _).mono ?_); rintro e w1 ⟨rfl, rfl⟩) | (go_at_call 343; (with_reducible refine (C2 _).mono ?_); rintro e w1 ⟨⟨v, xs, rfl, ho, hw⟩, hn1⟩; have H1 := hid (H.out.below hn1); obtain ⟨xs0, ho0⟩ := H1.out.own; have hg := H1.out.cells; have hne := H1.out.ne; obtain ⟨d0, d8, d9, d10, e9, e10⟩ := aZ hg; obtain ⟨a2, cap2, rfl, h2⟩ := fA ho; obtain ⟨g2, rfl, hb2, hl2, hc2⟩ := h2 hq1; replace ho0 := hid ho0; replace hc2 := hid hc2; replace hg := hid hg; replace hne := hid hne; clear ho h2) | (at_builtin; refine FC gG rfl _ _ rfl B v0 n xs0 rfl ho0.out g2 q cap2 xs rfl (by rw [hw.1]; omega) hc2.out hw.one hq1 (by omega) (by omega) (Nat.le_trans hB hn1.size) ?_; intro g' cap' w' h1' h2' h3' h4'; obtain ⟨d0, d8, d9, d10, e9, e10⟩ := aZ ((h2'.block g (block_lt_of_cell (a := ⟨g, 9, none⟩) d9) (Ne.symm hne.out)).trans hg.out)));go_ret;have hlt : g < w1.heap.size := (Array.getElem?_eq_some_iff.1 hg.out).1;have hgn : g' ≠ g := by
    rcases h3' with h | h
    ·intro e; subst e; exact hne.out h
    ·omega
   refine ⟨rfl, _, ⟨Ih (.slice (some ⟨g', 0, none⟩) (n + q) cap') (rm + q) ((h2'.block g hlt (Ne.symm hne.out)).trans hg.out), ⟨_, gL 10 (gL 9 h1' ?_) ?_⟩, ?_, H.out.ge⟩, (eQ.of_below hn1).trans (zU 9 _ _ h2' (h3'.imp id (by omega)) 10 _)⟩
   ·simpa [Value.ownBlock] using hgn
   ·simpa [Value.ownBlock] using hgn
   ·simpa [Value.ownBlock] using hgn
 ·simp only [if_true, Bool.true_or, Nat.add_zero]
  have hi : 0 ≤ Lib.indexByte s.data.toList 0 := ci.out.2 hnul;have hz : (0 : Int).toNat.toUInt8 = 0 := rfl;rw [hz] at c1;generalize Lib.indexByte s.data.toList 0 = z at hi c1;clear ci;go_enter Tryz.func300, Tryz.ntmps300;go_wp2_with (first | (go_at_call 342; (with_reducible refine (c1 _).mono ?_); rintro e w1 ⟨rfl, rfl⟩));go_ret;exact ⟨rfl, _, H.out, eQ.refl _ _ _⟩
theorem cells3 {w : World} {g : Nat} {t : TypeId} {a b c : Value} (h : w.heap[g]? = some (.cells #[a, b, c] t (0, 0))) : w.cell? ⟨g, 0, none⟩ = some a ∧ w.cell? ⟨g, 1, none⟩ = some b ∧ w.cell? ⟨g, 2, none⟩ = some c :=
 ⟨(cell_of_row _ _ 0 _ _ _ h).trans rfl, (cell_of_row _ _ 1 _ _ _ h).trans rfl, (cell_of_row _ _ 2 _ _ _ h).trans rfl⟩
def iU (f : Fm) (k : Nat) (a : Ag) : Prop := bN (aS f.op) k = 0 ∨ a.kind ≠ kindOf (bN (aS f.op) k) ∨ a.kind = 3 ∧ a.n ≠ 0 ∨ a.kind ≠ 3 ∧ a.s.size ≠ 0
instance (f : Fm) (k : Nat) (a : Ag) : Decidable (iU f k a) := by unfold iU; infer_instance
def lX (f : Fm) (bound k : Nat) (a : Ag) : Nat :=
 if iU f k a then 42 else if a.kind = 3 then rf a.s else if a.kind = 1 then nA a.n bound else if a.kind = 4 then Ei (bN (aS f.op) k) a.n else 0
def kg (f : Fm) (k : Nat) (a : Ag) : Nat := if iU f k a then 0 else if a.kind = 3 then mM a.s else 1
def jc (f : Fm) (k : Nat) (a : Ag) : Nat := if iU f k a then 0 else if a.kind = 3 then kF a.s else 1
set_option maxRecDepth 100000 in
set_option maxHeartbeats 4000000 in
theorem Ev (B g : Nat) (f : Fm) (bound n rm k : Nat) (x : Ag) (v0 : Value) (w : World) (h : Wr B g f bound n rm v0 w) (hB : B ≤ w.heap.size) (hn : n ≤ 1152921504606) (hr : rm ≤ 115292150460684) (hs : x.s.size ≤ 140737488355328) (hk : k ≤ 1152921504606846976) :
  Calls Tryz.prog 268 #[.pointer (some ⟨g, 0, none⟩), .int .i64 k, .agg #[.int .u8 x.kind, .int .u32 x.n, .string x.s]] w fun e w' => e = .returned (.int .i64 (lX f bound k x)) ∧ ∃ v', Wr B g f bound (n + kg f k x) (rm + jc f k x) v' w' ∧ eQ g v0 v' w w' := by
 have c1 := fun W => Fw f.op k W (by omega)
 have c2 := yL (bN (aS f.op) k);have H := hid h;have HB := hid (show iU f k x ↔ iU f k x from Iff.rfl);unfold lX kg jc;clear h;by_cases hbad : iU f k x
 ·simp only [hbad, if_true, Nat.add_zero]
  have hb := hbad;unfold iU at hb;generalize bN (aS f.op) k = c at c1 c2 hb;generalize kindOf c = kd at c2 hb;clear hbad HB;obtain ⟨kind, num, txt⟩ := x;simp only at hb hs ⊢;by_cases e0 : c = 0
  ·subst e0
   clear hb;go_enter Tryz.func268, Tryz.ntmps268;have hba := bP (Below.refl _ w) (.cells #[.int .u8 kind, .int .u32 num, .string txt] 64);have hg := (H.out.below hba).cells;obtain ⟨d0, d8, d9, d10, e9, e10⟩ := aZ hg;clear hg;go_wp2_with (first | (go_at_call 298; (with_reducible refine (c1 _).mono ?_); rintro e w1 ⟨rfl, hn1⟩; have ga := hid ((hn1.block w.heap.size (by simp)).trans (alloc_at w _)); obtain ⟨a0, a1, a2⟩ := cells3 ga.out; clear d0 d8 d9 d10 e9 e10; have hg := ((H.out.below hba).below hn1).cells; obtain ⟨d0, d8, d9, d10, e9, e10⟩ := aZ hg; clear hg; have hb1 := hid (az hba hn1); have hw1 := hid ((H.out.below hba).below hn1); clear hn1));go_quiet (first | ((go_at_call 299; exact Calls.quiet_of_same ((c2 _).mono fun _ _ h => ⟨h.1, h.2.symm⟩))));go_wp2;go_ret;exact ⟨rfl, _, hw1.out.drewN _, (eQ.of_below hb1.out).drewN _⟩
  ·have t0 : ((c : Int) == 0) = false := by simp [e0]
   by_cases e1 : kind = kd
   ·have t1 : ((kind : Int) != kd) = false := by simp [e1]
    by_cases e2 : kind = 3
    ·have t2 : ((kind : Int) == 3) = true := by simp [e2]
     have t3 : ((num : Int) != 0) = true := by simp; omega
     clear hb e0 e1 e2;go_enter Tryz.func268, Tryz.ntmps268;have hba := bP (Below.refl _ w) (.cells #[.int .u8 kind, .int .u32 num, .string txt] 64);have hg := (H.out.below hba).cells;obtain ⟨d0, d8, d9, d10, e9, e10⟩ := aZ hg;clear hg;go_wp2_with (first | (go_at_call 298; (with_reducible refine (c1 _).mono ?_); rintro e w1 ⟨rfl, hn1⟩; have ga := hid ((hn1.block w.heap.size (by simp)).trans (alloc_at w _)); obtain ⟨a0, a1, a2⟩ := cells3 ga.out; clear d0 d8 d9 d10 e9 e10; have hg := ((H.out.below hba).below hn1).cells; obtain ⟨d0, d8, d9, d10, e9, e10⟩ := aZ hg; clear hg; have hb1 := hid (az hba hn1); have hw1 := hid ((H.out.below hba).below hn1); clear hn1));go_quiet (first | ((go_at_call 299; exact Calls.quiet_of_same ((c2 _).mono fun _ _ h => ⟨h.1, h.2.symm⟩))));go_wp2;go_ret;exact ⟨rfl, _, hw1.out.drewN _, (eQ.of_below hb1.out).drewN _⟩
    ·have t2 : ((kind : Int) == 3) = false := by simp; omega
     have hne := gH (s := txt) (by omega);clear hb e0 e1 e2;go_enter Tryz.func268, Tryz.ntmps268;have hba := bP (Below.refl _ w) (.cells #[.int .u8 kind, .int .u32 num, .string txt] 64);have hg := (H.out.below hba).cells;obtain ⟨d0, d8, d9, d10, e9, e10⟩ := aZ hg;clear hg;go_wp2_with (first | (go_at_call 298; (with_reducible refine (c1 _).mono ?_); rintro e w1 ⟨rfl, hn1⟩; have ga := hid ((hn1.block w.heap.size (by simp)).trans (alloc_at w _)); obtain ⟨a0, a1, a2⟩ := cells3 ga.out; clear d0 d8 d9 d10 e9 e10; have hg := ((H.out.below hba).below hn1).cells; obtain ⟨d0, d8, d9, d10, e9, e10⟩ := aZ hg; clear hg; have hb1 := hid (az hba hn1); have hw1 := hid ((H.out.below hba).below hn1); clear hn1));go_quiet (first | ((go_at_call 299; exact Calls.quiet_of_same ((c2 _).mono fun _ _ h => ⟨h.1, h.2.symm⟩))));go_wp2;go_ret;exact ⟨rfl, _, hw1.out.drewN _, (eQ.of_below hb1.out).drewN _⟩
   ·have t1 : ((kind : Int) != kd) = true := by simp; omega
    clear hb e0 e1;go_enter Tryz.func268, Tryz.ntmps268;have hba := bP (Below.refl _ w) (.cells #[.int .u8 kind, .int .u32 num, .string txt] 64);have hg := (H.out.below hba).cells;obtain ⟨d0, d8, d9, d10, e9, e10⟩ := aZ hg;clear hg;go_wp2_with (first | (go_at_call 298; (with_reducible refine (c1 _).mono ?_); rintro e w1 ⟨rfl, hn1⟩; have ga := hid ((hn1.block w.heap.size (by simp)).trans (alloc_at w _)); obtain ⟨a0, a1, a2⟩ := cells3 ga.out; clear d0 d8 d9 d10 e9 e10; have hg := ((H.out.below hba).below hn1).cells; obtain ⟨d0, d8, d9, d10, e9, e10⟩ := aZ hg; clear hg; have hb1 := hid (az hba hn1); have hw1 := hid ((H.out.below hba).below hn1); clear hn1));go_quiet (first | ((go_at_call 299; exact Calls.quiet_of_same ((c2 _).mono fun _ _ h => ⟨h.1, h.2.symm⟩))));go_wp2;go_ret;exact ⟨rfl, _, hw1.out.drewN _, (eQ.of_below hb1.out).drewN _⟩
 ·simp only [hbad, if_false]
  have hb : bN (aS f.op) k ≠ 0 ∧ x.kind = kindOf (bN (aS f.op) k) ∧ (x.kind = 3 → x.n = 0) ∧ (x.kind ≠ 3 → x.s.size = 0) := by
   unfold iU at hbad;refine ⟨fun e => hbad (.inl e), Classical.byContradiction fun e => hbad (.inr (.inl e)), fun e => Classical.byContradiction fun e2 => hbad (.inr (.inr (.inl ⟨e, e2⟩))), fun e => Classical.byContradiction fun e2 => hbad (.inr (.inr (.inr ⟨e, e2⟩)))⟩
  have c3 := fun W h1 h2 => Ja B g f bound n rm x.s v0 W h1 h2 hn hr hs
  have c4 := fun W h1 h2 => Eg B g f bound n rm x.n v0 W h1 h2 hn (by omega)
  have c5 := KN x.n bound;have c6 := ER (bN (aS f.op) k) x.n;clear hbad HB;generalize bN (aS f.op) k = c at c1 c2 c6 hb ⊢;generalize kindOf c = kd at c2 hb;generalize nA x.n bound = z5 at c5 ⊢;generalize Ei c x.n = z6 at c6 ⊢;generalize rf x.s = z3 at c3 ⊢;generalize mM x.s = y3 at c3 ⊢;generalize kF x.s = x3 at c3 ⊢;obtain ⟨kind, num, txt⟩ := x;simp only at hb hs c3 c4 c5 c6 ⊢;obtain ⟨e0, e1, e2, e3⟩ := hb;have t0 : ((c : Int) == 0) = false := by simp [e0]
  have t1 : ((kind : Int) != kd) = false := by simp [e1]
  by_cases ek : kind = 3
  ·have t2 : ((kind : Int) == 3) = true := by simp [ek]
   have t3 : ((num : Int) != 0) = false := by simp [e2 ek]
   simp only [ek, if_true];rw [← ek];clear e2 e3 e0 e1 ek c4;go_enter Tryz.func268, Tryz.ntmps268;have hba := bP (Below.refl _ w) (.cells #[.int .u8 kind, .int .u32 num, .string txt] 64);have hg := (H.out.below hba).cells;obtain ⟨d0, d8, d9, d10, e9, e10⟩ := aZ hg;clear hg;go_wp2_with (first | (go_at_call 298; (with_reducible refine (c1 _).mono ?_); rintro e w1 ⟨rfl, hn1⟩; have ga := hid ((hn1.block w.heap.size (by simp)).trans (alloc_at w _)); obtain ⟨a0, a1, a2⟩ := cells3 ga.out; clear d0 d8 d9 d10 e9 e10; have hg := ((H.out.below hba).below hn1).cells; obtain ⟨d0, d8, d9, d10, e9, e10⟩ := aZ hg; clear hg; have hb1 := hid (az hba hn1); have hw1 := hid ((H.out.below hba).below hn1); clear hn1));go_quiet (first | ((go_at_call 299; exact Calls.quiet_of_same ((c2 _).mono fun _ _ h => ⟨h.1, h.2.symm⟩))));have hB2 : ∀ q, B ≤ (w1.drewN q).heap.size := fun _ => Nat.le_trans hB hb1.out.size
   replace hB2 := hid hB2;go_wp2_with (go_at_call 300; (with_reducible refine (c3 _ (hw1.out.drewN _) (hB2.out _)).mono ?_); rintro e w2 ⟨rfl, v2, hw2, ht2⟩);go_ret;exact ⟨rfl, _, hw2, ((eQ.of_below hb1.out).drewN _).trans ht2⟩
  ·have t2 : ((kind : Int) == 3) = false := by simp; omega
   obtain rfl := lZ (e3 ek);simp only [ek, if_false];clear e2 e3 e0 e1 c3;by_cases k1 : kind = 1
   ·have u1 : ((kind : Int) == 1) = true := by simp [k1]
    simp only [if_pos k1];clear k1 ek;go_enter Tryz.func268, Tryz.ntmps268;have hba := bP (Below.refl _ w) (.cells #[.int .u8 kind, .int .u32 num, .string ⟨#[]⟩] 64);have hg := (H.out.below hba).cells;obtain ⟨d0, d8, d9, d10, e9, e10⟩ := aZ hg;clear hg;go_wp2_with (first | (go_at_call 298; (with_reducible refine (c1 _).mono ?_); rintro e w1 ⟨rfl, hn1⟩; have ga := hid ((hn1.block w.heap.size (by simp)).trans (alloc_at w _)); obtain ⟨a0, a1, a2⟩ := cells3 ga.out; clear d0 d8 d9 d10 e9 e10; have hg := ((H.out.below hba).below hn1).cells; obtain ⟨d0, d8, d9, d10, e9, e10⟩ := aZ hg; clear hg; have hb1 := hid (az hba hn1); have hw1 := hid ((H.out.below hba).below hn1); clear hn1));go_quiet (first | ((go_at_call 299; exact Calls.quiet_of_same ((c2 _).mono fun _ _ h => ⟨h.1, h.2.symm⟩))));have hB2 : ∀ q, B ≤ (w1.drewN q).heap.size := fun _ => Nat.le_trans hB hb1.out.size
    replace hB2 := hid hB2;have HL := hid (show ∀ q, w.heap.size < (w1.drewN q).heap.size from fun _ => (Array.getElem?_eq_some_iff.1 ga.out).1);have HM := hid (show w.heap.size ≠ g ∧ v0.ownBlock ≠ some w.heap.size from ⟨by have := H.out.lt; omega, by obtain ⟨xs, ho⟩ := H.out.own; intro e; have := (ho.lt _ e).2; omega⟩);go_wp2_with (first | (go_at_call 296; (with_reducible refine (c4 _ (hw1.out.drewN _) (hB2.out _)).mono ?_); rintro e w2 ⟨⟨v9, rfl⟩, v2, hw2, ht2⟩; obtain ⟨b0, b1, b2⟩ := cells3 ((ht2.block w.heap.size (HL.out _) HM.out.1 HM.out.2).trans ga.out); replace hw2 := hid hw2; obtain ⟨x0, x8, x9, x10, y9, y10⟩ := aZ hw2.out.cells));go_quiet (first | ((go_at_call 297; exact Calls.quiet_of_same ((c5 _).mono fun _ _ h => ⟨h.1, h.2.symm⟩))));go_wp2;go_ret;exact ⟨rfl, _, hw2.out.drewN _, (((eQ.of_below hb1.out).drewN _).trans ht2).drewN _⟩
   have u1 : ((kind : Int) == 1) = false := by rw [beq_eq_false_iff_ne]; omega
   simp only [if_neg k1];by_cases k4 : kind = 4
   ·have u4 : ((kind : Int) == 4) = true := by simp [k4]
    simp only [if_pos k4];clear k1 k4 ek;go_enter Tryz.func268, Tryz.ntmps268;have hba := bP (Below.refl _ w) (.cells #[.int .u8 kind, .int .u32 num, .string ⟨#[]⟩] 64);have hg := (H.out.below hba).cells;obtain ⟨d0, d8, d9, d10, e9, e10⟩ := aZ hg;clear hg;go_wp2_with (first | (go_at_call 298; (with_reducible refine (c1 _).mono ?_); rintro e w1 ⟨rfl, hn1⟩; have ga := hid ((hn1.block w.heap.size (by simp)).trans (alloc_at w _)); obtain ⟨a0, a1, a2⟩ := cells3 ga.out; clear d0 d8 d9 d10 e9 e10; have hg := ((H.out.below hba).below hn1).cells; obtain ⟨d0, d8, d9, d10, e9, e10⟩ := aZ hg; clear hg; have hb1 := hid (az hba hn1); have hw1 := hid ((H.out.below hba).below hn1); clear hn1));go_quiet (first | ((go_at_call 299; exact Calls.quiet_of_same ((c2 _).mono fun _ _ h => ⟨h.1, h.2.symm⟩))));have hB2 : ∀ q, B ≤ (w1.drewN q).heap.size := fun _ => Nat.le_trans hB hb1.out.size
    replace hB2 := hid hB2;have HL := hid (show ∀ q, w.heap.size < (w1.drewN q).heap.size from fun _ => (Array.getElem?_eq_some_iff.1 ga.out).1);have HM := hid (show w.heap.size ≠ g ∧ v0.ownBlock ≠ some w.heap.size from ⟨by have := H.out.lt; omega, by obtain ⟨xs, ho⟩ := H.out.own; intro e; have := (ho.lt _ e).2; omega⟩);go_wp2_with (first | (go_at_call 296; (with_reducible refine (c4 _ (hw1.out.drewN _) (hB2.out _)).mono ?_); rintro e w2 ⟨⟨v9, rfl⟩, v2, hw2, ht2⟩; obtain ⟨b0, b1, b2⟩ := cells3 ((ht2.block w.heap.size (HL.out _) HM.out.1 HM.out.2).trans ga.out); replace hw2 := hid hw2; obtain ⟨x0, x8, x9, x10, y9, y10⟩ := aZ hw2.out.cells) | (go_at_call 301; (with_reducible refine (c6 _).mono ?_); rintro e w3 ⟨rfl, hn3⟩));go_ret;exact ⟨rfl, _, hw2.out.below hn3, (((eQ.of_below hb1.out).drewN _).trans ht2).trans (eQ.of_below hn3)⟩
   ·have u4 : ((kind : Int) == 4) = false := by rw [beq_eq_false_iff_ne]; omega
    simp only [if_neg k4];clear k1 k4 ek;go_enter Tryz.func268, Tryz.ntmps268;have hba := bP (Below.refl _ w) (.cells #[.int .u8 kind, .int .u32 num, .string ⟨#[]⟩] 64);have hg := (H.out.below hba).cells;obtain ⟨d0, d8, d9, d10, e9, e10⟩ := aZ hg;clear hg;go_wp2_with (first | (go_at_call 298; (with_reducible refine (c1 _).mono ?_); rintro e w1 ⟨rfl, hn1⟩; have ga := hid ((hn1.block w.heap.size (by simp)).trans (alloc_at w _)); obtain ⟨a0, a1, a2⟩ := cells3 ga.out; clear d0 d8 d9 d10 e9 e10; have hg := ((H.out.below hba).below hn1).cells; obtain ⟨d0, d8, d9, d10, e9, e10⟩ := aZ hg; clear hg; have hb1 := hid (az hba hn1); have hw1 := hid ((H.out.below hba).below hn1); clear hn1));go_quiet (first | ((go_at_call 299; exact Calls.quiet_of_same ((c2 _).mono fun _ _ h => ⟨h.1, h.2.symm⟩))));have hB2 : ∀ q, B ≤ (w1.drewN q).heap.size := fun _ => Nat.le_trans hB hb1.out.size
    replace hB2 := hid hB2;have HL := hid (show ∀ q, w.heap.size < (w1.drewN q).heap.size from fun _ => (Array.getElem?_eq_some_iff.1 ga.out).1);have HM := hid (show w.heap.size ≠ g ∧ v0.ownBlock ≠ some w.heap.size from ⟨by have := H.out.lt; omega, by obtain ⟨xs, ho⟩ := H.out.own; intro e; have := (ho.lt _ e).2; omega⟩);go_wp2_with (first | (go_at_call 296; (with_reducible refine (c4 _ (hw1.out.drewN _) (hB2.out _)).mono ?_); rintro e w2 ⟨⟨v9, rfl⟩, v2, hw2, ht2⟩; obtain ⟨b0, b1, b2⟩ := cells3 ((ht2.block w.heap.size (HL.out _) HM.out.1 HM.out.2).trans ga.out); replace hw2 := hid hw2; obtain ⟨x0, x8, x9, x10, y9, y10⟩ := aZ hw2.out.cells));go_ret;exact ⟨rfl, _, hw2.out, ((eQ.of_below hb1.out).drewN _).trans ht2⟩
end Go.Proofs.YtlkolghiknbbfaaGreatDoor
