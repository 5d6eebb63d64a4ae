/- An operation's form. -/
import Derived.Test.YtlkolghiknbbfaaGreatDoorAa
import Derived.StillTailTactics
import Derived.Deep.RegionHeld3
set_option linter.unusedVariables false
set_option linter.unusedSimpArgs false
namespace Go.Proofs.YtlkolghiknbbfaaGreatDoor
open Go.RowKit Go.Lib
structure Fm where
 op : Nat
 name : ByteArray
 ty : Bool
 res : Bool
 fixed : ByteArray
 rest : ByteArray
 most : Nat
 part : Nat
def Fm.cells (f : Fm) : Array Value := #[.int .u16 f.op, .string f.name, .bool f.ty, .bool f.res, .string f.fixed, .string f.rest, .int .i64 f.most, .int .u8 f.part]
def Fm.val (f : Fm) : Value := .agg f.cells
def kU : Fm := ⟨0, ⟨#[]⟩, false, false, ⟨#[]⟩, ⟨#[]⟩, 0, 0⟩
def lC (s : ByteArray) (c : UInt8) : Nat → Bool
 | 0 => false
 | k + 1 => lC s c k || s.get! k == c
def oq (s : ByteArray) : Bool :=
 decide (s.size ≤ 64) && s.data.toList.all (fun c => decide (c.toNat < 128)) && (List.range s.size).all (fun k => s.get! k == 32 || decide ((aW s k).1 ≤ 5)) &&
 decide (0 < ((aW s s.size).2 5).size) && decide (48 ≤ (((aW s s.size).2 5).get! 0).toNat) && (decide (((aW s s.size).2 4).size = 0) || decide (48 ≤ (((aW s s.size).2 4).get! 0).toNat)) &&
 ((aW s s.size).2 1).data.toList.all (fun c => decide (c.toNat < 128))
theorem GX : ((uK ++ uG ++ uR).all fun p => oq p.2) = true := by kernel_rfl
def aS (op : Nat) : Fm :=
 let s := rowOf op
 if s.size = 0 then kU else
 let f := (aW s s.size).2
 ⟨op, f 0, lC (f 1) 84 (f 1).size, lC (f 1) 82 (f 1).size, f 2, f 3, if (f 4).size = 0 then 0 else ((f 4).get! 0).toNat - 48, ((f 5).get! 0).toNat - 48⟩
def jL (op : Nat) : Bool := !(rowOf op).size == 0
theorem oU (op : Nat) (l : List (Nat × ByteArray)) : look op l = ⟨#[]⟩ ∨ (op, look op l) ∈ l := by
 induction l with
 | nil => exact .inl rfl
 | cons x l ih =>
  simp only [look];by_cases h : op = x.1
  ·rw [if_pos h, h]; exact .inr (List.mem_cons_self ..)
  ·rw [if_neg h]
   rcases ih with ih | ih
   ·exact .inl ih
   ·exact .inr (List.mem_cons_of_mem _ ih)
theorem Bo (op : Nat) : rowOf op = ⟨#[]⟩ ∨ oq (rowOf op) = true := by
 have h : ∀ p ∈ uK ++ uG ++ uR, oq p.2 = true := fun p hp => List.all_eq_true.1 GX p hp
 unfold rowOf;by_cases a : op ≤ 71
 ·rw [if_pos a]
  exact (oU op uK).imp id (fun m => h (op, look op uK) (List.mem_append_left _ (List.mem_append_left _ m)))
 ·rw [if_neg a]
  by_cases b : op ≤ 171
  ·rw [if_pos b]
   exact (oU op uG).imp id (fun m => h (op, look op uG) (List.mem_append_left _ (List.mem_append_right _ m)))
  ·rw [if_neg b]
   exact (oU op uR).imp id (fun m => h (op, look op uR) (List.mem_append_right _ m))
structure Good (s : ByteArray) : Prop where
 small : s.size ≤ 64
 ascii : ∀ k (h : k < s.size), (s[k]).toNat < 128
 six : ∀ k, k < s.size → s.get! k ≠ 32 → (aW s k).1 ≤ 5
 part : 0 < ((aW s s.size).2 5).size ∧ 48 ≤ (((aW s s.size).2 5).get! 0).toNat
 most : ((aW s s.size).2 4).size = 0 ∨ 48 ≤ (((aW s s.size).2 4).get! 0).toNat
 marks : ∀ k (h : k < ((aW s s.size).2 1).size), (((aW s s.size).2 1)[k]).toNat < 128
theorem wh {s : ByteArray} {p : UInt8 → Bool} (h : s.data.toList.all p = true) (k : Nat) (hk : k < s.size) : p s[k] = true := by
 rw [List.all_eq_true] at h;refine h _ ?_;exact List.getElem_mem (l := s.data.toList) (by simpa using hk)
theorem Ef {s : ByteArray} (h : oq s = true) : Good s := by
 simp only [oq, Bool.and_eq_true, decide_eq_true_eq, Bool.or_eq_true, List.all_eq_true, beq_iff_eq] at h;obtain ⟨⟨⟨⟨⟨⟨h1, h2⟩, h3⟩, h4⟩, h5⟩, h6⟩, h7⟩ := h;refine ⟨h1, fun k hk => ?_, fun k hk hne => (h3 k (List.mem_range.2 hk)).resolve_left hne, ⟨h4, h5⟩, h6, fun k hk => ?_⟩
 ·simpa using wh (p := fun c => decide (c.toNat < 128)) (by rw [List.all_eq_true]; exact fun c hc => by simpa using h2 c hc) k hk
 ·simpa using wh (p := fun c => decide (c.toNat < 128)) (by rw [List.all_eq_true]; exact fun c hc => by simpa using h7 c hc) k hk
def iq (op : Nat) (n fx rs : ByteArray) (most part : Int) (a b : Bool) : Array Value := #[.int .u16 op, .string n, .bool a, .bool b, .string fx, .string rs, .int .i64 most, .int .u8 part]
theorem rJ (op : Nat) (n fx rs : ByteArray) (most part : Int) (a b : Bool) : (iq op n fx rs most part a b).all (·.oneCell') = true := by simp [iq, Value.oneCell']
theorem kL : (Tryz.prog.info? 352).map (·.size) = some 8 := by kernel_rfl
theorem Mg {W : World} {g op : Nat} {n fx rs : ByteArray} {most part : Int} {a b : Bool} {t : TypeId} (h : W.heap[g]? = some (.cells (iq op n fx rs most part a b) t (0, 0))) (x y : Bool) :
  ((W.setCell ⟨g, 2, none⟩ (.bool x)).setCell ⟨g, 3, none⟩ (.bool y)).heap[g]? = some (.cells (iq op n fx rs most part x y) t (0, 0)) :=
 heap_setCell_same _ g 3 _ _ (.bool y) (heap_setCell_same W g 2 _ _ (.bool x) h)
theorem mK {W : World} {g k : Nat} (x y : Value) (h : k ≠ g) : ((W.setCell ⟨g, 2, none⟩ x).setCell ⟨g, 3, none⟩ y).heap[k]? = W.heap[k]? :=
 (heap_setCell_other _ ⟨g, 3, none⟩ k _ h).trans (heap_setCell_other W ⟨g, 2, none⟩ k _ h)
theorem lZ {s : ByteArray} (h : s.size = 0) : s = ⟨#[]⟩ := by
 obtain ⟨d⟩ := s;have : d = #[] := Array.eq_empty_of_size_eq_zero h;rw [this]
theorem gH {s : ByteArray} (h : 0 < s.size) : s.toList.isEmpty = false := by
 rw [ByteArray.toList_eq]
 cases e : s.data.toList with
 | nil =>
  have : s.data.toList.length = 0 := by rw [e]; rfl
  have h2 : s.data.toList.length = s.size := by simp
  omega
 | cons x l => rfl
theorem formed {op : Nat} {s : ByteArray} {f : Nat → ByteArray} {a b : Bool} {most : Int} {z5 : Nat} (hs : rowOf op = s) (hf : (aW s s.size).2 = f) (ha : lC (f 1) 84 (f 1).size = a) (hb : lC (f 1) 82 (f 1).size = b) (g : Good s)
  (hm : most = ((if (f 4).size = 0 then 0 else ((f 4).get! 0).toNat - 48 : Nat) : Int)) (hz : z5 = ((f 5).get! 0).toNat) (h5 : 48 ≤ z5) :
  Ending.returned (.tuple #[.agg (iq op (f 0) (f 2) (f 3) most ((z5 : Int) - 48) a b), .bool true]) = .returned (.tuple #[(aS op).val, .bool true]) := by
 have h0 : s.size ≠ 0 := by
  intro e;have := g.part.1;rw [e] at this;exact absurd this (by show ¬ 0 < 0; omega)
 have e : aS op = ⟨op, f 0, a, b, f 2, f 3, if (f 4).size = 0 then 0 else ((f 4).get! 0).toNat - 48, ((f 5).get! 0).toNat - 48⟩ := by
  simp only [aS, hs, if_neg h0, hf, ha, hb]
 rw [e, hm, ← hz, show ((z5 : Int) - 48) = ((z5 - 48 : Nat) : Int) by omega];rfl
theorem oW (s : ByteArray) (k : Nat) (h : k < s.size) : ∃ z : Nat, Hid (z = (s.get! k).toNat) ∧ z < 256 ∧ ∀ w, (Instr.index 9 (.string s) (.int .i64 k)).run Tryz.prog w = .ok (.int .u8 z) w := by
 refine ⟨_, rfl, (s.get! k).toNat_lt, fun w => ?_⟩;rw [kK s k h];refine (run_index_string w _ s .i64 k Tryz.underlying9).trans ?_;rw [dif_pos ⟨by omega, by omega⟩];rfl
theorem vB (s : ByteArray) (h : 0 < s.size) : ∃ z : Nat, Hid (z = (s.get! 0).toNat) ∧ z < 256 ∧ ∀ w, (Instr.index 9 (.string s) (.int .i64 0)).run Tryz.prog w = .ok (.int .u8 z) w := oW s 0 h
set_option maxRecDepth 100000 in
set_option maxHeartbeats 1000000 in
theorem tH (op : Nat) (w : World) : Qc 266 #[.int .u16 op] w (.tuple #[(aS op).val, .bool (jL op)]) := by
 have c1 := Me op;rcases Bo op with h | h
 ·rw [h] at c1
  have e1 : aS op = kU := by unfold aS; rw [h]; rfl
  have e2 : jL op = false := by unfold jL; rw [h]; rfl
  rw [e1, e2];clear e1 e2 h;go_enter Tryz.func266, Tryz.ntmps266;go_wp2_with (go_at_call 294; (with_reducible refine (c1 _).mono ?_); rintro e w' ⟨rfl, rfl⟩);refine bodyPost_ret (v := .tuple #[kU.val, .bool false]) (by simp [results, Tryz.results266, go_sem, kU, Fm.val, Fm.cells]) rfl ⟨rfl, ?_⟩;exact bP (Below.refl _ _) _
 ·have G := Ef h
  have hps : 0 < (rowOf op).size := Nat.pos_of_ne_zero (fun e => by have := G.part.1; rw [e] at this; exact absurd this (by show ¬ 0 < 0; omega));have hne := gH hps;have e2 : jL op = true := by simp only [jL, Bool.not_eq_true', beq_eq_false_iff_ne]; omega
  clear hps;rw [e2];have c2 := fun W => DN (rowOf op) W G.ascii G.six G.small
  generalize hs : rowOf op = s at *
  have HS := hid hs;have HG := hid G;clear hs G h;generalize hf : (aW s s.size).2 = f at c2;have HF := hid hf;clear hf;unfold six at c2;have G5 := HG.out.part;rw [HF.out] at G5;obtain ⟨z5, hz5, hl5, hix5⟩ := vB (f 5) G5.1;have hg5 : 48 ≤ z5 := by rw [hz5]; exact G5.2
  clear G5;go_enter Tryz.func266, Tryz.ntmps266;go_wp2_with (first | (go_at_call 294; (with_reducible refine (c1 _).mono ?_); rintro e w' ⟨rfl, rfl⟩) | (go_at_call 295; (with_reducible refine (c2 _).mono ?_); rintro e w2 ⟨rfl, hn2⟩));go_region_held3 (fun w' => w'.cell? ⟨w2.heap.size, 0, none⟩ = some (.string (f 0)) ∧ w'.cell? ⟨w2.heap.size, 2, none⟩ = some (.string (f 2)) ∧ w'.cell? ⟨w2.heap.size, 3, none⟩ = some (.string (f 3)) ∧ w'.cell? ⟨w2.heap.size, 5, none⟩ = some (.string (f 5))) (go_keep) (fail)
  all_goals
   go_wp2;have a0 := (hn2.block w.heap.size (by simp)).trans (alloc_at w (.cells kU.cells 352));have hl2 : w.heap.size < w2.heap.size := (Array.getElem?_eq_some_iff.1 a0).1;have hb0 := bP (bP (bP (az (bP (Below.refl _ w) _) hn2) (.cells (six f) 398)) (.cells (iq op (f 0) (f 2) (f 3) 0 ((z5 : Int) - 48) false false) 352)) (.stringIter (f 1) 0);have HL1 := hid HG.out.marks;rw [HF.out] at HL1;refine iB (fun W => W.heap[w.heap.size]? = some (.cells kU.cells 352 (0, 0)) ∧ W.heap[w2.heap.size]? = some (.cells (six f) 398 (0, 0)) ∧ W.heap[w2.heap.size + 1]? = some (.cells (iq op (f 0) (f 2) (f 3) 0 ((z5 : Int) - 48) false false) 352 (0, 0)) ∧ W.heap[w2.heap.size + 1 + 1]? = some (.stringIter (f 1) 0) ∧ Bl w W)
    ⟨(keep3 w2 _ _ _ _ hl2).trans a0, (three w2 _ _ _).1, (three w2 _ _ _).2.1, (three w2 _ _ _).2.2, ⟨hb0.os, hb0.tape, hb0.output, hb0.size, hb0.block⟩⟩ ?_
   rintro W0 ⟨a0', a1', a2', a3', hb'⟩;clear a0 hb0
   go_loopw [8] (fun _ wr => ∃ k : Nat, k ≤ (f 1).size ∧ wr.heap[w.heap.size]? = some (.cells kU.cells 352 (0, 0)) ∧ wr.heap[w2.heap.size]? = some (.cells (six f) 398 (0, 0)) ∧
     wr.heap[w2.heap.size + 1]? = some (.cells (iq op (f 0) (f 2) (f 3) 0 ((z5 : Int) - 48) (lC (f 1) 84 k) (lC (f 1) 82 k)) 352 (0, 0)) ∧ wr.heap[w2.heap.size + 1 + 1]? = some (.stringIter (f 1) k) ∧ Bl w wr) (fun _ wr => (f 1).size - wr.iterPos (w2.heap.size + 1 + 1))
   case atStart => exact ⟨0, by omega, a0', a1', a2', a3', hb'⟩
   case round =>
    clear a0' a1' a2' a3' hb';obtain ⟨k, hk, a0, a1, a2, a3, hB⟩ := hrel;by_cases hlt : k < (f 1).size
    ·obtain ⟨c, z, hc0, hnx, hg⟩ : ∃ (c : UInt8) (z : Int), Hid (z = (c.toNat : Int) ∧ c.toNat < 128) ∧ (∀ ty, (Instr.next (.pointer (some ⟨w2.heap.size + 1 + 1, 0, none⟩)) true ty).run Tryz.prog wr = .ok (.tuple #[.bool true, .int .i64 k, .int .i32 z]) (wr.iterAt (w2.heap.size + 1 + 1) (f 1) (k + 1))) ∧ (f 1).get! k = c :=
      ⟨(f 1)[k], _, ⟨rfl, HL1.out k hlt⟩, fun ty => run_next_ascii_at (P := Tryz.prog) wr (w2.heap.size + 1 + 1) (f 1) k ty a3 hlt (HL1.out k hlt), kK (f 1) k hlt⟩
     have A0 := hid ((iterAt_other wr (w2.heap.size + 1 + 1) w.heap.size (f 1) (k + 1) (by omega)).trans a0);have A1 := hid ((iterAt_other wr (w2.heap.size + 1 + 1) w2.heap.size (f 1) (k + 1) (by omega)).trans a1);have A2 := hid ((iterAt_other wr (w2.heap.size + 1 + 1) (w2.heap.size + 1) (f 1) (k + 1) (by omega)).trans a2);have A3 := hid (iterAt_heap wr (w2.heap.size + 1 + 1) (f 1) k (k + 1) a3);have HB := hid (below_iterAt hB (k := w2.heap.size + 1 + 1) (by omega) (f 1) (k + 1));have HM0 : Hid (wr.iterPos (w2.heap.size + 1 + 1) = k) := iterPos_of a3;have HG1 := hid hg;have HLT := hid hlt;clear hg a0 a1 a2 a3 hB hlt;obtain ⟨p, e84, hp⟩ : ∃ p, (z == 84) = p ∧ Hid (((f 1).get! k == 84) = p) := ⟨_, rfl, by show _ = _; rw [HG1.out, hc0.out.1]; exact (Et c 84).symm⟩;obtain ⟨q, e82, hq⟩ : ∃ p, (z == 82) = p ∧ Hid (((f 1).get! k == 82) = p) := ⟨_, rfl, by show _ = _; rw [HG1.out, hc0.out.1]; exact (Et c 82).symm⟩;obtain ⟨a, ha⟩ : ∃ a, Hid (lC (f 1) 84 k = a) := ⟨_, rfl⟩;obtain ⟨b, hb⟩ : ∃ a, Hid (lC (f 1) 82 k = a) := ⟨_, rfl⟩;rw [ha.out, hb.out] at A2;have c2 : (wr.iterAt (w2.heap.size + 1 + 1) (f 1) (k + 1)).cell? ⟨w2.heap.size + 1, 2, none⟩ = some (.bool a) := by rw [cell_of_row _ _ _ _ _ _ A2.out]; rfl
     have c3 : (wr.iterAt (w2.heap.size + 1 + 1) (f 1) (k + 1)).cell? ⟨w2.heap.size + 1, 3, none⟩ = some (.bool b) := by rw [cell_of_row _ _ _ _ _ _ A2.out]; rfl
     have f2 := frozen_of_row _ _ 2 _ _ A2.out;have f3 := frozen_of_row _ _ 3 _ _ A2.out
     cases a <;> cases b <;> cases p <;> cases q
     all_goals
      go_wp2;refine ⟨?rel, ?measure⟩
      case rel =>
       refine ⟨k + 1, HLT.out, (mK _ _ (by omega)).trans A0.out, (mK _ _ (by omega)).trans A1.out, ?_, (mK _ _ (by omega)).trans A3.out, (HB.out.setCell (p := ⟨w2.heap.size + 1, 2, none⟩) (by show w.heap.size ≤ w2.heap.size + 1; omega) _).setCell (p := ⟨w2.heap.size + 1, 3, none⟩) (by show w.heap.size ≤ w2.heap.size + 1; omega) _⟩;simp only [lC, ha.out, hp.out, hb.out, hq.out, Bool.or_self, Bool.false_or, Bool.or_false, Bool.true_or, Bool.or_true];exact Mg A2.out _ _
      case measure =>
       have := HLT.out;rw [iterPos_of ((mK _ _ (by omega)).trans A3.out), HM0.out];omega
    ·obtain rfl : k = (f 1).size := by omega
     have hnx := fun ty => run_next_end_at (P := Tryz.prog) wr (w2.heap.size + 1 + 1) (f 1) (f 1).size ty a3 hlt
     have A0 := hid a0;have A2 := hid a2;have c4 : wr.cell? ⟨w2.heap.size, 4, none⟩ = some (.string (f 4)) := by rw [cell_of_row _ _ _ _ _ _ a1]; rfl
     obtain ⟨a, ha⟩ : ∃ a, Hid (lC (f 1) 84 (f 1).size = a) := ⟨_, rfl⟩;obtain ⟨b, hb⟩ : ∃ a, Hid (lC (f 1) 82 (f 1).size = a) := ⟨_, rfl⟩;rw [ha.out, hb.out] at A2;have G4 := HG.out.most;rw [HF.out] at G4;have HB := hid hB;clear hlt a0 a1 a2 a3 hB hk;rcases Nat.eq_zero_or_pos (f 4).size with h4 | h4
     ·have e4 := lZ h4
      rw [e4] at c4;have H4 := hid h4;clear h4 G4 e4;go_wp2_with (first | (refine wpList_load_row rfl 352 _ rfl (w2.heap.size + 1) rfl 352 (iq op (f 0) (f 2) (f 3) 0 ((z5 : Int) - 48) a b) _ _ A2.out Tryz.underlying352 rfl kL ?_) | (refine wpList_store_row rfl 352 _ _ rfl w.heap.size (iq op (f 0) (f 2) (f 3) 0 ((z5 : Int) - 48) a b) rfl rfl 352 kU.cells A0.out kL rfl (rJ ..) ?_));refine bodyPost_ret_by (aJ rfl _ _ w.heap.size 352 (iq op (f 0) (f 2) (f 3) 0 ((z5 : Int) - 48) a b) _ _ rfl (dH _ A0.out) Tryz.underlying352 rfl kL) rfl ?_;exact ⟨formed HS.out HF.out ha.out hb.out HG.out (by rw [if_pos H4.out]; rfl) hz5 hg5, aG HB.out (Nat.le_refl _) _⟩
     ·have hne4 : (f 4).toList.isEmpty = false := gH h4
      obtain ⟨z4, hz4, hl4, hix4⟩ := vB (f 4) h4;have hg4 : 48 ≤ z4 := by rw [hz4]; rcases G4 with G4 | G4; omega; exact G4
      have A4 := hid (heap_setCell_same wr (w2.heap.size + 1) 6 _ _ (.int .i64 ((z4 : Int) - 48)) A2.out);have A5 := hid ((heap_setCell_other wr ⟨w2.heap.size + 1, 6, none⟩ w.heap.size (.int .i64 ((z4 : Int) - 48)) (by show _ ≠ w2.heap.size + 1; omega)).trans A0.out);have c6 : wr.cell? ⟨w2.heap.size + 1, 6, none⟩ = some (.int .i64 0) := by rw [cell_of_row _ _ _ _ _ _ A2.out]; rfl
      have f6 := frozen_of_row _ _ 6 _ _ A2.out;have H4 := hid h4;clear h4 G4;go_wp2_with (first | (refine wpList_load_row rfl 352 _ rfl (w2.heap.size + 1) rfl 352 (iq op (f 0) (f 2) (f 3) ((z4 : Int) - 48) ((z5 : Int) - 48) a b) _ _ A4.out Tryz.underlying352 rfl kL ?_) | (refine wpList_store_row rfl 352 _ _ rfl w.heap.size (iq op (f 0) (f 2) (f 3) ((z4 : Int) - 48) ((z5 : Int) - 48) a b) rfl rfl 352 kU.cells A5.out kL rfl (rJ ..) ?_));refine bodyPost_ret_by (aJ rfl _ _ w.heap.size 352 (iq op (f 0) (f 2) (f 3) ((z4 : Int) - 48) ((z5 : Int) - 48) a b) _ _ rfl (dH _ A5.out) Tryz.underlying352 rfl kL) rfl ?_;exact ⟨formed HS.out HF.out ha.out hb.out HG.out (by rw [if_neg (by have := H4.out; omega), ← hz4]; omega) hz5 hg5, aG (HB.out.setCell (p := ⟨w2.heap.size + 1, 6, none⟩) (by show w.heap.size ≤ w2.heap.size + 1; omega) _) (Nat.le_refl _) _⟩
end Go.Proofs.YtlkolghiknbbfaaGreatDoor
