/- Types: the one that an instruction makes. -/
import Derived.Test.YtlkolghiknbbfaaGreatDoorAq
import Derived.Test.YtlkolghiknbbfaaGreatDoorAk
set_option linter.unusedVariables false
set_option linter.unusedSimpArgs false
set_option maxRecDepth 100000
set_option maxHeartbeats 4000000
namespace Go.Proofs.YtlkolghiknbbfaaGreatDoor
open Go.RowKit Go.MapKept
structure dU where
 kind : Nat
 size : Nat
 depth : Nat
 sg : Bool
 aP : Nat
 part : Nat
 times : Nat
 parts : List Nat
def vR (W : World) (lo : Nat) (a : Option Addr) (l : List Nat) : Prop := 0 < l.length → ∃ b o, a = some ⟨b, o, none⟩ ∧ lo ≤ b ∧ ∀ i (h : i < l.length), W.cell? ⟨b, o + i, none⟩ = some (.int .u32 l[i])
theorem vR.keep {W W' : World} {lo : Nat} {a : Option Addr} {l : List Nat} (h : vR W lo a l) (hk : ∀ k, lo ≤ k → k < W.heap.size → W'.heap[k]? = W.heap[k]?) : vR W' lo a l := fun hp => by
 obtain ⟨b, o, ha, hb, hc⟩ := h hp;exact ⟨b, o, ha, hb, fun i hi => (World.cell?_of_block (a := ⟨b, o + i, none⟩) (hk b hb (block_lt_of_cell (hc i hi)))).trans (hc i hi)⟩
structure MV (W : World) (lo : Nat) (x : Ty) (d : dU) : Prop where
 kind : x.kind = d.kind
 size : x.size = d.size
 depth : x.depth = d.depth
 sg : x.sg = d.sg
 aP : x.aP = d.aP
 part : x.part = d.part
 times : x.times = d.times
 pn : x.pn = d.parts.length
 row : vR W lo x.pa d.parts
theorem MV.keep {W W' : World} {lo : Nat} {x : Ty} {d : dU} (h : MV W lo x d) (hk : ∀ k, lo ≤ k → k < W.heap.size → W'.heap[k]? = W.heap[k]?) : MV W' lo x d :=
 ⟨h.kind, h.size, h.depth, h.sg, h.aP, h.part, h.times, h.pn, h.row.keep hk⟩
def ik (op : Nat) : Bool := [19, 20, 21, 23, 28, 30, 32, 33].contains op
inductive jT (f : Nat → Option Ty) : In → Option dU → Prop
 | other (i : In) (h : ik i.op = false) : jT f i none
 | void (ty res : Nat) : jT f ⟨19, ty, res, []⟩ (some ⟨1, 0, 0, false, 0, 0, 0, []⟩)
 | int (ty res : Nat) (a b : Ag) (h : a.n = 32) (hb : b.n ≤ 1) : jT f ⟨21, ty, res, [a, b]⟩ (some ⟨3, 1, 1, b.n == 1, 0, 0, 0, []⟩)
 | vec (ty res : Nat) (a b : Ag) (hk : (aV f a.n).kind = 3) (hn : 2 ≤ b.n ∧ b.n ≤ 4) (hd : (aV f a.n).depth + 1 ≤ 16) : jT f ⟨23, ty, res, [a, b]⟩ (some ⟨4, b.n, (aV f a.n).depth + 1, false, 0, a.n, b.n, []⟩)
 | ptr (ty res : Nat) (a b : Ag) (hs : 0 < (aV f b.n).size) : jT f ⟨32, ty, res, [a, b]⟩ (some ⟨7, 0, 0, false, a.n, 0, 0, [b.n]⟩)
 | fn (ty res : Nat) (a : Ag) (hk : (aV f a.n).kind = 1) (hs : (aV f a.n).size = 0) : jT f ⟨33, ty, res, [a]⟩ (some ⟨8, 0, 0, false, 0, 0, 0, [a.n]⟩)
structure lJ (lo : Nat) (r : Option dU) (e : Ending) (W : World) : Prop where
 none_ : r = none → e = .returned (.tuple #[fK zT, .bool false, .int .i64 0])
 some_ : ∀ d, r = some d → ∃ x, e = .returned (.tuple #[fK x, .bool true, .int .i64 0]) ∧ MV W lo x d
def om (l : List Ag) : List Value := l.map fun a => Value.int .u32 a.n
theorem iP {l : List Ag} {k : Nat} (h : k < l.length) : om (l.take (k + 1)) = om (l.take k) ++ [Value.int .u32 l[k].n] := by
 unfold om;rw [List.take_succ_eq_append_getElem h, List.map_append]; rfl
theorem GK (K T mb : Nat) (f : Nat → Option Ty) (i : In) (a : Option Addr) (cap : Nat) (r : Option dU) (w : World) (hK : w.cell? ⟨K, 0, none⟩ = some (.pointer (some ⟨T, 0, none⟩))) (hT : oC T mb f w) (hS : Sl 3 cz w a i.args) (hl : i.args.length ≤ 1048576) (h : jT f i r) (hop : ik i.op = false) :
  Calls Tryz.prog 124 #[.pointer (some ⟨K, 0, none⟩), .agg #[.int .u16 i.op, .int .u32 i.ty, .int .u32 i.res, .slice a i.args.length cap]] w fun e w' => lJ w.heap.size r e w' ∧ Bl w w' := by
 have HO := Own.nil w;have zK := block_lt_of_cell hK;have HI := hid h;have HOP := hid hop;have HT := hid hT;have HS := hid hS;have HK := hid hK;clear h hT hS hK hop;go_enter Tryz.func124, Tryz.ntmps124;go_wp2_with (first | ((with_reducible refine aM HO ?_); clear HO; (try clear kk); intro g W' hg HO; rw [← hg.out]; clear hg; (try simp only [yT] at HO); have kk := HO.kk));have HO1 := HO;clear HO;obtain ⟨L0, hL, HO⟩ := bE HO1;clear HO1;replace HO := HO.row w.heap.size 22 1;have H0 := hid HO;clear HO;(try clear kk);obtain ⟨n, hnn⟩ : ∃ n, Hid (n = i.args.length) := ⟨_, hid rfl⟩;have hn1 : n ≤ 1048576 := by have := hnn.out; omega
 rw [← hnn.out];go_loopw [7, 9, 15] (fun x7 _ x15 wr => ∃ (k : Nat) (v : Value), k ≤ n ∧ x15 = .int .i64 k ∧ x7 = v ∧ Own aK w (bM w.heap.size 22 1 v k (om (i.args.take k)) :: L0) wr) (fun _ _ x _ => n - (intOf x).toNat)
 case atStart => exact ⟨0, .slice none 0 0, by omega, rfl, rfl, H0.out⟩
 case round =>
  obtain ⟨k, v, hk, rfl, rfl, HO⟩ := hrel;obtain ⟨av, cv, rfl, hx⟩ := HO.slice 0 rfl;clear hx H0;by_cases hlt : k < n
  ·have hkl : k < i.args.length := by have := hnn.out; omega
   obtain ⟨b, o, ha, hbl, hc⟩ := (HS.out.below cz.lasts HO.below).at_ (by omega);obtain ⟨e0, e1, e2, -, -, -⟩ := hc k hkl;have hsn := hid (iP hkl);have i2 : (k : Int) < (n : Int) := by omega
   have HLT := hid hlt;subst ha;clear hc;generalize i.args[k] = x at e0 e1 e2 hsn;clear hkl hlt;obtain ⟨kd, xn, xs⟩ := x;simp only at e0 e1 e2 hsn;(try simp only [yD] at HO); have kk := HO.kk;go_wp2_with (first | ((first | (with_reducible refine bf HO ?_; intro g hg; rw [← hg.out]; clear hg) | (with_reducible refine ah HO ?_) | (refine ay 64 HO ?_)); clear HO; (try clear kk); intro W' HO kk) | ((with_reducible refine aA ?_); refine bg HO gG 2 0 rfl rfl rfl _ _ rfl rfl rfl rfl (by simp [Value.oneCell']) (by omega) (by omega) (Nat.le_refl _) ?_; intro gm cm W' HO'; clear HO; (try clear kk); have HO := HO'; clear HO'; (try simp only [yD] at HO); have kk := HO.kk));exact ⟨⟨k + 1, _, HLT.out, by go_num, rfl, by rw [hsn.out]; exact HO.drop 2⟩, by have := HLT.out; simp [intOf]; omega⟩
  ·obtain rfl : k = n := by omega
   have i2 : ¬ ((k : Int) < k) := by omega
   rw [hL.out, List.take_of_length_le (by have := hnn.out; omega)] at HO;(try simp only [yD] at HO); have kk := HO.kk;go_upto_region 9 with (first | ((with_reducible refine aM HO ?_); clear HO; (try clear kk); intro g W' hg HO; rw [← hg.out]; clear hg; (try simp only [yT] at HO); have kk := HO.kk))
   try simp only [Act.put]
   (try clear kk);have hi := HI.out;clear HI hL i2 hlt hk
   cases hi with
   | other i h =>
    have ht : ∀ x, ik x = true → ((i.op : Int) == (x : Nat)) = false := fun x hx => by
     rw [beq_eq_false_iff_ne];intro e;have e2 : i.op = x := by omega
     rw [e2, hx] at h
     cases h
    have t1 := ht 19 rfl;have t2 := ht 20 rfl;have t3 := ht 21 rfl;have t4 := ht 23 rfl;have t5 := ht 28 rfl;have t6 := ht 30 rfl;have t7 := ht 32 rfl;have t8 := ht 33 rfl;clear ht h;generalize i.op = iop at HO t1 t2 t3 t4 t5 t6 t7 t8;(try simp only [yD] at HO); have kk := HO.kk;go_wp2_with (first | ((first | (with_reducible refine bf HO ?_; intro g hg; rw [← hg.out]; clear hg) | (with_reducible refine ah HO ?_) | (refine ay 227 HO ?_)); clear HO; (try clear kk); intro W' HO kk));refine bodyPost_ret_by (dG rfl _ _ _ 227 #[.int .u8 0, .int .i64 0, .int .i64 0, .bool false, .int .u32 0, .int .u32 0, .int .i64 0, .slice none 0 0] _ _ rfl (HO.blk 2 rfl) Tryz.underlying227 rfl iW) rfl ?_;exact ⟨⟨fun _ => rfl, fun d hd => by cases hd⟩, HO.below⟩
   | void ty res => exact absurd HOP.out (show ¬ (ik 19 = false) by decide)
   | int ty res x y h hb => exact absurd HOP.out (show ¬ (ik 21 = false) by decide)
   | vec ty res x y hk hn hd => exact absurd HOP.out (show ¬ (ik 23 = false) by decide)
   | ptr ty res x y hs => exact absurd HOP.out (show ¬ (ik 32 = false) by decide)
   | fn ty res x hk hs => exact absurd HOP.out (show ¬ (ik 33 = false) by decide)
theorem Ik (K T mb : Nat) (f : Nat → Option Ty) (i : In) (a : Option Addr) (cap : Nat) (r : Option dU) (w : World) (hK : w.cell? ⟨K, 0, none⟩ = some (.pointer (some ⟨T, 0, none⟩))) (hT : oC T mb f w) (hS : Sl 3 cz w a i.args) (hl : i.args.length ≤ 1048576) (h : jT f i r) (hop : i.op = 19) :
  Calls Tryz.prog 124 #[.pointer (some ⟨K, 0, none⟩), .agg #[.int .u16 i.op, .int .u32 i.ty, .int .u32 i.res, .slice a i.args.length cap]] w fun e w' => lJ w.heap.size r e w' ∧ Bl w w' := by
 have HO := Own.nil w;have zK := block_lt_of_cell hK;have HI := hid h;have HOP := hid hop;have HT := hid hT;have HS := hid hS;have HK := hid hK;clear h hT hS hK hop;go_enter Tryz.func124, Tryz.ntmps124;go_wp2_with (first | ((with_reducible refine aM HO ?_); clear HO; (try clear kk); intro g W' hg HO; rw [← hg.out]; clear hg; (try simp only [yT] at HO); have kk := HO.kk));have HO1 := HO;clear HO;obtain ⟨L0, hL, HO⟩ := bE HO1;clear HO1;replace HO := HO.row w.heap.size 22 1;have H0 := hid HO;clear HO;(try clear kk);obtain ⟨n, hnn⟩ : ∃ n, Hid (n = i.args.length) := ⟨_, hid rfl⟩;have hn1 : n ≤ 1048576 := by have := hnn.out; omega
 rw [← hnn.out];go_loopw [7, 9, 15] (fun x7 _ x15 wr => ∃ (k : Nat) (v : Value), k ≤ n ∧ x15 = .int .i64 k ∧ x7 = v ∧ Own aK w (bM w.heap.size 22 1 v k (om (i.args.take k)) :: L0) wr) (fun _ _ x _ => n - (intOf x).toNat)
 case atStart => exact ⟨0, .slice none 0 0, by omega, rfl, rfl, H0.out⟩
 case round =>
  obtain ⟨k, v, hk, rfl, rfl, HO⟩ := hrel;obtain ⟨av, cv, rfl, hx⟩ := HO.slice 0 rfl;clear hx H0;by_cases hlt : k < n
  ·have hkl : k < i.args.length := by have := hnn.out; omega
   obtain ⟨b, o, ha, hbl, hc⟩ := (HS.out.below cz.lasts HO.below).at_ (by omega);obtain ⟨e0, e1, e2, -, -, -⟩ := hc k hkl;have hsn := hid (iP hkl);have i2 : (k : Int) < (n : Int) := by omega
   have HLT := hid hlt;subst ha;clear hc;generalize i.args[k] = x at e0 e1 e2 hsn;clear hkl hlt;obtain ⟨kd, xn, xs⟩ := x;simp only at e0 e1 e2 hsn;(try simp only [yD] at HO); have kk := HO.kk;go_wp2_with (first | ((first | (with_reducible refine bf HO ?_; intro g hg; rw [← hg.out]; clear hg) | (with_reducible refine ah HO ?_) | (refine ay 64 HO ?_)); clear HO; (try clear kk); intro W' HO kk) | ((with_reducible refine aA ?_); refine bg HO gG 2 0 rfl rfl rfl _ _ rfl rfl rfl rfl (by simp [Value.oneCell']) (by omega) (by omega) (Nat.le_refl _) ?_; intro gm cm W' HO'; clear HO; (try clear kk); have HO := HO'; clear HO'; (try simp only [yD] at HO); have kk := HO.kk));exact ⟨⟨k + 1, _, HLT.out, by go_num, rfl, by rw [hsn.out]; exact HO.drop 2⟩, by have := HLT.out; simp [intOf]; omega⟩
  ·obtain rfl : k = n := by omega
   have i2 : ¬ ((k : Int) < k) := by omega
   rw [hL.out, List.take_of_length_le (by have := hnn.out; omega)] at HO;(try simp only [yD] at HO); have kk := HO.kk;go_upto_region 9 with (first | ((with_reducible refine aM HO ?_); clear HO; (try clear kk); intro g W' hg HO; rw [← hg.out]; clear hg; (try simp only [yT] at HO); have kk := HO.kk))
   try simp only [Act.put]
   (try clear kk);have hi := HI.out;clear HI hL i2 hlt hk
   cases hi with
   | other i h => exact absurd h (by rw [HOP.out]; decide)
   | void ty res =>
    dsimp only at HO hnn ⊢
    (try simp only [yD] at HO); have kk := HO.kk;go_wp2_with (first | ((first | (with_reducible refine bf HO ?_; intro g hg; rw [← hg.out]; clear hg) | (with_reducible refine ah HO ?_) | (refine ay 227 HO ?_)); clear HO; (try clear kk); intro W' HO kk) | (refine bG 227 HO Tryz.underlying227 ?_));refine bodyPost_ret_by (dG rfl _ _ _ 227 #[.int .u8 1, .int .i64 0, .int .i64 0, .bool false, .int .u32 0, .int .u32 0, .int .i64 0, .slice none 0 0] _ _ rfl (HO.blk 2 rfl) Tryz.underlying227 rfl iW) rfl ?_;exact ⟨⟨(fun h => (by cases h)), fun d hd => by cases hd; exact ⟨⟨1, 0, 0, false, 0, 0, 0, none, 0, 0⟩, rfl, ⟨rfl, rfl, rfl, rfl, rfl, rfl, rfl, rfl, (fun h => (by cases h))⟩⟩⟩, HO.below⟩
   | int ty res x y h hb => exact absurd HOP.out (show ¬ ((21 : Nat) = 19) by decide)
   | vec ty res x y hk hn hd => exact absurd HOP.out (show ¬ ((23 : Nat) = 19) by decide)
   | ptr ty res x y hs => exact absurd HOP.out (show ¬ ((32 : Nat) = 19) by decide)
   | fn ty res x hk hs => exact absurd HOP.out (show ¬ ((33 : Nat) = 19) by decide)
theorem Ls (K T mb : Nat) (f : Nat → Option Ty) (i : In) (a : Option Addr) (cap : Nat) (r : Option dU) (w : World) (hK : w.cell? ⟨K, 0, none⟩ = some (.pointer (some ⟨T, 0, none⟩))) (hT : oC T mb f w) (hS : Sl 3 cz w a i.args) (hl : i.args.length ≤ 1048576) (h : jT f i r) (hop : i.op = 32) :
  Calls Tryz.prog 124 #[.pointer (some ⟨K, 0, none⟩), .agg #[.int .u16 i.op, .int .u32 i.ty, .int .u32 i.res, .slice a i.args.length cap]] w fun e w' => lJ w.heap.size r e w' ∧ Bl w w' := by
 have HO := Own.nil w;have zK := block_lt_of_cell hK;have HI := hid h;have HOP := hid hop;have HT := hid hT;have HS := hid hS;have HK := hid hK;clear h hT hS hK hop;go_enter Tryz.func124, Tryz.ntmps124;go_wp2_with (first | ((with_reducible refine aM HO ?_); clear HO; (try clear kk); intro g W' hg HO; rw [← hg.out]; clear hg; (try simp only [yT] at HO); have kk := HO.kk));have HO1 := HO;clear HO;obtain ⟨L0, hL, HO⟩ := bE HO1;clear HO1;replace HO := HO.row w.heap.size 22 1;have H0 := hid HO;clear HO;(try clear kk);obtain ⟨n, hnn⟩ : ∃ n, Hid (n = i.args.length) := ⟨_, hid rfl⟩;have hn1 : n ≤ 1048576 := by have := hnn.out; omega
 rw [← hnn.out];go_loopw [7, 9, 15] (fun x7 _ x15 wr => ∃ (k : Nat) (v : Value), k ≤ n ∧ x15 = .int .i64 k ∧ x7 = v ∧ Own aK w (bM w.heap.size 22 1 v k (om (i.args.take k)) :: L0) wr) (fun _ _ x _ => n - (intOf x).toNat)
 case atStart => exact ⟨0, .slice none 0 0, by omega, rfl, rfl, H0.out⟩
 case round =>
  obtain ⟨k, v, hk, rfl, rfl, HO⟩ := hrel;obtain ⟨av, cv, rfl, hx⟩ := HO.slice 0 rfl;clear hx H0;by_cases hlt : k < n
  ·have hkl : k < i.args.length := by have := hnn.out; omega
   obtain ⟨b, o, ha, hbl, hc⟩ := (HS.out.below cz.lasts HO.below).at_ (by omega);obtain ⟨e0, e1, e2, -, -, -⟩ := hc k hkl;have hsn := hid (iP hkl);have i2 : (k : Int) < (n : Int) := by omega
   have HLT := hid hlt;subst ha;clear hc;generalize i.args[k] = x at e0 e1 e2 hsn;clear hkl hlt;obtain ⟨kd, xn, xs⟩ := x;simp only at e0 e1 e2 hsn;(try simp only [yD] at HO); have kk := HO.kk;go_wp2_with (first | ((first | (with_reducible refine bf HO ?_; intro g hg; rw [← hg.out]; clear hg) | (with_reducible refine ah HO ?_) | (refine ay 64 HO ?_)); clear HO; (try clear kk); intro W' HO kk) | ((with_reducible refine aA ?_); refine bg HO gG 2 0 rfl rfl rfl _ _ rfl rfl rfl rfl (by simp [Value.oneCell']) (by omega) (by omega) (Nat.le_refl _) ?_; intro gm cm W' HO'; clear HO; (try clear kk); have HO := HO'; clear HO'; (try simp only [yD] at HO); have kk := HO.kk));exact ⟨⟨k + 1, _, HLT.out, by go_num, rfl, by rw [hsn.out]; exact HO.drop 2⟩, by have := HLT.out; simp [intOf]; omega⟩
  ·obtain rfl : k = n := by omega
   have i2 : ¬ ((k : Int) < k) := by omega
   rw [hL.out, List.take_of_length_le (by have := hnn.out; omega)] at HO;(try simp only [yD] at HO); have kk := HO.kk;go_upto_region 9 with (first | ((with_reducible refine aM HO ?_); clear HO; (try clear kk); intro g W' hg HO; rw [← hg.out]; clear hg; (try simp only [yT] at HO); have kk := HO.kk))
   try simp only [Act.put]
   (try clear kk);have hi := HI.out;clear HI hL i2 hlt hk
   cases hi with
   | other i h => exact absurd h (by rw [HOP.out]; decide)
   | void ty res => exact absurd HOP.out (show ¬ ((19 : Nat) = 32) by decide)
   | int ty res x y h hb => exact absurd HOP.out (show ¬ ((21 : Nat) = 32) by decide)
   | vec ty res x y hk hn hd => exact absurd HOP.out (show ¬ ((23 : Nat) = 32) by decide)
   | ptr ty res x y hs =>
    dsimp only at HO hnn ⊢
    obtain ⟨xk, xn, xs⟩ := x;obtain ⟨yk, yn, ys⟩ := y;simp only at hs;obtain rfl : k = 2 := hnn.out;obtain ⟨g3, rfl, hlo, hlt3, hcap3, hc3⟩ := HO.slice2 1 rfl (by omega);have r0 : W'.cell? ⟨g3, 0, none⟩ = some (.int .u32 xn) := hc3 0 _ rfl;have r1 : W'.cell? ⟨g3, 1, none⟩ = some (.int .u32 yn) := hc3 1 _ rfl;clear hc3;have cP : ∀ W, Bl w W → Calls Tryz.prog 170 #[.pointer (some ⟨T, 0, none⟩), .int .u32 yn] W fun e w' => e = .returned (.bool true) ∧ w' = W := fun W hb => by
     have := vJ T mb f yn W (HT.out.below hb);rw [decide_eq_true hs] at this;exact this
    have HKK : W'.cell? ⟨K, 0, none⟩ = some (.pointer (some ⟨T, 0, none⟩)) := (HO.old K 0 zK).trans HK.out;have zK' : K < W'.heap.size := Nat.lt_of_lt_of_le zK HO.size;have nK : K ≠ g := by have := HO.le 0 rfl; omega
    have n3 : g3 ≠ g := HO.neDom 1 0 rfl rfl (by omega) rfl;(try simp only [yD] at HO); have kk := HO.kk;(try replace kk := kk.2);go_wp2_with fail;have O0 := Only.refl g W';refine wp_region_held_drew (S := fun W => (∀ b j, b < W'.heap.size → b ≠ g → W.cell? ⟨b, j, none⟩ = W'.cell? ⟨b, j, none⟩) ∧ Only g W' W) (by kernel_rfl) (vT g W' _ (bz O0)) (fun hHeld => ?_);refine dA 0 ?_;refine dA 1 ?_;refine dA 2 ?_;refine dA 3 ?_;refine dA 4 ?_;refine dA 5 ?_;refine dA 6 ?_;refine wpAnyH_ready (rs := [7]) (by kernel_rfl) (by simp) ?_;refine AllReadyH.cons (by simp only [yG]; rfl) (fun K hK => ?_) AllReadyH.nil;go_simp; go_at_call 170; (with_reducible refine (cP _ HO.drew.below).mono ?_); rintro e w1 ⟨rfl, rfl⟩; go_simp;refine hK.out _ _ ?_ (fun hHeld => ?_)
    ·(refine vT g W' _ ?_; repeat (first | exact O0 | refine bz ?_ | refine fM ?_ | refine fP ?_ | refine fJ ?_ | refine iE ?_ _ | refine eO ?_ hn1.out | refine eG ?_ (by first | assumption | omega)))
    clear hK K
    try simp only [Act.put, yT]
    refine dA 8 ?_;refine wpAnyH_done (by kernel_rfl) ?_ _;refine gu HO.drew ?_;clear O0 HO HKK r0 r1 n3;intro W' HO;(try clear kk);have r0 : W'.cell? ⟨g3, 0, none⟩ = some (.int .u32 xn) := HO.rowcell 1 0 rfl rfl;have zg3 : g3 < W'.heap.size := (HO.low _ (List.mem_of_getElem? (i := 1) rfl) g3 rfl).2;have n3 : g3 ≠ g := HO.neDom 1 0 rfl rfl (by omega) rfl;have nc : ¬ (cv = 1) := by omega
    have nc2 : 1 ≤ cv := by omega
    (try simp only [yD] at HO); have kk := HO.kk;(try replace kk := kk.2);go_wp2_with fail;have O0 := Only.refl g W';refine wp_region_held_drew (S := fun W => (∀ b j, b < W'.heap.size → b ≠ g → W.cell? ⟨b, j, none⟩ = W'.cell? ⟨b, j, none⟩) ∧ Only g W' W) (by kernel_rfl) (vT g W' _ (bz O0)) (fun hHeld => ?_);refine dA 0 ?_;refine dA 1 ?_;refine dA 2 ?_;refine dA 3 ?_;refine dA 4 ?_;refine dA 5 ?_;refine dA 6 ?_;refine wpAnyH_ready (rs := [7]) (by kernel_rfl) (by simp) ?_;refine AllReadyH.cons (by simp only [yG]; rfl) (fun K hK => ?_) AllReadyH.nil
    (refine aL rfl (wp_store_row 227 (.tmp 10) (.tmp 111) rfl _ #[.int .u8 7, .int .i64 0, .int .i64 0, .bool false, .int .u32 xn, .int .u32 0, .int .i64 0, .slice (some ⟨g3, 1, none⟩) 1 (cv - 1)] rfl rfl 227 _ (HO.drew.blk 0 rfl) iW rfl (by simp [Value.oneCell']) ?_))
    refine hK.out _ _ ?_ (fun hHeld => ?_)
    ·(refine vT g W' _ ?_; repeat (first | exact O0 | refine bz ?_ | refine fM ?_ | refine fP ?_ | refine fJ ?_ | refine iE ?_ _ | refine eO ?_ hn1.out | refine eG ?_ (by first | assumption | omega)))
    clear hK K
    try simp only [Act.put, yT]
    refine wpAnyH_done (by kernel_rfl) ?_ _;refine gu (HO.drew.put 0 _ rfl) ?_;clear HO O0 r0 n3 zg3 nc nc2;intro W' HO;simp only [List.set_cons_zero] at HO;(try clear kk);(try simp only [yD] at HO); have kk := HO.kk;go_wp2_with (first | ((first | (with_reducible refine bf HO ?_; intro g hg; rw [← hg.out]; clear hg) | (with_reducible refine ah HO ?_) | (refine ay 227 HO ?_)); clear HO; (try clear kk); intro W' HO kk) | (refine bG 227 HO Tryz.underlying227 ?_));refine bodyPost_ret_by (dG rfl _ _ _ 227 #[.int .u8 7, .int .i64 0, .int .i64 0, .bool false, .int .u32 xn, .int .u32 0, .int .i64 0, .slice (some ⟨g3, 1, none⟩) 1 (cv - 1)] _ _ rfl (HO.blk 2 rfl) Tryz.underlying227 rfl iW) rfl ?_
    exact ⟨⟨fun h => (by cases h), fun d hd => by cases hd; exact ⟨⟨7, 0, 0, false, xn, 0, 0, some ⟨g3, 1, none⟩, 1, cv - 1⟩, rfl, ⟨rfl, rfl, rfl, rfl, rfl, rfl, rfl, rfl, fun _ => ⟨g3, 1, rfl, hlo, fun i hi => by
     obtain rfl : i = 0 := by simpa using hi
     exact HO.rowcell 1 1 rfl rfl⟩⟩⟩⟩, HO.below⟩
   | fn ty res x hk hs => exact absurd HOP.out (show ¬ ((33 : Nat) = 32) by decide)
end Go.Proofs.YtlkolghiknbbfaaGreatDoor
