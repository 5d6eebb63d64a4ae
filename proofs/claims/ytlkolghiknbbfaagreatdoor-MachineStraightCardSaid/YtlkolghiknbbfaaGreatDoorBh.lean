/- Flow: own, may. -/
import Derived.Test.YtlkolghiknbbfaaGreatDoorAz
set_option linter.unusedVariables false
set_option linter.unusedSimpArgs false
set_option maxRecDepth 100000
set_option maxHeartbeats 4000000
namespace Go.Proofs.YtlkolghiknbbfaaGreatDoor
open Go.RowKit Go.MapKept
structure KF where
 at_ : Nat
 lab : Bool
def lM (x : KF) : Value := .agg #[.int .i64 0, .int .i64 0, .int .i64 x.at_, .bool x.lab]
theorem JD (w : World) : (zeroValue 460).run Tryz.prog w = .ok (.agg #[.int .i64 0, .int .i64 0, .int .i64 0, .bool false]) w := by kernel_rfl
theorem Dx : (Tryz.prog.info? 460).map (·.size) = some 4 := by kernel_rfl
structure KS (B hb G b o cap b2 cb lab : Nat) (p q : Int) (l : List In) (sv : Nat → Option Addr × Nat) (hm : Nat → Option KF) (W : World) : Prop where
 c2 : W.cell? ⟨B, 2, none⟩ = some (.slice (some ⟨b, o, none⟩) l.length cap)
 c3 : W.cell? ⟨B, 3, none⟩ = some (.int .i64 0)
 c7 : W.cell? ⟨B, 7, none⟩ = some (.slice (some ⟨b2, 0, none⟩) 1 cb)
 c9 : W.cell? ⟨B, 9, none⟩ = some (.map (some hb))
 c10 : W.cell? ⟨B, 10, none⟩ = some (.pointer (some ⟨G, 0, none⟩))
 h0 : W.cell? ⟨b2, 0, none⟩ = some (.int .u32 lab)
 h1 : W.cell? ⟨b2, 1, none⟩ = some (.int .i64 p)
 h2 : W.cell? ⟨b2, 2, none⟩ = some (.int .i64 q)
 mp : Mp (.int .u32) bR (fun _ v x => v = lM x) W hb hm
 ms : Ms W b o l sv
 gr : ∃ lo, eZ G lo W
theorem KS.below {B hb G b o cap b2 cb lab : Nat} {p q : Int} {l : List In} {sv : Nat → Option Addr × Nat} {hm : Nat → Option KF} {W W' : World} (h : KS B hb G b o cap b2 cb lab p q l sv hm W) (hw : Bl W W') : KS B hb G b o cap b2 cb lab p q l sv hm W' := by
 obtain ⟨lo, hg⟩ := h.gr;have zB := block_lt_of_cell h.c2;have z2 := block_lt_of_cell h.h0;exact ⟨ae h.c2 zB hw, ae h.c3 zB hw, ae h.c7 zB hw, ae h.c9 zB hw, ae h.c10 zB hw, ae h.h0 z2 hw, ae h.h1 z2 hw, ae h.h2 z2 hw, h.mp.other (hw.block _ h.mp.lt) (fun _ _ e => e), h.ms.below hw, ⟨lo, hg.below hw⟩⟩
def qD (x : Option KF) : Value := match x with
 | none => .agg #[.int .i64 0, .int .i64 0, .int .i64 0, .bool false]
 | some x => lM x
def Cf (x : Option KF) : Bool := match x with
 | none => false
 | some x => !x.lab
section
variable {B hb G b o cap b2 cb lab : Nat} {p q : Int} {l : List In} {sv : Nat → Option Addr × Nat} {hm : Nat → Option KF} {w : World}
theorem Fs (h : KS B hb G b o cap b2 cb lab p q l sv hm w) (id : Nat) :
  Qc 452 #[.pointer (some ⟨B, 0, none⟩), .int .u32 id] w (.tuple #[qD (hm id), .bool (Cf (hm id))]) := by
 have HO := Own.nil w;have g9 := h.c9;have g3 := h.c3;have zB := block_lt_of_cell g9;have hl : ∀ W, Bl w W → (Instr.lookup 424 (.map (some hb)) (.int .u32 id) true).run Tryz.prog W = .ok (.tuple #[qD (hm id), .bool (hm id).isSome]) W := fun W hw => by
  cases hf : hm id with
  | some x =>
   obtain ⟨v, hv, hq⟩ := (h.below hw).mp.hit dK Tryz.underlying424 Tryz.underlying22 hf;subst hv;exact hq true
  | none => exact (h.below hw).mp.miss dK Tryz.underlying424 Tryz.underlying22 hf (JD W) true
 clear h
 cases hf : hm id with
 | none =>
  rw [hf] at hl;simp only [qD, Cf, Option.isSome] at hl ⊢;clear hf;go_enter Tryz.func452, Tryz.ntmps452;go_wp2_with (first | ((first | ((with_reducible refine aB HO ?_); intro g hg; rw [← hg.out]; clear hg) | (with_reducible refine ah HO ?_) | (refine ay 460 HO ?_)); clear HO; (try clear kk); intro W' HO kk));obtain ⟨gR, rfl⟩ : ∃ q, q = g := ⟨_, rfl⟩;rw [hl _ HO.below];clear hl;(try simp only [yD] at HO); have kk := HO.kk;go_wp2_with (first | ((first | ((with_reducible refine aB HO ?_); intro g hg; rw [← hg.out]; clear hg) | (with_reducible refine ah HO ?_) | (refine ay 460 HO ?_)); clear HO; (try clear kk); intro W' HO kk));have nB : B ≠ gR := by have := HO.le 1 rfl; omega
  have n6 : g ≠ gR := HO.ne 0 1 rfl rfl (by omega);go_region;go_wp2_with fail;have H := ((((HO.set 1 0 (.int .i64 0) rfl).set 1 1 (.int .i64 0) rfl).set 1 2 (.int .i64 0) rfl).set 1 3 (.bool false) rfl).drew;refine bodyPost_ret_by (aJ rfl _ _ _ 460 #[.int .i64 0, .int .i64 0, .int .i64 0, .bool false] _ _ rfl (H.blk 1 rfl) Tryz.underlying460 rfl Dx) rfl ?_;exact ⟨rfl, H.below⟩
 | some x =>
  rw [hf] at hl;obtain ⟨xa, xl⟩ := x;simp only [qD, Cf, lM, Option.isSome] at hl ⊢;clear hf
  cases xl with
  | true =>
   go_enter Tryz.func452, Tryz.ntmps452;go_wp2_with (first | ((first | ((with_reducible refine aB HO ?_); intro g hg; rw [← hg.out]; clear hg) | (with_reducible refine ah HO ?_) | (refine ay 460 HO ?_)); clear HO; (try clear kk); intro W' HO kk));obtain ⟨gR, rfl⟩ : ∃ q, q = g := ⟨_, rfl⟩;rw [hl _ HO.below];clear hl;(try simp only [yD] at HO); have kk := HO.kk;go_wp2_with (first | ((first | ((with_reducible refine aB HO ?_); intro g hg; rw [← hg.out]; clear hg) | (with_reducible refine ah HO ?_) | (refine ay 460 HO ?_)); clear HO; (try clear kk); intro W' HO kk));have nB : B ≠ gR := by have := HO.le 1 rfl; omega
   have n6 : g ≠ gR := HO.ne 0 1 rfl rfl (by omega);go_region;go_wp2_with fail;have H := ((((HO.set 1 0 (.int .i64 0) rfl).set 1 1 (.int .i64 0) rfl).set 1 2 (.int .i64 xa) rfl).set 1 3 (.bool true) rfl).drew;refine bodyPost_ret_by (aJ rfl _ _ _ 460 #[.int .i64 0, .int .i64 0, .int .i64 xa, .bool true] _ _ rfl (H.blk 1 rfl) Tryz.underlying460 rfl Dx) rfl ?_;exact ⟨rfl, H.below⟩
  | false =>
   go_enter Tryz.func452, Tryz.ntmps452;go_wp2_with (first | ((first | ((with_reducible refine aB HO ?_); intro g hg; rw [← hg.out]; clear hg) | (with_reducible refine ah HO ?_) | (refine ay 460 HO ?_)); clear HO; (try clear kk); intro W' HO kk));obtain ⟨gR, rfl⟩ : ∃ q, q = g := ⟨_, rfl⟩;rw [hl _ HO.below];clear hl;(try simp only [yD] at HO); have kk := HO.kk;go_wp2_with (first | ((first | ((with_reducible refine aB HO ?_); intro g hg; rw [← hg.out]; clear hg) | (with_reducible refine ah HO ?_) | (refine ay 460 HO ?_)); clear HO; (try clear kk); intro W' HO kk));have nB : B ≠ gR := by have := HO.le 1 rfl; omega
   have n6 : g ≠ gR := HO.ne 0 1 rfl rfl (by omega);go_region;go_wp2_with fail;have H := ((((HO.set 1 0 (.int .i64 0) rfl).set 1 1 (.int .i64 0) rfl).set 1 2 (.int .i64 xa) rfl).set 1 3 (.bool false) rfl).drew;refine bodyPost_ret_by (aJ rfl _ _ _ 460 #[.int .i64 0, .int .i64 0, .int .i64 xa, .bool false] _ _ rfl (H.blk 1 rfl) Tryz.underlying460 rfl Dx) rfl ?_;exact ⟨rfl, H.below⟩
end
def tQ (hm : Nat → Option KF) (id k : Nat) : Prop := ∀ x, hm id = some x → x.lab = true ∨ x.at_ < k
section
variable {B hb G b o cap b2 cb lab : Nat} {p q : Int} {l : List In} {sv : Nat → Option Addr × Nat} {hm : Nat → Option KF} {w : World}
theorem FR (h : KS B hb G b o cap b2 cb lab p q l sv hm w) (id k : Nat) (hq : tQ hm id k) :
  Qc 440 #[.pointer (some ⟨B, 0, none⟩), .int .u32 id, .int .i64 0, .int .i64 k] w (.bool true) := by
 have HO := Own.nil w;have g10 := h.c10;have zB := block_lt_of_cell g10;have cO : ∀ W, Bl w W → Qc 452 #[.pointer (some ⟨B, 0, none⟩), .int .u32 id] W (.tuple #[qD (hm id), .bool (Cf (hm id))]) := fun W hb => Fs (h.below hb) id
 have cR : ∀ W, Bl w W → Calls Tryz.prog 390 #[.pointer (some ⟨G, 0, none⟩), .int .i64 0] W fun e w' => e = .returned (.bool true) ∧ w' = W := fun W hb => by
  obtain ⟨lo, hg⟩ := (h.below hb).gr;exact lc G lo W hg
 clear h;unfold tQ at hq;generalize hm id = hx at cO hq;rcases hx with _ | ⟨xa, xl⟩
 ·simp only [qD, Cf] at cO
  clear hq;go_enter Tryz.func440, Tryz.ntmps440;go_wp2_with (first | ((first | ((with_reducible refine aB HO ?_); intro g hg; rw [← hg.out]; clear hg) | (with_reducible refine ah HO ?_) | (refine ay 460 HO ?_)); clear HO; (try clear kk); intro W' HO kk) | (go_at_call 452; with_reducible refine bq HO (cO _ HO.below) ?_; clear HO; (try clear kk); intro w1 HO kk));go_ret;exact ⟨rfl, HO.below⟩
 ·cases xl with
  | true =>
   simp only [qD, Cf, lM, Bool.not_true] at cO;clear hq;go_enter Tryz.func440, Tryz.ntmps440;go_wp2_with (first | ((first | ((with_reducible refine aB HO ?_); intro g hg; rw [← hg.out]; clear hg) | (with_reducible refine ah HO ?_) | (refine ay 460 HO ?_)); clear HO; (try clear kk); intro W' HO kk) | (go_at_call 452; with_reducible refine bq HO (cO _ HO.below) ?_; clear HO; (try clear kk); intro w1 HO kk));go_ret;exact ⟨rfl, HO.below⟩
  | false =>
   have hlt := (hq _ rfl).resolve_left (by simp);simp only at hlt;simp only [qD, Cf, lM, Bool.not_false] at cO;have i1 : (xa : Int) < k := by omega
   clear hq hlt;go_enter Tryz.func440, Tryz.ntmps440;go_wp2_with (first | ((first | ((with_reducible refine aB HO ?_); intro g hg; rw [← hg.out]; clear hg) | (with_reducible refine ah HO ?_) | (refine ay 460 HO ?_)); clear HO; (try clear kk); intro W' HO kk) | (go_at_call 452; with_reducible refine bq HO (cO _ HO.below) ?_; clear HO; (try clear kk); intro w1 HO kk) | (go_at_call 390; (with_reducible refine (cR _ HO.below).mono ?_); rintro e w1 ⟨rfl, rfl⟩));go_ret;exact ⟨rfl, HO.below⟩
theorem FI (h : KS B hb G b o cap b2 cb lab p q l sv hm w) (k : Nat) (hk : k < l.length) (hop : l[k].op ≠ 245) :
  Qc 413 #[.pointer (some ⟨B, 0, none⟩), .int .i64 0, .int .i64 k] w (.int .i64 0) := by
 have HO := Own.nil w;have g2 := h.c2;have zB := block_lt_of_cell g2;have zb := h.ms.lt;have e0 := h.ms.op k hk;have i1 : ((l[k].op : Int) == 245) = false := by rw [beq_eq_false_iff_ne]; omega
 have i2 : (k : Int) < l.length := by omega
 clear h hop;generalize l[k] = i at e0 i1;generalize l.length = n at g2 i2;go_enter Tryz.func413, Tryz.ntmps413;go_wp2_with fail;go_ret;exact ⟨rfl, HO.below⟩
theorem Fy (h : KS B hb G b o cap b2 cb lab p q l sv hm w) (k : Nat) (hk : k < l.length) (hop : l[k].op ≠ 245) (hu : ∀ id ∈ aX l[k], tQ hm id k) :
  Qc 414 #[.pointer (some ⟨B, 0, none⟩), .int .i64 0, .int .i64 k] w (.int .i64 0) := by
 have HO := Own.nil w;have HB := hid h;have HU := hid hu;have g2 := h.c2;have zB := block_lt_of_cell g2;have zb := h.ms.lt;have e0 := h.ms.op k hk;have e1 := h.ms.ty k hk;have e2 := h.ms.res k hk;have e3 := h.ms.args k hk;have hsl := hid (h.ms.sl k hk);have hal := hid (h.ms.len k hk);have i1 : ((l[k].op : Int) == 245) = false := by rw [beq_eq_false_iff_ne]; omega
 have i2 : (k : Int) < l.length := by omega
 clear h hop hu;generalize l[k] = i at e0 e1 e2 e3 hsl hal i1 HU;generalize sv k = s at e3 hsl;obtain ⟨sa, sc⟩ := s;simp only at e3 hsl;have g2' := g2;obtain ⟨ll, hll⟩ : ∃ ll, Hid (ll = l.length) := ⟨_, hid rfl⟩;rw [← hll.out] at i2 g2;clear g2';go_enter Tryz.func414, Tryz.ntmps414;go_wp2_with (first | ((first | ((with_reducible refine aB HO ?_); intro g hg; rw [← hg.out]; clear hg) | (with_reducible refine ah HO ?_) | (refine ay 73 HO ?_)); clear HO; (try clear kk); intro W' HO kk) | (refine bG 73 HO Tryz.underlying73 ?_));go_at_call 132;have hcc := rA i sa sc W' (hsl.out.below cz.lasts HO.below) hal.out;have hnl := hid (show (aX i).length ≤ 1048577 from Nat.le_trans (kH i _) (by have := hal.out; omega))
 with_reducible refine Calls.mono hcc ?_
 rintro e w3 ⟨⟨v, rfl, hv⟩, hn3⟩;obtain ⟨va, vc, rfl, hids⟩ := ma hv;replace HO := HO.then hn3
 clear hv hn3 hcc e0 e1 e2 e3 g2 i2;(try clear kk);have HX := hid HO.below;have HQ := hid hids;clear HO hids;have i3 := hnl.out;go_wp2_with fail
 rename World => wq
 go_loopw [9, 29] (fun _ x29 wv => ∃ j : Nat, j ≤ (aX i).length ∧ x29 = .int .i64 j ∧ Bl wq wv) (fun _ x _ => (aX i).length - (intOf x).toNat)
 case atStart => exact ⟨0, by omega, rfl, Below.refl _ _⟩
 case round =>
  obtain ⟨j, hj, rfl, hw⟩ := hrel;have hwr := HX.out.trans (hw.mono HX.out.size);by_cases hjl : j < (aX i).length
  ·have hmy := HU.out _ (List.getElem_mem hjl)
   obtain ⟨qb, qo, ha, hql, hqc⟩ := (HQ.out.below (rR.lasts .u32) hw).at_ (by omega);subst ha;have q1 : wr.cell? ⟨qb, qo + j * 1, none⟩ = some (.int .u32 (aX i)[j]) := hqc j hjl;rw [Nat.mul_one] at q1;have i4 : (j : Int) < (aX i).length := by omega
   have HJL := hid hjl;have HW := hid hw;clear hqc hw;generalize (aX i)[j] = idj at q1 hmy;have cM : ∀ W, Bl wr W → Qc 440 #[.pointer (some ⟨B, 0, none⟩), .int .u32 idj, .int .i64 0, .int .i64 k] W (.bool true) := fun W hb => FR (HB.out.below (hwr.trans (hb.mono hwr.size))) idj k hmy
   have HO := Own.nil wr;clear hjl hmy;go_wp2_with (first | (go_at_call 440; with_reducible refine fF HO (cM _ HO.below) ?_; clear HO; intro w1 HO));exact ⟨⟨j + 1, HJL.out, by go_num, HW.out.trans (HO.below.mono HW.out.size)⟩, by have := HJL.out; simp [intOf]; omega⟩
  ·obtain rfl : j = (aX i).length := by omega
   have i4 : ¬ (((aX i).length : Int) < (aX i).length) := by omega
   go_wp2_with fail;go_ret;exact ⟨rfl, hwr⟩
theorem Bg (h : KS B hb G b o cap b2 cb lab p q l sv hm w) (k : Nat) (hk : k < l.length) :
  Qc 412 #[.pointer (some ⟨B, 0, none⟩), .int .i64 0, .int .i64 k] w (.int .i64 0) := by
 have HO := Own.nil w;have HB := hid h;have g2 := h.c2;have zB := block_lt_of_cell g2;have zb := h.ms.lt;have e0 := h.ms.op k hk;have e1 := h.ms.ty k hk;have e2 := h.ms.res k hk;have e3 := h.ms.args k hk;have hsl := hid (h.ms.sl k hk);have hal := hid (h.ms.len k hk);have i2 : (k : Int) < l.length := by omega
 clear h;generalize l[k] = i at e0 e1 e2 e3 hsl hal;generalize sv k = s at e3 hsl;obtain ⟨sa, sc⟩ := s;simp only at e3 hsl;obtain ⟨ll, hll⟩ : ∃ ll, Hid (ll = l.length) := ⟨_, hid rfl⟩;rw [← hll.out] at i2 g2;go_enter Tryz.func412, Tryz.ntmps412;go_wp2_with fail;go_at_call 132;have hcc := rA i sa sc w (hsl.out) hal.out;have hnl := hid (show (aX i).length ≤ 1048577 from Nat.le_trans (kH i _) (by have := hal.out; omega))
 with_reducible refine Calls.mono hcc ?_
 rintro e w3 ⟨⟨v, rfl, hv⟩, hn3⟩;obtain ⟨va, vc, rfl, hids⟩ := ma hv;replace HO := HO.then hn3
 clear hv hn3 hcc e0 e1 e2 e3 g2 i2;have HX := hid HO.below;have HQ := hid hids;clear HO hids;have i3 := hnl.out;go_wp2_with fail
 rename World => wq
 go_loopw [8, 9, 10, 21] (fun _ _ _ x21 wv => ∃ j : Nat, j ≤ (aX i).length ∧ x21 = .int .i64 j ∧ Bl wq wv) (fun _ _ _ x _ => (aX i).length - (intOf x).toNat)
 case atStart => exact ⟨0, by omega, rfl, Below.refl _ _⟩
 case round =>
  obtain ⟨j, hj, rfl, hw⟩ := hrel;have hwr := HX.out.trans (hw.mono HX.out.size);by_cases hjl : j < (aX i).length
  ·obtain ⟨qb, qo, ha, hql, hqc⟩ := (HQ.out.below (rR.lasts .u32) hw).at_ (by omega)
   subst ha;have q1 : wr.cell? ⟨qb, qo + j * 1, none⟩ = some (.int .u32 (aX i)[j]) := hqc j hjl;rw [Nat.mul_one] at q1;have i4 : (j : Int) < (aX i).length := by omega
   have HJL := hid hjl;have HW := hid hw;clear hqc hw;generalize (aX i)[j] = idj at q1;have HBr := HB.out.below hwr;have g9 := HBr.c9;have g3 := HBr.c3;have zB2 := block_lt_of_cell g9;have HO := Own.nil wr;clear hjl
   cases hf : hm idj with
   | none =>
    have hl := HBr.mp.miss dK Tryz.underlying424 Tryz.underlying22 hf (JD wr) true;simp only [if_true] at hl;have hl2 : (Instr.lookup 424 (.map (some hb)) (.int .u32 idj) true).run Tryz.prog wr = .ok (.tuple #[.agg #[.int .i64 0, .int .i64 0, .int .i64 0, .bool false], .bool false]) wr := hl;clear hf HBr hl;go_wp2_with (first | ((first | ((with_reducible refine aB HO ?_); intro g hg; rw [← hg.out]; clear hg) | (with_reducible refine ah HO ?_) | (refine ay 460 HO ?_)); clear HO; (try clear kk); intro W' HO kk) | go_quiet (fail));exact ⟨⟨j + 1, HJL.out, by go_num, HW.out.trans ((HO.drewN _).below.mono HW.out.size)⟩, by have := HJL.out; simp [intOf]; omega⟩
   | some x =>
    obtain ⟨v, hv, hl⟩ := HBr.mp.hit dK Tryz.underlying424 Tryz.underlying22 hf;subst hv;obtain ⟨xa, xl⟩ := x;have hl2 : (Instr.lookup 424 (.map (some hb)) (.int .u32 idj) true).run Tryz.prog wr = .ok (.tuple #[.agg #[.int .i64 0, .int .i64 0, .int .i64 xa, .bool xl], .bool true]) wr := hl true;clear hf HBr hl;go_wp2_with (first | ((first | ((with_reducible refine aB HO ?_); intro g hg; rw [← hg.out]; clear hg) | (with_reducible refine ah HO ?_) | (refine ay 460 HO ?_)); clear HO; (try clear kk); intro W' HO kk) | go_quiet (fail));exact ⟨⟨j + 1, HJL.out, by go_num, HW.out.trans ((HO.drewN _).below.mono HW.out.size)⟩, by have := HJL.out; simp [intOf]; omega⟩
  ·obtain rfl : j = (aX i).length := by omega
   have i4 : ¬ (((aX i).length : Int) < (aX i).length) := by omega
   go_wp2_with fail;go_ret;exact ⟨rfl, hwr⟩
end
end Go.Proofs.YtlkolghiknbbfaaGreatDoor
