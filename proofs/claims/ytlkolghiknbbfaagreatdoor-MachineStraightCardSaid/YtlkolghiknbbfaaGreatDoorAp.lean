/- Ids: who makes them. -/
import Derived.Test.YtlkolghiknbbfaaGreatDoorAh
import Derived.Test.YtlkolghiknbbfaaGreatDoorAf
set_option linter.unusedVariables false
set_option linter.unusedSimpArgs false
set_option maxRecDepth 100000
set_option maxHeartbeats 4000000
namespace Go.Proofs.YtlkolghiknbbfaaGreatDoor
open Go.RowKit Go.MapKept Go.Shelf
attribute [local go_sem] Oper.semAt_some
def bR (k : Nat) : Value := .int .u32 (k : Int)
def encI (k : Nat) : Value := .int .i64 (k : Int)
def mkK (l : List In) : Nat → Nat → Option Nat
 | 0 => fun _ => none
 | k + 1 => if (l.getD (l.length - 1 - k) ai).res = 0 then mkK l k else dJ (mkK l k) (l.getD (l.length - 1 - k) ai).res (l.length - 1 - k)
theorem dK : Keys (.int .u32) bR := ⟨fun k => rfl, fun k k' h => by unfold bR at h; injection h with h1 h2; omega⟩
def ww (b o cap q g gm : Nat) (l : List In) (w : World) (k : Nat) (W : World) : Prop := Own aK w [aP q #[.slice (some ⟨b, o, none⟩) l.length cap] 32, aP g #[.map (some gm)] 126, iO (.int .u32) bR encI gm (mkK l k)] W
theorem ww.upto {b o cap q g gm k B : Nat} {l : List In} {w A C : World} (h : ww b o cap q g gm l w k A) (hq : q < B) (hg : g < B) (hm : gm < B) (hw : w.heap.size ≤ B) (hb : Below B A C) : ww b o cap q g gm l w k C :=
 Own.upto h (fun A' hA' j hj => by
  simp only [List.mem_cons, List.not_mem_nil, or_false] at hA';rcases hA' with rfl | rfl | rfl
  ·cases hj; exact hq
  ·cases hj; exact hg
  ·cases hj; exact hm) hw hb
theorem Iw (a : Option Addr) (n cap : Nat) (w : World) : Calls Tryz.prog 178 #[.slice a n cap] w fun e w' => e = .returned (.func (.func 212) #[] #[.pointer (some ⟨w.heap.size, 0, none⟩)]) ∧ w' = w.alloc (.cells #[.slice a n cap] 32) := by
 go_enter Tryz.func178, Tryz.ntmps178;go_wp2;go_ret;exact ⟨rfl, rfl⟩
theorem CF (b o cap : Nat) (l : List In) (sv : Nat → Option Addr × Nat) (w : World) (hM : Ms w b o l sv) (hn : l.length ≤ 2000) :
  Calls Tryz.prog 131 #[.slice (some ⟨b, o, none⟩) l.length cap] w fun e w' => ∃ m, e = .returned (.map (some m)) ∧ Own aK w [iO (.int .u32) bR encI m (mkK l l.length)] w' := by
 have HO := Own.nil w;have hmm := @run_makeMap Tryz.prog;have HM := hid hM;clear hM;refine (callsIn_wide (n := 1)).1 ?_;refine callsIn_of_wp_marks Tryz.func131 rfl trivial ?_ rfl;simp only [Tryz.ntmps131, List.size_toArray, List.length_cons, List.length_nil, Nat.reduceAdd, Nat.reduceSub, Array.replicate_succ, Array.replicate_zero, List.push_toArray, List.append_toArray, List.nil_append, List.cons_append]
 gi_wp2_with (first | ((with_reducible refine pu HO ?_); clear HO; (try clear kk); intro g W' hg HO; rw [← hg.out]; clear hg; (try simp only [yT] at HO); have kk := HO.kk) | ((with_reducible first | refine iw 0 HO rfl ?_ | refine iw 1 HO rfl ?_ | refine iw 2 HO rfl ?_ | refine iw 3 HO rfl ?_ | refine iw 4 HO rfl ?_ | refine iw 5 HO rfl ?_ | refine iw 6 HO rfl ?_); clear HO; (try clear kk); intro W' HO; (try simp only [yT] at HO); have kk := HO.kk) | (refine ⟨trivial, ?_⟩; gi_at_call 178; refine (callsIn_wide.2 (Iw _ _ _ _)).mono ?_; rintro e w1 ⟨rfl, rfl⟩))
 (try clear kk);have zM := HM.out.lt;have H1 := HO.alloc (.cells #[.slice (some ⟨b, o, none⟩) l.length cap] 32);have H2 := H1.recast 2 (A' := iO (.int .u32) bR encI _ (mkK l 0)) rfl (fun k hk => hk) (fQ (H1.blk 2 rfl));have hz0 : (W'.alloc (.cells #[.slice (some ⟨b, o, none⟩) l.length cap] 32)).heap.size = W'.heap.size + 1 := by simp
 have zg := HO.lt 0 rfl;have zm := HO.lt 1 rfl;simp only [yT] at H2;clear HO H1;generalize W'.alloc (.cells #[.slice (some ⟨b, o, none⟩) l.length cap] 32) = W0 at H2 hz0 ⊢;generalize W'.heap.size = q at H2 hz0 zg zm ⊢;obtain ⟨gv, hgv⟩ : ∃ gv, gv = g := ⟨g, rfl⟩;subst hgv;obtain ⟨gm, zm, H2⟩ : ∃ gm, gm < q ∧ ww b o cap q gv gm l w 0 W0 := ⟨_, zm, H2⟩;refine qC (hit := FT b o cap q l sv hn) rfl (enters_of Tryz.func212 (by kernel_rfl) rfl) (fun _ => rfl)
  (fun k A => ww b o cap q gv gm l w k A) (fun _ _ _ => False)
  (fun k A C h hb => h.upto (by omega) (by omega) (by omega) (Own.size H2) hb) (fun k A h => ⟨Own.lt h 0 rfl, Own.cell h 0 0 rfl rfl, HM.out.below (Own.below h)⟩) (fun q k A C h hb => h) H2 ?round ?done ?stop
 case stop => exact fun c k W h => h.elim
 case round =>
  intro lp k W hk hh hle hlt hz1;obtain ⟨p, hp⟩ : ∃ p, Hid (p = l.length - 1 - k) := ⟨_, rfl⟩;have hmk : Hid (mkK l (k + 1) = if (l.getD p ai).res = 0 then mkK l k else dJ (mkK l k) (l.getD p ai).res p) := hid (by rw [hp.out]; rfl);unfold wM uB;rw [← hp.out];generalize l.getD p ai = i at hmk ⊢;generalize sv p = s;obtain ⟨iop, ity, ires, iargs⟩ := i;obtain ⟨sa, sc⟩ := s;simp only at hmk ⊢;generalize iargs.length = na;have HH := hid hh;have HO := Own.nil W;clear hh hmm
  gi_wp2_with (first | ((with_reducible refine pu HO ?_); clear HO; (try clear kk); intro g W' hg HO; rw [← hg.out]; clear hg; (try simp only [yT] at HO); have kk := HO.kk) | ((first | (refine jI 0 HO rfl rfl 73 _ _ rfl rfl rfl (by kernel_rfl) rfl (by simp [Value.oneCell']) ?_) | (refine jI 1 HO rfl rfl 73 _ _ rfl rfl rfl (by kernel_rfl) rfl (by simp [Value.oneCell']) ?_) | (refine jI 2 HO rfl rfl 73 _ _ rfl rfl rfl (by kernel_rfl) rfl (by simp [Value.oneCell']) ?_) | (refine jI 3 HO rfl rfl 73 _ _ rfl rfl rfl (by kernel_rfl) rfl (by simp [Value.oneCell']) ?_) | (refine jI 4 HO rfl rfl 73 _ _ rfl rfl rfl (by kernel_rfl) rfl (by simp [Value.oneCell']) ?_) | (refine jI 5 HO rfl rfl 73 _ _ rfl rfl rfl (by kernel_rfl) rfl (by simp [Value.oneCell']) ?_) | (refine jI 6 HO rfl rfl 73 _ _ rfl rfl rfl (by kernel_rfl) rfl (by simp [Value.oneCell']) ?_)); clear HO; (try clear kk); intro W' HO; (try simp only [yT] at HO); have kk := HO.kk))
  refine ⟨Aside.below HO.below, HH.out.upto (B := W.heap.size) (by omega) (by omega) (by omega) (Own.size HH.out) HO.below, fun o' => ?_⟩;have hh2 := (HH.out.upto (B := W.heap.size) (by omega) (by omega) (by omega) (Own.size HH.out) HO.below).upto (B := W0.heap.size) (by omega) (by omega) (by omega) (Own.size H2) (aY W' o' hle);have hy : (W'.putObj lp o').heap[g]? = some (.cells #[.int .u16 iop, .int .u32 ity, .int .u32 ires, .slice sa na sc] 73 (0, 0)) := (World.putObj_heap_other (by have := HO.le 0 rfl; omega)).trans (HO.blk 0 rfl);generalize W'.putObj lp o' = W2 at hh2 hy ⊢;clear HO HH;(try clear kk);have c2 : W2.cell? ⟨g, 2, none⟩ = some (.int .u32 ires) := (cell_of_row _ _ 2 _ _ _ hy).trans rfl;by_cases hr : ires = 0
  ·have t0 : ((ires : Int) == 0) = true := by simp [hr]
   rw [if_pos hr] at hmk;have HH := hid hh2;clear hr hh2 hy;gi_wp2;exact ⟨Aside.refl _ _, by show ww b o cap q gv gm l w (k + 1) _; unfold ww; rw [hmk.out]; exact HH.out⟩
  ·have t0 : ((ires : Int) == 0) = false := by rw [beq_eq_false_iff_ne]; omega
   rw [if_neg hr] at hmk;have c3 : W2.cell? ⟨gv, 0, none⟩ = some (.map (some gm)) := Own.cell hh2 1 0 rfl rfl;obtain ⟨o2, hup, hm2⟩ := Mp.put (Own.at hh2 2 rfl) dK Tryz.underlying126 Tryz.underlying22 ires (.int .i64 p) p (fun _ _ _ h => h) (fun _ => rfl);have hup2 : (Instr.mapUpdate 126 (.map (some gm)) (.int .u32 ires) (.int .i64 p)).run Tryz.prog W2 = .ok () (aT W2 gm o2) := hup;have HH := hid hh2;have HM2 := hid hm2;clear hr hh2 hy hup hm2;gi_wp2;exact ⟨Aside.map _ _ _ (by omega), by show ww b o cap q gv gm l w (k + 1) _; unfold ww; rw [hmk.out]; exact Own.map HH.out 2 o2 rfl HM2.out⟩
 case done =>
  rintro W3 hh hz1 hd;have c3 : W3.cell? ⟨gv, 0, none⟩ = some (.map (some gm)) := Own.cell hh 1 0 rfl rfl;have HH := hid hh;clear hh;gi_wp2;refine ⟨by simp, .inl ⟨_, _, rfl, run_takeDeferred hd, ?_⟩⟩;refine ⟨.map (some gm), ?_, gm, rfl, ?_⟩
  ·simp [results, Tryz.f131, go_sem]
  ·exact Own.drop (HH.out.upto (B := W0.heap.size) (by omega) (by omega) (by omega) (Own.size H2) (aY _ _ (Nat.le_refl _))) 2
end Go.Proofs.YtlkolghiknbbfaaGreatDoor
namespace Go.Proofs.YtlkolghiknbbfaaGreatDoor
open Go.RowKit Go.MapKept
structure Ty where
 kind : Nat
 size : Nat
 depth : Nat
 sg : Bool
 aP : Nat
 part : Nat
 times : Nat
 pa : Option Addr
 pn : Nat
 pc : Nat
def fK (x : Ty) : Value := .agg #[.int .u8 x.kind, .int .i64 x.size, .int .i64 x.depth, .bool x.sg, .int .u32 x.aP, .int .u32 x.part, .int .i64 x.times, .slice x.pa x.pn x.pc]
def zT : Ty := ⟨0, 0, 0, false, 0, 0, 0, none, 0, 0⟩
def aV (f : Nat → Option Ty) (id : Nat) : Ty := (f id).getD zT
theorem zeroT (W : World) : (zeroValue 227).run Tryz.prog W = .ok (fK zT) W := by kernel_rfl
abbrev MpT (W : World) (mb : Nat) (f : Nat → Option Ty) : Prop := Mp (.int .u32) bR (fun _ v x => v = fK x) W mb f
theorem xP {W : World} {mb : Nat} {f : Nat → Option Ty} (h : MpT W mb f) (id : Nat) :
  (Instr.lookup 217 (.map (some mb)) (.int .u32 id) false).run Tryz.prog W = .ok (fK (aV f id)) W := by
 unfold aV
 cases hf : f id with
 | some x =>
  obtain ⟨v, hv, hr⟩ := Mp.hit h dK Tryz.underlying217 Tryz.underlying22 hf;subst hv;exact hr false
 | none => exact Mp.miss h dK Tryz.underlying217 Tryz.underlying22 hf (zeroT W) false
structure oC (T mb : Nat) (f : Nat → Option Ty) (W : World) : Prop where
 c0 : W.cell? ⟨T, 0, none⟩ = some (.map (some mb))
 mp : MpT W mb f
theorem oC.below {T mb : Nat} {f : Nat → Option Ty} {W W' : World} (h : oC T mb f W) (hb : Bl W W') : oC T mb f W' :=
 ⟨ae h.c0 (block_lt_of_cell h.c0) hb, h.mp.other (hb.block _ h.mp.lt) (fun _ _ e => e)⟩
theorem oC.lt {T mb : Nat} {f : Nat → Option Ty} {W : World} (h : oC T mb f W) : T < W.heap.size := block_lt_of_cell h.c0
theorem iW : (Tryz.prog.info? 227).map (·.size) = some 8 := by kernel_rfl
theorem IX (kd sz dp cl pt tm : Int) (sg : Bool) (v : Value) (W : World) : (Instr.field 227 (.agg #[.int .u8 kd, .int .i64 sz, .int .i64 dp, .bool sg, .int .u32 cl, .int .u32 pt, .int .i64 tm, v]) 0).run Tryz.prog W = .ok (.agg #[.int .u8 kd, .int .i64 sz, .int .i64 dp]) W := by kernel_rfl
theorem fld1 (kd sz dp cl pt tm : Int) (sg : Bool) (v : Value) (W : World) : (Instr.field 227 (.agg #[.int .u8 kd, .int .i64 sz, .int .i64 dp, .bool sg, .int .u32 cl, .int .u32 pt, .int .i64 tm, v]) 1).run Tryz.prog W = .ok (.bool sg) W := by kernel_rfl
theorem fct0 (kd sz dp : Int) (W : World) : (Instr.field 225 (.agg #[.int .u8 kd, .int .i64 sz, .int .i64 dp]) 0).run Tryz.prog W = .ok (.int .u8 kd) W := by kernel_rfl
theorem NK (kd sz dp : Int) (W : World) : (Instr.field 225 (.agg #[.int .u8 kd, .int .i64 sz, .int .i64 dp]) 1).run Tryz.prog W = .ok (.int .i64 sz) W := by kernel_rfl
theorem vJ (T mb : Nat) (f : Nat → Option Ty) (id : Nat) (w : World) (h : oC T mb f w) :
  Calls Tryz.prog 170 #[.pointer (some ⟨T, 0, none⟩), .int .u32 id] w fun e w' => e = .returned (.bool (decide (0 < (aV f id).size))) ∧ w' = w := by
 have c0 := h.c0;have hl := xP h.mp id;obtain ⟨x, hx⟩ : ∃ x, Hid (x = aV f id) := ⟨_, hid rfl⟩;rw [← hx.out] at hl ⊢;obtain ⟨kd, sz, dp, sg, cl, pt, tm, pa, pn, pc⟩ := x;unfold fK at hl;simp only at hl ⊢;clear h hx;have f0 := IX kd sz dp cl pt tm sg (.slice pa pn pc);have f1 := NK kd sz dp;go_enter Tryz.func170, Tryz.ntmps170;go_wp2_with fail;go_ret;exact ⟨rfl, rfl⟩
theorem fU (T mb : Nat) (f : Nat → Option Ty) (id : Nat) (w : World) (h : oC T mb f w) :
  Qc 155 #[.pointer (some ⟨T, 0, none⟩), .int .u32 id] w (fK (aV f id)) := by
 have c0 := h.c0;have zT := h.lt;have HO := Own.nil w;have HT := hid h;obtain ⟨x, hx⟩ : ∃ x, Hid (x = aV f id) := ⟨_, hid rfl⟩;rw [← hx.out];go_enter Tryz.func155, Tryz.ntmps155;go_wp2_with (first | ((with_reducible refine aM HO ?_); clear HO; (try clear kk); intro g W' hg HO; rw [← hg.out]; clear hg; (try simp only [yT] at HO); have kk := HO.kk));have hl := xP (HT.out.below HO.below).mp id;rw [← hx.out] at hl;have HE := hid (show fK x = fK x from rfl);obtain ⟨kd, sz, dp, sg, cl, pt, tm, pa, pn, pc⟩ := x;unfold fK at hl;simp only at hl;clear h hx;go_wp2_with (first | ((refine ay 227 HO ?_); clear HO; (try clear kk); intro W' HO kk));refine bodyPost_ret_by (bF rfl _ _ _ 227 #[.int .u8 kd, .int .i64 sz, .int .i64 dp, .bool sg, .int .u32 cl, .int .u32 pt, .int .i64 tm, .slice pa pn pc] _ _ rfl (HO.blk 0 rfl) Tryz.underlying227 rfl iW) rfl ?_;exact ⟨rfl, HO.below⟩
theorem EZ (T mb : Nat) (f : Nat → Option Ty) (id : Nat) (w : World) (h : oC T mb f w) :
  Qc 142 #[.pointer (some ⟨T, 0, none⟩), .int .u32 id] w (.int .u8 (aV f id).kind) := by
 have cA := fU T mb f id w h;have HO := Own.nil w;clear h;obtain ⟨x, hx⟩ : ∃ x, Hid (x = aV f id) := ⟨_, hid rfl⟩;rw [← hx.out] at cA ⊢;obtain ⟨kd, sz, dp, sg, cl, pt, tm, pa, pn, pc⟩ := x;unfold fK at cA;simp only at cA ⊢;clear hx;have f0 := IX kd sz dp cl pt tm sg (.slice pa pn pc);have f1 := fct0 kd sz dp;go_enter Tryz.func142, Tryz.ntmps142;go_wp2_with (first | ((first | (with_reducible refine bf HO ?_; intro g hg; rw [← hg.out]; clear hg) | (refine ay 227 HO ?_)); clear HO; (try clear kk); intro W' HO kk) | (go_at_call 155; (with_reducible refine cA.mono ?_); rintro e w1 ⟨rfl, hn⟩; replace HO := HO.then hn; clear hn));go_ret;exact ⟨rfl, HO.below⟩
theorem pK (T mb : Nat) (f : Nat → Option Ty) (id : Nat) (w : World) (h : oC T mb f w) :
  Qc 105 #[.pointer (some ⟨T, 0, none⟩), .int .u32 id] w (.int .i64 (aV f id).size) := by
 have cA := fU T mb f id w h;have HO := Own.nil w;clear h;obtain ⟨x, hx⟩ : ∃ x, Hid (x = aV f id) := ⟨_, hid rfl⟩;rw [← hx.out] at cA ⊢;obtain ⟨kd, sz, dp, sg, cl, pt, tm, pa, pn, pc⟩ := x;unfold fK at cA;simp only at cA ⊢;clear hx;have f0 := IX kd sz dp cl pt tm sg (.slice pa pn pc);have f1 := NK kd sz dp;go_enter Tryz.func105, Tryz.ntmps105;go_wp2_with (first | ((first | (with_reducible refine bf HO ?_; intro g hg; rw [← hg.out]; clear hg) | (refine ay 227 HO ?_)); clear HO; (try clear kk); intro W' HO kk) | (go_at_call 155; (with_reducible refine cA.mono ?_); rintro e w1 ⟨rfl, hn⟩; replace HO := HO.then hn; clear hn));go_ret;exact ⟨rfl, HO.below⟩
theorem yA (T mb : Nat) (f : Nat → Option Ty) (id : Nat) (w : World) (h : oC T mb f w) :
  Qc 106 #[.pointer (some ⟨T, 0, none⟩), .int .u32 id] w (.bool (aV f id).sg) := by
 have cA := fU T mb f id w h;have HO := Own.nil w;clear h;obtain ⟨x, hx⟩ : ∃ x, Hid (x = aV f id) := ⟨_, hid rfl⟩;rw [← hx.out] at cA ⊢;obtain ⟨kd, sz, dp, sg, cl, pt, tm, pa, pn, pc⟩ := x;unfold fK at cA;simp only at cA ⊢;clear hx;have f0 := fld1 kd sz dp cl pt tm sg (.slice pa pn pc);go_enter Tryz.func106, Tryz.ntmps106;go_wp2_with (first | ((first | (with_reducible refine bf HO ?_; intro g hg; rw [← hg.out]; clear hg) | (refine ay 227 HO ?_)); clear HO; (try clear kk); intro W' HO kk) | (go_at_call 155; (with_reducible refine cA.mono ?_); rintro e w1 ⟨rfl, hn⟩; replace HO := HO.then hn; clear hn));go_ret;exact ⟨rfl, HO.below⟩
theorem sP (T mb : Nat) (f : Nat → Option Ty) (id : Nat) (w : World) (h : oC T mb f w) :
  Qc 173 #[.pointer (some ⟨T, 0, none⟩), .int .u32 id] w (.bool (decide (0 < (aV f id).size))) := by
 have cA := fU T mb f id w h;have HO := Own.nil w;clear h;obtain ⟨x, hx⟩ : ∃ x, Hid (x = aV f id) := ⟨_, hid rfl⟩;rw [← hx.out] at cA ⊢;obtain ⟨kd, sz, dp, sg, cl, pt, tm, pa, pn, pc⟩ := x;unfold fK at cA;simp only at cA ⊢;clear hx;have f0 := IX kd sz dp cl pt tm sg (.slice pa pn pc);have f1 := NK kd sz dp;go_enter Tryz.func173, Tryz.ntmps173;go_wp2_with (first | ((first | (with_reducible refine bf HO ?_; intro g hg; rw [← hg.out]; clear hg) | (refine ay 227 HO ?_)); clear HO; (try clear kk); intro W' HO kk) | (go_at_call 155; (with_reducible refine cA.mono ?_); rintro e w1 ⟨rfl, hn⟩; replace HO := HO.then hn; clear hn));go_ret;exact ⟨rfl, HO.below⟩
theorem Dt (T mb : Nat) (f : Nat → Option Ty) (id : Nat) (w : World) (h : oC T mb f w) (hs : (aV f id).times ≤ 5000 ∧ (aV f id).pn ≤ 2000000) :
  Qc 175 #[.pointer (some ⟨T, 0, none⟩), .int .u32 id] w (.int .i64 (((aV f id).times + (aV f id).pn : Nat) : Int)) := by
 have cA := fU T mb f id w h;have HO := Own.nil w;clear h;obtain ⟨x, hx⟩ : ∃ x, Hid (x = aV f id) := ⟨_, hid rfl⟩;rw [← hx.out] at cA hs ⊢;obtain ⟨kd, sz, dp, sg, cl, pt, tm, pa, pn, pc⟩ := x;unfold fK at cA;simp only at cA hs ⊢;obtain ⟨hs1, hs2⟩ := hs;clear hx;go_enter Tryz.func175, Tryz.ntmps175;go_wp2_with (first | ((first | (with_reducible refine bf HO ?_; intro g hg; rw [← hg.out]; clear hg) | (refine ay 227 HO ?_)); clear HO; (try clear kk); intro W' HO kk) | (go_at_call 155; (with_reducible refine cA.mono ?_); rintro e w1 ⟨rfl, hn⟩; replace HO := HO.then hn; clear hn));go_ret;exact ⟨by go_num, HO.below⟩
theorem rU (T mb : Nat) (f : Nat → Option Ty) (id : Nat) (w : World) (h : oC T mb f w) :
  Qc 177 #[.pointer (some ⟨T, 0, none⟩), .int .u32 id] w (.tuple #[.int .u32 (aV f id).aP, .bool ((aV f id).kind == 7)]) := by
 have cA := fU T mb f id w h;have HO := Own.nil w;clear h;obtain ⟨x, hx⟩ : ∃ x, Hid (x = aV f id) := ⟨_, hid rfl⟩;rw [← hx.out] at cA ⊢;obtain ⟨kd, sz, dp, sg, cl, pt, tm, pa, pn, pc⟩ := x;unfold fK at cA;simp only at cA ⊢;clear hx;rw [← show (((kd : Int) == 7) : Bool) = (kd == 7) by rw [Bool.eq_iff_iff, beq_iff_eq, beq_iff_eq]; omega];go_enter Tryz.func177, Tryz.ntmps177;go_wp2_with (first | ((first | (with_reducible refine bf HO ?_; intro g hg; rw [← hg.out]; clear hg) | (refine ay 227 HO ?_)); clear HO; (try clear kk); intro W' HO kk) | (go_at_call 155; (with_reducible refine cA.mono ?_); rintro e w1 ⟨rfl, hn⟩; replace HO := HO.then hn; clear hn));go_quiet (fail);go_wp2_with fail;go_ret2;exact ⟨rfl, (HO.drewN _).below⟩
theorem uh (T mb : Nat) (f : Nat → Option Ty) (id k p : Nat) (b o : Nat) (w : World) (h : oC T mb f w) (ht : (aV f id).times = 0) (hk : k < (aV f id).pn) (hn : (aV f id).pn ≤ 2000000) (ha : (aV f id).pa = some ⟨b, o, none⟩) (hp : w.cell? ⟨b, o + k, none⟩ = some (.int .u32 p)) :
  Qc 117 #[.pointer (some ⟨T, 0, none⟩), .int .u32 id, .int .i64 k] w (.tuple #[.int .u32 p, .bool true]) := by
 have cA := fU T mb f id w h;have HO := Own.nil w;have zb := block_lt_of_cell hp;clear h;obtain ⟨x, hx⟩ : ∃ x, Hid (x = aV f id) := ⟨_, hid rfl⟩;rw [← hx.out] at cA ht hk hn ha;obtain ⟨kd, sz, dp, sg, cl, pt, tm, pa, pn, pc⟩ := x;unfold fK at cA;simp only at cA ht hk hn ha;subst ht ha;clear hx;have i2 : (k : Int) < (pn : Int) := by omega
 go_enter Tryz.func117, Tryz.ntmps117;go_wp2_with (first | ((first | (with_reducible refine bf HO ?_; intro g hg; rw [← hg.out]; clear hg) | (refine ay 227 HO ?_)); clear HO; (try clear kk); intro W' HO kk) | (go_at_call 155; (with_reducible refine cA.mono ?_); rintro e w1 ⟨rfl, hn⟩; replace HO := HO.then hn; clear hn));go_ret2;exact ⟨rfl, HO.below⟩
theorem Fq (T mb : Nat) (f : Nat → Option Ty) (id k : Nat) (w : World) (h : oC T mb f w) (ht : 0 < (aV f id).times) (hk : k < (aV f id).times + (aV f id).pn) (hn : (aV f id).times ≤ 5000 ∧ (aV f id).pn ≤ 2000000) :
  Qc 117 #[.pointer (some ⟨T, 0, none⟩), .int .u32 id, .int .i64 k] w (.tuple #[.int .u32 (aV f id).part, .bool true]) := by
 have cA := fU T mb f id w h;have HO := Own.nil w;clear h;obtain ⟨x, hx⟩ : ∃ x, Hid (x = aV f id) := ⟨_, hid rfl⟩;rw [← hx.out] at cA ht hk hn ⊢;obtain ⟨kd, sz, dp, sg, cl, pt, tm, pa, pn, pc⟩ := x;unfold fK at cA;simp only at cA ht hk hn ⊢;obtain ⟨hn1, hn2⟩ := hn;clear hx;have i2 : (k : Int) < (tm : Int) + (pn : Int) := by omega
 have i3 : (0 : Int) < (tm : Int) := by omega
 go_enter Tryz.func117, Tryz.ntmps117;go_wp2_with (first | ((first | (with_reducible refine bf HO ?_; intro g hg; rw [← hg.out]; clear hg) | (refine ay 227 HO ?_)); clear HO; (try clear kk); intro W' HO kk) | (go_at_call 155; (with_reducible refine cA.mono ?_); rintro e w1 ⟨rfl, hn⟩; replace HO := HO.then hn; clear hn));go_ret2;exact ⟨rfl, HO.below⟩
theorem Ea (x : Ty) (sz dp : Nat) (w : World) (h1 : sz ≤ 4096) (h2 : dp + 1 ≤ 16) :
  Qc 209 #[fK x, .int .i64 sz, .int .i64 dp] w (.tuple #[fK { x with size := sz, depth := dp + 1 }, .int .i64 0]) := by
 obtain ⟨kd, s0, d0, sg, cl, pt, tm, pa, pn, pc⟩ := x;unfold fK;simp only;have HO := Own.nil w;have t1 : ¬ ((4096 : Int) < (sz : Int)) := by omega
 have t2 : ¬ ((16 : Int) < (dp : Int) + 1) := by omega
 go_enter Tryz.func209, Tryz.ntmps209;go_wp2_with (first | ((first | (with_reducible refine bf HO ?_; intro g hg; rw [← hg.out]; clear hg) | (with_reducible refine ah HO ?_) | (refine ay 227 HO ?_)); clear HO; (try clear kk); intro W' HO kk) | (refine bG 227 HO Tryz.underlying227 ?_));refine bodyPost_ret_by (aJ rfl _ _ _ 227 #[.int .u8 kd, .int .i64 sz, .int .i64 (dp + 1), .bool sg, .int .u32 cl, .int .u32 pt, .int .i64 tm, .slice pa pn pc] _ _ rfl (HO.blk 0 rfl) Tryz.underlying227 rfl iW) rfl ?_;exact ⟨rfl, HO.below⟩
theorem zz (T mb : Nat) (f : Nat → Option Ty) (p n : Nat) (w : World) (h : oC T mb f w) (hk : (aV f p).kind = 3) (hn : 2 ≤ n ∧ n ≤ 4) (hd : (aV f p).depth + 1 ≤ 16) :
  Qc 167 #[.pointer (some ⟨T, 0, none⟩), .int .u32 p, .int .u32 n] w (.tuple #[fK ⟨4, n, (aV f p).depth + 1, false, 0, p, n, none, 0, 0⟩, .int .i64 0]) := by
 have c0 := h.c0;have zb := h.lt;have HT := hid h;have HO := Own.nil w;obtain ⟨hn1, hn2⟩ := hn;have cW : ∀ W, Qc 209 #[.agg #[.int .u8 4, .int .i64 0, .int .i64 0, .bool false, .int .u32 0, .int .u32 p, .int .i64 n, .slice none 0 0], .int .i64 n, .int .i64 (aV f p).depth] W (.tuple #[.agg #[.int .u8 4, .int .i64 n, .int .i64 (((aV f p).depth + 1 : Nat) : Int), .bool false, .int .u32 0, .int .u32 p, .int .i64 n, .slice none 0 0], .int .i64 0]) := fun W => Ea ⟨4, 0, 0, false, 0, p, n, none, 0, 0⟩ n (aV f p).depth W (by omega) hd
 clear h;obtain ⟨x, hx⟩ : ∃ x, Hid (x = aV f p) := ⟨_, hid rfl⟩;rw [← hx.out] at hk hd cW ⊢;go_enter Tryz.func167, Tryz.ntmps167;go_wp2_with (first | ((with_reducible refine aM HO ?_); clear HO; (try clear kk); intro g W' hg HO; rw [← hg.out]; clear hg; (try simp only [yT] at HO); have kk := HO.kk));have hl := xP (HT.out.below HO.below).mp p;rw [← hx.out] at hl;obtain ⟨kd, sz, dp, sg, cl, pt, tm, pa, pn, pc⟩ := x;unfold fK at hl;simp only at hl hk hd cW;subst hk;clear hx HT;have i1 : ¬ ((n : Int) < 2) := by omega
 have i2 : ¬ ((4 : Int) < (n : Int)) := by omega
 go_wp2_with (first | ((first | (with_reducible refine bf HO ?_; intro g hg; rw [← hg.out]; clear hg) | (with_reducible refine ah HO ?_) | (refine ay 227 HO ?_)); clear HO; (try clear kk); intro W' HO kk) | (go_at_call 209; with_reducible refine bq HO (cW _) ?_; clear HO; (try clear kk); intro w1 HO kk));trace_state;refine bodyPost_ret_by (aJ rfl _ _ _ 227 #[.int .u8 4, .int .i64 n, .int .i64 ((dp + 1 : Nat) : Int), .bool false, .int .u32 0, .int .u32 p, .int .i64 n, .slice none 0 0] _ _ rfl (HO.blk 1 rfl) Tryz.underlying227 rfl iW) rfl ?_;exact ⟨rfl, HO.below⟩
theorem uT (T mb : Nat) (f : Nat → Option Ty) (p gp c : Nat) (w : World) (h : oC T mb f w) (hk : (aV f p).kind = 1) (hs : (aV f p).size = 0) (hp : w.cell? ⟨gp, 0, none⟩ = some (.int .u32 p)) :
  Qc 171 #[.pointer (some ⟨T, 0, none⟩), .slice (some ⟨gp, 0, none⟩) 1 c] w (.tuple #[.agg #[.int .u8 8, .int .i64 0, .int .i64 0, .bool false, .int .u32 0, .int .u32 0, .int .i64 0, .slice (some ⟨gp, 0, none⟩) 1 c], .int .i64 0]) := by
 have c0 := h.c0;have zb := h.lt;have zg := block_lt_of_cell hp;have HT := hid h;have HO := Own.nil w;have cP : ∀ W, Bl w W → Calls Tryz.prog 170 #[.pointer (some ⟨T, 0, none⟩), .int .u32 p] W fun e w' => e = .returned (.bool false) ∧ w' = W := fun W hb => by
  have := vJ T mb f p W (h.below hb);rw [hs] at this;exact this
 obtain ⟨x, hx⟩ : ∃ x, Hid (x = aV f p) := ⟨_, hid rfl⟩;rw [← hx.out] at hk hs;clear h;go_enter Tryz.func171, Tryz.ntmps171;go_wp2_with (first | ((with_reducible refine aM HO ?_); clear HO; (try clear kk); intro g W' hg HO; rw [← hg.out]; clear hg; (try simp only [yT] at HO); have kk := HO.kk));have hl := xP (HT.out.below HO.below).mp p;rw [← hx.out] at hl;obtain ⟨kd, sz, dp, sg, cl, pt, tm, pa, pn, pc⟩ := x;unfold fK at hl;simp only at hl hk hs;subst hk hs;have f0 := IX 1 0 dp cl pt tm sg (.slice pa pn pc);have f1 := fct0 1 0 dp;clear hx HT;refine wp_loop_rounds 2 ?_;rw [rounds_succ];go_wp2_with (first | ((first | (with_reducible refine bf HO ?_; intro g hg; rw [← hg.out]; clear hg) | (with_reducible refine ah HO ?_)); clear HO; (try clear kk); intro W' HO kk) | (go_at_call 170; (with_reducible refine (cP _ HO.below).mono ?_); rintro e w1 ⟨rfl, rfl⟩));rw [rounds_succ];go_wp2_with (first | ((first | (with_reducible refine bf HO ?_; intro g hg; rw [← hg.out]; clear hg) | (with_reducible refine ah HO ?_) | (refine ay 227 HO ?_)); clear HO; (try clear kk); intro W' HO kk));refine bodyPost_ret_by (aJ rfl _ _ _ 227 #[.int .u8 8, .int .i64 0, .int .i64 0, .bool false, .int .u32 0, .int .u32 0, .int .i64 0, .slice (some ⟨gp, 0, none⟩) 1 c] _ _ rfl (HO.blk 0 rfl) Tryz.underlying227 rfl iW) rfl ?_;exact ⟨rfl, HO.below⟩
end Go.Proofs.YtlkolghiknbbfaaGreatDoor
