/- Ids: who makes them. -/
import Derived.Test.YtindnnbopaeklaaGreatDoorAh
import Derived.Test.YtindnnbopaeklaaGreatDoorAf
namespace Go.Proofs.YtindnnbopaeklaaGreatDoor
set_option linter.unusedVariables false
set_option linter.unusedSimpArgs false
set_option maxRecDepth 100000
set_option maxHeartbeats 2000000
open Go.RowKit Go.MapKept Go.Shelf
attribute [local go_sem] Oper.semAt_some
def keyU (k : Nat) : Value := .int .u32 (k : Int)
def encI (k : Nat) : Value := .int .i64 (k : Int)
def mkK (l : List In) : Nat → Nat → Option Nat
 | 0 => fun _ => none
 | k + 1 => if (l.getD (l.length - 1 - k) noIn).res = 0 then mkK l k else kup (mkK l k) (l.getD (l.length - 1 - k) noIn).res (l.length - 1 - k)
theorem keysU : Keys (.int .u32) keyU := ⟨fun k => rfl, fun k k' h => by unfold keyU at h; injection h with h1 h2; omega⟩
def MkSt (b o cap q g gm : Nat) (l : List In) (w : World) (k : Nat) (W : World) : Prop := Own noX w [cls q #[.slice (some ⟨b, o, none⟩) l.length cap] 26, cls g #[.map (some gm)] 203, mpA (.int .u32) keyU encI gm (mkK l k)] W
theorem MkSt.upto {b o cap q g gm k B : Nat} {l : List In} {w A C : World} (h : MkSt b o cap q g gm l w k A) (hq : q < B) (hg : g < B) (hm : gm < B) (hw : w.heap.size ≤ B) (hb : Below B A C) : MkSt b o cap q g gm l w k C :=
 Own.upto h (fun A' hA' j hj => by
  simp only [List.mem_cons, List.not_mem_nil, or_false] at hA'
  rcases hA' with rfl | rfl | rfl
  ·cases hj; exact hq
  ·cases hj; exact hg
  ·cases hj; exact hm) hw hb
theorem back_own (a : Option Addr) (n cap : Nat) (w : World) : Calls Tryz.prog 177 #[.slice a n cap] w fun e w' => e = .returned (.func (.func 227) #[] #[.pointer (some ⟨w.heap.size, 0, none⟩)]) ∧ w' = w.alloc (.cells #[.slice a n cap] 26) := by
 go_enter Tryz.func177, Tryz.ntmps177
 go_wp2
 go_ret
 exact ⟨rfl, rfl⟩
theorem makers_own (b o cap : Nat) (l : List In) (sv : Nat → Option Addr × Nat) (w : World) (hM : Ms w b o l sv) (hn : l.length ≤ 2000) :
  Calls Tryz.prog 128 #[.slice (some ⟨b, o, none⟩) l.length cap] w fun e w' => ∃ m, e = .returned (.map (some m)) ∧ Own noX w [mpA (.int .u32) keyU encI m (mkK l l.length)] w' := by
 have HO := Own.nil w
 have hmm := @run_makeMap Tryz.prog
 have HM := hid hM
 clear hM
 refine (callsIn_wide (n := 1)).1 ?_
 refine callsIn_of_wp_marks Tryz.func128 rfl trivial ?_ rfl
 simp only [Tryz.ntmps128, List.size_toArray, List.length_cons, List.length_nil, Nat.reduceAdd, Nat.reduceSub, Array.replicate_succ, Array.replicate_zero, List.push_toArray, List.append_toArray, List.nil_append, List.cons_append]
 gi_wp2_with (first | ((with_reducible refine si_alloc HO ?_); clear HO; (try clear kk); intro g W' hg HO; rw [← hg.out]; clear hg; (try simp only [zTz, zTs, zTa] at HO); (try have kk := HO.kk)) | ((with_reducible first | refine si_set 0 HO rfl ?_ | refine si_set 1 HO rfl ?_ | refine si_set 2 HO rfl ?_ | refine si_set 3 HO rfl ?_ | refine si_set 4 HO rfl ?_ | refine si_set 5 HO rfl ?_ | refine si_set 6 HO rfl ?_); clear HO; (try clear kk); intro W' HO; (try simp only [zTz, zTs, zTa] at HO); (try have kk := HO.kk)) | (refine ⟨trivial, ?_⟩; gi_at_call 177; refine (callsIn_wide.2 (back_own _ _ _ _)).mono ?_; rintro e w1 ⟨rfl, rfl⟩))
 (try clear kk)
 have zM := HM.out.lt
 have H1 := HO.alloc (.cells #[.slice (some ⟨b, o, none⟩) l.length cap] 26)
 have H2 := H1.recast 2 (A' := mpA (.int .u32) keyU encI _ (mkK l 0)) rfl (fun k hk => hk) (mp_new (H1.blk 2 rfl))
 have hz0 : (W'.alloc (.cells #[.slice (some ⟨b, o, none⟩) l.length cap] 26)).heap.size = W'.heap.size + 1 := by simp
 have zg := HO.lt 0 rfl
 have zm := HO.lt 1 rfl
 simp only [List.set_cons_succ, List.set_cons_zero] at H2
 clear HO H1
 generalize W'.alloc (.cells #[.slice (some ⟨b, o, none⟩) l.length cap] 26) = W0 at H2 hz0 ⊢
 generalize W'.heap.size = q at H2 hz0 zg zm ⊢
 obtain ⟨gv, hgv⟩ : ∃ gv, gv = g := ⟨g, rfl⟩
 subst hgv
 obtain ⟨gm, zm, H2⟩ : ∃ gm, gm < q ∧ MkSt b o cap q gv gm l w 0 W0 := ⟨_, zm, H2⟩
 refine range_iterF (hit := back_iter b o cap q l sv hn) rfl (enters_of Tryz.func227 (by kernel_rfl) rfl) (fun _ => rfl)
  (fun k A => MkSt b o cap q gv gm l w k A) (fun _ _ _ => False)
  (fun k A C h hb => h.upto (by omega) (by omega) (by omega) (Own.size H2) hb) (fun k A h => ⟨Own.lt h 0 rfl, Own.cell h 0 0 rfl rfl, HM.out.below (Own.below h)⟩) (fun q k A C h hb => h) H2 ?round ?done ?stop
 case stop => exact fun c k W h => h.elim
 case round =>
  intro lp k W hk hh hle hlt hz1
  obtain ⟨p, hp⟩ : ∃ p, Hid (p = l.length - 1 - k) := ⟨_, rfl⟩
  have hmk : Hid (mkK l (k + 1) = if (l.getD p noIn).res = 0 then mkK l k else kup (mkK l k) (l.getD p noIn).res p) := hid (by rw [hp.out]; rfl)
  unfold backRow inV
  rw [← hp.out]
  generalize l.getD p noIn = i at hmk ⊢
  generalize sv p = s
  obtain ⟨iop, ity, ires, iargs⟩ := i
  obtain ⟨sa, sc⟩ := s
  simp only at hmk ⊢
  generalize iargs.length = na
  have HH := hid hh
  have HO := Own.nil W
  clear hh hmm
  gi_wp2_with (first | ((with_reducible refine si_alloc HO ?_); clear HO; (try clear kk); intro g W' hg HO; rw [← hg.out]; clear hg; (try simp only [zTz, zTs, zTa] at HO); (try have kk := HO.kk)) | ((first | (refine si_store 0 HO rfl rfl 43 _ _ rfl rfl rfl (by kernel_rfl) rfl (by simp [Value.oneCell']) ?_) | (refine si_store 1 HO rfl rfl 43 _ _ rfl rfl rfl (by kernel_rfl) rfl (by simp [Value.oneCell']) ?_) | (refine si_store 2 HO rfl rfl 43 _ _ rfl rfl rfl (by kernel_rfl) rfl (by simp [Value.oneCell']) ?_) | (refine si_store 3 HO rfl rfl 43 _ _ rfl rfl rfl (by kernel_rfl) rfl (by simp [Value.oneCell']) ?_) | (refine si_store 4 HO rfl rfl 43 _ _ rfl rfl rfl (by kernel_rfl) rfl (by simp [Value.oneCell']) ?_) | (refine si_store 5 HO rfl rfl 43 _ _ rfl rfl rfl (by kernel_rfl) rfl (by simp [Value.oneCell']) ?_) | (refine si_store 6 HO rfl rfl 43 _ _ rfl rfl rfl (by kernel_rfl) rfl (by simp [Value.oneCell']) ?_)); clear HO; (try clear kk); intro W' HO; (try simp only [zTz, zTs, zTa] at HO); (try have kk := HO.kk)))
  refine ⟨Aside.below HO.below, HH.out.upto (B := W.heap.size) (by omega) (by omega) (by omega) (Own.size HH.out) HO.below, fun o' => ?_⟩
  have hh2 := (HH.out.upto (B := W.heap.size) (by omega) (by omega) (by omega) (Own.size HH.out) HO.below).upto (B := W0.heap.size) (by omega) (by omega) (by omega) (Own.size H2) (below_put W' o' hle)
  have hy : (W'.putObj lp o').heap[g]? = some (.cells #[.int .u16 iop, .int .u32 ity, .int .u32 ires, .slice sa na sc] 43 (0, 0)) := (World.putObj_heap_other (by have := HO.le 0 rfl; omega)).trans (HO.blk 0 rfl)
  generalize W'.putObj lp o' = W2 at hh2 hy ⊢
  clear HO HH
  (try clear kk)
  have c2 : W2.cell? ⟨g, 2, none⟩ = some (.int .u32 ires) := (cell_of_row _ _ 2 _ _ _ hy).trans rfl
  by_cases hr : ires = 0
  ·have t0 : ((ires : Int) == 0) = true := by simp [hr]
   rw [if_pos hr] at hmk
   have HH := hid hh2
   clear hr hh2 hy
   gi_wp2
   exact ⟨Aside.refl _ _, by show MkSt b o cap q gv gm l w (k + 1) _; unfold MkSt; rw [hmk.out]; exact HH.out⟩
  ·have t0 : ((ires : Int) == 0) = false := by rw [beq_eq_false_iff_ne]; omega
   rw [if_neg hr] at hmk
   have c3 : W2.cell? ⟨gv, 0, none⟩ = some (.map (some gm)) := Own.cell hh2 1 0 rfl rfl
   obtain ⟨o2, hup, hm2⟩ := Mp.put (Own.at hh2 2 rfl) keysU Tryz.underlying203 Tryz.underlying23 ires (.int .i64 p) p (fun _ _ _ h => h) (fun _ => rfl)
   have hup2 : (Instr.mapUpdate 203 (.map (some gm)) (.int .u32 ires) (.int .i64 p)).run Tryz.prog W2 = .ok () (putMap W2 gm o2) := hup
   have HH := hid hh2
   have HM2 := hid hm2
   clear hr hh2 hy hup hm2
   gi_wp2
   exact ⟨Aside.map _ _ _ (by omega), by show MkSt b o cap q gv gm l w (k + 1) _; unfold MkSt; rw [hmk.out]; exact Own.map HH.out 2 o2 rfl HM2.out⟩
 case done =>
  rintro W3 hh hz1 hd
  have c3 : W3.cell? ⟨gv, 0, none⟩ = some (.map (some gm)) := Own.cell hh 1 0 rfl rfl
  have HH := hid hh
  clear hh
  gi_wp2
  refine ⟨by simp, .inl ⟨_, _, rfl, run_takeDeferred hd, ?_⟩⟩
  refine ⟨.map (some gm), ?_, gm, rfl, ?_⟩
  ·simp [results, Tryz.f128, go_sem]
  ·exact Own.drop (HH.out.upto (B := W0.heap.size) (by omega) (by omega) (by omega) (Own.size H2) (below_put _ _ (Nat.le_refl _))) 2
end Go.Proofs.YtindnnbopaeklaaGreatDoor
namespace Go.Proofs.YtindnnbopaeklaaGreatDoor
set_option linter.unusedVariables false
set_option linter.unusedSimpArgs false
set_option maxRecDepth 100000
set_option maxHeartbeats 1000000
open Go.RowKit Go.MapKept
structure Ty where
 kind : Nat
 size : Nat
 depth : Nat
 sg : Bool
 cls : Nat
 part : Nat
 times : Nat
 pa : Option Addr
 pn : Nat
 pc : Nat
def encT (x : Ty) : Value := .agg #[.int .u8 x.kind, .int .i64 x.size, .int .i64 x.depth, .bool x.sg, .int .u32 x.cls, .int .u32 x.part, .int .i64 x.times, .slice x.pa x.pn x.pc]
def zT : Ty := ⟨0, 0, 0, false, 0, 0, 0, none, 0, 0⟩
def getT (f : Nat → Option Ty) (id : Nat) : Ty := (f id).getD zT
theorem zeroT (W : World) : (zeroValue 146).run Tryz.prog W = .ok (encT zT) W := by kernel_rfl
abbrev MpT (W : World) (mb : Nat) (f : Nat → Option Ty) : Prop := Mp (.int .u32) keyU (fun _ v x => v = encT x) W mb f
theorem look_t {W : World} {mb : Nat} {f : Nat → Option Ty} (h : MpT W mb f) (id : Nat) :
  (Instr.lookup 158 (.map (some mb)) (.int .u32 id) false).run Tryz.prog W = .ok (encT (getT f id)) W := by
 unfold getT
 cases hf : f id with
 | some x =>
  obtain ⟨v, hv, hr⟩ := Mp.hit h keysU Tryz.underlying158 Tryz.underlying23 hf
  subst hv
  exact hr false
 | none => exact Mp.miss h keysU Tryz.underlying158 Tryz.underlying23 hf (zeroT W) false
structure TbR (T mb : Nat) (f : Nat → Option Ty) (W : World) : Prop where
 c0 : W.cell? ⟨T, 0, none⟩ = some (.map (some mb))
 mp : MpT W mb f
theorem TbR.below {T mb : Nat} {f : Nat → Option Ty} {W W' : World} (h : TbR T mb f W) (hb : Below W.heap.size W W') : TbR T mb f W' :=
 ⟨cell_last h.c0 (block_lt_of_cell h.c0) hb, h.mp.other (hb.block _ h.mp.lt) (fun _ _ e => e)⟩
theorem TbR.lt {T mb : Nat} {f : Nat → Option Ty} {W : World} (h : TbR T mb f W) : T < W.heap.size := block_lt_of_cell h.c0
theorem infoTy : (Tryz.prog.info? 146).map (·.size) = some 8 := by kernel_rfl
theorem fld0 (kd sz dp cl pt tm : Int) (sg : Bool) (v : Value) (W : World) : (Instr.field 146 (.agg #[.int .u8 kd, .int .i64 sz, .int .i64 dp, .bool sg, .int .u32 cl, .int .u32 pt, .int .i64 tm, v]) 0).run Tryz.prog W = .ok (.agg #[.int .u8 kd, .int .i64 sz, .int .i64 dp]) W := by kernel_rfl
theorem fld1 (kd sz dp cl pt tm : Int) (sg : Bool) (v : Value) (W : World) : (Instr.field 146 (.agg #[.int .u8 kd, .int .i64 sz, .int .i64 dp, .bool sg, .int .u32 cl, .int .u32 pt, .int .i64 tm, v]) 1).run Tryz.prog W = .ok (.bool sg) W := by kernel_rfl
theorem fct0 (kd sz dp : Int) (W : World) : (Instr.field 144 (.agg #[.int .u8 kd, .int .i64 sz, .int .i64 dp]) 0).run Tryz.prog W = .ok (.int .u8 kd) W := by kernel_rfl
theorem fct1 (kd sz dp : Int) (W : World) : (Instr.field 144 (.agg #[.int .u8 kd, .int .i64 sz, .int .i64 dp]) 1).run Tryz.prog W = .ok (.int .i64 sz) W := by kernel_rfl
theorem plain_own (T mb : Nat) (f : Nat → Option Ty) (id : Nat) (w : World) (h : TbR T mb f w) :
  Calls Tryz.prog 133 #[.pointer (some ⟨T, 0, none⟩), .int .u32 id] w fun e w' => e = .returned (.bool (decide (0 < (getT f id).size))) ∧ w' = w := by
 have c0 := h.c0
 have hl := look_t h.mp id
 obtain ⟨x, hx⟩ : ∃ x, Hid (x = getT f id) := ⟨_, hid rfl⟩
 rw [← hx.out] at hl ⊢
 obtain ⟨kd, sz, dp, sg, cl, pt, tm, pa, pn, pc⟩ := x
 unfold encT at hl
 simp only at hl ⊢
 clear h hx
 have f0 := fld0 kd sz dp cl pt tm sg (.slice pa pn pc)
 have f1 := fct1 kd sz dp
 go_enter Tryz.func133, Tryz.ntmps133
 go_wp2_with fail
 go_ret
 exact ⟨rfl, rfl⟩
theorem tat_own (T mb : Nat) (f : Nat → Option Ty) (id : Nat) (w : World) (h : TbR T mb f w) :
  Calls Tryz.prog 84 #[.pointer (some ⟨T, 0, none⟩), .int .u32 id] w fun e w' => e = .returned (encT (getT f id)) ∧ Below w.heap.size w w' := by
 have c0 := h.c0
 have zT := h.lt
 have HO := Own.nil w
 have HT := hid h
 obtain ⟨x, hx⟩ : ∃ x, Hid (x = getT f id) := ⟨_, hid rfl⟩
 rw [← hx.out]
 go_enter Tryz.func84, Tryz.ntmps84
 go_wp2_with (first | ((with_reducible refine sp_alloc HO ?_); clear HO; (try clear kk); intro g W' hg HO; rw [← hg.out]; clear hg; (try simp only [zTz, zTs, zTa] at HO); (try have kk := HO.kk)))
 have hl := look_t (HT.out.below HO.below).mp id
 rw [← hx.out] at hl
 have HE := hid (show encT x = encT x from rfl)
 obtain ⟨kd, sz, dp, sg, cl, pt, tm, pa, pn, pc⟩ := x
 unfold encT at hl
 simp only at hl
 clear h hx
 go_wp2_with (first | ((refine sp_wk HO rfl 146 _ _ rfl rfl rfl (by kernel_rfl) (by rfl) (by simp [Value.oneCell']) ?_); clear HO; (try clear kk); intro W' HO; (try simp only [zTz, zTs, zTa] at HO); (try have kk := HO.kk)))
 refine bodyPost_ret_by (res_row rfl _ _ _ 146 #[.int .u8 kd, .int .i64 sz, .int .i64 dp, .bool sg, .int .u32 cl, .int .u32 pt, .int .i64 tm, .slice pa pn pc] _ _ rfl (HO.blk 0 rfl) Tryz.underlying146 rfl infoTy) rfl ?_
 exact ⟨rfl, HO.below⟩
theorem tkind_own (T mb : Nat) (f : Nat → Option Ty) (id : Nat) (w : World) (h : TbR T mb f w) :
  Calls Tryz.prog 65 #[.pointer (some ⟨T, 0, none⟩), .int .u32 id] w fun e w' => e = .returned (.int .u8 (getT f id).kind) ∧ Below w.heap.size w w' := by
 have cA := tat_own T mb f id w h
 have HO := Own.nil w
 clear h
 obtain ⟨x, hx⟩ : ∃ x, Hid (x = getT f id) := ⟨_, hid rfl⟩
 rw [← hx.out] at cA ⊢
 obtain ⟨kd, sz, dp, sg, cl, pt, tm, pa, pn, pc⟩ := x
 unfold encT at cA
 simp only at cA ⊢
 clear hx
 have f0 := fld0 kd sz dp cl pt tm sg (.slice pa pn pc)
 have f1 := fct0 kd sz dp
 go_enter Tryz.func65, Tryz.ntmps65
 go_wp2_with (first | ((first | (with_reducible refine sp_al HO ?_; intro g hg; rw [← hg.out]; clear hg) | (refine sp_wk HO rfl 146 _ _ rfl rfl rfl (by kernel_rfl) (by rfl) (by simp [Value.oneCell']) ?_)); clear HO; (try clear kk); intro W' HO; (try simp only [zTz, zTs, zTa] at HO); (try have kk := HO.kk)) | (go_at_call 84; (with_reducible refine cA.mono ?_); rintro e w1 ⟨rfl, hn⟩; replace HO := HO.then hn; clear hn))
 go_ret
 exact ⟨rfl, HO.below⟩
theorem tsigned_own (T mb : Nat) (f : Nat → Option Ty) (id : Nat) (w : World) (h : TbR T mb f w) :
  Calls Tryz.prog 367 #[.pointer (some ⟨T, 0, none⟩), .int .u32 id] w fun e w' => e = .returned (.bool (getT f id).sg) ∧ Below w.heap.size w w' := by
 have cA := tat_own T mb f id w h
 have HO := Own.nil w
 clear h
 obtain ⟨x, hx⟩ : ∃ x, Hid (x = getT f id) := ⟨_, hid rfl⟩
 rw [← hx.out] at cA ⊢
 obtain ⟨kd, sz, dp, sg, cl, pt, tm, pa, pn, pc⟩ := x
 unfold encT at cA
 simp only at cA ⊢
 clear hx
 have f0 := fld1 kd sz dp cl pt tm sg (.slice pa pn pc)
 go_enter Tryz.func367, Tryz.ntmps367
 go_wp2_with (first | ((first | (with_reducible refine sp_al HO ?_; intro g hg; rw [← hg.out]; clear hg) | (refine sp_wk HO rfl 146 _ _ rfl rfl rfl (by kernel_rfl) (by rfl) (by simp [Value.oneCell']) ?_)); clear HO; (try clear kk); intro W' HO; (try simp only [zTz, zTs, zTa] at HO); (try have kk := HO.kk)) | (go_at_call 84; (with_reducible refine cA.mono ?_); rintro e w1 ⟨rfl, hn⟩; replace HO := HO.then hn; clear hn))
 go_ret
 exact ⟨rfl, HO.below⟩
theorem tplain_own (T mb : Nat) (f : Nat → Option Ty) (id : Nat) (w : World) (h : TbR T mb f w) :
  Calls Tryz.prog 136 #[.pointer (some ⟨T, 0, none⟩), .int .u32 id] w fun e w' => e = .returned (.bool (decide (0 < (getT f id).size))) ∧ Below w.heap.size w w' := by
 have cA := tat_own T mb f id w h
 have HO := Own.nil w
 clear h
 obtain ⟨x, hx⟩ : ∃ x, Hid (x = getT f id) := ⟨_, hid rfl⟩
 rw [← hx.out] at cA ⊢
 obtain ⟨kd, sz, dp, sg, cl, pt, tm, pa, pn, pc⟩ := x
 unfold encT at cA
 simp only at cA ⊢
 clear hx
 have f0 := fld0 kd sz dp cl pt tm sg (.slice pa pn pc)
 have f1 := fct1 kd sz dp
 go_enter Tryz.func136, Tryz.ntmps136
 go_wp2_with (first | ((first | (with_reducible refine sp_al HO ?_; intro g hg; rw [← hg.out]; clear hg) | (refine sp_wk HO rfl 146 _ _ rfl rfl rfl (by kernel_rfl) (by rfl) (by simp [Value.oneCell']) ?_)); clear HO; (try clear kk); intro W' HO; (try simp only [zTz, zTs, zTa] at HO); (try have kk := HO.kk)) | (go_at_call 84; (with_reducible refine cA.mono ?_); rintro e w1 ⟨rfl, hn⟩; replace HO := HO.then hn; clear hn))
 go_ret
 exact ⟨rfl, HO.below⟩
theorem tcount_own (T mb : Nat) (f : Nat → Option Ty) (id : Nat) (w : World) (h : TbR T mb f w) (hs : (getT f id).times ≤ 5000 ∧ (getT f id).pn ≤ 2000000) :
  Calls Tryz.prog 66 #[.pointer (some ⟨T, 0, none⟩), .int .u32 id] w fun e w' => e = .returned (.int .i64 (((getT f id).times + (getT f id).pn : Nat) : Int)) ∧ Below w.heap.size w w' := by
 have cA := tat_own T mb f id w h
 have HO := Own.nil w
 clear h
 obtain ⟨x, hx⟩ : ∃ x, Hid (x = getT f id) := ⟨_, hid rfl⟩
 rw [← hx.out] at cA hs ⊢
 obtain ⟨kd, sz, dp, sg, cl, pt, tm, pa, pn, pc⟩ := x
 unfold encT at cA
 simp only at cA hs ⊢
 obtain ⟨hs1, hs2⟩ := hs
 clear hx
 go_enter Tryz.func66, Tryz.ntmps66
 go_wp2_with (first | ((first | (with_reducible refine sp_al HO ?_; intro g hg; rw [← hg.out]; clear hg) | (refine sp_wk HO rfl 146 _ _ rfl rfl rfl (by kernel_rfl) (by rfl) (by simp [Value.oneCell']) ?_)); clear HO; (try clear kk); intro W' HO; (try simp only [zTz, zTs, zTa] at HO); (try have kk := HO.kk)) | (go_at_call 84; (with_reducible refine cA.mono ?_); rintro e w1 ⟨rfl, hn⟩; replace HO := HO.then hn; clear hn))
 go_ret
 exact ⟨by go_num, HO.below⟩
theorem tpart_list (T mb : Nat) (f : Nat → Option Ty) (id k p : Nat) (b o : Nat) (w : World) (h : TbR T mb f w) (ht : (getT f id).times = 0) (hk : k < (getT f id).pn) (hn : (getT f id).pn ≤ 2000000) (ha : (getT f id).pa = some ⟨b, o, none⟩) (hp : w.cell? ⟨b, o + k, none⟩ = some (.int .u32 p)) :
  Calls Tryz.prog 67 #[.pointer (some ⟨T, 0, none⟩), .int .u32 id, .int .i64 k] w fun e w' => e = .returned (.tuple #[.int .u32 p, .bool true]) ∧ Below w.heap.size w w' := by
 have cA := tat_own T mb f id w h
 have HO := Own.nil w
 have zb := block_lt_of_cell hp
 clear h
 obtain ⟨x, hx⟩ : ∃ x, Hid (x = getT f id) := ⟨_, hid rfl⟩
 rw [← hx.out] at cA ht hk hn ha
 obtain ⟨kd, sz, dp, sg, cl, pt, tm, pa, pn, pc⟩ := x
 unfold encT at cA
 simp only at cA ht hk hn ha
 subst ht ha
 clear hx
 have i2 : (k : Int) < (pn : Int) := by omega
 go_enter Tryz.func67, Tryz.ntmps67
 go_wp2_with (first | ((first | (with_reducible refine sp_al HO ?_; intro g hg; rw [← hg.out]; clear hg) | (refine sp_wk HO rfl 146 _ _ rfl rfl rfl (by kernel_rfl) (by rfl) (by simp [Value.oneCell']) ?_)); clear HO; (try clear kk); intro W' HO; (try simp only [zTz, zTs, zTa] at HO); (try have kk := HO.kk)) | (go_at_call 84; (with_reducible refine cA.mono ?_); rintro e w1 ⟨rfl, hn⟩; replace HO := HO.then hn; clear hn))
 go_ret2
 exact ⟨rfl, HO.below⟩
theorem twhole_own (x : Ty) (sz dp : Nat) (w : World) (h1 : sz ≤ 4096) (h2 : dp + 1 ≤ 16) :
  Calls Tryz.prog 178 #[encT x, .int .i64 sz, .int .i64 dp] w fun e w' => e = .returned (.tuple #[encT { x with size := sz, depth := dp + 1 }, .int .i64 0]) ∧ Below w.heap.size w w' := by
 obtain ⟨kd, s0, d0, sg, cl, pt, tm, pa, pn, pc⟩ := x
 unfold encT
 simp only
 have HO := Own.nil w
 have t1 : ¬ ((4096 : Int) < (sz : Int)) := by omega
 have t2 : ¬ ((16 : Int) < (dp : Int) + 1) := by omega
 go_enter Tryz.func178, Tryz.ntmps178
 go_wp2_with (first | ((first | (with_reducible refine sp_al HO ?_; intro g hg; rw [← hg.out]; clear hg) | (with_reducible first | refine sp_sk HO ?_ | refine sp_skc HO ?_) | (refine sp_wk HO rfl 146 _ _ rfl rfl rfl (by kernel_rfl) (by rfl) (by simp [Value.oneCell']) ?_)); clear HO; (try clear kk); intro W' HO; (try simp only [zTz, zTs, zTa] at HO); (try have kk := HO.kk)) | (refine sp_lk HO rfl 146 _ rfl rfl _ Tryz.underlying146 rfl (by kernel_rfl) ?_))
 refine bodyPost_ret_by (results_row_tmp rfl _ _ _ 146 #[.int .u8 kd, .int .i64 sz, .int .i64 (dp + 1), .bool sg, .int .u32 cl, .int .u32 pt, .int .i64 tm, .slice pa pn pc] _ _ rfl (HO.blk 0 rfl) Tryz.underlying146 rfl infoTy) rfl ?_
 exact ⟨rfl, HO.below⟩
theorem tvector_own (T mb : Nat) (f : Nat → Option Ty) (p n : Nat) (w : World) (h : TbR T mb f w) (hk : (getT f p).kind = 3) (hn : 2 ≤ n ∧ n ≤ 4) (hd : (getT f p).depth + 1 ≤ 16) :
  Calls Tryz.prog 130 #[.pointer (some ⟨T, 0, none⟩), .int .u32 p, .int .u32 n] w fun e w' => e = .returned (.tuple #[encT ⟨4, n, (getT f p).depth + 1, false, 0, p, n, none, 0, 0⟩, .int .i64 0]) ∧ Below w.heap.size w w' := by
 have c0 := h.c0
 have zb := h.lt
 have HT := hid h
 have HO := Own.nil w
 obtain ⟨hn1, hn2⟩ := hn
 have cW : ∀ W, Calls Tryz.prog 178 #[.agg #[.int .u8 4, .int .i64 0, .int .i64 0, .bool false, .int .u32 0, .int .u32 p, .int .i64 n, .slice none 0 0], .int .i64 n, .int .i64 (getT f p).depth] W fun e w' => e = .returned (.tuple #[.agg #[.int .u8 4, .int .i64 n, .int .i64 (((getT f p).depth + 1 : Nat) : Int), .bool false, .int .u32 0, .int .u32 p, .int .i64 n, .slice none 0 0], .int .i64 0]) ∧ Below W.heap.size W w' := fun W => twhole_own ⟨4, 0, 0, false, 0, p, n, none, 0, 0⟩ n (getT f p).depth W (by omega) hd
 clear h
 obtain ⟨x, hx⟩ : ∃ x, Hid (x = getT f p) := ⟨_, hid rfl⟩
 rw [← hx.out] at hk hd cW ⊢
 go_enter Tryz.func130, Tryz.ntmps130
 go_wp2_with (first | ((with_reducible refine sp_alloc HO ?_); clear HO; (try clear kk); intro g W' hg HO; rw [← hg.out]; clear hg; (try simp only [zTz, zTs, zTa] at HO); (try have kk := HO.kk)))
 have hl := look_t (HT.out.below HO.below).mp p
 rw [← hx.out] at hl
 obtain ⟨kd, sz, dp, sg, cl, pt, tm, pa, pn, pc⟩ := x
 unfold encT at hl
 simp only at hl hk hd cW
 subst hk
 clear hx HT
 have i1 : ¬ ((n : Int) < 2) := by omega
 have i2 : ¬ ((4 : Int) < (n : Int)) := by omega
 go_wp2_with (first | ((first | (with_reducible refine sp_al HO ?_; intro g hg; rw [← hg.out]; clear hg) | (with_reducible first | refine sp_sk HO ?_ | refine sp_skc HO ?_) | (refine sp_wk HO rfl 146 _ _ rfl rfl rfl (by kernel_rfl) (by rfl) (by simp [Value.oneCell']) ?_)); clear HO; (try clear kk); intro W' HO; (try simp only [zTz, zTs, zTa] at HO); (try have kk := HO.kk)) | (go_at_call 178; (with_reducible refine (cW _).mono ?_); rintro e w1 ⟨rfl, hn⟩; replace HO := HO.then hn; clear hn; (try clear kk); (try simp only [zTz, zTs, zTa, zDs, zDz] at HO); (try have kk := HO.kk)))
 trace_state
 refine bodyPost_ret_by (results_row_tmp rfl _ _ _ 146 #[.int .u8 4, .int .i64 n, .int .i64 ((dp + 1 : Nat) : Int), .bool false, .int .u32 0, .int .u32 p, .int .i64 n, .slice none 0 0] _ _ rfl (HO.blk 1 rfl) Tryz.underlying146 rfl infoTy) rfl ?_
 exact ⟨rfl, HO.below⟩
theorem tfunction_void (T mb : Nat) (f : Nat → Option Ty) (p gp c : Nat) (w : World) (h : TbR T mb f w) (hk : (getT f p).kind = 1) (hs : (getT f p).size = 0) (hp : w.cell? ⟨gp, 0, none⟩ = some (.int .u32 p)) :
  Calls Tryz.prog 134 #[.pointer (some ⟨T, 0, none⟩), .slice (some ⟨gp, 0, none⟩) 1 c] w fun e w' => e = .returned (.tuple #[.agg #[.int .u8 8, .int .i64 0, .int .i64 0, .bool false, .int .u32 0, .int .u32 0, .int .i64 0, .slice (some ⟨gp, 0, none⟩) 1 c], .int .i64 0]) ∧ Below w.heap.size w w' := by
 have c0 := h.c0
 have zb := h.lt
 have zg := block_lt_of_cell hp
 have HT := hid h
 have HO := Own.nil w
 have cP : ∀ W, Below w.heap.size w W → Calls Tryz.prog 133 #[.pointer (some ⟨T, 0, none⟩), .int .u32 p] W fun e w' => e = .returned (.bool false) ∧ w' = W := fun W hb => by
  have := plain_own T mb f p W (h.below hb)
  rw [hs] at this
  exact this
 obtain ⟨x, hx⟩ : ∃ x, Hid (x = getT f p) := ⟨_, hid rfl⟩
 rw [← hx.out] at hk hs
 clear h
 go_enter Tryz.func134, Tryz.ntmps134
 go_wp2_with (first | ((with_reducible refine sp_alloc HO ?_); clear HO; (try clear kk); intro g W' hg HO; rw [← hg.out]; clear hg; (try simp only [zTz, zTs, zTa] at HO); (try have kk := HO.kk)))
 have hl := look_t (HT.out.below HO.below).mp p
 rw [← hx.out] at hl
 obtain ⟨kd, sz, dp, sg, cl, pt, tm, pa, pn, pc⟩ := x
 unfold encT at hl
 simp only at hl hk hs
 subst hk hs
 have f0 := fld0 1 0 dp cl pt tm sg (.slice pa pn pc)
 have f1 := fct0 1 0 dp
 clear hx HT
 refine wp_loop_rounds 2 ?_
 rw [rounds_succ]
 go_wp2_with (first | ((first | (with_reducible refine sp_al HO ?_; intro g hg; rw [← hg.out]; clear hg) | (with_reducible first | refine sp_sk HO ?_ | refine sp_skc HO ?_)); clear HO; (try clear kk); intro W' HO; (try simp only [zTz, zTs, zTa] at HO); (try have kk := HO.kk)) | (go_at_call 133; (with_reducible refine (cP _ HO.below).mono ?_); rintro e w1 ⟨rfl, rfl⟩))
 rw [rounds_succ]
 go_wp2_with (first | ((first | (with_reducible refine sp_al HO ?_; intro g hg; rw [← hg.out]; clear hg) | (with_reducible first | refine sp_sk HO ?_ | refine sp_skc HO ?_) | (refine sp_wk HO rfl 146 _ _ rfl rfl rfl (by kernel_rfl) (by rfl) (by simp [Value.oneCell']) ?_)); clear HO; (try clear kk); intro W' HO; (try simp only [zTz, zTs, zTa] at HO); (try have kk := HO.kk)))
 refine bodyPost_ret_by (results_row_tmp rfl _ _ _ 146 #[.int .u8 8, .int .i64 0, .int .i64 0, .bool false, .int .u32 0, .int .u32 0, .int .i64 0, .slice (some ⟨gp, 0, none⟩) 1 c] _ _ rfl (HO.blk 0 rfl) Tryz.underlying146 rfl infoTy) rfl ?_
 exact ⟨rfl, HO.below⟩
theorem tfunction_plain (T mb : Nat) (f : Nat → Option Ty) (p gp c : Nat) (w : World) (h : TbR T mb f w) (hs : 0 < (getT f p).size) (hp : w.cell? ⟨gp, 0, none⟩ = some (.int .u32 p)) :
  Calls Tryz.prog 134 #[.pointer (some ⟨T, 0, none⟩), .slice (some ⟨gp, 0, none⟩) 1 c] w fun e w' => e = .returned (.tuple #[.agg #[.int .u8 8, .int .i64 0, .int .i64 0, .bool false, .int .u32 0, .int .u32 0, .int .i64 0, .slice (some ⟨gp, 0, none⟩) 1 c], .int .i64 0]) ∧ Below w.heap.size w w' := by
 have zg := block_lt_of_cell hp
 have HO := Own.nil w
 have cP : ∀ W, Below w.heap.size w W → Calls Tryz.prog 133 #[.pointer (some ⟨T, 0, none⟩), .int .u32 p] W fun e w' => e = .returned (.bool true) ∧ w' = W := fun W hb => by
  have := plain_own T mb f p W (h.below hb)
  rw [decide_eq_true hs] at this
  exact this
 clear h hs
 go_enter Tryz.func134, Tryz.ntmps134
 go_wp2_with (first | ((with_reducible refine sp_alloc HO ?_); clear HO; (try clear kk); intro g W' hg HO; rw [← hg.out]; clear hg; (try simp only [zTz, zTs, zTa] at HO); (try have kk := HO.kk)))
 refine wp_loop_rounds 2 ?_
 rw [rounds_succ]
 go_wp2_with (first | ((first | (with_reducible refine sp_al HO ?_; intro g hg; rw [← hg.out]; clear hg) | (with_reducible first | refine sp_sk HO ?_ | refine sp_skc HO ?_)); clear HO; (try clear kk); intro W' HO; (try simp only [zTz, zTs, zTa] at HO); (try have kk := HO.kk)) | (go_at_call 133; (with_reducible refine (cP _ HO.below).mono ?_); rintro e w1 ⟨rfl, rfl⟩))
 rw [rounds_succ]
 go_wp2_with (first | ((first | (with_reducible refine sp_al HO ?_; intro g hg; rw [← hg.out]; clear hg) | (with_reducible first | refine sp_sk HO ?_ | refine sp_skc HO ?_) | (refine sp_wk HO rfl 146 _ _ rfl rfl rfl (by kernel_rfl) (by rfl) (by simp [Value.oneCell']) ?_)); clear HO; (try clear kk); intro W' HO; (try simp only [zTz, zTs, zTa] at HO); (try have kk := HO.kk)))
 refine bodyPost_ret_by (results_row_tmp rfl _ _ _ 146 #[.int .u8 8, .int .i64 0, .int .i64 0, .bool false, .int .u32 0, .int .u32 0, .int .i64 0, .slice (some ⟨gp, 0, none⟩) 1 c] _ _ rfl (HO.blk 0 rfl) Tryz.underlying146 rfl infoTy) rfl ?_
 exact ⟨rfl, HO.below⟩
theorem tfunction_own (T mb : Nat) (f : Nat → Option Ty) (p gp c : Nat) (w : World) (h : TbR T mb f w) (hk : (getT f p).kind = 1 ∨ 0 < (getT f p).size) (hs : (getT f p).size = 0 ∨ 0 < (getT f p).size) (hp : w.cell? ⟨gp, 0, none⟩ = some (.int .u32 p)) :
  Calls Tryz.prog 134 #[.pointer (some ⟨T, 0, none⟩), .slice (some ⟨gp, 0, none⟩) 1 c] w fun e w' => e = .returned (.tuple #[.agg #[.int .u8 8, .int .i64 0, .int .i64 0, .bool false, .int .u32 0, .int .u32 0, .int .i64 0, .slice (some ⟨gp, 0, none⟩) 1 c], .int .i64 0]) ∧ Below w.heap.size w w' := by
 by_cases h0 : 0 < (getT f p).size
 ·exact tfunction_plain T mb f p gp c w h h0 hp
 ·exact tfunction_void T mb f p gp c w h (hk.resolve_right h0) (hs.resolve_right h0) hp
end Go.Proofs.YtindnnbopaeklaaGreatDoor
