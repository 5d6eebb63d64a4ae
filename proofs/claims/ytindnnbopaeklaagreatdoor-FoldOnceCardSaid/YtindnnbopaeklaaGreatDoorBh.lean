/- Flow: own, may. -/
import Derived.Test.YtindnnbopaeklaaGreatDoorAz
import Derived.Test.YtindnnbopaeklaaGreatDoorAu
namespace Go.Proofs.YtindnnbopaeklaaGreatDoor
set_option linter.unusedVariables false
set_option linter.unusedSimpArgs false
set_option maxRecDepth 100000
set_option maxHeartbeats 4000000
open Go.RowKit Go.MapKept
structure HmD where
 at_ : Nat
 lab : Bool
def encHm (x : HmD) : Value := .agg #[.int .i64 0, .int .i64 0, .int .i64 x.at_, .bool x.lab]
theorem zeroHm (w : World) : (zeroValue 392).run Tryz.prog w = .ok (.agg #[.int .i64 0, .int .i64 0, .int .i64 0, .bool false]) w := by kernel_rfl
theorem infoHm : (Tryz.prog.info? 392).map (·.size) = some 4 := by kernel_rfl
structure Bdy (B hb G b o cap b2 cb lab : Nat) (p q : Int) (l : List In) (sv : Nat → Option Addr × Nat) (hm : Nat → Option HmD) (W : World) : Prop where
 c2 : W.cell? ⟨B, 2, none⟩ = some (.slice (some ⟨b, o, none⟩) l.length cap)
 c3 : W.cell? ⟨B, 3, none⟩ = some (.int .i64 0)
 c7 : W.cell? ⟨B, 7, none⟩ = some (.slice (some ⟨b2, 0, none⟩) 1 cb)
 c9 : W.cell? ⟨B, 9, none⟩ = some (.map (some hb))
 c10 : W.cell? ⟨B, 10, none⟩ = some (.pointer (some ⟨G, 0, none⟩))
 h0 : W.cell? ⟨b2, 0, none⟩ = some (.int .u32 lab)
 h1 : W.cell? ⟨b2, 1, none⟩ = some (.int .i64 p)
 h2 : W.cell? ⟨b2, 2, none⟩ = some (.int .i64 q)
 mp : Mp (.int .u32) keyU (fun _ v x => v = encHm x) W hb hm
 ms : Ms W b o l sv
 gr : ∃ lo, GrIn G lo W
theorem Bdy.below {B hb G b o cap b2 cb lab : Nat} {p q : Int} {l : List In} {sv : Nat → Option Addr × Nat} {hm : Nat → Option HmD} {W W' : World} (h : Bdy B hb G b o cap b2 cb lab p q l sv hm W) (hw : Below W.heap.size W W') : Bdy B hb G b o cap b2 cb lab p q l sv hm W' := by
 obtain ⟨lo, hg⟩ := h.gr
 have zB := block_lt_of_cell h.c2
 have z2 := block_lt_of_cell h.h0
 exact ⟨cell_last h.c2 zB hw, cell_last h.c3 zB hw, cell_last h.c7 zB hw, cell_last h.c9 zB hw, cell_last h.c10 zB hw, cell_last h.h0 z2 hw, cell_last h.h1 z2 hw, cell_last h.h2 z2 hw, h.mp.other (hw.block _ h.mp.lt) (fun _ _ e => e), h.ms.below hw, ⟨lo, hg.below hw⟩⟩
def hmVal (x : Option HmD) : Value := match x with
 | none => .agg #[.int .i64 0, .int .i64 0, .int .i64 0, .bool false]
 | some x => encHm x
def hmIs (x : Option HmD) : Bool := match x with
 | none => false
 | some x => !x.lab
section
variable {B hb G b o cap b2 cb lab : Nat} {p q : Int} {l : List In} {sv : Nat → Option Addr × Nat} {hm : Nat → Option HmD} {w : World}
theorem flown_own (h : Bdy B hb G b o cap b2 cb lab p q l sv hm w) (id : Nat) :
  Calls Tryz.prog 418 #[.pointer (some ⟨B, 0, none⟩), .int .u32 id] w fun e w' => e = .returned (.tuple #[hmVal (hm id), .bool (hmIs (hm id))]) ∧ Below w.heap.size w w' := by
 have HO := Own.nil w
 have g9 := h.c9
 have g3 := h.c3
 have zB := block_lt_of_cell g9
 have hl : ∀ W, Below w.heap.size w W → (Instr.lookup 351 (.map (some hb)) (.int .u32 id) true).run Tryz.prog W = .ok (.tuple #[hmVal (hm id), .bool (hm id).isSome]) W := fun W hw => by
  cases hf : hm id with
  | some x =>
   obtain ⟨v, hv, hq⟩ := (h.below hw).mp.hit keysU Tryz.underlying351 Tryz.underlying23 hf
   subst hv
   exact hq true
  | none => exact (h.below hw).mp.miss keysU Tryz.underlying351 Tryz.underlying23 hf (zeroHm W) true
 clear h
 cases hf : hm id with
 | none =>
  rw [hf] at hl
  simp only [hmVal, hmIs, Option.isSome] at hl ⊢
  clear hf
  go_enter Tryz.func418, Tryz.ntmps418
  go_wp2_with (first | ((first | ((with_reducible first | refine sp_al HO ?_ | refine sp_alc HO ?_); intro g hg; rw [← hg.out]; clear hg) | (with_reducible first | refine sp_sk HO ?_ | refine sp_skc HO ?_) | (refine sp_wk HO rfl 392 _ _ rfl rfl rfl (by kernel_rfl) (by rfl) (by simp [Value.oneCell']) ?_)); clear HO; (try clear kk); intro W' HO; (try simp only [zTz, zTs, zTa] at HO); (try have kk := HO.kk)))
  obtain ⟨gR, rfl⟩ : ∃ q, q = g := ⟨_, rfl⟩
  rw [hl _ HO.below]
  clear hl
  (try simp only [zTz, zTs, zTa, zDs, zDz] at HO); (try have kk := HO.kk)
  go_wp2_with (first | ((first | ((with_reducible first | refine sp_al HO ?_ | refine sp_alc HO ?_); intro g hg; rw [← hg.out]; clear hg) | (with_reducible first | refine sp_sk HO ?_ | refine sp_skc HO ?_) | (refine sp_wk HO rfl 392 _ _ rfl rfl rfl (by kernel_rfl) (by rfl) (by simp [Value.oneCell']) ?_)); clear HO; (try clear kk); intro W' HO; (try simp only [zTz, zTs, zTa] at HO); (try have kk := HO.kk)))
  have nB : B ≠ gR := by have := HO.le 1 rfl; omega
  have n6 : g ≠ gR := HO.ne 0 1 rfl rfl (by omega)
  go_region
  go_wp2_with fail
  have H := ((((HO.set 1 0 (.int .i64 0) rfl).set 1 1 (.int .i64 0) rfl).set 1 2 (.int .i64 0) rfl).set 1 3 (.bool false) rfl).drew
  refine bodyPost_ret_by (results_row_tmp rfl _ _ _ 392 #[.int .i64 0, .int .i64 0, .int .i64 0, .bool false] _ _ rfl (H.blk 1 rfl) Tryz.underlying392 rfl infoHm) rfl ?_
  exact ⟨rfl, H.below⟩
 | some x =>
  rw [hf] at hl
  obtain ⟨xa, xl⟩ := x
  simp only [hmVal, hmIs, encHm, Option.isSome] at hl ⊢
  clear hf
  cases xl with
  | true =>
   go_enter Tryz.func418, Tryz.ntmps418
   go_wp2_with (first | ((first | ((with_reducible first | refine sp_al HO ?_ | refine sp_alc HO ?_); intro g hg; rw [← hg.out]; clear hg) | (with_reducible first | refine sp_sk HO ?_ | refine sp_skc HO ?_) | (refine sp_wk HO rfl 392 _ _ rfl rfl rfl (by kernel_rfl) (by rfl) (by simp [Value.oneCell']) ?_)); clear HO; (try clear kk); intro W' HO; (try simp only [zTz, zTs, zTa] at HO); (try have kk := HO.kk)))
   obtain ⟨gR, rfl⟩ : ∃ q, q = g := ⟨_, rfl⟩
   rw [hl _ HO.below]
   clear hl
   (try simp only [zTz, zTs, zTa, zDs, zDz] at HO); (try have kk := HO.kk)
   go_wp2_with (first | ((first | ((with_reducible first | refine sp_al HO ?_ | refine sp_alc HO ?_); intro g hg; rw [← hg.out]; clear hg) | (with_reducible first | refine sp_sk HO ?_ | refine sp_skc HO ?_) | (refine sp_wk HO rfl 392 _ _ rfl rfl rfl (by kernel_rfl) (by rfl) (by simp [Value.oneCell']) ?_)); clear HO; (try clear kk); intro W' HO; (try simp only [zTz, zTs, zTa] at HO); (try have kk := HO.kk)))
   have nB : B ≠ gR := by have := HO.le 1 rfl; omega
   have n6 : g ≠ gR := HO.ne 0 1 rfl rfl (by omega)
   go_region
   go_wp2_with fail
   have H := ((((HO.set 1 0 (.int .i64 0) rfl).set 1 1 (.int .i64 0) rfl).set 1 2 (.int .i64 xa) rfl).set 1 3 (.bool true) rfl).drew
   refine bodyPost_ret_by (results_row_tmp rfl _ _ _ 392 #[.int .i64 0, .int .i64 0, .int .i64 xa, .bool true] _ _ rfl (H.blk 1 rfl) Tryz.underlying392 rfl infoHm) rfl ?_
   exact ⟨rfl, H.below⟩
  | false =>
   go_enter Tryz.func418, Tryz.ntmps418
   go_wp2_with (first | ((first | ((with_reducible first | refine sp_al HO ?_ | refine sp_alc HO ?_); intro g hg; rw [← hg.out]; clear hg) | (with_reducible first | refine sp_sk HO ?_ | refine sp_skc HO ?_) | (refine sp_wk HO rfl 392 _ _ rfl rfl rfl (by kernel_rfl) (by rfl) (by simp [Value.oneCell']) ?_)); clear HO; (try clear kk); intro W' HO; (try simp only [zTz, zTs, zTa] at HO); (try have kk := HO.kk)))
   obtain ⟨gR, rfl⟩ : ∃ q, q = g := ⟨_, rfl⟩
   rw [hl _ HO.below]
   clear hl
   (try simp only [zTz, zTs, zTa, zDs, zDz] at HO); (try have kk := HO.kk)
   go_wp2_with (first | ((first | ((with_reducible first | refine sp_al HO ?_ | refine sp_alc HO ?_); intro g hg; rw [← hg.out]; clear hg) | (with_reducible first | refine sp_sk HO ?_ | refine sp_skc HO ?_) | (refine sp_wk HO rfl 392 _ _ rfl rfl rfl (by kernel_rfl) (by rfl) (by simp [Value.oneCell']) ?_)); clear HO; (try clear kk); intro W' HO; (try simp only [zTz, zTs, zTa] at HO); (try have kk := HO.kk)))
   have nB : B ≠ gR := by have := HO.le 1 rfl; omega
   have n6 : g ≠ gR := HO.ne 0 1 rfl rfl (by omega)
   go_region
   go_wp2_with fail
   have H := ((((HO.set 1 0 (.int .i64 0) rfl).set 1 1 (.int .i64 0) rfl).set 1 2 (.int .i64 xa) rfl).set 1 3 (.bool false) rfl).drew
   refine bodyPost_ret_by (results_row_tmp rfl _ _ _ 392 #[.int .i64 0, .int .i64 0, .int .i64 xa, .bool false] _ _ rfl (H.blk 1 rfl) Tryz.underlying392 rfl infoHm) rfl ?_
   exact ⟨rfl, H.below⟩
end
def MayOk (hm : Nat → Option HmD) (id k : Nat) : Prop := ∀ x, hm id = some x → x.lab = true ∨ x.at_ < k
section
variable {B hb G b o cap b2 cb lab : Nat} {p q : Int} {l : List In} {sv : Nat → Option Addr × Nat} {hm : Nat → Option HmD} {w : World}
theorem flmay_own (h : Bdy B hb G b o cap b2 cb lab p q l sv hm w) (id k : Nat) (hq : MayOk hm id k) :
  Calls Tryz.prog 393 #[.pointer (some ⟨B, 0, none⟩), .int .u32 id, .int .i64 0, .int .i64 k] w fun e w' => e = .returned (.bool true) ∧ Below w.heap.size w w' := by
 have HO := Own.nil w
 have g10 := h.c10
 have zB := block_lt_of_cell g10
 have cO : ∀ W, Below w.heap.size w W → Calls Tryz.prog 418 #[.pointer (some ⟨B, 0, none⟩), .int .u32 id] W fun e w' => e = .returned (.tuple #[hmVal (hm id), .bool (hmIs (hm id))]) ∧ Below W.heap.size W w' := fun W hb => flown_own (h.below hb) id
 have cR : ∀ W, Below w.heap.size w W → Calls Tryz.prog 324 #[.pointer (some ⟨G, 0, none⟩), .int .i64 0] W fun e w' => e = .returned (.bool true) ∧ w' = W := fun W hb => by
  obtain ⟨lo, hg⟩ := (h.below hb).gr
  exact greached_own G lo W hg
 clear h
 unfold MayOk at hq
 generalize hm id = hx at cO hq
 rcases hx with _ | ⟨xa, xl⟩
 ·simp only [hmVal, hmIs] at cO
  clear hq
  go_enter Tryz.func393, Tryz.ntmps393
  go_wp2_with (first | ((first | ((with_reducible first | refine sp_al HO ?_ | refine sp_alc HO ?_); intro g hg; rw [← hg.out]; clear hg) | (with_reducible first | refine sp_sk HO ?_ | refine sp_skc HO ?_) | (refine sp_wk HO rfl 392 _ _ rfl rfl rfl (by kernel_rfl) (by rfl) (by simp [Value.oneCell']) ?_)); clear HO; (try clear kk); intro W' HO; (try simp only [zTz, zTs, zTa] at HO); (try have kk := HO.kk)) | (go_at_call 418; (with_reducible refine (cO _ HO.below).mono ?_); rintro e w1 ⟨rfl, hn1⟩; replace HO := HO.then hn1; clear hn1; (try clear kk); (try simp only [zTz, zTs, zTa, zDs, zDz] at HO); (try have kk := HO.kk)))
  go_ret
  exact ⟨rfl, HO.below⟩
 ·cases xl with
  | true =>
   simp only [hmVal, hmIs, encHm, Bool.not_true] at cO
   clear hq
   go_enter Tryz.func393, Tryz.ntmps393
   go_wp2_with (first | ((first | ((with_reducible first | refine sp_al HO ?_ | refine sp_alc HO ?_); intro g hg; rw [← hg.out]; clear hg) | (with_reducible first | refine sp_sk HO ?_ | refine sp_skc HO ?_) | (refine sp_wk HO rfl 392 _ _ rfl rfl rfl (by kernel_rfl) (by rfl) (by simp [Value.oneCell']) ?_)); clear HO; (try clear kk); intro W' HO; (try simp only [zTz, zTs, zTa] at HO); (try have kk := HO.kk)) | (go_at_call 418; (with_reducible refine (cO _ HO.below).mono ?_); rintro e w1 ⟨rfl, hn1⟩; replace HO := HO.then hn1; clear hn1; (try clear kk); (try simp only [zTz, zTs, zTa, zDs, zDz] at HO); (try have kk := HO.kk)))
   go_ret
   exact ⟨rfl, HO.below⟩
  | false =>
   have hlt := (hq _ rfl).resolve_left (by simp)
   simp only at hlt
   simp only [hmVal, hmIs, encHm, Bool.not_false] at cO
   have i1 : (xa : Int) < k := by omega
   clear hq hlt
   go_enter Tryz.func393, Tryz.ntmps393
   go_wp2_with (first | ((first | ((with_reducible first | refine sp_al HO ?_ | refine sp_alc HO ?_); intro g hg; rw [← hg.out]; clear hg) | (with_reducible first | refine sp_sk HO ?_ | refine sp_skc HO ?_) | (refine sp_wk HO rfl 392 _ _ rfl rfl rfl (by kernel_rfl) (by rfl) (by simp [Value.oneCell']) ?_)); clear HO; (try clear kk); intro W' HO; (try simp only [zTz, zTs, zTa] at HO); (try have kk := HO.kk)) | (go_at_call 418; (with_reducible refine (cO _ HO.below).mono ?_); rintro e w1 ⟨rfl, hn1⟩; replace HO := HO.then hn1; clear hn1; (try clear kk); (try simp only [zTz, zTs, zTa, zDs, zDz] at HO); (try have kk := HO.kk)) | (go_at_call 324; (with_reducible refine (cR _ HO.below).mono ?_); rintro e w1 ⟨rfl, rfl⟩))
   go_ret
   exact ⟨rfl, HO.below⟩
theorem flphi_own (h : Bdy B hb G b o cap b2 cb lab p q l sv hm w) (k : Nat) (hk : k < l.length) (hop : l[k].op ≠ 245) :
  Calls Tryz.prog 356 #[.pointer (some ⟨B, 0, none⟩), .int .i64 0, .int .i64 k] w fun e w' => e = .returned (.int .i64 0) ∧ Below w.heap.size w w' := by
 have HO := Own.nil w
 have g2 := h.c2
 have zB := block_lt_of_cell g2
 have zb := h.ms.lt
 have e0 := h.ms.op k hk
 have i1 : ((l[k].op : Int) == 245) = false := by rw [beq_eq_false_iff_ne]; omega
 have i2 : (k : Int) < l.length := by omega
 clear h hop
 generalize l[k] = i at e0 i1
 generalize l.length = n at g2 i2
 go_enter Tryz.func356, Tryz.ntmps356
 go_wp2_with fail
 go_ret
 exact ⟨rfl, HO.below⟩
theorem fluse_own (h : Bdy B hb G b o cap b2 cb lab p q l sv hm w) (k : Nat) (hk : k < l.length) (hop : l[k].op ≠ 245) (hu : ∀ id ∈ idsOf l[k], MayOk hm id k) :
  Calls Tryz.prog 357 #[.pointer (some ⟨B, 0, none⟩), .int .i64 0, .int .i64 k] w fun e w' => e = .returned (.int .i64 0) ∧ Below w.heap.size w w' := by
 have HO := Own.nil w
 have HB := hid h
 have HU := hid hu
 have g2 := h.c2
 have zB := block_lt_of_cell g2
 have zb := h.ms.lt
 have e0 := h.ms.op k hk
 have e1 := h.ms.ty k hk
 have e2 := h.ms.res k hk
 have e3 := h.ms.args k hk
 have hsl := hid (h.ms.sl k hk)
 have hal := hid (h.ms.len k hk)
 have i1 : ((l[k].op : Int) == 245) = false := by rw [beq_eq_false_iff_ne]; omega
 have i2 : (k : Int) < l.length := by omega
 clear h hop hu
 generalize l[k] = i at e0 e1 e2 e3 hsl hal i1 HU
 generalize sv k = s at e3 hsl
 obtain ⟨sa, sc⟩ := s
 simp only at e3 hsl
 have g2' := g2
 obtain ⟨ll, hll⟩ : ∃ ll, Hid (ll = l.length) := ⟨_, hid rfl⟩
 rw [← hll.out] at i2 g2
 clear g2'
 go_enter Tryz.func357, Tryz.ntmps357
 go_wp2_with (first | ((first | ((with_reducible first | refine sp_al HO ?_ | refine sp_alc HO ?_); intro g hg; rw [← hg.out]; clear hg) | (with_reducible first | refine sp_sk HO ?_ | refine sp_skc HO ?_) | (refine sp_wk HO rfl 43 _ _ rfl rfl rfl (by kernel_rfl) (by rfl) (by simp [Value.oneCell']) ?_)); clear HO; (try clear kk); intro W' HO; (try simp only [zTz, zTs, zTa] at HO); (try have kk := HO.kk)) | (refine sp_lk HO rfl 43 _ rfl rfl _ Tryz.underlying43 rfl (by kernel_rfl) ?_))
 go_at_call 129
 have hcc := ids_own i sa sc W' (hsl.out.below AgAt.lasts HO.below) hal.out
 have hnl := hid (show (idsOf i).length ≤ 1048577 from Nat.le_trans (idsTo_len i _) (by have := hal.out; omega))
 with_reducible refine Calls.mono hcc ?_
 rintro e w3 ⟨⟨v, rfl, hv⟩, hn3⟩
 obtain ⟨va, vc, rfl, hids⟩ := own_nums hv
 replace HO := HO.then hn3
 clear hv hn3 hcc e0 e1 e2 e3 g2 i2
 (try clear kk)
 have HX := hid HO.below
 have HQ := hid hids
 clear HO hids
 have i3 := hnl.out
 go_wp2_with fail
 rename World => wq
 go_loopw [9, 29] (fun _ x29 wv => ∃ j : Nat, j ≤ (idsOf i).length ∧ x29 = .int .i64 j ∧ Below wq.heap.size wq wv) (fun _ x _ => (idsOf i).length - (intOf x).toNat)
 case atStart => exact ⟨0, by omega, rfl, Below.refl _ _⟩
 case round =>
  obtain ⟨j, hj, rfl, hw⟩ := hrel
  have hwr := HX.out.trans (hw.mono HX.out.size)
  by_cases hjl : j < (idsOf i).length
  ·have hmy := HU.out _ (List.getElem_mem hjl)
   obtain ⟨qb, qo, ha, hql, hqc⟩ := (HQ.out.below (NumAt.lasts .u32) hw).at_ (by omega)
   subst ha
   have q1 : wr.cell? ⟨qb, qo + j * 1, none⟩ = some (.int .u32 (idsOf i)[j]) := hqc j hjl
   rw [Nat.mul_one] at q1
   have i4 : (j : Int) < (idsOf i).length := by omega
   have HJL := hid hjl
   have HW := hid hw
   clear hqc hw
   generalize (idsOf i)[j] = idj at q1 hmy
   have cM : ∀ W, Below wr.heap.size wr W → Calls Tryz.prog 393 #[.pointer (some ⟨B, 0, none⟩), .int .u32 idj, .int .i64 0, .int .i64 k] W fun e w' => e = .returned (.bool true) ∧ Below W.heap.size W w' := fun W hb => flmay_own (HB.out.below (hwr.trans (hb.mono hwr.size))) idj k hmy
   have HO := Own.nil wr
   clear hjl hmy
   go_wp2_with (first | (go_at_call 393; (with_reducible refine (cM _ HO.below).mono ?_); rintro e w1 ⟨rfl, hn1⟩; replace HO := HO.then hn1; clear hn1))
   exact ⟨⟨j + 1, HJL.out, by go_num, HW.out.trans (HO.below.mono HW.out.size)⟩, by have := HJL.out; simp [intOf]; omega⟩
  ·obtain rfl : j = (idsOf i).length := by omega
   have i4 : ¬ (((idsOf i).length : Int) < (idsOf i).length) := by omega
   go_wp2_with fail
   go_ret
   exact ⟨rfl, hwr⟩
theorem flscope_own (h : Bdy B hb G b o cap b2 cb lab p q l sv hm w) (k : Nat) (hk : k < l.length) :
  Calls Tryz.prog 355 #[.pointer (some ⟨B, 0, none⟩), .int .i64 0, .int .i64 k] w fun e w' => e = .returned (.int .i64 0) ∧ Below w.heap.size w w' := by
 have HO := Own.nil w
 have HB := hid h
 have g2 := h.c2
 have zB := block_lt_of_cell g2
 have zb := h.ms.lt
 have e0 := h.ms.op k hk
 have e1 := h.ms.ty k hk
 have e2 := h.ms.res k hk
 have e3 := h.ms.args k hk
 have hsl := hid (h.ms.sl k hk)
 have hal := hid (h.ms.len k hk)
 have i2 : (k : Int) < l.length := by omega
 clear h
 generalize l[k] = i at e0 e1 e2 e3 hsl hal
 generalize sv k = s at e3 hsl
 obtain ⟨sa, sc⟩ := s
 simp only at e3 hsl
 obtain ⟨ll, hll⟩ : ∃ ll, Hid (ll = l.length) := ⟨_, hid rfl⟩
 rw [← hll.out] at i2 g2
 go_enter Tryz.func355, Tryz.ntmps355
 go_wp2_with fail
 go_at_call 129
 have hcc := ids_own i sa sc w (hsl.out) hal.out
 have hnl := hid (show (idsOf i).length ≤ 1048577 from Nat.le_trans (idsTo_len i _) (by have := hal.out; omega))
 with_reducible refine Calls.mono hcc ?_
 rintro e w3 ⟨⟨v, rfl, hv⟩, hn3⟩
 obtain ⟨va, vc, rfl, hids⟩ := own_nums hv
 replace HO := HO.then hn3
 clear hv hn3 hcc e0 e1 e2 e3 g2 i2
 have HX := hid HO.below
 have HQ := hid hids
 clear HO hids
 have i3 := hnl.out
 go_wp2_with fail
 rename World => wq
 go_loopw [8, 9, 10, 21] (fun _ _ _ x21 wv => ∃ j : Nat, j ≤ (idsOf i).length ∧ x21 = .int .i64 j ∧ Below wq.heap.size wq wv) (fun _ _ _ x _ => (idsOf i).length - (intOf x).toNat)
 case atStart => exact ⟨0, by omega, rfl, Below.refl _ _⟩
 case round =>
  obtain ⟨j, hj, rfl, hw⟩ := hrel
  have hwr := HX.out.trans (hw.mono HX.out.size)
  by_cases hjl : j < (idsOf i).length
  ·obtain ⟨qb, qo, ha, hql, hqc⟩ := (HQ.out.below (NumAt.lasts .u32) hw).at_ (by omega)
   subst ha
   have q1 : wr.cell? ⟨qb, qo + j * 1, none⟩ = some (.int .u32 (idsOf i)[j]) := hqc j hjl
   rw [Nat.mul_one] at q1
   have i4 : (j : Int) < (idsOf i).length := by omega
   have HJL := hid hjl
   have HW := hid hw
   clear hqc hw
   generalize (idsOf i)[j] = idj at q1
   have HBr := HB.out.below hwr
   have g9 := HBr.c9
   have g3 := HBr.c3
   have zB2 := block_lt_of_cell g9
   have HO := Own.nil wr
   clear hjl
   cases hf : hm idj with
   | none =>
    have hl := HBr.mp.miss keysU Tryz.underlying351 Tryz.underlying23 hf (zeroHm wr) true
    simp only [if_true] at hl
    have hl2 : (Instr.lookup 351 (.map (some hb)) (.int .u32 idj) true).run Tryz.prog wr = .ok (.tuple #[.agg #[.int .i64 0, .int .i64 0, .int .i64 0, .bool false], .bool false]) wr := hl
    clear hf HBr hl
    go_wp2_with (first | ((first | ((with_reducible first | refine sp_al HO ?_ | refine sp_alc HO ?_); intro g hg; rw [← hg.out]; clear hg) | (with_reducible first | refine sp_sk HO ?_ | refine sp_skc HO ?_) | (refine sp_wk HO rfl 392 _ _ rfl rfl rfl (by kernel_rfl) (by rfl) (by simp [Value.oneCell']) ?_)); clear HO; (try clear kk); intro W' HO; (try simp only [zTz, zTs, zTa] at HO); (try have kk := HO.kk)) | go_quiet (fail))
    exact ⟨⟨j + 1, HJL.out, by go_num, HW.out.trans ((HO.drewN _).below.mono HW.out.size)⟩, by have := HJL.out; simp [intOf]; omega⟩
   | some x =>
    obtain ⟨v, hv, hl⟩ := HBr.mp.hit keysU Tryz.underlying351 Tryz.underlying23 hf
    subst hv
    obtain ⟨xa, xl⟩ := x
    have hl2 : (Instr.lookup 351 (.map (some hb)) (.int .u32 idj) true).run Tryz.prog wr = .ok (.tuple #[.agg #[.int .i64 0, .int .i64 0, .int .i64 xa, .bool xl], .bool true]) wr := hl true
    clear hf HBr hl
    go_wp2_with (first | ((first | ((with_reducible first | refine sp_al HO ?_ | refine sp_alc HO ?_); intro g hg; rw [← hg.out]; clear hg) | (with_reducible first | refine sp_sk HO ?_ | refine sp_skc HO ?_) | (refine sp_wk HO rfl 392 _ _ rfl rfl rfl (by kernel_rfl) (by rfl) (by simp [Value.oneCell']) ?_)); clear HO; (try clear kk); intro W' HO; (try simp only [zTz, zTs, zTa] at HO); (try have kk := HO.kk)) | go_quiet (fail))
    exact ⟨⟨j + 1, HJL.out, by go_num, HW.out.trans ((HO.drewN _).below.mono HW.out.size)⟩, by have := HJL.out; simp [intOf]; omega⟩
  ·obtain rfl : j = (idsOf i).length := by omega
   have i4 : ¬ (((idsOf i).length : Int) < (idsOf i).length) := by omega
   go_wp2_with fail
   go_ret
   exact ⟨rfl, hwr⟩
end
end Go.Proofs.YtindnnbopaeklaaGreatDoor
