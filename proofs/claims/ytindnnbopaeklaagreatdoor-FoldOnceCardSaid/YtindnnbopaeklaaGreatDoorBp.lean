/- Flow: rules, check. -/
import Derived.Test.YtindnnbopaeklaaGreatDoorBh
import Derived.Test.YtindnnbopaeklaaGreatDoorBe
import Derived.Test.YtindnnbopaeklaaGreatDoorAw
namespace Go.Proofs.YtindnnbopaeklaaGreatDoor
set_option linter.unusedVariables false
set_option linter.unusedSimpArgs false
set_option maxRecDepth 100000
set_option maxHeartbeats 4000000
open Go.RowKit Go.MapKept
theorem flrules_own (B : Nat) (w : World) : Calls Tryz.prog 303 #[.pointer (some ⟨B, 0, none⟩)] w fun e w' => ∃ g, e = .returned (.slice (some ⟨g, 0, none⟩) 3 3) ∧ Own noX w [cls g #[.func (.func 355) #[.pointer (some ⟨B, 0, none⟩)] #[], .func (.func 356) #[.pointer (some ⟨B, 0, none⟩)] #[], .func (.func 357) #[.pointer (some ⟨B, 0, none⟩)] #[]] 398] w' := by
 have HO := Own.nil w
 go_enter Tryz.func303, Tryz.ntmps303
 go_wp2_with (first | (((with_reducible first | refine sp_al HO ?_ | refine sp_alc HO ?_); intro g hg; rw [← hg.out]; clear hg); clear HO; (try clear kk); intro W' HO; (try simp only [zTz, zTs, zTa] at HO); (try have kk := HO.kk)))
 go_ret
 exact ⟨_, rfl, HO.alloc _⟩
section
variable {B hb G b o cap b2 cb lab : Nat} {p q : Int} {l : List In} {sv : Nat → Option Addr × Nat} {hm : Nat → Option HmD} {w : World}
theorem flcheck_own (P Q : Nat) (h : Bdy B hb G b o cap b2 cb lab P Q l sv hm w) (hPQ : P ≤ Q) (hQ : Q ≤ l.length) (hn : l.length ≤ 2000) (hop : ∀ k (hk : k < l.length), P ≤ k → k < Q → l[k].op ≠ 245) (hu : ∀ k (hk : k < l.length), P ≤ k → k < Q → ∀ id ∈ idsOf l[k], MayOk hm id k) :
  Calls Tryz.prog 262 #[.pointer (some ⟨B, 0, none⟩)] w fun e w' => e = .returned (.agg #[.int .i64 0, .int .i64 0]) ∧ Below w.heap.size w w' := by
 have HO := Own.nil w
 have HB := hid h
 have HU := hid hu
 have HP := hid hop
 have g7 := h.c7
 have h0 := h.h0
 have h1 := h.h1
 have h2 := h.h2
 have zB := block_lt_of_cell g7
 have z2 := block_lt_of_cell h0
 clear h hop hu
 have cR := fun W => flrules_own B W
 go_enter Tryz.func262, Tryz.ntmps262
 go_wp2_with (first | ((first | ((with_reducible first | refine sp_al HO ?_ | refine sp_alc HO ?_); intro g hg; rw [← hg.out]; clear hg) | (with_reducible first | refine sp_sk HO ?_ | refine sp_skc HO ?_)); clear HO; (try clear kk); intro W' HO; (try simp only [zTz, zTs, zTa] at HO); (try have kk := HO.kk)) | (go_at_call 303; refine (cR _).mono ?_; rintro e w1 ⟨gF, rfl, h3⟩; replace HO := HO.app h3; clear h3; simp only [List.cons_append, List.nil_append] at HO; (try clear kk); (try simp only [zTz, zTs, zTa, zDs, zDz] at HO); (try have kk := HO.kk)))
 clear cR
 refine wp_loop_rounds 2 ?_
 rw [rounds_succ]
 go_wp2_with (first | ((first | ((with_reducible first | refine sp_al HO ?_ | refine sp_alc HO ?_); intro g hg; rw [← hg.out]; clear hg) | (with_reducible first | refine sp_sk HO ?_ | refine sp_skc HO ?_) | (refine sp_wk HO rfl 96 _ _ rfl rfl rfl (by kernel_rfl) (by rfl) (by simp [Value.oneCell']) ?_)); clear HO; (try clear kk); intro W' HO; (try simp only [zTz, zTs, zTa] at HO); (try have kk := HO.kk)))
 (try clear kk)
 rename_i gR W1 W2 K1 a1
 obtain ⟨gB, rfl⟩ : ∃ q, q = g := ⟨_, rfl⟩
 obtain ⟨L0, hL, HO⟩ := name_list HO
 have H0 := hid HO
 clear HO g7 h0 h1 h2 zB z2
 go_loopw [6, 8, 9, 33] (fun x6 _ _ _ wr => ∃ k : Nat, P ≤ k ∧ k ≤ Q ∧ x6 = .int .i64 k ∧ Own noX w L0 wr) (fun x _ _ _ _ => Q - (intOf x).toNat)
 case atStart => exact ⟨P, by omega, hPQ, rfl, H0.out⟩
 case round =>
  obtain ⟨k, hk1, hk2, rfl, HO⟩ := hrel
  clear H0
  have HOX := HO
  rw [hL.out] at HO
  by_cases hlt : k < Q
  ·have hkl : k < l.length := by omega
   have hwr := HO.below
   have cS : ∀ W, Below w.heap.size w W → Calls Tryz.prog 355 #[.pointer (some ⟨B, 0, none⟩), .int .i64 0, .int .i64 k] W fun e w' => e = .returned (.int .i64 0) ∧ Below W.heap.size W w' := fun W hb => flscope_own (HB.out.below hb) k hkl
   have cP : ∀ W, Below w.heap.size w W → Calls Tryz.prog 356 #[.pointer (some ⟨B, 0, none⟩), .int .i64 0, .int .i64 k] W fun e w' => e = .returned (.int .i64 0) ∧ Below W.heap.size W w' := fun W hb => flphi_own (HB.out.below hb) k hkl (HP.out k hkl hk1 hlt)
   have cU : ∀ W, Below w.heap.size w W → Calls Tryz.prog 357 #[.pointer (some ⟨B, 0, none⟩), .int .i64 0, .int .i64 k] W fun e w' => e = .returned (.int .i64 0) ∧ Below W.heap.size W w' := fun W hb => fluse_own (HB.out.below hb) k hkl (HP.out k hkl hk1 hlt) (HU.out k hkl hk1 hlt)
   have i3 : (k : Int) < Q := by omega
   have HLT := hid hlt
   clear hlt HOX
   (try simp only [zTz, zTs, zTa, zDs, zDz] at HO); (try have kk := HO.kk)
   go_wp2_with fail
   refine wp_loop_rounds 4 ?_
   rw [rounds_succ]
   go_wp2_with (first | (go_at_call 355; (with_reducible refine (cS _ HO.below).mono ?_); rintro e w1 ⟨rfl, hn1⟩; replace HO := HO.then hn1; clear hn1; (try clear kk); (try simp only [zTz, zTs, zTa, zDs, zDz] at HO); (try have kk := HO.kk)))
   rw [rounds_succ]
   go_wp2_with (first | (go_at_call 356; (with_reducible refine (cP _ HO.below).mono ?_); rintro e w1 ⟨rfl, hn1⟩; replace HO := HO.then hn1; clear hn1; (try clear kk); (try simp only [zTz, zTs, zTa, zDs, zDz] at HO); (try have kk := HO.kk)))
   rw [rounds_succ]
   go_wp2_with (first | (go_at_call 357; (with_reducible refine (cU _ HO.below).mono ?_); rintro e w1 ⟨rfl, hn1⟩; replace HO := HO.then hn1; clear hn1; (try clear kk); (try simp only [zTz, zTs, zTa, zDs, zDz] at HO); (try have kk := HO.kk)))
   rw [rounds_succ]
   go_wp2_with fail
   exact ⟨⟨k + 1, by omega, HLT.out, by go_num, by rw [hL.out]; exact HO⟩, by have := HLT.out; simp [intOf]; omega⟩
  ·obtain rfl : k = Q := by omega
   have i3 : ¬ ((k : Nat) : Int) < k := by omega
   (try simp only [zTz, zTs, zTa, zDs, zDz] at HO); (try have kk := HO.kk)
   go_wp2_with fail
   rw [rounds_succ]
   go_wp2_with (first | ((first | (with_reducible first | refine sp_sk HO ?_ | refine sp_skc HO ?_) | (refine sp_wk HO rfl 36 _ _ rfl rfl rfl (by kernel_rfl) (by rfl) (by simp [Value.oneCell']) ?_)); clear HO; (try clear kk); intro W' HO; (try simp only [zTz, zTs, zTa] at HO); (try have kk := HO.kk)))
   refine bodyPost_ret_by (res_row rfl _ _ _ 36 #[.int .i64 0, .int .i64 0] _ _ rfl (HO.blk 2 rfl) Tryz.underlying36 rfl infoSpt) rfl ?_
   exact ⟨rfl, HO.below⟩
end
def hmF (l : List In) (lab P : Nat) : Nat → Nat → Option HmD
 | 0 => kup (fun _ => none) lab ⟨P, true⟩
 | k + 1 => if (l.getD (P + 1 + k) noIn).res = 0 then hmF l lab P k else kup (hmF l lab P k) (l.getD (P + 1 + k) noIn).res ⟨P + 1 + k, false⟩
theorem flhomes_own (gen bound : Nat) (b o cap : Nat) (l : List In) (sv : Nat → Option Addr × Nat) (gf gc b2 cb id lab P Q y : Nat) (w : World) (hM : Ms w b o l sv) (hn : l.length ≤ 2000) (hq : FnQ gf b2 cb id lab y P Q 0 w) (hPQ : P + 1 ≤ Q) (hQ : Q ≤ l.length) :
  Calls Tryz.prog 260 #[.agg #[.int .u32 gen, .int .u32 bound, .slice (some ⟨b, o, none⟩) l.length cap], .slice (some ⟨gf, 0, none⟩) 1 gc] w fun r w' => ∃ hb, r = .returned (.map (some hb)) ∧ Own noX w [mpA (.int .u32) keyU encHm hb (hmF l lab P (Q - (P + 1)))] w' := by
 have HM := hid hM
 have zb := hM.lt
 clear hM
 have h0 := hq.at_.h0
 have h1 := hq.at_.h1
 have h2 := hq.at_.h2
 obtain ⟨zg, q0, q1, q2, q3, q4⟩ := hq.mem
 have z2 := block_lt_of_cell h0
 clear hq
 have HO := Own.nil w
 have hmm := @run_makeMap Tryz.prog
 go_enter Tryz.func260, Tryz.ntmps260
 go_wp2_with (first | ((first | ((with_reducible first | refine sp_al HO ?_ | refine sp_alc HO ?_); intro g hg; rw [← hg.out]; clear hg) | (with_reducible first | refine sp_sk HO ?_ | refine sp_skc HO ?_)); clear HO; (try clear kk); intro W' HO; (try simp only [zTz, zTs, zTa] at HO); (try have kk := HO.kk)))
 replace HO := HO.recast 0 (A' := mpA (.int .u32) keyU encHm _ (fun _ => none)) rfl (fun k hk => hk) (mp_new (HO.blk 0 rfl))
 simp only [List.set_cons_zero] at HO
 clear hmm
 rename_i gMod W1 K1 a1
 obtain ⟨gmh, rfl⟩ : ∃ q, q = g := ⟨_, rfl⟩
 refine wp_loop_rounds 2 ?_
 rw [rounds_succ]
 (try clear kk)
 (try simp only [zTz, zTs, zTa, zDs, zDz] at HO); (try have kk := HO.kk)
 go_wp2_with (first | ((first | ((with_reducible first | refine sp_al HO ?_ | refine sp_alc HO ?_); intro g hg; rw [← hg.out]; clear hg) | (with_reducible first | refine sp_sk HO ?_ | refine sp_skc HO ?_) | (refine sp_wk HO rfl 94 _ _ rfl rfl rfl (by kernel_rfl) (by rfl) (by simp [Value.oneCell']) ?_)); clear HO; (try clear kk); intro W' HO; (try simp only [zTz, zTs, zTa] at HO); (try have kk := HO.kk)))
 obtain ⟨gF, rfl⟩ : ∃ q, q = g := ⟨_, rfl⟩
 refine wp_loop_rounds 1 ?_
 rw [rounds_succ]
 go_wp2_with fail
 refine wp_loop_rounds 2 ?_
 rw [rounds_succ]
 go_wp2_with (first | ((first | ((with_reducible first | refine sp_al HO ?_ | refine sp_alc HO ?_); intro g hg; rw [← hg.out]; clear hg) | (with_reducible first | refine sp_sk HO ?_ | refine sp_skc HO ?_) | (refine sp_wk HO rfl 96 _ _ rfl rfl rfl (by kernel_rfl) (by rfl) (by simp [Value.oneCell']) ?_)); clear HO; (try clear kk); intro W' HO; (try simp only [zTz, zTs, zTa] at HO); (try have kk := HO.kk)))
 obtain ⟨gB, rfl⟩ : ∃ q, q = g := ⟨_, rfl⟩
 obtain ⟨o0, hup, hm2⟩ := Mp.put (HO.at 2 rfl) keysU Tryz.underlying351 Tryz.underlying23 lab (encHm ⟨P, true⟩) ⟨P, true⟩ (fun _ _ _ h => h) (fun _ => rfl)
 have hup2 : (Instr.mapUpdate 351 (.map (some gmh)) (.int .u32 lab) (.agg #[.int .i64 0, .int .i64 0, .int .i64 P, .bool true])).run Tryz.prog W' = .ok () (putMap W' gmh o0) := hup
 replace HO := HO.map 2 o0 rfl hm2
 simp only [List.set_cons_zero, List.set_cons_succ] at HO
 rw [hup2]
 clear hup hup2 hm2
 (try clear kk)
 generalize putMap W' gmh o0 = V0 at HO ⊢
 (try simp only [zTz, zTs, zTa, zDs, zDz] at HO); (try have kk := HO.kk)
 have i1 : (P : Int) ≤ 2000 := by omega
 go_wp2_with fail
 have H0 : Hid (Own noX w [cls gB #[.int .u32 lab, .int .i64 P, .int .i64 Q] 96, cls gF #[.int .u32 id, .int .i64 y, .slice none 0 0, .slice (some ⟨b2, 0, none⟩) 1 cb, .int .i64 Q] 94, mpA (.int .u32) keyU encHm gmh (hmF l lab P (P + 1 - (P + 1))), cls gMod #[.int .u32 gen, .int .u32 bound, .slice (some ⟨b, o, none⟩) l.length cap] 28] V0) := hid (by rw [Nat.sub_self]; exact HO)
 clear HO
 (try clear kk)
 go_loopw [12, 13] (fun x12 _ wr => ∃ k : Nat, P + 1 ≤ k ∧ k ≤ Q ∧ x12 = .int .i64 k ∧ Own noX w [cls gB #[.int .u32 lab, .int .i64 P, .int .i64 Q] 96, cls gF #[.int .u32 id, .int .i64 y, .slice none 0 0, .slice (some ⟨b2, 0, none⟩) 1 cb, .int .i64 Q] 94, mpA (.int .u32) keyU encHm gmh (hmF l lab P (k - (P + 1))), cls gMod #[.int .u32 gen, .int .u32 bound, .slice (some ⟨b, o, none⟩) l.length cap] 28] wr) (fun x _ _ => Q - (intOf x).toNat)
 case atStart => exact ⟨P + 1, by omega, by omega, by go_num, H0.out⟩
 case round =>
  obtain ⟨k, hk1, hk2, rfl, HO⟩ := hrel
  clear H0
  by_cases hlt : k < Q
  ·have hkl : k < l.length := by omega
   have hMM := HM.out.below HO.below
   have e2 := hMM.res k hkl
   have zb2 := hMM.lt
   have hst : Hid (hmF l lab P (k + 1 - (P + 1)) = if l[k].res = 0 then hmF l lab P (k - (P + 1)) else kup (hmF l lab P (k - (P + 1))) l[k].res ⟨k, false⟩) := hid (by
    rw [show k + 1 - (P + 1) = (k - (P + 1)) + 1 by omega]
    have e : l.getD (P + 1 + (k - (P + 1))) noIn = l[k] := by rw [show P + 1 + (k - (P + 1)) = k by omega]; exact getD_at l hkl
    simp only [hmF, e]
    rw [show P + 1 + (k - (P + 1)) = k by omega])
   have i2 : (k : Int) < l.length := by omega
   have i3 : (k : Int) < Q := by omega
   have HLT := hid hlt
   clear hMM hlt
   generalize l[k].res = rs at e2 hst
   by_cases hr : rs = 0
   ·rw [if_pos hr] at hst
    (try simp only [zTz, zTs, zTa, zDs, zDz] at HO); (try have kk := HO.kk)
    go_wp2_with fail
    exact ⟨⟨k + 1, by omega, HLT.out, by go_num, by rw [hst.out]; exact HO⟩, by have := HLT.out; simp [intOf]; omega⟩
   ·rw [if_neg hr] at hst
    (try simp only [zTz, zTs, zTa, zDs, zDz] at HO); (try have kk := HO.kk)
    go_wp2_with fail
    obtain ⟨o0, hup, hm2⟩ := Mp.put (HO.at 2 rfl) keysU Tryz.underlying351 Tryz.underlying23 rs (encHm ⟨k, false⟩) ⟨k, false⟩ (fun _ _ _ h => h) (fun _ => rfl)
    have hup2 : (Instr.mapUpdate 351 (.map (some gmh)) (.int .u32 rs) (.agg #[.int .i64 0, .int .i64 0, .int .i64 k, .bool false])).run Tryz.prog wr = .ok () (putMap wr gmh o0) := hup
    replace HO := HO.map 2 o0 rfl hm2
    simp only [List.set_cons_zero, List.set_cons_succ] at HO
    rw [hup2]
    clear hup hup2 hm2
    (try clear kk)
    generalize putMap wr gmh o0 = V1 at HO ⊢
    go_wp2_with fail
    exact ⟨⟨k + 1, by omega, HLT.out, by go_num, by rw [hst.out]; exact HO⟩, by have := HLT.out; simp [intOf]; omega⟩
  ·obtain rfl : k = Q := by omega
   have i3 : ¬ ((k : Nat) : Int) < k := by omega
   (try simp only [zTz, zTs, zTa, zDs, zDz] at HO); (try have kk := HO.kk)
   go_wp2_with fail
   rw [rounds_succ]
   go_wp2_with fail
   rw [rounds_succ]
   go_wp2_with fail
   go_ret
   exact ⟨gmh, rfl, HO.sub (.cons _ (.cons _ (.cons_cons _ (.cons _ .slnil))))⟩
theorem el_body : El 301 356 1 8 := El.of Tryz.underlying301 (z := .pointer none) (by kernel_rfl) rfl (by omega)
theorem FnQ.zero {g b2 c2 id lab lo : Nat} {y st en : Int} {w : World} (h : FnQ g b2 c2 id lab y st en lo w) : FnQ g b2 c2 id lab y st en 0 w := ⟨Nat.zero_le _, Nat.zero_le _, h.mem, h.at_⟩
theorem flbodies_own (gen bound : Nat) (b o cap : Nat) (l : List In) (sv : Nat → Option Addr × Nat) (t : Nat → Nat) (m : Nat) (w : World) (hM : Ms w b o l sv) (hs : Sound bound l) (ht : OneFn l t m) (hi : IdsOk l t) (he : EndsSo l m)
  (hop : ∀ k (hk : k < l.length), t 8 + 1 ≤ k → k < m + 1 → l[k].op ≠ 245) (hu : ∀ k (hk : k < l.length), t 8 + 1 ≤ k → k < m + 1 → ∀ id ∈ idsOf l[k], MayOk (hmF l (l.getD (t 8 + 1) noIn).res (t 8 + 1) (m + 1 - (t 8 + 1 + 1))) id k) :
  Calls Tryz.prog 225 #[.agg #[.int .u32 gen, .int .u32 bound, .slice (some ⟨b, o, none⟩) l.length cap]] w fun r w' => (∃ v, r = .returned (.tuple #[v, .agg #[.int .i64 0, .int .i64 0]])) ∧ Below w.heap.size w w' := by
 have hn := hs.len
 have hl := ht.len
 have hf := ht.fits
 have cI : ∀ W, Below w.heap.size w W → Calls Tryz.prog 89 #[.agg #[.int .u32 gen, .int .u32 bound, .slice (some ⟨b, o, none⟩) l.length cap]] W fun r w' => r = .returned (.agg #[.int .i64 0, .int .i64 0]) ∧ Below W.heap.size W w' := fun W hb => icheck_own gen bound b o cap l sv t m W (hM.below hb) hs ht hi
 have cC : ∀ W, Below w.heap.size w W → _ := fun W hb => cutq_own gen bound (some ⟨b, o, none⟩) cap l t m W (hM.below hb).back hs ht
 have cG : ∀ W b1 c1, Below w.heap.size w W → FvAt b1 c1 (l.getD (t 8) noIn).res (t 8 : Nat) (l.getD (t 8 + 1) noIn).res (t 8 + 1 : Nat) (m + 1 : Nat) (m + 1 : Nat) (.agg #[.int .u32 (l.getD (t 8) noIn).res, .int .i64 (t 8 : Nat), .slice none 0 0, .slice (some ⟨b1, 0, none⟩) 1 c1, .int .i64 (m + 1 : Nat)]) W → _ := fun W b1 c1 hb h1 => gnew_own gen bound b o cap l sv t m b1 c1 _ _ _ _ _ W (hM.below hb) (hM.below hb).back hs ht hi he rfl rfl rfl rfl rfl h1
 have cH : ∀ W gf gc b2 cb, Below w.heap.size w W → FnQ gf b2 cb (l.getD (t 8) noIn).res (l.getD (t 8 + 1) noIn).res (t 8 : Nat) (t 8 + 1 : Nat) (m + 1 : Nat) 0 W → _ := fun W gf gc b2 cb hb hq => flhomes_own gen bound b o cap l sv gf gc b2 cb _ _ (t 8 + 1) (m + 1) (t 8) W (hM.below hb) hn hq (by omega) (by omega)
 have cK : ∀ W B hb G b2 cb, Bdy B hb G b o cap b2 cb (l.getD (t 8 + 1) noIn).res (t 8 + 1 : Nat) (m + 1 : Nat) l sv (hmF l (l.getD (t 8 + 1) noIn).res (t 8 + 1) (m + 1 - (t 8 + 1 + 1))) W → _ := fun W B hb G b2 cb h => flcheck_own (t 8 + 1) (m + 1) h (by omega) (by omega) hn hop hu
 have HM := hid hM
 clear hM hs ht hi he hop hu
 generalize (l.getD (t 8) noIn).res = id at cC cG cH
 generalize (l.getD (t 8 + 1) noIn).res = lab at cC cG cH cK
 generalize hmF l lab (t 8 + 1) (m + 1 - (t 8 + 1 + 1)) = hmm at cH cK
 have hnn := hid (And.intro hn (And.intro hl hf))
 clear hl hf hn
 generalize t 8 + 1 = P at cC cG cH cK
 generalize t 8 = y at cC cG cH
 generalize m + 1 = Q at cC cG cH cK
 obtain ⟨ll, hll⟩ : ∃ ll, Hid (ll = l.length) := ⟨_, hid rfl⟩
 have HO := Own.nil w
 go_enter Tryz.func225, Tryz.ntmps225
 go_wp2_with (first | ((first | (with_reducible refine sp_al HO ?_; clear HO; (try clear kk); intro g hg W' HO; rw [← hg.out]; clear hg) | (with_reducible refine sp_sk HO ?_; clear HO; (try clear kk); intro W' HO) | (with_reducible refine sp_skc HO ?_; clear HO; (try clear kk); intro W' HO) | (refine sp_wk HO rfl 36 _ _ rfl rfl rfl (by kernel_rfl) (by rfl) (by simp [Value.oneCell']) ?_; clear HO; (try clear kk); intro W' HO)); (try simp only [zTz, zTs, zTa] at HO); (try have kk := HO.kk)) | (go_at_call 89; (with_reducible refine (cI _ HO.below).mono ?_); rintro e w1 ⟨rfl, hn1⟩; replace HO := HO.then hn1; clear hn1; (try clear kk); (try simp only [zTz, zTs, zTa, zDs, zDz] at HO); (try have kk := HO.kk)) | (go_at_call 54; (with_reducible refine (cC _ HO.below).mono ?_); rintro e w1 ⟨⟨gf, gc, rfl, b2, cb, q⟩, hn1⟩; replace HO := HO.deep hn1 q; clear hn1 q; (try clear kk); (try simp only [zTz, zTs, zTa, zDs, zDz] at HO); (try have kk := HO.kk)))
 clear cI cC
 have q := (HO.at 1 rfl : DeepAt _ _ _ _).out (fnkeeps _ _ _ _ _ _ _ _)
 refine (cH W' gf gc b2 cb HO.below q.zero).mono ?_
 clear q cH
 rintro e w1 ⟨hb, rfl, h2⟩
 replace HO := HO.app h2
 clear h2
 simp only [List.cons_append, List.nil_append] at HO
 (try clear kk)
 (try simp only [zTz, zTs, zTa, zDs, zDz] at HO); (try have kk := HO.kk)
 go_wp2_with fail
 refine wp_loop_rounds 2 ?_
 rw [rounds_succ]
 have q := (HO.at 2 rfl : DeepAt _ _ _ _).out (fnkeeps _ _ _ _ _ _ _ _)
 obtain ⟨zg, q0, q1, q2, q3, q4⟩ := q.mem
 clear q
 go_wp2_with (first | ((first | (with_reducible refine sp_al HO ?_; clear HO; (try clear kk); intro g hg W' HO; rw [← hg.out]; clear hg) | (with_reducible refine sp_sk HO ?_; clear HO; (try clear kk); intro W' HO) | (with_reducible refine sp_skc HO ?_; clear HO; (try clear kk); intro W' HO) | (refine sp_wk HO rfl 94 _ _ rfl rfl rfl (by kernel_rfl) (by rfl) (by simp [Value.oneCell']) ?_; clear HO; (try clear kk); intro W' HO)); (try simp only [zTz, zTs, zTa] at HO); (try have kk := HO.kk)) | (refine sp_lk HO rfl 28 _ rfl rfl _ Tryz.underlying28 rfl (by kernel_rfl) ?_) | (refine sp_lk HO rfl 94 _ rfl rfl _ Tryz.underlying94 rfl (by kernel_rfl) ?_))
 have q := (HO.at 3 rfl : DeepAt _ _ _ _).out (fnkeeps _ _ _ _ _ _ _ _)
 refine (cG W' b2 cb HO.below q.at_).mono ?_
 rintro e w1 ⟨⟨G, mg, cm, rfl, hG⟩, hn1⟩
 replace HO := HO.deep hn1 hG
 clear q hn1 cG zg q0 q1 q2 q3 q4 hG
 (try clear kk)
 (try simp only [zTz, zTs, zTa, zDs, zDz] at HO); (try have kk := HO.kk)
 go_wp2_with (first | ((first | (with_reducible refine sp_al HO ?_; clear HO; (try clear kk); intro g hg W' HO; rw [← hg.out]; clear hg) | (with_reducible refine sp_sk HO ?_; clear HO; (try clear kk); intro W' HO) | (with_reducible refine sp_skc HO ?_; clear HO; (try clear kk); intro W' HO) | (refine sp_wk HO rfl 36 _ _ rfl rfl rfl (by kernel_rfl) (by rfl) (by simp [Value.oneCell']) ?_; clear HO; (try clear kk); intro W' HO)); (try simp only [zTz, zTs, zTa] at HO); (try have kk := HO.kk)))
 have q := (HO.at 1 rfl : DeepAt _ _ _ _).out (GnE.keeps _ _)
 refine (dnew_own G _ W' q.gr).mono ?_
 clear q
 rintro e w1 ⟨⟨T, rfl, hT⟩, hn1⟩
 replace HO := HO.then hn1
 clear hn1 hT
 (try clear kk)
 (try simp only [zTz, zTs, zTa, zDs, zDz] at HO); (try have kk := HO.kk)
 go_wp2_with (first | ((first | (with_reducible refine sp_al HO ?_; clear HO; (try clear kk); intro g hg W' HO; rw [← hg.out]; clear hg) | (with_reducible refine sp_sk HO ?_; clear HO; (try clear kk); intro W' HO) | (with_reducible refine sp_skc HO ?_; clear HO; (try clear kk); intro W' HO) | (refine sp_wk HO rfl 36 _ _ rfl rfl rfl (by kernel_rfl) (by rfl) (by simp [Value.oneCell']) ?_; clear HO; (try clear kk); intro W' HO)); (try simp only [zTz, zTs, zTa] at HO); (try have kk := HO.kk)) | (refine sp_lk HO rfl 28 _ rfl rfl _ Tryz.underlying28 rfl (by kernel_rfl) ?_) | (refine sp_lk HO rfl 94 _ rfl rfl _ Tryz.underlying94 rfl (by kernel_rfl) ?_))
 obtain ⟨gB, rfl⟩ : ∃ q, q = g := ⟨_, rfl⟩
 have qG := (HO.at 2 rfl : DeepAt _ _ _ _).out (GnE.keeps _ _)
 have qF := (HO.at 6 rfl : DeepAt _ _ _ _).out (fnkeeps _ _ _ _ _ _ _ _)
 refine (cK W' gB hb G b2 cb ⟨HO.cell 0 2 rfl rfl, HO.cell 0 3 rfl rfl, HO.cell 0 7 rfl rfl, HO.cell 0 9 rfl rfl, HO.cell 0 10 rfl rfl, qF.at_.h0, qF.at_.h1, qF.at_.h2, HO.at 4 rfl, HM.out.below HO.below, ⟨_, qG.gr⟩⟩).mono ?_
 clear qG qF cK
 rintro e w1 ⟨rfl, hn1⟩
 replace HO := HO.then hn1
 clear hn1
 (try clear kk)
 (try simp only [zTz, zTs, zTa, zDs, zDz] at HO); (try have kk := HO.kk)
 go_wp2_with (first | ((first | (with_reducible refine sp_al HO ?_; clear HO; (try clear kk); intro g hg W' HO; rw [← hg.out]; clear hg) | (with_reducible refine sp_sk HO ?_; clear HO; (try clear kk); intro W' HO) | (with_reducible refine sp_skc HO ?_; clear HO; (try clear kk); intro W' HO) | (refine sp_wk HO rfl 36 _ _ rfl rfl rfl (by kernel_rfl) (by rfl) (by simp [Value.oneCell']) ?_; clear HO; (try clear kk); intro W' HO)); (try simp only [zTz, zTs, zTa] at HO); (try have kk := HO.kk)) | ((with_reducible refine at_append ?_); refine sp_push HO el_body 0 rfl rfl _ _ rfl rfl rfl rfl (by simp [Value.oneCell']) (by omega) ?_; intro gm cm2 W' HO'; clear HO; (try clear kk); have HO := HO'; clear HO'; (try simp only [zTz, zTs, zTa, zDs, zDz] at HO); (try have kk := HO.kk)))
 rw [rounds_succ]
 go_wp2_with (first | ((first | (with_reducible refine sp_sk HO ?_; clear HO; (try clear kk); intro W' HO) | (with_reducible refine sp_skc HO ?_; clear HO; (try clear kk); intro W' HO) | (refine sp_wk HO rfl 36 _ _ rfl rfl rfl (by kernel_rfl) (by rfl) (by simp [Value.oneCell']) ?_; clear HO; (try clear kk); intro W' HO)); (try simp only [zTz, zTs, zTa] at HO); (try have kk := HO.kk)))
 trace_state
 refine bodyPost_ret_by (res_tmp_row rfl _ _ _ 36 #[.int .i64 0, .int .i64 0] _ _ rfl (HO.blk 11 rfl) Tryz.underlying36 rfl infoSpt) rfl ?_
 exact ⟨⟨_, rfl⟩, HO.below⟩
theorem flow_own (gen bound : Nat) (b o cap : Nat) (l : List In) (sv : Nat → Option Addr × Nat) (t : Nat → Nat) (m : Nat) (w : World) (hM : Ms w b o l sv) (hs : Sound bound l) (ht : OneFn l t m) (hi : IdsOk l t) (he : EndsSo l m)
  (hop : ∀ k (hk : k < l.length), t 8 + 1 ≤ k → k < m + 1 → l[k].op ≠ 245) (hu : ∀ k (hk : k < l.length), t 8 + 1 ≤ k → k < m + 1 → ∀ id ∈ idsOf l[k], MayOk (hmF l (l.getD (t 8 + 1) noIn).res (t 8 + 1) (m + 1 - (t 8 + 1 + 1))) id k) :
  Calls Tryz.prog 175 #[.agg #[.int .u32 gen, .int .u32 bound, .slice (some ⟨b, o, none⟩) l.length cap]] w fun r w' => r = .returned (.agg #[.int .i64 0, .int .i64 0]) ∧ Below w.heap.size w w' := by
 have cB : ∀ W, Below w.heap.size w W → _ := fun W hb => flbodies_own gen bound b o cap l sv t m W (hM.below hb) hs ht hi he hop hu
 clear hM hs ht hi he hop hu
 generalize l.length = n at cB ⊢
 have HO := Own.nil w
 go_enter Tryz.func175, Tryz.ntmps175
 go_wp2_with (first | ((first | (with_reducible refine sp_al HO ?_; clear HO; (try clear kk); intro g hg W' HO; rw [← hg.out]; clear hg) | (with_reducible refine sp_sk HO ?_; clear HO; (try clear kk); intro W' HO) | (with_reducible refine sp_skc HO ?_; clear HO; (try clear kk); intro W' HO) | (refine sp_wk HO rfl 36 _ _ rfl rfl rfl (by kernel_rfl) (by rfl) (by simp [Value.oneCell']) ?_; clear HO; (try clear kk); intro W' HO)); (try simp only [zTz, zTs, zTa] at HO); (try have kk := HO.kk)) | (refine sp_lk HO rfl 36 _ rfl rfl _ Tryz.underlying36 rfl (by kernel_rfl) ?_) | (go_at_call 225; (with_reducible refine (cB _ HO.below).mono ?_); rintro e w1 ⟨⟨v, rfl⟩, hn1⟩; replace HO := HO.then hn1; clear hn1; (try clear kk); (try simp only [zTz, zTs, zTa, zDs, zDz] at HO); (try have kk := HO.kk)))
 refine bodyPost_ret_by (res_row rfl _ _ _ 36 #[.int .i64 0, .int .i64 0] _ _ rfl (HO.blk 1 rfl) Tryz.underlying36 rfl infoSpt) rfl ?_
 exact ⟨rfl, HO.below⟩
end Go.Proofs.YtindnnbopaeklaaGreatDoor
