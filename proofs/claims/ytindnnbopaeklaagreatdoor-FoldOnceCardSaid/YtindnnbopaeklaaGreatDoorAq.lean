/- Ids: Check of a module whose ids are sound. -/
import Derived.Test.YtindnnbopaeklaaGreatDoorAp
import Derived.Test.YtindnnbopaeklaaGreatDoorAo
namespace Go.Proofs.YtindnnbopaeklaaGreatDoor
set_option linter.unusedVariables false
set_option linter.unusedSimpArgs false
set_option maxRecDepth 100000
set_option maxHeartbeats 2000000
open Go.RowKit Go.MapKept
structure IdsOk (l : List In) (t : Nat → Nat) : Prop where
 once : ∀ k (h : k < l.length), l[k].res ≠ 0 → ∃ j, mkK l l.length l[k].res = some j ∧ k ≤ j
 known : ∀ k (h : k < l.length), ∀ id ∈ idsOf l[k], ∃ j, mkK l l.length id = some j ∧ (t 7 ≤ k → k < t 8 → j < k)
theorem name_list {X : Nat → Prop} {w W : World} {L : List As} (h : Own X w L W) : ∃ L0, Hid (L0 = L) ∧ Own X w L0 W := ⟨L, hid rfl, h⟩
theorem look_u {X : Nat → Prop} {w W : World} {L : List As} {mb : Nat} {f : Nat → Option Nat} (h : Own X w L W) (i : Nat) (hi : L[i]? = some (mpA (.int .u32) keyU encI mb f)) {id j : Nat} (hf : f id = some j) (c : Bool) :
  (Instr.lookup 203 (.map (some mb)) (.int .u32 id) c).run Tryz.prog W = .ok (if c then .tuple #[.int .i64 j, .bool true] else .int .i64 j) W := by
 obtain ⟨v, hv, hr⟩ := Mp.hit (h.at i hi) keysU Tryz.underlying203 Tryz.underlying23 hf
 subst hv
 exact hr c
theorem look_0 {X : Nat → Prop} {w W : World} {L : List As} {mb : Nat} {f : Nat → Option Nat} (h : Own X w L W) (i : Nat) (hi : L[i]? = some (mpA (.int .u32) keyU encI mb f)) {id j : Nat} (hf : f id = some j) :
  (Instr.lookup 203 (.map (some mb)) (.int .u32 id) false).run Tryz.prog W = .ok (.int .i64 j) W := look_u h i hi hf false
theorem look_1 {X : Nat → Prop} {w W : World} {L : List As} {mb : Nat} {f : Nat → Option Nat} (h : Own X w L W) (i : Nat) (hi : L[i]? = some (mpA (.int .u32) keyU encI mb f)) {id j : Nat} (hf : f id = some j) :
  (Instr.lookup 203 (.map (some mb)) (.int .u32 id) true).run Tryz.prog W = .ok (.tuple #[.int .i64 j, .bool true]) W := look_u h i hi hf true
theorem partsL_one (t : Nat → Nat) (n : Nat) : (partsL t n).toArray.all (·.oneCell') = true := by simp [partsL, Value.oneCell']
theorem partsL_size (t : Nat → Nat) (n : Nat) : (partsL t n).toArray.size = 20 := by simp [partsL]
theorem partsL_info (t : Nat → Nat) (n : Nat) : (Tryz.prog.info? 76).map (·.size) = some (partsL t n).toArray.size := by rw [partsL_size]; kernel_rfl
theorem icheck_own (gen bound : Nat) (b o cap : Nat) (l : List In) (sv : Nat → Option Addr × Nat) (t : Nat → Nat) (m : Nat) (w : World) (hM : Ms w b o l sv) (hs : Sound bound l) (ht : OneFn l t m) (hi : IdsOk l t) :
  Calls Tryz.prog 89 #[.agg #[.int .u32 gen, .int .u32 bound, .slice (some ⟨b, o, none⟩) l.length cap]] w fun r w' => r = .returned (.agg #[.int .i64 0, .int .i64 0]) ∧ Below w.heap.size w w' := by
 have hn := hs.len
 have cP : ∀ W, Below w.heap.size w W → Calls Tryz.prog 19 #[.agg #[.int .u32 gen, .int .u32 bound, .slice (some ⟨b, o, none⟩) l.length cap]] W fun r w' => r = .returned (.tuple #[partsVal t l.length, .agg #[.int .i64 0, .int .i64 0]]) ∧ Below W.heap.size W w' := fun W hW => parts_own gen bound _ cap l t m W (hM.below hW).back hs ht
 have cM : ∀ W, Below w.heap.size w W → Calls Tryz.prog 128 #[.slice (some ⟨b, o, none⟩) l.length cap] W fun e w' => ∃ m, e = .returned (.map (some m)) ∧ Own noX W [mpA (.int .u32) keyU encI m (mkK l l.length)] w' := fun W hW => makers_own b o cap l sv W (hM.below hW) hn
 have cI := fun i sa sc W h hl => ids_own i sa sc W h hl
 have HM := hid hM
 have HI := hid hi
 clear hM hs ht hi
 have HO := Own.nil w
 go_enter Tryz.func89, Tryz.ntmps89
 go_wp2_with (first | (((with_reducible first | refine sp_al HO ?_ | refine sp_alc HO ?_); intro g hg; rw [← hg.out]; clear hg); clear HO; (try clear kk); intro W' HO; (try simp only [zTz, zTs, zTa] at HO); (try have kk := HO.kk)))
 go_step3
 go_wp2_with (first | ((first | (with_reducible refine sp_al HO ?_; intro g hg; rw [← hg.out]; clear hg) | (with_reducible first | refine sp_sk HO ?_ | refine sp_skc HO ?_) | (refine sp_wk HO rfl 36 _ _ rfl rfl rfl (by kernel_rfl) (by rfl) (by simp [Value.oneCell']) ?_)); clear HO; (try clear kk); intro W' HO; (try simp only [zTz, zTs, zTa] at HO); (try have kk := HO.kk)) | (refine sp_lk HO rfl 28 _ rfl rfl _ Tryz.underlying28 rfl (by kernel_rfl) ?_) | (refine sp_lk HO rfl 36 _ rfl rfl _ Tryz.underlying36 rfl (by kernel_rfl) ?_) | (refine sp_store 1 HO rfl rfl 76 _ _ rfl rfl rfl (partsL_info t l.length) (by rw [partsL_size]; rfl) (partsL_one t l.length) ?_; clear HO; (try clear kk); intro W' HO; (try simp only [zTz, zTs, zTa] at HO); (try have kk := HO.kk)) | (go_at_call 19; (with_reducible refine (cP _ HO.below).mono ?_); rintro e w1 ⟨rfl, hn1⟩; replace HO := HO.then hn1; clear hn1; (try clear kk); (try simp only [zTz, zTs, zTa, zDs, zDz] at HO); (try have kk := HO.kk)))
 refine (cM _ HO.below).mono ?_
 rintro e w2 ⟨mb, rfl, hm⟩
 replace HO := HO.app hm
 simp only [List.cons_append, List.nil_append] at HO
 clear hm cM cP
 (try clear kk)
 have k2 := HO.cells 2 rfl 14
 have k3 := HO.cells 2 rfl 15
 have p2 : (partsL t l.length).toArray[14]? = some (.int .i64 (t 7)) := by simp [partsL]; rfl
 have p3 : (partsL t l.length).toArray[15]? = some (.int .i64 (t 8)) := by simp [partsL]; rfl
 rw [p2] at k2
 rw [p3] at k3
 have k4 := HO.cells 4 rfl
 go_wp2_with (first | ((first | (with_reducible refine sp_al HO ?_; intro g hg; rw [← hg.out]; clear hg) | (with_reducible first | refine sp_sk HO ?_ | refine sp_skc HO ?_) | (refine sp_wk HO rfl 75 _ _ rfl rfl rfl (by kernel_rfl) (by rfl) (by simp [Value.oneCell']) ?_)); clear HO; (try clear kk); intro W' HO; (try simp only [zTz, zTs, zTa] at HO); (try have kk := HO.kk)))
 go_step3
 go_wp2_with fail
 obtain ⟨L0, hL, HO⟩ := name_list HO
 have H0 := hid HO
 (try clear kk)
 clear k2 k3 k4 HO p2 p3
 go_loopw [7, 8, 9, 11, 12, 13, 31, 52] (fun _ _ _ _ _ _ x31 _ wr => ∃ k : Nat, k ≤ l.length ∧ x31 = .int .i64 k ∧ Own noX w L0 wr) (fun _ _ _ _ _ _ x _ _ => l.length - (intOf x).toNat)
 case atStart => exact ⟨0, by omega, rfl, H0.out⟩
 case round =>
  obtain ⟨k, hk, rfl, HO⟩ := hrel
  rw [hL.out] at HO
  by_cases hlt : k < l.length
  ·have hM := HM.out.below HO.below
   have e0 := hM.op k hlt
   have e1 := hM.ty k hlt
   have e2 := hM.res k hlt
   have e3 := hM.args k hlt
   have zb := hM.lt
   have i2 : (k : Int) < l.length := by omega
   have hsl := hid (HM.out.sl k hlt)
   have hal := hid (hM.len k hlt)
   have h1 := hid (HI.out.once k hlt)
   have h2 := hid (HI.out.known k hlt)
   have HLT := hid hlt
   have hT := HM.out.below HO.below
   clear hM hT
   generalize l[k] = i at e0 e1 e2 e3 hsl hal h1 h2
   clear hlt
   generalize sv k = s at e3 hsl
   obtain ⟨sa, sc⟩ := s
   simp only at e3 hsl
   have hN := hid (rfl : i.args.length = i.args.length)
   go_upto_region 9 with (first | ((first | (with_reducible refine sp_al HO ?_; intro g hg; rw [← hg.out]; clear hg) | (with_reducible first | refine sp_sk HO ?_ | refine sp_skc HO ?_) | (refine sp_wk HO rfl 43 _ _ rfl rfl rfl (by kernel_rfl) (by rfl) (by simp [Value.oneCell']) ?_)); clear HO; (try clear kk); intro W' HO; (try simp only [zTz, zTs, zTa] at HO); (try have kk := HO.kk)))
   have HO1 := hid HO
   try simp only [Act.put]
   go_cut [46] (fun s46 wx => s46 = .bool false ∧ wx = W')
   case first =>
    by_cases hr : i.res = 0
    ·go_wp2_with fail
     go_meet
     exact ⟨rfl, rfl⟩
    ·obtain ⟨jr, hj, hkj⟩ := h1.out hr
     have t1 : ¬ ((jr : Int) < k) := by omega
     have hlk := look_0 HO 2 rfl hj
     have HKJ := hid hkj
     clear hj hkj
     go_wp2_with fail
     go_meet
     exact ⟨rfl, rfl⟩
   case rest =>
   obtain ⟨rfl, rfl⟩ := hcut
   go_wp2_with fail
   go_at_call 129
   have hcc := cI i sa sc wc (hsl.out.below AgAt.lasts HO.below) hal.out
   have hnl := hid (show (idsOf i).length ≤ 1048577 from Nat.le_trans (idsTo_len i _) (by have := hal.out; omega))
   with_reducible refine Calls.mono hcc ?_
   rintro e w3 ⟨⟨v, rfl, hv⟩, hn3⟩
   obtain ⟨va, vc, rfl, hids⟩ := own_nums hv
   replace HO := HO.then hn3
   clear hv hn3 hcc
   (try clear kk)
   have HX := hid HO
   have HQ := hid hids
   clear HO hids
   have i2 := hn
   go_wp2_with fail
   rename World => wq
   go_loopw [9, 11, 12, 13, 52] (fun x9 _ _ _ x52 wv => ∃ (j : Nat) (bb : Bool), j ≤ (idsOf i).length ∧ x52 = .int .i64 j ∧ x9 = .bool bb ∧ (t 7 ≤ k → k < t 8 → bb = false) ∧ wv = wq) (fun _ _ _ _ x _ => (idsOf i).length - (intOf x).toNat)
   case atStart => exact ⟨0, false, by omega, rfl, rfl, fun _ _ => rfl, rfl⟩
   case round =>
    obtain ⟨j, bb, hj, rfl, rfl, hbb, rfl⟩ := hrel
    have HB := hid hbb
    clear hbb
    by_cases hjl : j < (idsOf i).length
    ·obtain ⟨mk, hm1, hm2⟩ := h2.out _ (List.getElem_mem hjl)
     obtain ⟨qb, qo, ha, hql, hqc⟩ := HQ.out.at_ (by omega)
     subst ha
     have q1 : wr.cell? ⟨qb, qo + j * 1, none⟩ = some (.int .u32 (idsOf i)[j]) := hqc j hjl
     rw [Nat.mul_one] at q1
     have hlk := look_1 HX.out 2 rfl hm1
     have i3 : (j : Int) < (idsOf i).length := by omega
     have HM2 := hid hm2
     have HJL := hid hjl
     clear hm1 hm2 hqc
     generalize (idsOf i)[j] = idj at q1 hlk
     have hnl2 := hnl.out
     generalize (idsOf i).length = nids at hj hjl i3 HJL hnl2
     clear hjl
     cases bb
     ·go_wp2_with fail
      exact ⟨⟨j + 1, decide (k ≤ mk), HJL.out, by go_num, rfl, fun a b => by have := HM2.out a b; simp; omega, trivial⟩, by simp [intOf]; omega⟩
     ·go_wp2_with fail
      exact ⟨⟨j + 1, true, HJL.out, by go_num, rfl, HB.out, trivial⟩, by simp [intOf]; omega⟩
    ·obtain rfl : j = (idsOf i).length := by omega
     have i3 : ¬ (((idsOf i).length : Int) < (idsOf i).length) := by omega
     have k1 := Own.cells HX.out 1 rfl
     cases bb
     ·go_wp2_with fail
      exact ⟨⟨k + 1, HLT.out, by go_num, by rw [hL.out]; exact HX.out.drop 1⟩, by have := HLT.out; simp [intOf]; omega⟩
     ·by_cases h7 : t 7 ≤ k
      ·have h8 : ¬ k < t 8 := fun h8 => by cases HB.out h7 h8
       have i7 : ¬ ((k : Int) < t 7) := by omega
       have i8 : ¬ ((k : Int) < t 8) := by omega
       have i9 : (t 8 : Int) ≤ k := by omega
       go_wp2_with fail
       exact ⟨⟨k + 1, HLT.out, by go_num, by rw [hL.out]; exact HX.out.drop 1⟩, by have := HLT.out; simp [intOf]; omega⟩
      ·have i7 : (k : Int) < t 7 := by omega
       go_wp2_with fail
       exact ⟨⟨k + 1, HLT.out, by go_num, by rw [hL.out]; exact HX.out.drop 1⟩, by have := HLT.out; simp [intOf]; omega⟩
  ·obtain rfl : k = l.length := by omega
   have i2 : ¬ ((l.length : Int) < l.length) := by omega
   go_wp2_with (first | ((first | (with_reducible first | refine sp_sk HO ?_ | refine sp_skc HO ?_) | (refine sp_wk HO rfl 36 _ _ rfl rfl rfl (by kernel_rfl) (by rfl) (by simp [Value.oneCell']) ?_)); clear HO; (try clear kk); intro W' HO; (try simp only [zTz, zTs, zTa] at HO); (try have kk := HO.kk)))
   refine bodyPost_ret_by (res_row rfl _ _ _ 36 #[.int .i64 0, .int .i64 0] _ _ rfl (HO.blk 4 rfl) Tryz.underlying36 rfl infoSpt) rfl ?_
   exact ⟨rfl, HO.below⟩
end Go.Proofs.YtindnnbopaeklaaGreatDoor
