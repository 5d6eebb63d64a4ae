/- Ids: Check of a module whose ids are sound. -/
import Derived.Test.YtlkolghiknbbfaaGreatDoorAp
import Derived.Test.YtlkolghiknbbfaaGreatDoorAo
set_option linter.unusedVariables false
set_option linter.unusedSimpArgs false
set_option maxRecDepth 100000
set_option maxHeartbeats 4000000
namespace Go.Proofs.YtlkolghiknbbfaaGreatDoor
open Go.RowKit Go.MapKept
structure nC (l : List In) (t : Nat → Nat) : Prop where
 once : ∀ k (h : k < l.length), l[k].res ≠ 0 → ∃ j, mkK l l.length l[k].res = some j ∧ k ≤ j
 known : ∀ k (h : k < l.length), ∀ id ∈ aX l[k], ∃ j, mkK l l.length id = some j ∧ (t 7 ≤ k → k < t 8 → j < k)
theorem bE {X : Nat → Prop} {w W : World} {L : List As} (h : Own X w L W) : ∃ L0, Hid (L0 = L) ∧ Own X w L0 W := ⟨L, hid rfl, h⟩
theorem Kz {X : Nat → Prop} {w W : World} {L : List As} {mb : Nat} {f : Nat → Option Nat} (h : Own X w L W) (i : Nat) (hi : L[i]? = some (iO (.int .u32) bR encI mb f)) {id j : Nat} (hf : f id = some j) (c : Bool) :
  (Instr.lookup 126 (.map (some mb)) (.int .u32 id) c).run Tryz.prog W = .ok (if c then .tuple #[.int .i64 j, .bool true] else .int .i64 j) W := by
 obtain ⟨v, hv, hr⟩ := Mp.hit (h.at i hi) dK Tryz.underlying126 Tryz.underlying22 hf;subst hv;exact hr c
theorem NL {X : Nat → Prop} {w W : World} {L : List As} {mb : Nat} {f : Nat → Option Nat} (h : Own X w L W) (i : Nat) (hi : L[i]? = some (iO (.int .u32) bR encI mb f)) {id j : Nat} (hf : f id = some j) :
  (Instr.lookup 126 (.map (some mb)) (.int .u32 id) false).run Tryz.prog W = .ok (.int .i64 j) W := Kz h i hi hf false
theorem Ic {X : Nat → Prop} {w W : World} {L : List As} {mb : Nat} {f : Nat → Option Nat} (h : Own X w L W) (i : Nat) (hi : L[i]? = some (iO (.int .u32) bR encI mb f)) {id j : Nat} (hf : f id = some j) :
  (Instr.lookup 126 (.map (some mb)) (.int .u32 id) true).run Tryz.prog W = .ok (.tuple #[.int .i64 j, .bool true]) W := Kz h i hi hf true
theorem BS (t : Nat → Nat) (n : Nat) : (dW t n).toArray.all (·.oneCell') = true := by simp [dW, Value.oneCell']
theorem qy (t : Nat → Nat) (n : Nat) : (dW t n).toArray.size = 20 := by simp [dW]
theorem zN (t : Nat → Nat) (n : Nat) : (Tryz.prog.info? 155).map (·.size) = some (dW t n).toArray.size := by rw [qy]; kernel_rfl
theorem iX (gen bound : Nat) (b o cap : Nat) (l : List In) (sv : Nat → Option Addr × Nat) (t : Nat → Nat) (m : Nat) (w : World) (hM : Ms w b o l sv) (hs : iN bound l) (ht : jf l t m) (hi : nC l t) :
  Qc 91 #[.agg #[.int .u32 gen, .int .u32 bound, .slice (some ⟨b, o, none⟩) l.length cap]] w (.agg #[.int .i64 0, .int .i64 0]) := by
 have hn := hs.len;have cP : ∀ W, Bl w W → Qc 88 #[.agg #[.int .u32 gen, .int .u32 bound, .slice (some ⟨b, o, none⟩) l.length cap]] W (.tuple #[lN t l.length, .agg #[.int .i64 0, .int .i64 0]]) := fun W hW => uY gen bound _ cap l t m W (hM.below hW).back hs ht
 have cM : ∀ W, Bl w W → Calls Tryz.prog 131 #[.slice (some ⟨b, o, none⟩) l.length cap] W fun e w' => ∃ m, e = .returned (.map (some m)) ∧ Own aK W [iO (.int .u32) bR encI m (mkK l l.length)] w' := fun W hW => CF b o cap l sv W (hM.below hW) hn
 have cI := fun i sa sc W h hl => rA i sa sc W h hl
 have HM := hid hM;have HI := hid hi;clear hM hs ht hi;have HO := Own.nil w;go_enter Tryz.func91, Tryz.ntmps91;go_wp2_with (first | (((with_reducible refine aB HO ?_); intro g hg; rw [← hg.out]; clear hg); clear HO; (try clear kk); intro W' HO kk));go_step3;go_wp2_with (first | ((first | (with_reducible refine bf HO ?_; intro g hg; rw [← hg.out]; clear hg) | (with_reducible refine ah HO ?_) | (refine ay 39 HO ?_)); clear HO; (try clear kk); intro W' HO kk) | (refine bG 34 HO Tryz.underlying34 ?_) | (refine bG 39 HO Tryz.underlying39 ?_) | (refine tu 1 HO rfl rfl 155 _ _ rfl rfl rfl (zN t l.length) (by rw [qy]; rfl) (BS t l.length) ?_; clear HO; (try clear kk); intro W' HO; (try simp only [yT] at HO); have kk := HO.kk) | (go_at_call 88; with_reducible refine bq HO (cP _ HO.below) ?_; clear HO; (try clear kk); intro w1 HO kk));refine (cM _ HO.below).mono ?_;rintro e w2 ⟨mb, rfl, hm⟩;replace HO := HO.app hm;simp only [List.cons_append, List.nil_append] at HO;clear hm cM cP;(try clear kk);have k2 := HO.cells 2 rfl 14;have k3 := HO.cells 2 rfl 15;have p2 : (dW t l.length).toArray[14]? = some (.int .i64 (t 7)) := by simp [dW]; rfl
 have p3 : (dW t l.length).toArray[15]? = some (.int .i64 (t 8)) := by simp [dW]; rfl
 rw [p2] at k2;rw [p3] at k3;have k4 := HO.cells 4 rfl;go_wp2_with (first | ((first | (with_reducible refine bf HO ?_; intro g hg; rw [← hg.out]; clear hg) | (with_reducible refine ah HO ?_) | (refine ay 154 HO ?_)); clear HO; (try clear kk); intro W' HO kk));go_step3;go_wp2_with fail;obtain ⟨L0, hL, HO⟩ := bE HO;have H0 := hid HO;(try clear kk);clear k2 k3 k4 HO p2 p3;go_loopw [7, 8, 9, 11, 12, 13, 31, 52] (fun _ _ _ _ _ _ x31 _ wr => ∃ k : Nat, k ≤ l.length ∧ x31 = .int .i64 k ∧ Own aK w L0 wr) (fun _ _ _ _ _ _ x _ _ => l.length - (intOf x).toNat)
 case atStart => exact ⟨0, by omega, rfl, H0.out⟩
 case round =>
  obtain ⟨k, hk, rfl, HO⟩ := hrel;rw [hL.out] at HO;by_cases hlt : k < l.length
  ·have hM := HM.out.below HO.below
   have e0 := hM.op k hlt;have e1 := hM.ty k hlt;have e2 := hM.res k hlt;have e3 := hM.args k hlt;have zb := hM.lt;have i2 : (k : Int) < l.length := by omega
   have hsl := hid (HM.out.sl k hlt);have hal := hid (hM.len k hlt);have h1 := hid (HI.out.once k hlt);have h2 := hid (HI.out.known k hlt);have HLT := hid hlt;have hT := HM.out.below HO.below;clear hM hT;generalize l[k] = i at e0 e1 e2 e3 hsl hal h1 h2;clear hlt;generalize sv k = s at e3 hsl;obtain ⟨sa, sc⟩ := s;simp only at e3 hsl;have hN := hid (rfl : i.args.length = i.args.length);go_upto_region 9 with (first | ((first | (with_reducible refine bf HO ?_; intro g hg; rw [← hg.out]; clear hg) | (with_reducible refine ah HO ?_) | (refine ay 73 HO ?_)); clear HO; (try clear kk); intro W' HO kk))
   have HO1 := hid HO
   try simp only [Act.put]
   go_cut [46] (fun s46 wx => s46 = .bool false ∧ wx = W')
   case first =>
    by_cases hr : i.res = 0
    ·go_wp2_with fail
     go_meet;exact ⟨rfl, rfl⟩
    ·obtain ⟨jr, hj, hkj⟩ := h1.out hr
     have t1 : ¬ ((jr : Int) < k) := by omega
     have hlk := NL HO 2 rfl hj;have HKJ := hid hkj;clear hj hkj;go_wp2_with fail;go_meet;exact ⟨rfl, rfl⟩
   case rest =>
   obtain ⟨rfl, rfl⟩ := hcut;go_wp2_with fail;go_at_call 132;have hcc := cI i sa sc wc (hsl.out.below cz.lasts HO.below) hal.out;have hnl := hid (show (aX i).length ≤ 1048577 from Nat.le_trans (kH i _) (by have := hal.out; omega))
   with_reducible refine Calls.mono hcc ?_
   rintro e w3 ⟨⟨v, rfl, hv⟩, hn3⟩;obtain ⟨va, vc, rfl, hids⟩ := ma hv;replace HO := HO.then hn3
   clear hv hn3 hcc;(try clear kk);have HX := hid HO;have HQ := hid hids;clear HO hids;have i2 := hn;go_wp2_with fail
   rename World => wq
   go_loopw [9, 11, 12, 13, 52] (fun x9 _ _ _ x52 wv => ∃ (j : Nat) (bb : Bool), j ≤ (aX i).length ∧ x52 = .int .i64 j ∧ x9 = .bool bb ∧ (t 7 ≤ k → k < t 8 → bb = false) ∧ wv = wq) (fun _ _ _ _ x _ => (aX i).length - (intOf x).toNat)
   case atStart => exact ⟨0, false, by omega, rfl, rfl, fun _ _ => rfl, rfl⟩
   case round =>
    obtain ⟨j, bb, hj, rfl, rfl, hbb, rfl⟩ := hrel;have HB := hid hbb;clear hbb;by_cases hjl : j < (aX i).length
    ·obtain ⟨mk, hm1, hm2⟩ := h2.out _ (List.getElem_mem hjl)
     obtain ⟨qb, qo, ha, hql, hqc⟩ := HQ.out.at_ (by omega);subst ha;have q1 : wr.cell? ⟨qb, qo + j * 1, none⟩ = some (.int .u32 (aX i)[j]) := hqc j hjl;rw [Nat.mul_one] at q1;have hlk := Ic HX.out 2 rfl hm1;have i3 : (j : Int) < (aX i).length := by omega
     have HM2 := hid hm2;have HJL := hid hjl;clear hm1 hm2 hqc;generalize (aX i)[j] = idj at q1 hlk;have hnl2 := hnl.out;generalize (aX i).length = nids at hj hjl i3 HJL hnl2;clear hjl
     cases bb
     ·go_wp2_with fail
      exact ⟨⟨j + 1, decide (k ≤ mk), HJL.out, by go_num, rfl, fun a b => by have := HM2.out a b; simp; omega, trivial⟩, by simp [intOf]; omega⟩
     ·go_wp2_with fail
      exact ⟨⟨j + 1, true, HJL.out, by go_num, rfl, HB.out, trivial⟩, by simp [intOf]; omega⟩
    ·obtain rfl : j = (aX i).length := by omega
     have i3 : ¬ (((aX i).length : Int) < (aX i).length) := by omega
     have k1 := Own.cells HX.out 1 rfl
     cases bb
     ·go_wp2_with fail
      exact ⟨⟨k + 1, HLT.out, by go_num, by rw [hL.out]; exact HX.out.drop 1⟩, by have := HLT.out; simp [intOf]; omega⟩
     ·by_cases h7 : t 7 ≤ k
      ·have h8 : ¬ k < t 8 := fun h8 => by cases HB.out h7 h8
       have i7 : ¬ ((k : Int) < t 7) := by omega
       have i8 : ¬ ((k : Int) < t 8) := by omega
       have i9 : (t 8 : Int) ≤ k := by omega
       go_wp2_with fail;exact ⟨⟨k + 1, HLT.out, by go_num, by rw [hL.out]; exact HX.out.drop 1⟩, by have := HLT.out; simp [intOf]; omega⟩
      ·have i7 : (k : Int) < t 7 := by omega
       go_wp2_with fail;exact ⟨⟨k + 1, HLT.out, by go_num, by rw [hL.out]; exact HX.out.drop 1⟩, by have := HLT.out; simp [intOf]; omega⟩
  ·obtain rfl : k = l.length := by omega
   have i2 : ¬ ((l.length : Int) < l.length) := by omega
   go_wp2_with (first | ((first | (with_reducible refine ah HO ?_) | (refine ay 39 HO ?_)); clear HO; (try clear kk); intro W' HO kk));refine bodyPost_ret_by (bF rfl _ _ _ 39 #[.int .i64 0, .int .i64 0] _ _ rfl (HO.blk 4 rfl) Tryz.underlying39 rfl aC) rfl ?_;exact ⟨rfl, HO.below⟩
end Go.Proofs.YtlkolghiknbbfaaGreatDoor
