/- Types: the one that an instruction makes: numbers, vectors. -/
import Derived.Test.YtlkolghiknbbfaaGreatDoorAr
set_option linter.unusedVariables false
set_option linter.unusedSimpArgs false
set_option maxRecDepth 100000
set_option maxHeartbeats 4000000
namespace Go.Proofs.YtlkolghiknbbfaaGreatDoor
open Go.RowKit Go.MapKept
theorem Mc (K T mb : Nat) (f : Nat → Option Ty) (i : In) (a : Option Addr) (cap : Nat) (r : Option dU) (w : World) (hK : w.cell? ⟨K, 0, none⟩ = some (.pointer (some ⟨T, 0, none⟩))) (hT : oC T mb f w) (hS : Sl 3 cz w a i.args) (hl : i.args.length ≤ 1048576) (h : jT f i r) (hop : i.op = 21) :
  Calls Tryz.prog 124 #[.pointer (some ⟨K, 0, none⟩), .agg #[.int .u16 i.op, .int .u32 i.ty, .int .u32 i.res, .slice a i.args.length cap]] w fun e w' => lJ w.heap.size r e w' ∧ Bl w w' := by
 have HO := Own.nil w;have zK := block_lt_of_cell hK;have HI := hid h;have HOP := hid hop;have HT := hid hT;have HS := hid hS;have HK := hid hK;clear h hT hS hK hop;go_enter Tryz.func124, Tryz.ntmps124;go_wp2_with (first | ((with_reducible refine aM HO ?_); clear HO; (try clear kk); intro g W' hg HO; rw [← hg.out]; clear hg; (try simp only [yT] at HO); have kk := HO.kk));have HO1 := HO;clear HO;obtain ⟨L0, hL, HO⟩ := bE HO1;clear HO1;replace HO := HO.row w.heap.size 22 1;have H0 := hid HO;clear HO;(try clear kk);obtain ⟨n, hnn⟩ : ∃ n, Hid (n = i.args.length) := ⟨_, hid rfl⟩;have hn1 : n ≤ 1048576 := by have := hnn.out; omega
 rw [← hnn.out];go_loopw [7, 9, 15] (fun x7 _ x15 wr => ∃ (k : Nat) (v : Value), k ≤ n ∧ x15 = .int .i64 k ∧ x7 = v ∧ Own aK w (bM w.heap.size 22 1 v k (om (i.args.take k)) :: L0) wr) (fun _ _ x _ => n - (intOf x).toNat)
 case atStart => exact ⟨0, .slice none 0 0, by omega, rfl, rfl, H0.out⟩
 case round =>
  obtain ⟨k, v, hk, rfl, rfl, HO⟩ := hrel;obtain ⟨av, cv, rfl, hx⟩ := HO.slice 0 rfl;clear hx H0;by_cases hlt : k < n
  ·have hkl : k < i.args.length := by have := hnn.out; omega
   obtain ⟨b, o, ha, hbl, hc⟩ := (HS.out.below cz.lasts HO.below).at_ (by omega);obtain ⟨e0, e1, e2, -, -, -⟩ := hc k hkl;have hsn := hid (iP hkl);have i2 : (k : Int) < (n : Int) := by omega
   have HLT := hid hlt;subst ha;clear hc;generalize i.args[k] = x at e0 e1 e2 hsn;clear hkl hlt;obtain ⟨kd, xn, xs⟩ := x;simp only at e0 e1 e2 hsn;(try simp only [yD] at HO); have kk := HO.kk;go_wp2_with (first | ((first | (with_reducible refine bf HO ?_; intro g hg; rw [← hg.out]; clear hg) | (with_reducible refine ah HO ?_) | (refine ay 64 HO ?_)); clear HO; (try clear kk); intro W' HO kk) | ((with_reducible refine aA ?_); refine bg HO gG 2 0 rfl rfl rfl _ _ rfl rfl rfl rfl (by simp [Value.oneCell']) (by omega) (by omega) (Nat.le_refl _) ?_; intro gm cm W' HO'; clear HO; (try clear kk); have HO := HO'; clear HO'; (try simp only [yD] at HO); have kk := HO.kk));exact ⟨⟨k + 1, _, HLT.out, by go_num, rfl, by rw [hsn.out]; exact HO.drop 2⟩, by have := HLT.out; simp [intOf]; omega⟩
  ·obtain rfl : k = n := by omega
   have i2 : ¬ ((k : Int) < k) := by omega
   rw [hL.out, List.take_of_length_le (by have := hnn.out; omega)] at HO;(try simp only [yD] at HO); have kk := HO.kk;go_upto_region 9 with (first | ((with_reducible refine aM HO ?_); clear HO; (try clear kk); intro g W' hg HO; rw [← hg.out]; clear hg; (try simp only [yT] at HO); have kk := HO.kk))
   try simp only [Act.put]
   (try clear kk);have hi := HI.out;clear HI hL i2 hlt hk
   cases hi with
   | other i h => exact absurd h (by rw [HOP.out]; decide)
   | void ty res => exact absurd HOP.out (show ¬ ((19 : Nat) = 21) by decide)
   | int ty res x y h hb =>
    dsimp only at HO hnn ⊢
    obtain ⟨xk, xn, xs⟩ := x;obtain ⟨yk, yn, ys⟩ := y;simp only at h hb;subst h;obtain rfl : k = 2 := hnn.out;obtain ⟨g3, rfl, hlo, hlt3, hcap3, hc3⟩ := HO.slice2 1 rfl (by omega);have r0 : W'.cell? ⟨g3, 0, none⟩ = some (.int .u32 32) := hc3 0 _ rfl;have r1 : W'.cell? ⟨g3, 1, none⟩ = some (.int .u32 yn) := hc3 1 _ rfl;clear hc3;rcases (show yn = 0 ∨ yn = 1 by omega) with rfl | rfl
    ·replace r1 : W'.cell? ⟨g3, 1, none⟩ = some (.int .u32 0) := r1
     (try simp only [yD] at HO); have kk := HO.kk;go_wp2_with (first | ((first | (with_reducible refine bf HO ?_; intro g hg; rw [← hg.out]; clear hg) | (with_reducible refine ah HO ?_) | (refine ay 227 HO ?_)); clear HO; (try clear kk); intro W' HO kk) | (refine bG 227 HO Tryz.underlying227 ?_));refine bodyPost_ret_by (dG rfl _ _ _ 227 #[.int .u8 3, .int .i64 1, .int .i64 1, .bool false, .int .u32 0, .int .u32 0, .int .i64 0, .slice none 0 0] _ _ rfl (HO.blk 2 rfl) Tryz.underlying227 rfl iW) rfl ?_;exact ⟨⟨(fun h => (by cases h)), fun d hd => by cases hd; exact ⟨⟨3, 1, 1, false, 0, 0, 0, none, 0, 0⟩, rfl, ⟨rfl, rfl, rfl, rfl, rfl, rfl, rfl, rfl, (fun h => (by cases h))⟩⟩⟩, HO.below⟩
    ·replace r1 : W'.cell? ⟨g3, 1, none⟩ = some (.int .u32 1) := r1
     (try simp only [yD] at HO); have kk := HO.kk;go_wp2_with (first | ((first | (with_reducible refine bf HO ?_; intro g hg; rw [← hg.out]; clear hg) | (with_reducible refine ah HO ?_) | (refine ay 227 HO ?_)); clear HO; (try clear kk); intro W' HO kk) | (refine bG 227 HO Tryz.underlying227 ?_));refine bodyPost_ret_by (dG rfl _ _ _ 227 #[.int .u8 3, .int .i64 1, .int .i64 1, .bool true, .int .u32 0, .int .u32 0, .int .i64 0, .slice none 0 0] _ _ rfl (HO.blk 2 rfl) Tryz.underlying227 rfl iW) rfl ?_;exact ⟨⟨(fun h => (by cases h)), fun d hd => by cases hd; exact ⟨⟨3, 1, 1, true, 0, 0, 0, none, 0, 0⟩, rfl, ⟨rfl, rfl, rfl, rfl, rfl, rfl, rfl, rfl, (fun h => (by cases h))⟩⟩⟩, HO.below⟩
   | vec ty res x y hk hn hd => exact absurd HOP.out (show ¬ ((23 : Nat) = 21) by decide)
   | ptr ty res x y hs => exact absurd HOP.out (show ¬ ((32 : Nat) = 21) by decide)
   | fn ty res x hk hs => exact absurd HOP.out (show ¬ ((33 : Nat) = 21) by decide)
theorem MC (K T mb : Nat) (f : Nat → Option Ty) (i : In) (a : Option Addr) (cap : Nat) (r : Option dU) (w : World) (hK : w.cell? ⟨K, 0, none⟩ = some (.pointer (some ⟨T, 0, none⟩))) (hT : oC T mb f w) (hS : Sl 3 cz w a i.args) (hl : i.args.length ≤ 1048576) (h : jT f i r) (hop : i.op = 23) :
  Calls Tryz.prog 124 #[.pointer (some ⟨K, 0, none⟩), .agg #[.int .u16 i.op, .int .u32 i.ty, .int .u32 i.res, .slice a i.args.length cap]] w fun e w' => lJ w.heap.size r e w' ∧ Bl w w' := by
 have HO := Own.nil w;have zK := block_lt_of_cell hK;have HI := hid h;have HOP := hid hop;have HT := hid hT;have HS := hid hS;have HK := hid hK;clear h hT hS hK hop;go_enter Tryz.func124, Tryz.ntmps124;go_wp2_with (first | ((with_reducible refine aM HO ?_); clear HO; (try clear kk); intro g W' hg HO; rw [← hg.out]; clear hg; (try simp only [yT] at HO); have kk := HO.kk));have HO1 := HO;clear HO;obtain ⟨L0, hL, HO⟩ := bE HO1;clear HO1;replace HO := HO.row w.heap.size 22 1;have H0 := hid HO;clear HO;(try clear kk);obtain ⟨n, hnn⟩ : ∃ n, Hid (n = i.args.length) := ⟨_, hid rfl⟩;have hn1 : n ≤ 1048576 := by have := hnn.out; omega
 rw [← hnn.out];go_loopw [7, 9, 15] (fun x7 _ x15 wr => ∃ (k : Nat) (v : Value), k ≤ n ∧ x15 = .int .i64 k ∧ x7 = v ∧ Own aK w (bM w.heap.size 22 1 v k (om (i.args.take k)) :: L0) wr) (fun _ _ x _ => n - (intOf x).toNat)
 case atStart => exact ⟨0, .slice none 0 0, by omega, rfl, rfl, H0.out⟩
 case round =>
  obtain ⟨k, v, hk, rfl, rfl, HO⟩ := hrel;obtain ⟨av, cv, rfl, hx⟩ := HO.slice 0 rfl;clear hx H0;by_cases hlt : k < n
  ·have hkl : k < i.args.length := by have := hnn.out; omega
   obtain ⟨b, o, ha, hbl, hc⟩ := (HS.out.below cz.lasts HO.below).at_ (by omega);obtain ⟨e0, e1, e2, -, -, -⟩ := hc k hkl;have hsn := hid (iP hkl);have i2 : (k : Int) < (n : Int) := by omega
   have HLT := hid hlt;subst ha;clear hc;generalize i.args[k] = x at e0 e1 e2 hsn;clear hkl hlt;obtain ⟨kd, xn, xs⟩ := x;simp only at e0 e1 e2 hsn;(try simp only [yD] at HO); have kk := HO.kk;go_wp2_with (first | ((first | (with_reducible refine bf HO ?_; intro g hg; rw [← hg.out]; clear hg) | (with_reducible refine ah HO ?_) | (refine ay 64 HO ?_)); clear HO; (try clear kk); intro W' HO kk) | ((with_reducible refine aA ?_); refine bg HO gG 2 0 rfl rfl rfl _ _ rfl rfl rfl rfl (by simp [Value.oneCell']) (by omega) (by omega) (Nat.le_refl _) ?_; intro gm cm W' HO'; clear HO; (try clear kk); have HO := HO'; clear HO'; (try simp only [yD] at HO); have kk := HO.kk));exact ⟨⟨k + 1, _, HLT.out, by go_num, rfl, by rw [hsn.out]; exact HO.drop 2⟩, by have := HLT.out; simp [intOf]; omega⟩
  ·obtain rfl : k = n := by omega
   have i2 : ¬ ((k : Int) < k) := by omega
   rw [hL.out, List.take_of_length_le (by have := hnn.out; omega)] at HO;(try simp only [yD] at HO); have kk := HO.kk;go_upto_region 9 with (first | ((with_reducible refine aM HO ?_); clear HO; (try clear kk); intro g W' hg HO; rw [← hg.out]; clear hg; (try simp only [yT] at HO); have kk := HO.kk))
   try simp only [Act.put]
   (try clear kk);have hi := HI.out;clear HI hL i2 hlt hk
   cases hi with
   | other i h => exact absurd h (by rw [HOP.out]; decide)
   | void ty res => exact absurd HOP.out (show ¬ ((19 : Nat) = 23) by decide)
   | int ty res x y h hb => exact absurd HOP.out (show ¬ ((21 : Nat) = 23) by decide)
   | vec ty res x y hk hn hd =>
    dsimp only at HO hnn ⊢
    obtain ⟨xk, xn, xs⟩ := x;obtain ⟨yk, yn, ys⟩ := y;simp only at hk hn hd;obtain rfl : k = 2 := hnn.out;obtain ⟨g3, rfl, hlo, hlt3, hcap3, hc3⟩ := HO.slice2 1 rfl (by omega);have r0 : W'.cell? ⟨g3, 0, none⟩ = some (.int .u32 xn) := hc3 0 _ rfl;have r1 : W'.cell? ⟨g3, 1, none⟩ = some (.int .u32 yn) := hc3 1 _ rfl;clear hc3;have cV : ∀ W, Bl w W → Qc 167 #[.pointer (some ⟨T, 0, none⟩), .int .u32 xn, .int .u32 yn] W (.tuple #[.agg #[.int .u8 4, .int .i64 yn, .int .i64 (((aV f xn).depth + 1 : Nat) : Int), .bool false, .int .u32 0, .int .u32 xn, .int .i64 yn, .slice none 0 0], .int .i64 0]) := fun W hb => zz T mb f xn yn W (HT.out.below hb) hk hn hd
    obtain ⟨dp, hdp⟩ : ∃ dp, Hid (dp = (aV f xn).depth + 1) := ⟨_, hid rfl⟩;rw [← hdp.out] at cV;have HKK : W'.cell? ⟨K, 0, none⟩ = some (.pointer (some ⟨T, 0, none⟩)) := (HO.old K 0 zK).trans HK.out;have zK' : K < W'.heap.size := Nat.lt_of_lt_of_le zK HO.size;have nK : K ≠ g := by have := HO.le 0 rfl; omega
    have n3 : g3 ≠ g := HO.neDom 1 0 rfl rfl (by omega) rfl;(try simp only [yD] at HO); have kk := HO.kk;(try replace kk := kk.2);go_wp2_with fail;have O0 := Only.refl g W';refine wp_region_held_drew (S := fun W => (∀ b j, b < W'.heap.size → b ≠ g → W.cell? ⟨b, j, none⟩ = W'.cell? ⟨b, j, none⟩) ∧ Only g W' W) (by kernel_rfl) (vT g W' _ (bz O0)) (fun hHeld => ?_);refine dA 0 ?_;refine dA 1 ?_;refine dA 2 ?_;refine dA 3 ?_;refine dA 4 ?_;refine dA 5 ?_;refine dA 6 ?_;refine dA 7 ?_;refine dA 8 ?_;refine dA 9 ?_;refine wpAnyH_ready (rs := [10]) (by kernel_rfl) (by simp) ?_;refine AllReadyH.cons (by simp only [yG]; rfl) (fun K hK => ?_) AllReadyH.nil;go_simp; go_at_call 167; (with_reducible refine (cV _ HO.drew.below).mono ?_); rintro e w1 ⟨rfl, hn⟩; have HO1 := HO.drew.then hn; have hn1 := hid hn; clear hn; go_simp
    refine hK.out _ _ ?_ (fun hHeld => ?_)
    ·(refine vT g W' _ ?_; repeat (first | exact O0 | refine bz ?_ | refine fM ?_ | refine fP ?_ | refine fJ ?_ | refine iE ?_ _ | refine eO ?_ hn1.out | refine eG ?_ (by first | assumption | omega)))
    clear hK K
    try simp only [Act.put, yT]
    refine dA 11 ?_;refine dA 12 ?_;refine dA 13 ?_;refine wpAnyH_ready (rs := [14]) (by kernel_rfl) (by simp) ?_;refine AllReadyH.cons (by simp only [yG]; rfl) (fun K hK => ?_) AllReadyH.nil
    (refine aL rfl (wp_store_row 227 (.tmp 10) (.tmp 68) rfl _ #[.int .u8 4, .int .i64 yn, .int .i64 dp, .bool false, .int .u32 0, .int .u32 xn, .int .i64 yn, .slice none 0 0] rfl rfl 227 _ (HO1.blk 0 rfl) iW rfl (by simp [Value.oneCell']) ?_))
    refine hK.out _ _ ?_ (fun hHeld => ?_)
    ·(refine vT g W' _ ?_; repeat (first | exact O0 | refine bz ?_ | refine fM ?_ | refine fP ?_ | refine fJ ?_ | refine iE ?_ _ | refine eO ?_ hn1.out | refine eG ?_ (by first | assumption | omega)))
    clear hK K
    try simp only [Act.put, yT]
    refine dA 15 ?_;refine wpAnyH_done (by kernel_rfl) ?_ _;refine gu (HO1.put 0 _ rfl) ?_;clear HO1 hn1 HO O0;intro W' HO;simp only [List.set_cons_zero] at HO;(try clear kk);(try simp only [yD] at HO); have kk := HO.kk;go_wp2_with (first | ((first | (with_reducible refine bf HO ?_; intro g hg; rw [← hg.out]; clear hg) | (with_reducible refine ah HO ?_) | (refine ay 227 HO ?_)); clear HO; (try clear kk); intro W' HO kk) | (refine bG 227 HO Tryz.underlying227 ?_));refine bodyPost_ret_by (dG rfl _ _ _ 227 #[.int .u8 4, .int .i64 yn, .int .i64 dp, .bool false, .int .u32 0, .int .u32 xn, .int .i64 yn, .slice none 0 0] _ _ rfl (HO.blk 2 rfl) Tryz.underlying227 rfl iW) rfl ?_;exact ⟨⟨fun h => (by cases h), fun d hd => by cases hd; exact ⟨⟨4, yn, dp, false, 0, xn, yn, none, 0, 0⟩, rfl, ⟨rfl, rfl, hdp.out, rfl, rfl, rfl, rfl, rfl, fun h => (by cases h)⟩⟩⟩, HO.below⟩
   | ptr ty res x y hs => exact absurd HOP.out (show ¬ ((32 : Nat) = 23) by decide)
   | fn ty res x hk hs => exact absurd HOP.out (show ¬ ((33 : Nat) = 23) by decide)
end Go.Proofs.YtlkolghiknbbfaaGreatDoor
