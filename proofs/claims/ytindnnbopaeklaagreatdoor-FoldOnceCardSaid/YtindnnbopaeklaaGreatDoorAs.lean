/- Types: the one that an instruction makes: numbers, vectors. -/
import Derived.Test.YtindnnbopaeklaaGreatDoorAr
namespace Go.Proofs.YtindnnbopaeklaaGreatDoor
set_option linter.unusedVariables false
set_option linter.unusedSimpArgs false
set_option maxRecDepth 100000
set_option maxHeartbeats 16000000
open Go.RowKit Go.MapKept
theorem one_int (K T mb : Nat) (f : Nat → Option Ty) (i : In) (a : Option Addr) (cap : Nat) (r : Option TyD) (w : World) (hK : w.cell? ⟨K, 0, none⟩ = some (.pointer (some ⟨T, 0, none⟩))) (hT : TbR T mb f w) (hS : Sl 3 AgAt w a i.args) (hl : i.args.length ≤ 1048576) (h : OneIs f i r) (hop : i.op = 21) :
  Calls Tryz.prog 90 #[.pointer (some ⟨K, 0, none⟩), .agg #[.int .u16 i.op, .int .u32 i.ty, .int .u32 i.res, .slice a i.args.length cap]] w fun e w' => OneEnd w.heap.size r e w' ∧ Below w.heap.size w w' := by
 have HO := Own.nil w
 have zK := block_lt_of_cell hK
 have HI := hid h
 have HOP := hid hop
 have HT := hid hT
 have HS := hid hS
 have HK := hid hK
 clear h hT hS hK hop
 go_enter Tryz.func90, Tryz.ntmps90
 go_wp2_with (first | ((with_reducible refine sp_alloc HO ?_); clear HO; (try clear kk); intro g W' hg HO; rw [← hg.out]; clear hg; (try simp only [zTz, zTs, zTa] at HO); (try have kk := HO.kk)))
 have HO1 := HO
 clear HO
 obtain ⟨L0, hL, HO⟩ := name_list HO1
 clear HO1
 replace HO := HO.row w.heap.size 23 1
 have H0 := hid HO
 clear HO
 (try clear kk)
 obtain ⟨n, hnn⟩ : ∃ n, Hid (n = i.args.length) := ⟨_, hid rfl⟩
 have hn1 : n ≤ 1048576 := by have := hnn.out; omega
 rw [← hnn.out]
 go_loopw [7, 9, 15] (fun x7 _ x15 wr => ∃ (k : Nat) (v : Value), k ≤ n ∧ x15 = .int .i64 k ∧ x7 = v ∧ Own noX w (rw_ w.heap.size 23 1 v k (numsV (i.args.take k)) :: L0) wr) (fun _ _ x _ => n - (intOf x).toNat)
 case atStart => exact ⟨0, .slice none 0 0, by omega, rfl, rfl, H0.out⟩
 case round =>
  obtain ⟨k, v, hk, rfl, rfl, HO⟩ := hrel
  obtain ⟨av, cv, rfl, hx⟩ := HO.slice 0 rfl
  clear hx H0
  by_cases hlt : k < n
  ·have hkl : k < i.args.length := by have := hnn.out; omega
   obtain ⟨b, o, ha, hbl, hc⟩ := (HS.out.below AgAt.lasts HO.below).at_ (by omega)
   obtain ⟨e0, e1, e2, -, -, -⟩ := hc k hkl
   have hsn := hid (numsV_snoc hkl)
   have i2 : (k : Int) < (n : Int) := by omega
   have HLT := hid hlt
   subst ha
   clear hc
   generalize i.args[k] = x at e0 e1 e2 hsn
   clear hkl hlt
   obtain ⟨kd, xn, xs⟩ := x
   simp only at e0 e1 e2 hsn
   (try simp only [zTz, zTs, zTa, zDs, zDz] at HO); (try have kk := HO.kk)
   go_wp2_with (first | ((first | (with_reducible refine sp_al HO ?_; intro g hg; rw [← hg.out]; clear hg) | (with_reducible first | refine sp_sk HO ?_ | refine sp_skc HO ?_) | (refine sp_wk HO rfl 45 _ _ rfl rfl rfl (by kernel_rfl) (by rfl) (by simp [Value.oneCell']) ?_)); clear HO; (try clear kk); intro W' HO; (try simp only [zTz, zTs, zTa] at HO); (try have kk := HO.kk)) | ((with_reducible refine at_append ?_); refine sp_append HO el_u32 2 0 rfl rfl rfl _ _ rfl rfl rfl rfl (by simp [Value.oneCell']) (by omega) (by omega) (Nat.le_refl _) ?_; intro gm cm W' HO'; clear HO; (try clear kk); have HO := HO'; clear HO'; (try simp only [zTz, zTs, zTa, zDs, zDz] at HO); (try have kk := HO.kk)))
   exact ⟨⟨k + 1, _, HLT.out, by go_num, rfl, by rw [hsn.out]; exact HO.drop 2⟩, by have := HLT.out; simp [intOf]; omega⟩
  ·obtain rfl : k = n := by omega
   have i2 : ¬ ((k : Int) < k) := by omega
   rw [hL.out, List.take_of_length_le (by have := hnn.out; omega)] at HO
   (try simp only [zTz, zTs, zTa, zDs, zDz] at HO); (try have kk := HO.kk)
   go_upto_region 9 with (first | ((with_reducible refine sp_alloc HO ?_); clear HO; (try clear kk); intro g W' hg HO; rw [← hg.out]; clear hg; (try simp only [zTz, zTs, zTa] at HO); (try have kk := HO.kk)))
   try simp only [Act.put]
   (try clear kk)
   have hi := HI.out
   clear HI hL i2 hlt hk
   cases hi with
   | other i h => exact absurd h (by rw [HOP.out]; decide)
   | void ty res => exact absurd HOP.out (show ¬ ((19 : Nat) = 21) by decide)
   | int ty res x y h hb =>
    dsimp only at HO hnn ⊢
    obtain ⟨xk, xn, xs⟩ := x
    obtain ⟨yk, yn, ys⟩ := y
    simp only at h hb
    subst h
    obtain rfl : k = 2 := hnn.out
    obtain ⟨g3, rfl, hlo, hlt3, hcap3, hc3⟩ := HO.slice2 1 rfl (by omega)
    have r0 : W'.cell? ⟨g3, 0, none⟩ = some (.int .u32 32) := hc3 0 _ rfl
    have r1 : W'.cell? ⟨g3, 1, none⟩ = some (.int .u32 yn) := hc3 1 _ rfl
    clear hc3
    rcases (show yn = 0 ∨ yn = 1 by omega) with rfl | rfl
    ·replace r1 : W'.cell? ⟨g3, 1, none⟩ = some (.int .u32 0) := r1
     (try simp only [zTz, zTs, zTa, zDs, zDz] at HO); (try have kk := HO.kk)
     go_wp2_with (first | ((first | (with_reducible refine sp_al HO ?_; intro g hg; rw [← hg.out]; clear hg) | (with_reducible first | refine sp_sk HO ?_ | refine sp_skc HO ?_) | (refine sp_wk HO rfl 146 _ _ rfl rfl rfl (by kernel_rfl) (by rfl) (by simp [Value.oneCell']) ?_)); clear HO; (try clear kk); intro W' HO; (try simp only [zTz, zTs, zTa] at HO); (try have kk := HO.kk)) | (refine sp_lk HO rfl 146 _ rfl rfl _ Tryz.underlying146 rfl (by kernel_rfl) ?_))
     refine bodyPost_ret_by (res_row_tmp_tmp rfl _ _ _ 146 #[.int .u8 3, .int .i64 1, .int .i64 1, .bool false, .int .u32 0, .int .u32 0, .int .i64 0, .slice none 0 0] _ _ rfl (HO.blk 2 rfl) Tryz.underlying146 rfl infoTy) rfl ?_
     exact ⟨⟨(fun h => (by cases h)), fun d hd => by cases hd; exact ⟨⟨3, 1, 1, false, 0, 0, 0, none, 0, 0⟩, rfl, ⟨rfl, rfl, rfl, rfl, rfl, rfl, rfl, rfl, (fun h => (by cases h))⟩⟩⟩, HO.below⟩
    ·replace r1 : W'.cell? ⟨g3, 1, none⟩ = some (.int .u32 1) := r1
     (try simp only [zTz, zTs, zTa, zDs, zDz] at HO); (try have kk := HO.kk)
     go_wp2_with (first | ((first | (with_reducible refine sp_al HO ?_; intro g hg; rw [← hg.out]; clear hg) | (with_reducible first | refine sp_sk HO ?_ | refine sp_skc HO ?_) | (refine sp_wk HO rfl 146 _ _ rfl rfl rfl (by kernel_rfl) (by rfl) (by simp [Value.oneCell']) ?_)); clear HO; (try clear kk); intro W' HO; (try simp only [zTz, zTs, zTa] at HO); (try have kk := HO.kk)) | (refine sp_lk HO rfl 146 _ rfl rfl _ Tryz.underlying146 rfl (by kernel_rfl) ?_))
     refine bodyPost_ret_by (res_row_tmp_tmp rfl _ _ _ 146 #[.int .u8 3, .int .i64 1, .int .i64 1, .bool true, .int .u32 0, .int .u32 0, .int .i64 0, .slice none 0 0] _ _ rfl (HO.blk 2 rfl) Tryz.underlying146 rfl infoTy) rfl ?_
     exact ⟨⟨(fun h => (by cases h)), fun d hd => by cases hd; exact ⟨⟨3, 1, 1, true, 0, 0, 0, none, 0, 0⟩, rfl, ⟨rfl, rfl, rfl, rfl, rfl, rfl, rfl, rfl, (fun h => (by cases h))⟩⟩⟩, HO.below⟩
   | vec ty res x y hk hn hd => exact absurd HOP.out (show ¬ ((23 : Nat) = 21) by decide)
   | ptr ty res x y hs => exact absurd HOP.out (show ¬ ((32 : Nat) = 21) by decide)
   | fn ty res x hk hs => exact absurd HOP.out (show ¬ ((33 : Nat) = 21) by decide)
theorem one_vec (K T mb : Nat) (f : Nat → Option Ty) (i : In) (a : Option Addr) (cap : Nat) (r : Option TyD) (w : World) (hK : w.cell? ⟨K, 0, none⟩ = some (.pointer (some ⟨T, 0, none⟩))) (hT : TbR T mb f w) (hS : Sl 3 AgAt w a i.args) (hl : i.args.length ≤ 1048576) (h : OneIs f i r) (hop : i.op = 23) :
  Calls Tryz.prog 90 #[.pointer (some ⟨K, 0, none⟩), .agg #[.int .u16 i.op, .int .u32 i.ty, .int .u32 i.res, .slice a i.args.length cap]] w fun e w' => OneEnd w.heap.size r e w' ∧ Below w.heap.size w w' := by
 have HO := Own.nil w
 have zK := block_lt_of_cell hK
 have HI := hid h
 have HOP := hid hop
 have HT := hid hT
 have HS := hid hS
 have HK := hid hK
 clear h hT hS hK hop
 go_enter Tryz.func90, Tryz.ntmps90
 go_wp2_with (first | ((with_reducible refine sp_alloc HO ?_); clear HO; (try clear kk); intro g W' hg HO; rw [← hg.out]; clear hg; (try simp only [zTz, zTs, zTa] at HO); (try have kk := HO.kk)))
 have HO1 := HO
 clear HO
 obtain ⟨L0, hL, HO⟩ := name_list HO1
 clear HO1
 replace HO := HO.row w.heap.size 23 1
 have H0 := hid HO
 clear HO
 (try clear kk)
 obtain ⟨n, hnn⟩ : ∃ n, Hid (n = i.args.length) := ⟨_, hid rfl⟩
 have hn1 : n ≤ 1048576 := by have := hnn.out; omega
 rw [← hnn.out]
 go_loopw [7, 9, 15] (fun x7 _ x15 wr => ∃ (k : Nat) (v : Value), k ≤ n ∧ x15 = .int .i64 k ∧ x7 = v ∧ Own noX w (rw_ w.heap.size 23 1 v k (numsV (i.args.take k)) :: L0) wr) (fun _ _ x _ => n - (intOf x).toNat)
 case atStart => exact ⟨0, .slice none 0 0, by omega, rfl, rfl, H0.out⟩
 case round =>
  obtain ⟨k, v, hk, rfl, rfl, HO⟩ := hrel
  obtain ⟨av, cv, rfl, hx⟩ := HO.slice 0 rfl
  clear hx H0
  by_cases hlt : k < n
  ·have hkl : k < i.args.length := by have := hnn.out; omega
   obtain ⟨b, o, ha, hbl, hc⟩ := (HS.out.below AgAt.lasts HO.below).at_ (by omega)
   obtain ⟨e0, e1, e2, -, -, -⟩ := hc k hkl
   have hsn := hid (numsV_snoc hkl)
   have i2 : (k : Int) < (n : Int) := by omega
   have HLT := hid hlt
   subst ha
   clear hc
   generalize i.args[k] = x at e0 e1 e2 hsn
   clear hkl hlt
   obtain ⟨kd, xn, xs⟩ := x
   simp only at e0 e1 e2 hsn
   (try simp only [zTz, zTs, zTa, zDs, zDz] at HO); (try have kk := HO.kk)
   go_wp2_with (first | ((first | (with_reducible refine sp_al HO ?_; intro g hg; rw [← hg.out]; clear hg) | (with_reducible first | refine sp_sk HO ?_ | refine sp_skc HO ?_) | (refine sp_wk HO rfl 45 _ _ rfl rfl rfl (by kernel_rfl) (by rfl) (by simp [Value.oneCell']) ?_)); clear HO; (try clear kk); intro W' HO; (try simp only [zTz, zTs, zTa] at HO); (try have kk := HO.kk)) | ((with_reducible refine at_append ?_); refine sp_append HO el_u32 2 0 rfl rfl rfl _ _ rfl rfl rfl rfl (by simp [Value.oneCell']) (by omega) (by omega) (Nat.le_refl _) ?_; intro gm cm W' HO'; clear HO; (try clear kk); have HO := HO'; clear HO'; (try simp only [zTz, zTs, zTa, zDs, zDz] at HO); (try have kk := HO.kk)))
   exact ⟨⟨k + 1, _, HLT.out, by go_num, rfl, by rw [hsn.out]; exact HO.drop 2⟩, by have := HLT.out; simp [intOf]; omega⟩
  ·obtain rfl : k = n := by omega
   have i2 : ¬ ((k : Int) < k) := by omega
   rw [hL.out, List.take_of_length_le (by have := hnn.out; omega)] at HO
   (try simp only [zTz, zTs, zTa, zDs, zDz] at HO); (try have kk := HO.kk)
   go_upto_region 9 with (first | ((with_reducible refine sp_alloc HO ?_); clear HO; (try clear kk); intro g W' hg HO; rw [← hg.out]; clear hg; (try simp only [zTz, zTs, zTa] at HO); (try have kk := HO.kk)))
   try simp only [Act.put]
   (try clear kk)
   have hi := HI.out
   clear HI hL i2 hlt hk
   cases hi with
   | other i h => exact absurd h (by rw [HOP.out]; decide)
   | void ty res => exact absurd HOP.out (show ¬ ((19 : Nat) = 23) by decide)
   | int ty res x y h hb => exact absurd HOP.out (show ¬ ((21 : Nat) = 23) by decide)
   | vec ty res x y hk hn hd =>
    dsimp only at HO hnn ⊢
    obtain ⟨xk, xn, xs⟩ := x
    obtain ⟨yk, yn, ys⟩ := y
    simp only at hk hn hd
    obtain rfl : k = 2 := hnn.out
    obtain ⟨g3, rfl, hlo, hlt3, hcap3, hc3⟩ := HO.slice2 1 rfl (by omega)
    have r0 : W'.cell? ⟨g3, 0, none⟩ = some (.int .u32 xn) := hc3 0 _ rfl
    have r1 : W'.cell? ⟨g3, 1, none⟩ = some (.int .u32 yn) := hc3 1 _ rfl
    clear hc3
    have cV : ∀ W, Below w.heap.size w W → Calls Tryz.prog 130 #[.pointer (some ⟨T, 0, none⟩), .int .u32 xn, .int .u32 yn] W fun e w' => e = .returned (.tuple #[.agg #[.int .u8 4, .int .i64 yn, .int .i64 (((getT f xn).depth + 1 : Nat) : Int), .bool false, .int .u32 0, .int .u32 xn, .int .i64 yn, .slice none 0 0], .int .i64 0]) ∧ Below W.heap.size W w' := fun W hb => tvector_own T mb f xn yn W (HT.out.below hb) hk hn hd
    obtain ⟨dp, hdp⟩ : ∃ dp, Hid (dp = (getT f xn).depth + 1) := ⟨_, hid rfl⟩
    rw [← hdp.out] at cV
    have HKK : W'.cell? ⟨K, 0, none⟩ = some (.pointer (some ⟨T, 0, none⟩)) := (HO.old K 0 zK).trans HK.out
    have zK' : K < W'.heap.size := Nat.lt_of_lt_of_le zK HO.size
    have nK : K ≠ g := by have := HO.le 0 rfl; omega
    have n3 : g3 ≠ g := HO.neDom 1 0 rfl rfl (by omega) rfl
    (try simp only [zTz, zTs, zTa, zDs, zDz] at HO); (try have kk := HO.kk)
    (try replace kk := kk.2)
    go_wp2_with fail
    have O0 := Only.refl g W'
    refine wp_region_held_drew (S := fun W => (∀ b j, b < W'.heap.size → b ≠ g → W.cell? ⟨b, j, none⟩ = W'.cell? ⟨b, j, none⟩) ∧ Only g W' W) (by kernel_rfl) (mkX g W' _ (only_drew O0)) (fun hHeld => ?_)
    refine hTp 0 ?_
    refine hTp 1 ?_
    refine hTp 2 ?_
    refine hTp 3 ?_
    refine hTp 4 ?_
    refine hTp 5 ?_
    refine hTp 6 ?_
    refine hTp 7 ?_
    refine hTp 8 ?_
    refine hTp 9 ?_
    refine wpAnyH_ready (rs := [10]) (by kernel_rfl) (by simp) ?_
    refine AllReadyH.cons (by simp only [zGa, zGs, zGz]; rfl) (fun K hK => ?_) AllReadyH.nil
    go_simp; go_at_call 130; (with_reducible refine (cV _ HO.drew.below).mono ?_); rintro e w1 ⟨rfl, hn⟩; have HO1 := HO.drew.then hn; have hn1 := hid hn; clear hn; go_simp
    refine hK.out _ _ ?_ (fun hHeld => ?_)
    ·(refine mkX g W' _ ?_; repeat (first | exact O0 | refine only_drew ?_ | refine only_set ?_ | refine only_row ?_ | refine only_map ?_ | refine only_al ?_ _ | refine only_call ?_ hn1.out | refine only_setc ?_ (by first | assumption | omega)))
    clear hK K
    try simp only [Act.put, zTa, zTz, zTs]
    refine hTp 11 ?_
    refine hTp 12 ?_
    refine hTp 13 ?_
    refine wpAnyH_ready (rs := [14]) (by kernel_rfl) (by simp) ?_
    refine AllReadyH.cons (by simp only [zGa, zGs, zGz]; rfl) (fun K hK => ?_) AllReadyH.nil
    (refine st_plain rfl (wp_store_row 146 (.tmp 10) (.tmp 68) rfl _ #[.int .u8 4, .int .i64 yn, .int .i64 dp, .bool false, .int .u32 0, .int .u32 xn, .int .i64 yn, .slice none 0 0] rfl rfl 146 _ (HO1.blk 0 rfl) infoTy rfl (by simp [Value.oneCell']) ?_))
    refine hK.out _ _ ?_ (fun hHeld => ?_)
    ·(refine mkX g W' _ ?_; repeat (first | exact O0 | refine only_drew ?_ | refine only_set ?_ | refine only_row ?_ | refine only_map ?_ | refine only_al ?_ _ | refine only_call ?_ hn1.out | refine only_setc ?_ (by first | assumption | omega)))
    clear hK K
    try simp only [Act.put, zTa, zTz, zTs]
    refine hTp 15 ?_
    refine wpAnyH_done (by kernel_rfl) ?_ _
    refine sp_exit (HO1.put 0 _ rfl) ?_
    clear HO1 hn1 HO O0
    intro W' HO
    simp only [List.set_cons_zero] at HO
    (try clear kk)
    (try simp only [zTz, zTs, zTa, zDs, zDz] at HO); (try have kk := HO.kk)
    go_wp2_with (first | ((first | (with_reducible refine sp_al HO ?_; intro g hg; rw [← hg.out]; clear hg) | (with_reducible first | refine sp_sk HO ?_ | refine sp_skc HO ?_) | (refine sp_wk HO rfl 146 _ _ rfl rfl rfl (by kernel_rfl) (by rfl) (by simp [Value.oneCell']) ?_)); clear HO; (try clear kk); intro W' HO; (try simp only [zTz, zTs, zTa] at HO); (try have kk := HO.kk)) | (refine sp_lk HO rfl 146 _ rfl rfl _ Tryz.underlying146 rfl (by kernel_rfl) ?_))
    refine bodyPost_ret_by (res_row_tmp_tmp rfl _ _ _ 146 #[.int .u8 4, .int .i64 yn, .int .i64 dp, .bool false, .int .u32 0, .int .u32 xn, .int .i64 yn, .slice none 0 0] _ _ rfl (HO.blk 2 rfl) Tryz.underlying146 rfl infoTy) rfl ?_
    exact ⟨⟨fun h => (by cases h), fun d hd => by cases hd; exact ⟨⟨4, yn, dp, false, 0, xn, yn, none, 0, 0⟩, rfl, ⟨rfl, rfl, hdp.out, rfl, rfl, rfl, rfl, rfl, fun h => (by cases h)⟩⟩⟩, HO.below⟩
   | ptr ty res x y hs => exact absurd HOP.out (show ¬ ((32 : Nat) = 23) by decide)
   | fn ty res x hk hs => exact absurd HOP.out (show ¬ ((33 : Nat) = 23) by decide)
end Go.Proofs.YtindnnbopaeklaaGreatDoor
