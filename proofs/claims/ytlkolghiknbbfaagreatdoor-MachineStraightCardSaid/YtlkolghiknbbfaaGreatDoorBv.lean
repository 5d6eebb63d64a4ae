/- The kit: the straight module, made. -/
import Derived.Test.YtlkolghiknbbfaaGreatDoorBu
set_option linter.unusedVariables false
set_option linter.unusedSimpArgs false
set_option maxRecDepth 100000
set_option maxHeartbeats 4000000
namespace Go.Proofs.YtlkolghiknbbfaaGreatDoor
open Go.RowKit
theorem uS (b o cap n : Nat) (ln : Nat → Nat × Int × Int) (ad : Option Addr) (w : World) (hn : n ≤ 1000) (hA : 0 < n → ad = some ⟨b, o, none⟩) (hl : wP w b o n ln) :
  Calls Tryz.prog 7 #[.slice ad n cap] w fun e w' => JH n (xW ln) w e w' := by
 have HA := hid hA;clear hA;have HO := Own.nil w;have HL := hid hl;clear hl;go_enter Tryz.func7, Tryz.ntmps7;go_wp2_with (first | ((first | ((with_reducible refine aB HO ?_); intro g hg; rw [← hg.out]; clear hg) | (with_reducible refine ah HO ?_) | (refine ay 34 HO ?_)); clear HO; (try clear kk); intro W' HO kk));rename_i gR W1 W2 K1 a1;obtain ⟨gm, rfl⟩ : ∃ q, q = g := ⟨_, rfl⟩;replace HO := HO.free (A := fD (fun _ => False) []) (fun k hk => hk) (fun x h => by cases h);replace HO := (HO.perm (List.Perm.swap _ _ _)).row w.heap.size 73 4;obtain ⟨L0, hL0⟩ : ∃ L0, Hid (L0 = [blk gR (Obj.cells #[.int .u32 0, .int .u32 0, .slice none 0 0] 34 (0, 0))]) := ⟨_, hid rfl⟩;rw [← hL0.out] at HO;have HS := hid (show iJ w gm (30 + n) L0 [] W' from ⟨[], _, _, ⟨rfl, fun x h => by cases h⟩, HO⟩);clear HO;(try clear kk)
 try simp only [Act.put, yT]
 obtain ⟨p, v, D, hp, HO⟩ := HS.out.at_;have hpl : p.length = 0 := bD hp;unfold og at HO;rw [hpl] at HO;clear HS;refine aU (by kernel_rfl) ?_;refine jP 0 ?_;refine jM 2 15 (fun w => (dw 0 w)) ?_;refine jM 3 15 (fun w => (dw 0 w)) ?_;refine dz [1, 4] fun W2 hW2 => ?_
 replace HO := HO.drew.then hW2
 clear hW2;apply bA
 case h2 =>
  intro key;have k1 := HO.cells 1 rfl;refine uA (fun K hK => ?_) fun K hK => ?_
  ·go_simp
   refine bL hK ?_;clear hK K k1;refine dz [4] fun W3 hW3 => ?_
   have HN := HO.then hW3
   refine dV (fun K hK => ?_);go_simp;refine bL hK ?_;clear hK K;refine aH HN ?_;generalize W3.heap.size = H;intro W4 HN2;exact key H W4 HN2
  ·go_simp
   refine bL hK ?_;clear hK K k1;refine aH HO ?_;generalize W2.heap.size = H;intro W3 HN;refine dz [1] fun W4 hW4 => ?_
   replace HN := HN.then hW4
   have k1 := HN.cells 2 rfl;refine dV (fun K hK => ?_);go_simp;refine bL hK ?_;clear hK K k1;exact key H W4 HN
 clear HO;intro H W4 HO;refine dz [5] fun W5 hW5 => ?_
 replace HO := HO.then hW5
 clear hW5 W4;refine dV (fun K hK => ?_);go_simp;go_at_call 14;have cc := bn w v _ _ _ (14) (0) (0) (some ⟨H, 0, none⟩) 2 2 W5 (HO.perm (List.Perm.swap _ _ _)) (by omega);refine cc.mono ?_;clear cc HO;rintro e W6 ⟨g6, c6, rfl, HO⟩;refine bL hK ?_;clear hK K;refine jP 6 ?_;refine dz [7] fun W7 hW7 => ?_
 replace HO := HO.then hW7
 clear hW7;have k1 := HO.cells 2 rfl;have m1 := HO.melt 2 rfl;refine dV (fun K hK => ?_);go_simp;refine bL hK ?_;clear hK K k1 m1;replace HO := HO.set 2 2 (.slice (some ⟨g6, 0, none⟩) (0 + 1) c6) rfl;simp only [yT] at HO;refine uC fun W8 hW8 => ?_
 replace HO := HO.then hW8
 clear hW8 W5 W6;have HS : Hid (iJ w gm (30 + n) L0 (ax.take 1) W8) := hid (iJ.push (l := ax.take 0) (i := ⟨14, 0, 0, [kv 0, kv 0]⟩) HO 2 hp (by rw [hpl]) rfl rfl);clear HO hp hpl;obtain ⟨p, v, D, hp, HO⟩ := HS.out.at_;have hpl : p.length = 1 := bD hp;unfold og at HO;rw [hpl] at HO;clear HS;go_wp2_with fail;refine aU (by kernel_rfl) ?_;refine jP 0 ?_;refine jM 2 15 (fun w => (dw 0 w)) ?_;refine jM 3 16 (fun w => (bZ 20 w)) ?_;refine jM 4 17 (fun w => (GM ⟨#[109, 97, 105, 110]⟩ w)) ?_;refine jM 5 16 (fun w => (bZ 10 w)) ?_;refine jM 6 16 (fun w => (bZ 11 w)) ?_;refine jM 7 16 (fun w => (bZ 12 w)) ?_;refine jM 8 16 (fun w => (bZ 13 w)) ?_;refine dz [1, 9] fun W2 hW2 => ?_
 replace HO := HO.drew.then hW2
 clear hW2;apply bA
 case h2 =>
  intro key;have k1 := HO.cells 1 rfl;refine uA (fun K hK => ?_) fun K hK => ?_
  ·go_simp
   refine bL hK ?_;clear hK K k1;refine dz [9] fun W3 hW3 => ?_
   have HN := HO.then hW3
   refine dV (fun K hK => ?_);go_simp;refine bL hK ?_;clear hK K;refine aH HN ?_;generalize W3.heap.size = H;intro W4 HN2;exact key H W4 HN2
  ·go_simp
   refine bL hK ?_;clear hK K k1;refine aH HO ?_;generalize W2.heap.size = H;intro W3 HN;refine dz [1] fun W4 hW4 => ?_
   replace HN := HN.then hW4
   have k1 := HN.cells 2 rfl;refine dV (fun K hK => ?_);go_simp;refine bL hK ?_;clear hK K k1;exact key H W4 HN
 clear HO;intro H W4 HO;refine dz [10] fun W5 hW5 => ?_
 replace HO := HO.then hW5
 clear hW5 W4;refine dV (fun K hK => ?_);go_simp;go_at_call 14;have cc := bn w v _ _ _ (15) (0) (0) (some ⟨H, 0, none⟩) 7 7 W5 (HO.perm (List.Perm.swap _ _ _)) (by omega);refine cc.mono ?_;clear cc HO;rintro e W6 ⟨g6, c6, rfl, HO⟩;refine bL hK ?_;clear hK K;refine jP 11 ?_;refine dz [12] fun W7 hW7 => ?_
 replace HO := HO.then hW7
 clear hW7;have k1 := HO.cells 2 rfl;have m1 := HO.melt 2 rfl;refine dV (fun K hK => ?_);go_simp;refine bL hK ?_;clear hK K k1 m1;replace HO := HO.set 2 2 (.slice (some ⟨g6, 0, none⟩) (1 + 1) c6) rfl;simp only [yT] at HO;refine uC fun W8 hW8 => ?_
 replace HO := HO.then hW8
 clear hW8 W5 W6;have HS : Hid (iJ w gm (30 + n) L0 (ax.take 2) W8) := hid (iJ.push (l := ax.take 1) (i := ⟨15, 0, 0, [kv 0, eU 20, txA iK, eU 10, eU 11, eU 12, eU 13]⟩) HO 7 hp (by rw [hpl]) rfl rfl);clear HO hp hpl;obtain ⟨p, v, D, hp, HO⟩ := HS.out.at_;have hpl : p.length = 2 := bD hp;unfold og at HO;rw [hpl] at HO;clear HS;go_wp2_with fail;refine aU (by kernel_rfl) ?_;refine jP 0 ?_;refine jM 2 16 (fun w => (bZ 10 w)) ?_;refine jM 3 15 (fun w => (dw 30 w)) ?_;refine jM 4 18 (fun w => (dP 0 w)) ?_;refine dz [1, 5] fun W2 hW2 => ?_
 replace HO := HO.drew.then hW2
 clear hW2;apply bA
 case h2 =>
  intro key;have k1 := HO.cells 1 rfl;refine uA (fun K hK => ?_) fun K hK => ?_
  ·go_simp
   refine bL hK ?_;clear hK K k1;refine dz [5] fun W3 hW3 => ?_
   have HN := HO.then hW3
   refine dV (fun K hK => ?_);go_simp;refine bL hK ?_;clear hK K;refine aH HN ?_;generalize W3.heap.size = H;intro W4 HN2;exact key H W4 HN2
  ·go_simp
   refine bL hK ?_;clear hK K k1;refine aH HO ?_;generalize W2.heap.size = H;intro W3 HN;refine dz [1] fun W4 hW4 => ?_
   replace HN := HN.then hW4
   have k1 := HN.cells 2 rfl;refine dV (fun K hK => ?_);go_simp;refine bL hK ?_;clear hK K k1;exact key H W4 HN
 clear HO;intro H W4 HO;refine dz [6] fun W5 hW5 => ?_
 replace HO := HO.then hW5
 clear hW5 W4;refine dV (fun K hK => ?_);go_simp;go_at_call 14;have cc := bn w v _ _ _ (71) (0) (0) (some ⟨H, 0, none⟩) 3 3 W5 (HO.perm (List.Perm.swap _ _ _)) (by omega);refine cc.mono ?_;clear cc HO;rintro e W6 ⟨g6, c6, rfl, HO⟩;refine bL hK ?_;clear hK K;refine jP 7 ?_;refine dz [8] fun W7 hW7 => ?_
 replace HO := HO.then hW7
 clear hW7;have k1 := HO.cells 2 rfl;have m1 := HO.melt 2 rfl;refine dV (fun K hK => ?_);go_simp;refine bL hK ?_;clear hK K k1 m1;replace HO := HO.set 2 2 (.slice (some ⟨g6, 0, none⟩) (2 + 1) c6) rfl;simp only [yT] at HO;refine uC fun W8 hW8 => ?_
 replace HO := HO.then hW8
 clear hW8 W5 W6;have HS : Hid (iJ w gm (30 + n) L0 (ax.take 3) W8) := hid (iJ.push (l := ax.take 2) (i := ⟨71, 0, 0, [eU 10, kv 30, iY 0]⟩) HO 3 hp (by rw [hpl]) rfl rfl);clear HO hp hpl;obtain ⟨p, v, D, hp, HO⟩ := HS.out.at_;have hpl : p.length = 3 := bD hp;unfold og at HO;rw [hpl] at HO;clear HS;go_wp2_with fail;refine aU (by kernel_rfl) ?_;refine jP 0 ?_;refine jM 2 16 (fun w => (bZ 11 w)) ?_;refine jM 3 15 (fun w => (dw 30 w)) ?_;refine jM 4 18 (fun w => (dP 1 w)) ?_;refine dz [1, 5] fun W2 hW2 => ?_
 replace HO := HO.drew.then hW2
 clear hW2;apply bA
 case h2 =>
  intro key;have k1 := HO.cells 1 rfl;refine uA (fun K hK => ?_) fun K hK => ?_
  ·go_simp
   refine bL hK ?_;clear hK K k1;refine dz [5] fun W3 hW3 => ?_
   have HN := HO.then hW3
   refine dV (fun K hK => ?_);go_simp;refine bL hK ?_;clear hK K;refine aH HN ?_;generalize W3.heap.size = H;intro W4 HN2;exact key H W4 HN2
  ·go_simp
   refine bL hK ?_;clear hK K k1;refine aH HO ?_;generalize W2.heap.size = H;intro W3 HN;refine dz [1] fun W4 hW4 => ?_
   replace HN := HN.then hW4
   have k1 := HN.cells 2 rfl;refine dV (fun K hK => ?_);go_simp;refine bL hK ?_;clear hK K k1;exact key H W4 HN
 clear HO;intro H W4 HO;refine dz [6] fun W5 hW5 => ?_
 replace HO := HO.then hW5
 clear hW5 W4;refine dV (fun K hK => ?_);go_simp;go_at_call 14;have cc := bn w v _ _ _ (71) (0) (0) (some ⟨H, 0, none⟩) 3 3 W5 (HO.perm (List.Perm.swap _ _ _)) (by omega);refine cc.mono ?_;clear cc HO;rintro e W6 ⟨g6, c6, rfl, HO⟩;refine bL hK ?_;clear hK K;refine jP 7 ?_;refine dz [8] fun W7 hW7 => ?_
 replace HO := HO.then hW7
 clear hW7;have k1 := HO.cells 2 rfl;have m1 := HO.melt 2 rfl;refine dV (fun K hK => ?_);go_simp;refine bL hK ?_;clear hK K k1 m1;replace HO := HO.set 2 2 (.slice (some ⟨g6, 0, none⟩) (3 + 1) c6) rfl;simp only [yT] at HO;refine uC fun W8 hW8 => ?_
 replace HO := HO.then hW8
 clear hW8 W5 W6;have HS : Hid (iJ w gm (30 + n) L0 (ax.take 4) W8) := hid (iJ.push (l := ax.take 3) (i := ⟨71, 0, 0, [eU 11, kv 30, iY 1]⟩) HO 3 hp (by rw [hpl]) rfl rfl);clear HO hp hpl;obtain ⟨p, v, D, hp, HO⟩ := HS.out.at_;have hpl : p.length = 4 := bD hp;unfold og at HO;rw [hpl] at HO;clear HS;go_wp2_with fail;refine aU (by kernel_rfl) ?_;refine jP 0 ?_;refine jM 2 16 (fun w => (bZ 12 w)) ?_;refine jM 3 15 (fun w => (dw 30 w)) ?_;refine jM 4 18 (fun w => (dP 0 w)) ?_;refine dz [1, 5] fun W2 hW2 => ?_
 replace HO := HO.drew.then hW2
 clear hW2;apply bA
 case h2 =>
  intro key;have k1 := HO.cells 1 rfl;refine uA (fun K hK => ?_) fun K hK => ?_
  ·go_simp
   refine bL hK ?_;clear hK K k1;refine dz [5] fun W3 hW3 => ?_
   have HN := HO.then hW3
   refine dV (fun K hK => ?_);go_simp;refine bL hK ?_;clear hK K;refine aH HN ?_;generalize W3.heap.size = H;intro W4 HN2;exact key H W4 HN2
  ·go_simp
   refine bL hK ?_;clear hK K k1;refine aH HO ?_;generalize W2.heap.size = H;intro W3 HN;refine dz [1] fun W4 hW4 => ?_
   replace HN := HN.then hW4
   have k1 := HN.cells 2 rfl;refine dV (fun K hK => ?_);go_simp;refine bL hK ?_;clear hK K k1;exact key H W4 HN
 clear HO;intro H W4 HO;refine dz [6] fun W5 hW5 => ?_
 replace HO := HO.then hW5
 clear hW5 W4;refine dV (fun K hK => ?_);go_simp;go_at_call 14;have cc := bn w v _ _ _ (71) (0) (0) (some ⟨H, 0, none⟩) 3 3 W5 (HO.perm (List.Perm.swap _ _ _)) (by omega);refine cc.mono ?_;clear cc HO;rintro e W6 ⟨g6, c6, rfl, HO⟩;refine bL hK ?_;clear hK K;refine jP 7 ?_;refine dz [8] fun W7 hW7 => ?_
 replace HO := HO.then hW7
 clear hW7;have k1 := HO.cells 2 rfl;have m1 := HO.melt 2 rfl;refine dV (fun K hK => ?_);go_simp;refine bL hK ?_;clear hK K k1 m1;replace HO := HO.set 2 2 (.slice (some ⟨g6, 0, none⟩) (4 + 1) c6) rfl;simp only [yT] at HO;refine uC fun W8 hW8 => ?_
 replace HO := HO.then hW8
 clear hW8 W5 W6;have HS : Hid (iJ w gm (30 + n) L0 (ax.take 5) W8) := hid (iJ.push (l := ax.take 4) (i := ⟨71, 0, 0, [eU 12, kv 30, iY 0]⟩) HO 3 hp (by rw [hpl]) rfl rfl);clear HO hp hpl;obtain ⟨p, v, D, hp, HO⟩ := HS.out.at_;have hpl : p.length = 5 := bD hp;unfold og at HO;rw [hpl] at HO;clear HS;go_wp2_with fail;refine aU (by kernel_rfl) ?_;refine jP 0 ?_;refine jM 2 16 (fun w => (bZ 13 w)) ?_;refine jM 3 15 (fun w => (dw 11 w)) ?_;refine jM 4 18 (fun w => (dP 0 w)) ?_;refine dz [1, 5] fun W2 hW2 => ?_
 replace HO := HO.drew.then hW2
 clear hW2;apply bA
 case h2 =>
  intro key;have k1 := HO.cells 1 rfl;refine uA (fun K hK => ?_) fun K hK => ?_
  ·go_simp
   refine bL hK ?_;clear hK K k1;refine dz [5] fun W3 hW3 => ?_
   have HN := HO.then hW3
   refine dV (fun K hK => ?_);go_simp;refine bL hK ?_;clear hK K;refine aH HN ?_;generalize W3.heap.size = H;intro W4 HN2;exact key H W4 HN2
  ·go_simp
   refine bL hK ?_;clear hK K k1;refine aH HO ?_;generalize W2.heap.size = H;intro W3 HN;refine dz [1] fun W4 hW4 => ?_
   replace HN := HN.then hW4
   have k1 := HN.cells 2 rfl;refine dV (fun K hK => ?_);go_simp;refine bL hK ?_;clear hK K k1;exact key H W4 HN
 clear HO;intro H W4 HO;refine dz [6] fun W5 hW5 => ?_
 replace HO := HO.then hW5
 clear hW5 W4;refine dV (fun K hK => ?_);go_simp;go_at_call 14;have cc := bn w v _ _ _ (71) (0) (0) (some ⟨H, 0, none⟩) 3 3 W5 (HO.perm (List.Perm.swap _ _ _)) (by omega);refine cc.mono ?_;clear cc HO;rintro e W6 ⟨g6, c6, rfl, HO⟩;refine bL hK ?_;clear hK K;refine jP 7 ?_;refine dz [8] fun W7 hW7 => ?_
 replace HO := HO.then hW7
 clear hW7;have k1 := HO.cells 2 rfl;have m1 := HO.melt 2 rfl;refine dV (fun K hK => ?_);go_simp;refine bL hK ?_;clear hK K k1 m1;replace HO := HO.set 2 2 (.slice (some ⟨g6, 0, none⟩) (5 + 1) c6) rfl;simp only [yT] at HO;refine uC fun W8 hW8 => ?_
 replace HO := HO.then hW8
 clear hW8 W5 W6;have HS : Hid (iJ w gm (30 + n) L0 (ax.take 6) W8) := hid (iJ.push (l := ax.take 5) (i := ⟨71, 0, 0, [eU 13, kv 11, iY 0]⟩) HO 3 hp (by rw [hpl]) rfl rfl);clear HO hp hpl;obtain ⟨p, v, D, hp, HO⟩ := HS.out.at_;have hpl : p.length = 6 := bD hp;unfold og at HO;rw [hpl] at HO;clear HS;(try simp only [yD] at HO); have kk := HO.kk;go_wp2_with (first | ((with_reducible refine ah HO ?_); clear HO; (try clear kk); intro W' HO kk) | (go_at_call 14; refine (bn w v _ _ _ 19 0 1 none 0 0 _ HO (by omega)).mono ?_; rintro e W6 ⟨g6, c6, rfl, HO1⟩; clear HO; (try clear kk); have HO := HO1; clear HO1; (try simp only [yD] at HO); have kk := HO.kk));(try clear kk);have HS := hid (show iJ w gm (30 + n) L0 (ax.take 7) _ from iJ.push0 (l := ax.take 6) (i := ⟨19, 0, 1, []⟩) HO hp (by rw [hpl]) rfl rfl);clear HO hp hpl;obtain ⟨p, v, D, hp, HO⟩ := HS.out.at_;have hpl : p.length = 7 := bD hp;unfold og at HO;rw [hpl] at HO;clear HS;go_wp2_with fail;refine aU (by kernel_rfl) ?_;refine jP 0 ?_;refine jM 2 16 (fun w => (bZ 1 w)) ?_;refine dz [1, 3] fun W2 hW2 => ?_
 replace HO := HO.drew.then hW2
 clear hW2;apply bA
 case h2 =>
  intro key;have k1 := HO.cells 1 rfl;refine uA (fun K hK => ?_) fun K hK => ?_
  ·go_simp
   refine bL hK ?_;clear hK K k1;refine dz [3] fun W3 hW3 => ?_
   have HN := HO.then hW3
   refine dV (fun K hK => ?_);go_simp;refine bL hK ?_;clear hK K;refine aH HN ?_;generalize W3.heap.size = H;intro W4 HN2;exact key H W4 HN2
  ·go_simp
   refine bL hK ?_;clear hK K k1;refine aH HO ?_;generalize W2.heap.size = H;intro W3 HN;refine dz [1] fun W4 hW4 => ?_
   replace HN := HN.then hW4
   have k1 := HN.cells 2 rfl;refine dV (fun K hK => ?_);go_simp;refine bL hK ?_;clear hK K k1;exact key H W4 HN
 clear HO;intro H W4 HO;refine dz [4] fun W5 hW5 => ?_
 replace HO := HO.then hW5
 clear hW5 W4;refine dV (fun K hK => ?_);go_simp;go_at_call 14;have cc := bn w v _ _ _ (33) (0) (2) (some ⟨H, 0, none⟩) 1 1 W5 (HO.perm (List.Perm.swap _ _ _)) (by omega);refine cc.mono ?_;clear cc HO;rintro e W6 ⟨g6, c6, rfl, HO⟩;refine bL hK ?_;clear hK K;refine jP 5 ?_;refine dz [6] fun W7 hW7 => ?_
 replace HO := HO.then hW7
 clear hW7;have k1 := HO.cells 2 rfl;have m1 := HO.melt 2 rfl;refine dV (fun K hK => ?_);go_simp;refine bL hK ?_;clear hK K k1 m1;replace HO := HO.set 2 2 (.slice (some ⟨g6, 0, none⟩) (7 + 1) c6) rfl;simp only [yT] at HO;refine uC fun W8 hW8 => ?_
 replace HO := HO.then hW8
 clear hW8 W5 W6;have HS : Hid (iJ w gm (30 + n) L0 (ax.take 8) W8) := hid (iJ.push (l := ax.take 7) (i := ⟨33, 0, 2, [eU 1]⟩) HO 1 hp (by rw [hpl]) rfl rfl);clear HO hp hpl;obtain ⟨p, v, D, hp, HO⟩ := HS.out.at_;have hpl : p.length = 8 := bD hp;unfold og at HO;rw [hpl] at HO;clear HS;go_wp2_with fail;refine aU (by kernel_rfl) ?_;refine jP 0 ?_;refine jM 2 18 (fun w => (dP 32 w)) ?_;refine jM 3 18 (fun w => (dP 0 w)) ?_;refine dz [1, 4] fun W2 hW2 => ?_
 replace HO := HO.drew.then hW2
 clear hW2;apply bA
 case h2 =>
  intro key;have k1 := HO.cells 1 rfl;refine uA (fun K hK => ?_) fun K hK => ?_
  ·go_simp
   refine bL hK ?_;clear hK K k1;refine dz [4] fun W3 hW3 => ?_
   have HN := HO.then hW3
   refine dV (fun K hK => ?_);go_simp;refine bL hK ?_;clear hK K;refine aH HN ?_;generalize W3.heap.size = H;intro W4 HN2;exact key H W4 HN2
  ·go_simp
   refine bL hK ?_;clear hK K k1;refine aH HO ?_;generalize W2.heap.size = H;intro W3 HN;refine dz [1] fun W4 hW4 => ?_
   replace HN := HN.then hW4
   have k1 := HN.cells 2 rfl;refine dV (fun K hK => ?_);go_simp;refine bL hK ?_;clear hK K k1;exact key H W4 HN
 clear HO;intro H W4 HO;refine dz [5] fun W5 hW5 => ?_
 replace HO := HO.then hW5
 clear hW5 W4;refine dV (fun K hK => ?_);go_simp;go_at_call 14;have cc := bn w v _ _ _ (21) (0) (3) (some ⟨H, 0, none⟩) 2 2 W5 (HO.perm (List.Perm.swap _ _ _)) (by omega);refine cc.mono ?_;clear cc HO;rintro e W6 ⟨g6, c6, rfl, HO⟩;refine bL hK ?_;clear hK K;refine jP 6 ?_;refine dz [7] fun W7 hW7 => ?_
 replace HO := HO.then hW7
 clear hW7;have k1 := HO.cells 2 rfl;have m1 := HO.melt 2 rfl;refine dV (fun K hK => ?_);go_simp;refine bL hK ?_;clear hK K k1 m1;replace HO := HO.set 2 2 (.slice (some ⟨g6, 0, none⟩) (8 + 1) c6) rfl;simp only [yT] at HO;refine uC fun W8 hW8 => ?_
 replace HO := HO.then hW8
 clear hW8 W5 W6;have HS : Hid (iJ w gm (30 + n) L0 (ax.take 9) W8) := hid (iJ.push (l := ax.take 8) (i := ⟨21, 0, 3, [iY 32, iY 0]⟩) HO 2 hp (by rw [hpl]) rfl rfl);clear HO hp hpl;obtain ⟨p, v, D, hp, HO⟩ := HS.out.at_;have hpl : p.length = 9 := bD hp;unfold og at HO;rw [hpl] at HO;clear HS;go_wp2_with fail;refine aU (by kernel_rfl) ?_;refine jP 0 ?_;refine jM 2 18 (fun w => (dP 32 w)) ?_;refine jM 3 18 (fun w => (dP 1 w)) ?_;refine dz [1, 4] fun W2 hW2 => ?_
 replace HO := HO.drew.then hW2
 clear hW2;apply bA
 case h2 =>
  intro key;have k1 := HO.cells 1 rfl;refine uA (fun K hK => ?_) fun K hK => ?_
  ·go_simp
   refine bL hK ?_;clear hK K k1;refine dz [4] fun W3 hW3 => ?_
   have HN := HO.then hW3
   refine dV (fun K hK => ?_);go_simp;refine bL hK ?_;clear hK K;refine aH HN ?_;generalize W3.heap.size = H;intro W4 HN2;exact key H W4 HN2
  ·go_simp
   refine bL hK ?_;clear hK K k1;refine aH HO ?_;generalize W2.heap.size = H;intro W3 HN;refine dz [1] fun W4 hW4 => ?_
   replace HN := HN.then hW4
   have k1 := HN.cells 2 rfl;refine dV (fun K hK => ?_);go_simp;refine bL hK ?_;clear hK K k1;exact key H W4 HN
 clear HO;intro H W4 HO;refine dz [5] fun W5 hW5 => ?_
 replace HO := HO.then hW5
 clear hW5 W4;refine dV (fun K hK => ?_);go_simp;go_at_call 14;have cc := bn w v _ _ _ (21) (0) (4) (some ⟨H, 0, none⟩) 2 2 W5 (HO.perm (List.Perm.swap _ _ _)) (by omega);refine cc.mono ?_;clear cc HO;rintro e W6 ⟨g6, c6, rfl, HO⟩;refine bL hK ?_;clear hK K;refine jP 6 ?_;refine dz [7] fun W7 hW7 => ?_
 replace HO := HO.then hW7
 clear hW7;have k1 := HO.cells 2 rfl;have m1 := HO.melt 2 rfl;refine dV (fun K hK => ?_);go_simp;refine bL hK ?_;clear hK K k1 m1;replace HO := HO.set 2 2 (.slice (some ⟨g6, 0, none⟩) (9 + 1) c6) rfl;simp only [yT] at HO;refine uC fun W8 hW8 => ?_
 replace HO := HO.then hW8
 clear hW8 W5 W6;have HS : Hid (iJ w gm (30 + n) L0 (ax.take 10) W8) := hid (iJ.push (l := ax.take 9) (i := ⟨21, 0, 4, [iY 32, iY 1]⟩) HO 2 hp (by rw [hpl]) rfl rfl);clear HO hp hpl;obtain ⟨p, v, D, hp, HO⟩ := HS.out.at_;have hpl : p.length = 10 := bD hp;unfold og at HO;rw [hpl] at HO;clear HS;go_wp2_with fail;refine aU (by kernel_rfl) ?_;refine jP 0 ?_;refine jM 2 16 (fun w => (bZ 4 w)) ?_;refine jM 3 18 (fun w => (dP 4 w)) ?_;refine dz [1, 4] fun W2 hW2 => ?_
 replace HO := HO.drew.then hW2
 clear hW2;apply bA
 case h2 =>
  intro key;have k1 := HO.cells 1 rfl;refine uA (fun K hK => ?_) fun K hK => ?_
  ·go_simp
   refine bL hK ?_;clear hK K k1;refine dz [4] fun W3 hW3 => ?_
   have HN := HO.then hW3
   refine dV (fun K hK => ?_);go_simp;refine bL hK ?_;clear hK K;refine aH HN ?_;generalize W3.heap.size = H;intro W4 HN2;exact key H W4 HN2
  ·go_simp
   refine bL hK ?_;clear hK K k1;refine aH HO ?_;generalize W2.heap.size = H;intro W3 HN;refine dz [1] fun W4 hW4 => ?_
   replace HN := HN.then hW4
   have k1 := HN.cells 2 rfl;refine dV (fun K hK => ?_);go_simp;refine bL hK ?_;clear hK K k1;exact key H W4 HN
 clear HO;intro H W4 HO;refine dz [5] fun W5 hW5 => ?_
 replace HO := HO.then hW5
 clear hW5 W4;refine dV (fun K hK => ?_);go_simp;go_at_call 14;have cc := bn w v _ _ _ (23) (0) (5) (some ⟨H, 0, none⟩) 2 2 W5 (HO.perm (List.Perm.swap _ _ _)) (by omega);refine cc.mono ?_;clear cc HO;rintro e W6 ⟨g6, c6, rfl, HO⟩;refine bL hK ?_;clear hK K;refine jP 6 ?_;refine dz [7] fun W7 hW7 => ?_
 replace HO := HO.then hW7
 clear hW7;have k1 := HO.cells 2 rfl;have m1 := HO.melt 2 rfl;refine dV (fun K hK => ?_);go_simp;refine bL hK ?_;clear hK K k1 m1;replace HO := HO.set 2 2 (.slice (some ⟨g6, 0, none⟩) (10 + 1) c6) rfl;simp only [yT] at HO;refine uC fun W8 hW8 => ?_
 replace HO := HO.then hW8
 clear hW8 W5 W6;have HS : Hid (iJ w gm (30 + n) L0 (ax.take 11) W8) := hid (iJ.push (l := ax.take 10) (i := ⟨23, 0, 5, [eU 4, iY 4]⟩) HO 2 hp (by rw [hpl]) rfl rfl);clear HO hp hpl;obtain ⟨p, v, D, hp, HO⟩ := HS.out.at_;have hpl : p.length = 11 := bD hp;unfold og at HO;rw [hpl] at HO;clear HS;go_wp2_with fail;refine aU (by kernel_rfl) ?_;refine jP 0 ?_;refine jM 2 15 (fun w => (dw 1 w)) ?_;refine jM 3 16 (fun w => (bZ 3 w)) ?_;refine dz [1, 4] fun W2 hW2 => ?_
 replace HO := HO.drew.then hW2
 clear hW2;apply bA
 case h2 =>
  intro key;have k1 := HO.cells 1 rfl;refine uA (fun K hK => ?_) fun K hK => ?_
  ·go_simp
   refine bL hK ?_;clear hK K k1;refine dz [4] fun W3 hW3 => ?_
   have HN := HO.then hW3
   refine dV (fun K hK => ?_);go_simp;refine bL hK ?_;clear hK K;refine aH HN ?_;generalize W3.heap.size = H;intro W4 HN2;exact key H W4 HN2
  ·go_simp
   refine bL hK ?_;clear hK K k1;refine aH HO ?_;generalize W2.heap.size = H;intro W3 HN;refine dz [1] fun W4 hW4 => ?_
   replace HN := HN.then hW4
   have k1 := HN.cells 2 rfl;refine dV (fun K hK => ?_);go_simp;refine bL hK ?_;clear hK K k1;exact key H W4 HN
 clear HO;intro H W4 HO;refine dz [5] fun W5 hW5 => ?_
 replace HO := HO.then hW5
 clear hW5 W4;refine dV (fun K hK => ?_);go_simp;go_at_call 14;have cc := bn w v _ _ _ (32) (0) (6) (some ⟨H, 0, none⟩) 2 2 W5 (HO.perm (List.Perm.swap _ _ _)) (by omega);refine cc.mono ?_;clear cc HO;rintro e W6 ⟨g6, c6, rfl, HO⟩;refine bL hK ?_;clear hK K;refine jP 6 ?_;refine dz [7] fun W7 hW7 => ?_
 replace HO := HO.then hW7
 clear hW7;have k1 := HO.cells 2 rfl;have m1 := HO.melt 2 rfl;refine dV (fun K hK => ?_);go_simp;refine bL hK ?_;clear hK K k1 m1;replace HO := HO.set 2 2 (.slice (some ⟨g6, 0, none⟩) (11 + 1) c6) rfl;simp only [yT] at HO;refine uC fun W8 hW8 => ?_
 replace HO := HO.then hW8
 clear hW8 W5 W6;have HS : Hid (iJ w gm (30 + n) L0 (ax.take 12) W8) := hid (iJ.push (l := ax.take 11) (i := ⟨32, 0, 6, [kv 1, eU 3]⟩) HO 2 hp (by rw [hpl]) rfl rfl);clear HO hp hpl;obtain ⟨p, v, D, hp, HO⟩ := HS.out.at_;have hpl : p.length = 12 := bD hp;unfold og at HO;rw [hpl] at HO;clear HS;go_wp2_with fail;refine aU (by kernel_rfl) ?_;refine jP 0 ?_;refine jM 2 15 (fun w => (dw 3 w)) ?_;refine jM 3 16 (fun w => (bZ 3 w)) ?_;refine dz [1, 4] fun W2 hW2 => ?_
 replace HO := HO.drew.then hW2
 clear hW2;apply bA
 case h2 =>
  intro key;have k1 := HO.cells 1 rfl;refine uA (fun K hK => ?_) fun K hK => ?_
  ·go_simp
   refine bL hK ?_;clear hK K k1;refine dz [4] fun W3 hW3 => ?_
   have HN := HO.then hW3
   refine dV (fun K hK => ?_);go_simp;refine bL hK ?_;clear hK K;refine aH HN ?_;generalize W3.heap.size = H;intro W4 HN2;exact key H W4 HN2
  ·go_simp
   refine bL hK ?_;clear hK K k1;refine aH HO ?_;generalize W2.heap.size = H;intro W3 HN;refine dz [1] fun W4 hW4 => ?_
   replace HN := HN.then hW4
   have k1 := HN.cells 2 rfl;refine dV (fun K hK => ?_);go_simp;refine bL hK ?_;clear hK K k1;exact key H W4 HN
 clear HO;intro H W4 HO;refine dz [5] fun W5 hW5 => ?_
 replace HO := HO.then hW5
 clear hW5 W4;refine dV (fun K hK => ?_);go_simp;go_at_call 14;have cc := bn w v _ _ _ (32) (0) (7) (some ⟨H, 0, none⟩) 2 2 W5 (HO.perm (List.Perm.swap _ _ _)) (by omega);refine cc.mono ?_;clear cc HO;rintro e W6 ⟨g6, c6, rfl, HO⟩;refine bL hK ?_;clear hK K;refine jP 6 ?_;refine dz [7] fun W7 hW7 => ?_
 replace HO := HO.then hW7
 clear hW7;have k1 := HO.cells 2 rfl;have m1 := HO.melt 2 rfl;refine dV (fun K hK => ?_);go_simp;refine bL hK ?_;clear hK K k1 m1;replace HO := HO.set 2 2 (.slice (some ⟨g6, 0, none⟩) (12 + 1) c6) rfl;simp only [yT] at HO;refine uC fun W8 hW8 => ?_
 replace HO := HO.then hW8
 clear hW8 W5 W6;have HS : Hid (iJ w gm (30 + n) L0 (ax.take 13) W8) := hid (iJ.push (l := ax.take 12) (i := ⟨32, 0, 7, [kv 3, eU 3]⟩) HO 2 hp (by rw [hpl]) rfl rfl);clear HO hp hpl;obtain ⟨p, v, D, hp, HO⟩ := HS.out.at_;have hpl : p.length = 13 := bD hp;unfold og at HO;rw [hpl] at HO;clear HS;go_wp2_with fail;refine aU (by kernel_rfl) ?_;refine jP 0 ?_;refine jM 2 15 (fun w => (dw 3 w)) ?_;refine jM 3 16 (fun w => (bZ 5 w)) ?_;refine dz [1, 4] fun W2 hW2 => ?_
 replace HO := HO.drew.then hW2
 clear hW2;apply bA
 case h2 =>
  intro key;have k1 := HO.cells 1 rfl;refine uA (fun K hK => ?_) fun K hK => ?_
  ·go_simp
   refine bL hK ?_;clear hK K k1;refine dz [4] fun W3 hW3 => ?_
   have HN := HO.then hW3
   refine dV (fun K hK => ?_);go_simp;refine bL hK ?_;clear hK K;refine aH HN ?_;generalize W3.heap.size = H;intro W4 HN2;exact key H W4 HN2
  ·go_simp
   refine bL hK ?_;clear hK K k1;refine aH HO ?_;generalize W2.heap.size = H;intro W3 HN;refine dz [1] fun W4 hW4 => ?_
   replace HN := HN.then hW4
   have k1 := HN.cells 2 rfl;refine dV (fun K hK => ?_);go_simp;refine bL hK ?_;clear hK K k1;exact key H W4 HN
 clear HO;intro H W4 HO;refine dz [5] fun W5 hW5 => ?_
 replace HO := HO.then hW5
 clear hW5 W4;refine dV (fun K hK => ?_);go_simp;go_at_call 14;have cc := bn w v _ _ _ (32) (0) (8) (some ⟨H, 0, none⟩) 2 2 W5 (HO.perm (List.Perm.swap _ _ _)) (by omega);refine cc.mono ?_;clear cc HO;rintro e W6 ⟨g6, c6, rfl, HO⟩;refine bL hK ?_;clear hK K;refine jP 6 ?_;refine dz [7] fun W7 hW7 => ?_
 replace HO := HO.then hW7
 clear hW7;have k1 := HO.cells 2 rfl;have m1 := HO.melt 2 rfl;refine dV (fun K hK => ?_);go_simp;refine bL hK ?_;clear hK K k1 m1;replace HO := HO.set 2 2 (.slice (some ⟨g6, 0, none⟩) (13 + 1) c6) rfl;simp only [yT] at HO;refine uC fun W8 hW8 => ?_
 replace HO := HO.then hW8
 clear hW8 W5 W6;have HS : Hid (iJ w gm (30 + n) L0 (ax.take 14) W8) := hid (iJ.push (l := ax.take 13) (i := ⟨32, 0, 8, [kv 3, eU 5]⟩) HO 2 hp (by rw [hpl]) rfl rfl);clear HO hp hpl;obtain ⟨p, v, D, hp, HO⟩ := HS.out.at_;have hpl : p.length = 14 := bD hp;unfold og at HO;rw [hpl] at HO;clear HS;(try simp only [yD] at HO); have kk := HO.kk;go_wp2_with (first | ((with_reducible refine ah HO ?_); clear HO; (try clear kk); intro W' HO kk) | (go_at_call 14; refine (bn w v _ _ _ 46 5 9 none 0 0 _ HO (by omega)).mono ?_; rintro e W6 ⟨g6, c6, rfl, HO1⟩; clear HO; (try clear kk); have HO := HO1; clear HO1; (try simp only [yD] at HO); have kk := HO.kk));(try clear kk);have HS := hid (show iJ w gm (30 + n) L0 (ax.take 15) _ from iJ.push0 (l := ax.take 14) (i := ⟨46, 5, 9, []⟩) HO hp (by rw [hpl]) rfl rfl);clear HO hp hpl;obtain ⟨p, v, D, hp, HO⟩ := HS.out.at_;have hpl : p.length = 15 := bD hp;unfold og at HO;rw [hpl] at HO;clear HS;go_wp2_with fail;refine aU (by kernel_rfl) ?_;refine jP 0 ?_;refine jM 2 15 (fun w => (dw 1 w)) ?_;refine dz [1, 3] fun W2 hW2 => ?_
 replace HO := HO.drew.then hW2
 clear hW2;apply bA
 case h2 =>
  intro key;have k1 := HO.cells 1 rfl;refine uA (fun K hK => ?_) fun K hK => ?_
  ·go_simp
   refine bL hK ?_;clear hK K k1;refine dz [3] fun W3 hW3 => ?_
   have HN := HO.then hW3
   refine dV (fun K hK => ?_);go_simp;refine bL hK ?_;clear hK K;refine aH HN ?_;generalize W3.heap.size = H;intro W4 HN2;exact key H W4 HN2
  ·go_simp
   refine bL hK ?_;clear hK K k1;refine aH HO ?_;generalize W2.heap.size = H;intro W3 HN;refine dz [1] fun W4 hW4 => ?_
   replace HN := HN.then hW4
   have k1 := HN.cells 2 rfl;refine dV (fun K hK => ?_);go_simp;refine bL hK ?_;clear hK K k1;exact key H W4 HN
 clear HO;intro H W4 HO;refine dz [4] fun W5 hW5 => ?_
 replace HO := HO.then hW5
 clear hW5 W4;refine dV (fun K hK => ?_);go_simp;go_at_call 14;have cc := bn w v _ _ _ (59) (6) (10) (some ⟨H, 0, none⟩) 1 1 W5 (HO.perm (List.Perm.swap _ _ _)) (by omega);refine cc.mono ?_;clear cc HO;rintro e W6 ⟨g6, c6, rfl, HO⟩;refine bL hK ?_;clear hK K;refine jP 5 ?_;refine dz [6] fun W7 hW7 => ?_
 replace HO := HO.then hW7
 clear hW7;have k1 := HO.cells 2 rfl;have m1 := HO.melt 2 rfl;refine dV (fun K hK => ?_);go_simp;refine bL hK ?_;clear hK K k1 m1;replace HO := HO.set 2 2 (.slice (some ⟨g6, 0, none⟩) (15 + 1) c6) rfl;simp only [yT] at HO;refine uC fun W8 hW8 => ?_
 replace HO := HO.then hW8
 clear hW8 W5 W6;have HS : Hid (iJ w gm (30 + n) L0 (ax.take 16) W8) := hid (iJ.push (l := ax.take 15) (i := ⟨59, 6, 10, [kv 1]⟩) HO 1 hp (by rw [hpl]) rfl rfl);clear HO hp hpl;obtain ⟨p, v, D, hp, HO⟩ := HS.out.at_;have hpl : p.length = 16 := bD hp;unfold og at HO;rw [hpl] at HO;clear HS;go_wp2_with fail;refine aU (by kernel_rfl) ?_;refine jP 0 ?_;refine jM 2 15 (fun w => (dw 1 w)) ?_;refine dz [1, 3] fun W2 hW2 => ?_
 replace HO := HO.drew.then hW2
 clear hW2;apply bA
 case h2 =>
  intro key;have k1 := HO.cells 1 rfl;refine uA (fun K hK => ?_) fun K hK => ?_
  ·go_simp
   refine bL hK ?_;clear hK K k1;refine dz [3] fun W3 hW3 => ?_
   have HN := HO.then hW3
   refine dV (fun K hK => ?_);go_simp;refine bL hK ?_;clear hK K;refine aH HN ?_;generalize W3.heap.size = H;intro W4 HN2;exact key H W4 HN2
  ·go_simp
   refine bL hK ?_;clear hK K k1;refine aH HO ?_;generalize W2.heap.size = H;intro W3 HN;refine dz [1] fun W4 hW4 => ?_
   replace HN := HN.then hW4
   have k1 := HN.cells 2 rfl;refine dV (fun K hK => ?_);go_simp;refine bL hK ?_;clear hK K k1;exact key H W4 HN
 clear HO;intro H W4 HO;refine dz [4] fun W5 hW5 => ?_
 replace HO := HO.then hW5
 clear hW5 W4;refine dV (fun K hK => ?_);go_simp;go_at_call 14;have cc := bn w v _ _ _ (59) (6) (11) (some ⟨H, 0, none⟩) 1 1 W5 (HO.perm (List.Perm.swap _ _ _)) (by omega);refine cc.mono ?_;clear cc HO;rintro e W6 ⟨g6, c6, rfl, HO⟩;refine bL hK ?_;clear hK K;refine jP 5 ?_;refine dz [6] fun W7 hW7 => ?_
 replace HO := HO.then hW7
 clear hW7;have k1 := HO.cells 2 rfl;have m1 := HO.melt 2 rfl;refine dV (fun K hK => ?_);go_simp;refine bL hK ?_;clear hK K k1 m1;replace HO := HO.set 2 2 (.slice (some ⟨g6, 0, none⟩) (16 + 1) c6) rfl;simp only [yT] at HO;refine uC fun W8 hW8 => ?_
 replace HO := HO.then hW8
 clear hW8 W5 W6;have HS : Hid (iJ w gm (30 + n) L0 (ax.take 17) W8) := hid (iJ.push (l := ax.take 16) (i := ⟨59, 6, 11, [kv 1]⟩) HO 1 hp (by rw [hpl]) rfl rfl);clear HO hp hpl;obtain ⟨p, v, D, hp, HO⟩ := HS.out.at_;have hpl : p.length = 17 := bD hp;unfold og at HO;rw [hpl] at HO;clear HS;go_wp2_with fail;refine aU (by kernel_rfl) ?_;refine jP 0 ?_;refine jM 2 15 (fun w => (dw 3 w)) ?_;refine dz [1, 3] fun W2 hW2 => ?_
 replace HO := HO.drew.then hW2
 clear hW2;apply bA
 case h2 =>
  intro key;have k1 := HO.cells 1 rfl;refine uA (fun K hK => ?_) fun K hK => ?_
  ·go_simp
   refine bL hK ?_;clear hK K k1;refine dz [3] fun W3 hW3 => ?_
   have HN := HO.then hW3
   refine dV (fun K hK => ?_);go_simp;refine bL hK ?_;clear hK K;refine aH HN ?_;generalize W3.heap.size = H;intro W4 HN2;exact key H W4 HN2
  ·go_simp
   refine bL hK ?_;clear hK K k1;refine aH HO ?_;generalize W2.heap.size = H;intro W3 HN;refine dz [1] fun W4 hW4 => ?_
   replace HN := HN.then hW4
   have k1 := HN.cells 2 rfl;refine dV (fun K hK => ?_);go_simp;refine bL hK ?_;clear hK K k1;exact key H W4 HN
 clear HO;intro H W4 HO;refine dz [4] fun W5 hW5 => ?_
 replace HO := HO.then hW5
 clear hW5 W4;refine dV (fun K hK => ?_);go_simp;go_at_call 14;have cc := bn w v _ _ _ (59) (7) (12) (some ⟨H, 0, none⟩) 1 1 W5 (HO.perm (List.Perm.swap _ _ _)) (by omega);refine cc.mono ?_;clear cc HO;rintro e W6 ⟨g6, c6, rfl, HO⟩;refine bL hK ?_;clear hK K;refine jP 5 ?_;refine dz [6] fun W7 hW7 => ?_
 replace HO := HO.then hW7
 clear hW7;have k1 := HO.cells 2 rfl;have m1 := HO.melt 2 rfl;refine dV (fun K hK => ?_);go_simp;refine bL hK ?_;clear hK K k1 m1;replace HO := HO.set 2 2 (.slice (some ⟨g6, 0, none⟩) (17 + 1) c6) rfl;simp only [yT] at HO;refine uC fun W8 hW8 => ?_
 replace HO := HO.then hW8
 clear hW8 W5 W6;have HS : Hid (iJ w gm (30 + n) L0 (ax.take 18) W8) := hid (iJ.push (l := ax.take 17) (i := ⟨59, 7, 12, [kv 3]⟩) HO 1 hp (by rw [hpl]) rfl rfl);clear HO hp hpl;obtain ⟨p, v, D, hp, HO⟩ := HS.out.at_;have hpl : p.length = 18 := bD hp;unfold og at HO;rw [hpl] at HO;clear HS;go_wp2_with fail;refine aU (by kernel_rfl) ?_;refine jP 0 ?_;refine jM 2 15 (fun w => (dw 3 w)) ?_;refine dz [1, 3] fun W2 hW2 => ?_
 replace HO := HO.drew.then hW2
 clear hW2;apply bA
 case h2 =>
  intro key;have k1 := HO.cells 1 rfl;refine uA (fun K hK => ?_) fun K hK => ?_
  ·go_simp
   refine bL hK ?_;clear hK K k1;refine dz [3] fun W3 hW3 => ?_
   have HN := HO.then hW3
   refine dV (fun K hK => ?_);go_simp;refine bL hK ?_;clear hK K;refine aH HN ?_;generalize W3.heap.size = H;intro W4 HN2;exact key H W4 HN2
  ·go_simp
   refine bL hK ?_;clear hK K k1;refine aH HO ?_;generalize W2.heap.size = H;intro W3 HN;refine dz [1] fun W4 hW4 => ?_
   replace HN := HN.then hW4
   have k1 := HN.cells 2 rfl;refine dV (fun K hK => ?_);go_simp;refine bL hK ?_;clear hK K k1;exact key H W4 HN
 clear HO;intro H W4 HO;refine dz [4] fun W5 hW5 => ?_
 replace HO := HO.then hW5
 clear hW5 W4;refine dV (fun K hK => ?_);go_simp;go_at_call 14;have cc := bn w v _ _ _ (59) (8) (13) (some ⟨H, 0, none⟩) 1 1 W5 (HO.perm (List.Perm.swap _ _ _)) (by omega);refine cc.mono ?_;clear cc HO;rintro e W6 ⟨g6, c6, rfl, HO⟩;refine bL hK ?_;clear hK K;refine jP 5 ?_;refine dz [6] fun W7 hW7 => ?_
 replace HO := HO.then hW7
 clear hW7;have k1 := HO.cells 2 rfl;have m1 := HO.melt 2 rfl;refine dV (fun K hK => ?_);go_simp;refine bL hK ?_;clear hK K k1 m1;replace HO := HO.set 2 2 (.slice (some ⟨g6, 0, none⟩) (18 + 1) c6) rfl;simp only [yT] at HO;refine uC fun W8 hW8 => ?_
 replace HO := HO.then hW8
 clear hW8 W5 W6;have HS : Hid (iJ w gm (30 + n) L0 (ax.take 19) W8) := hid (iJ.push (l := ax.take 18) (i := ⟨59, 8, 13, [kv 3]⟩) HO 1 hp (by rw [hpl]) rfl rfl);clear HO hp hpl;obtain ⟨p, v, D, hp, HO⟩ := HS.out.at_;have hpl : p.length = 19 := bD hp;unfold og at HO;rw [hpl] at HO;clear HS;go_wp2_with fail;refine aU (by kernel_rfl) ?_;refine jP 0 ?_;refine jM 2 15 (fun w => (dw 0 w)) ?_;refine jM 3 16 (fun w => (bZ 2 w)) ?_;refine dz [1, 4] fun W2 hW2 => ?_
 replace HO := HO.drew.then hW2
 clear hW2;apply bA
 case h2 =>
  intro key;have k1 := HO.cells 1 rfl;refine uA (fun K hK => ?_) fun K hK => ?_
  ·go_simp
   refine bL hK ?_;clear hK K k1;refine dz [4] fun W3 hW3 => ?_
   have HN := HO.then hW3
   refine dV (fun K hK => ?_);go_simp;refine bL hK ?_;clear hK K;refine aH HN ?_;generalize W3.heap.size = H;intro W4 HN2;exact key H W4 HN2
  ·go_simp
   refine bL hK ?_;clear hK K k1;refine aH HO ?_;generalize W2.heap.size = H;intro W3 HN;refine dz [1] fun W4 hW4 => ?_
   replace HN := HN.then hW4
   have k1 := HN.cells 2 rfl;refine dV (fun K hK => ?_);go_simp;refine bL hK ?_;clear hK K k1;exact key H W4 HN
 clear HO;intro H W4 HO;refine dz [5] fun W5 hW5 => ?_
 replace HO := HO.then hW5
 clear hW5 W4;refine dV (fun K hK => ?_);go_simp;go_at_call 14;have cc := bn w v _ _ _ (54) (1) (20) (some ⟨H, 0, none⟩) 2 2 W5 (HO.perm (List.Perm.swap _ _ _)) (by omega);refine cc.mono ?_;clear cc HO;rintro e W6 ⟨g6, c6, rfl, HO⟩;refine bL hK ?_;clear hK K;refine jP 6 ?_;refine dz [7] fun W7 hW7 => ?_
 replace HO := HO.then hW7
 clear hW7;have k1 := HO.cells 2 rfl;have m1 := HO.melt 2 rfl;refine dV (fun K hK => ?_);go_simp;refine bL hK ?_;clear hK K k1 m1;replace HO := HO.set 2 2 (.slice (some ⟨g6, 0, none⟩) (19 + 1) c6) rfl;simp only [yT] at HO;refine uC fun W8 hW8 => ?_
 replace HO := HO.then hW8
 clear hW8 W5 W6;have HS : Hid (iJ w gm (30 + n) L0 (ax.take 20) W8) := hid (iJ.push (l := ax.take 19) (i := ⟨54, 1, 20, [kv 0, eU 2]⟩) HO 2 hp (by rw [hpl]) rfl rfl);clear HO hp hpl;obtain ⟨p, v, D, hp, HO⟩ := HS.out.at_;have hpl : p.length = 20 := bD hp;unfold og at HO;rw [hpl] at HO;clear HS;(try simp only [yD] at HO); have kk := HO.kk;go_wp2_with (first | ((with_reducible refine ah HO ?_); clear HO; (try clear kk); intro W' HO kk) | (go_at_call 14; refine (bn w v _ _ _ 248 0 21 none 0 0 _ HO (by omega)).mono ?_; rintro e W6 ⟨g6, c6, rfl, HO1⟩; clear HO; (try clear kk); have HO := HO1; clear HO1; (try simp only [yD] at HO); have kk := HO.kk));(try clear kk);have HS := hid (show iJ w gm (30 + n) L0 (ax.take 21) _ from iJ.push0 (l := ax.take 20) (i := ⟨248, 0, 21, []⟩) HO hp (by rw [hpl]) rfl rfl);clear HO hp hpl;obtain ⟨p, v, D, hp, HO⟩ := HS.out.at_;have hpl : p.length = 21 := bD hp;unfold og at HO;rw [hpl] at HO;clear HS;go_wp2_with fail;refine aU (by kernel_rfl) ?_;refine jP 0 ?_;refine jM 2 16 (fun w => (bZ 10 w)) ?_;refine dz [1, 3] fun W2 hW2 => ?_
 replace HO := HO.drew.then hW2
 clear hW2;apply bA
 case h2 =>
  intro key;have k1 := HO.cells 1 rfl;refine uA (fun K hK => ?_) fun K hK => ?_
  ·go_simp
   refine bL hK ?_;clear hK K k1;refine dz [3] fun W3 hW3 => ?_
   have HN := HO.then hW3
   refine dV (fun K hK => ?_);go_simp;refine bL hK ?_;clear hK K;refine aH HN ?_;generalize W3.heap.size = H;intro W4 HN2;exact key H W4 HN2
  ·go_simp
   refine bL hK ?_;clear hK K k1;refine aH HO ?_;generalize W2.heap.size = H;intro W3 HN;refine dz [1] fun W4 hW4 => ?_
   replace HN := HN.then hW4
   have k1 := HN.cells 2 rfl;refine dV (fun K hK => ?_);go_simp;refine bL hK ?_;clear hK K k1;exact key H W4 HN
 clear HO;intro H W4 HO;refine dz [4] fun W5 hW5 => ?_
 replace HO := HO.then hW5
 clear hW5 W4;refine dV (fun K hK => ?_);go_simp;go_at_call 14;have cc := bn w v _ _ _ (61) (3) (22) (some ⟨H, 0, none⟩) 1 1 W5 (HO.perm (List.Perm.swap _ _ _)) (by omega);refine cc.mono ?_;clear cc HO;rintro e W6 ⟨g6, c6, rfl, HO⟩;refine bL hK ?_;clear hK K;refine jP 5 ?_;refine dz [6] fun W7 hW7 => ?_
 replace HO := HO.then hW7
 clear hW7;have k1 := HO.cells 2 rfl;have m1 := HO.melt 2 rfl;refine dV (fun K hK => ?_);go_simp;refine bL hK ?_;clear hK K k1 m1;replace HO := HO.set 2 2 (.slice (some ⟨g6, 0, none⟩) (21 + 1) c6) rfl;simp only [yT] at HO;refine uC fun W8 hW8 => ?_
 replace HO := HO.then hW8
 clear hW8 W5 W6;have HS : Hid (iJ w gm (30 + n) L0 (ax.take 22) W8) := hid (iJ.push (l := ax.take 21) (i := ⟨61, 3, 22, [eU 10]⟩) HO 1 hp (by rw [hpl]) rfl rfl);clear HO hp hpl;obtain ⟨p, v, D, hp, HO⟩ := HS.out.at_;have hpl : p.length = 22 := bD hp;unfold og at HO;rw [hpl] at HO;clear HS;go_wp2_with fail;refine aU (by kernel_rfl) ?_;refine jP 0 ?_;refine jM 2 16 (fun w => (bZ 11 w)) ?_;refine dz [1, 3] fun W2 hW2 => ?_
 replace HO := HO.drew.then hW2
 clear hW2;apply bA
 case h2 =>
  intro key;have k1 := HO.cells 1 rfl;refine uA (fun K hK => ?_) fun K hK => ?_
  ·go_simp
   refine bL hK ?_;clear hK K k1;refine dz [3] fun W3 hW3 => ?_
   have HN := HO.then hW3
   refine dV (fun K hK => ?_);go_simp;refine bL hK ?_;clear hK K;refine aH HN ?_;generalize W3.heap.size = H;intro W4 HN2;exact key H W4 HN2
  ·go_simp
   refine bL hK ?_;clear hK K k1;refine aH HO ?_;generalize W2.heap.size = H;intro W3 HN;refine dz [1] fun W4 hW4 => ?_
   replace HN := HN.then hW4
   have k1 := HN.cells 2 rfl;refine dV (fun K hK => ?_);go_simp;refine bL hK ?_;clear hK K k1;exact key H W4 HN
 clear HO;intro H W4 HO;refine dz [4] fun W5 hW5 => ?_
 replace HO := HO.then hW5
 clear hW5 W4;refine dV (fun K hK => ?_);go_simp;go_at_call 14;have cc := bn w v _ _ _ (61) (3) (23) (some ⟨H, 0, none⟩) 1 1 W5 (HO.perm (List.Perm.swap _ _ _)) (by omega);refine cc.mono ?_;clear cc HO;rintro e W6 ⟨g6, c6, rfl, HO⟩;refine bL hK ?_;clear hK K;refine jP 5 ?_;refine dz [6] fun W7 hW7 => ?_
 replace HO := HO.then hW7
 clear hW7;have k1 := HO.cells 2 rfl;have m1 := HO.melt 2 rfl;refine dV (fun K hK => ?_);go_simp;refine bL hK ?_;clear hK K k1 m1;replace HO := HO.set 2 2 (.slice (some ⟨g6, 0, none⟩) (22 + 1) c6) rfl;simp only [yT] at HO;refine uC fun W8 hW8 => ?_
 replace HO := HO.then hW8
 clear hW8 W5 W6;have HS : Hid (iJ w gm (30 + n) L0 (ax.take 23) W8) := hid (iJ.push (l := ax.take 22) (i := ⟨61, 3, 23, [eU 11]⟩) HO 1 hp (by rw [hpl]) rfl rfl);clear HO hp hpl;replace HS : Hid (iJ w gm (30 + n) L0 (qU ln 0) W8) := HS;go_wp2_with fail;have i0 : (n : Int) ≤ 1000 := by omega
 go_loopw [5, 6, 7] (fun x5 _ _ wr => ∃ k : Nat, k ≤ n ∧ x5 = .int .u32 k ∧ iJ w gm (30 + n) L0 (qU ln k) wr) (fun x _ _ _ => n - (intOf x).toNat)
 case atStart => exact ⟨0, by omega, rfl, HS.out⟩
 case round =>
  obtain ⟨k, hk, rfl, hS⟩ := hrel;clear HS;by_cases hlt : k < n
  ·obtain ⟨p, v, D, hp, HO⟩ := hS.at_
   have hpl : p.length = 23 + k := (bD hp).trans (oQ ln k);unfold og at HO;rw [hpl] at HO;clear hS;obtain rfl := HA.out (by omega);have hw := HL.out.below HO.below;have e1 := hw.a k hlt;have e2 := hw.b k hlt;have he : ∀ W, Bl w W → W.cell? ⟨b, o + k * 3, none⟩ = some (.int .u16 (ln k).1) := fun W hb => (HL.out.below hb).op k hlt
   have zb : ∀ W, Bl w W → b < W.heap.size := fun W hb => (HL.out.below hb).lt (by omega)
   have hop := HL.out.op_lt k hlt;have ha := HL.out.a_in k hlt;have hb := HL.out.b_in k hlt;have q1 := nk (ln k).2.1 (k + 2) (by omega);have q2 := nk (ln k).2.2 (k + 2) (by omega);have hlf : Hid (xW ln k = ⟨(ln k).1, 3, 22 + bh (ln k).2.1 (k + 2), 22 + bh (ln k).2.2 (k + 2)⟩) := hid rfl;have hi := hid hlt;clear hw;generalize (ln k).1 = op at he hop hlf;generalize (ln k).2.1 = A at e1 ha q1 hlf;generalize (ln k).2.2 = B at e2 hb q2 hlf;have cA : ∀ W, Calls Tryz.prog 6 #[.int .i64 A, .int .u32 ((k : Int) + 2)] W fun e w' => e = .returned (.int .u32 (bh A (k + 2))) ∧ w' = W := fun W => jQ A (k + 2) W ha (by omega)
   have cB : ∀ W, Calls Tryz.prog 6 #[.int .i64 B, .int .u32 ((k : Int) + 2)] W fun e w' => e = .returned (.int .u32 (bh B (k + 2))) ∧ w' = W := fun W => jQ B (k + 2) W hb (by omega)
   have i1 : (k : Int) < n := by omega
   have zb0 := zb _ HO.below;have hk1000 : k < 1000 := by omega
   generalize hxA : bh A (k + 2) = xA at cA q1 hlf;generalize hxB : bh B (k + 2) = xB at cB q2 hlf;clear hxA hxB ha hb;have i5 : (xA : Int) < 1002 := by omega
   have i6 : (xB : Int) < 1002 := by omega
   have jA : IntKind.u32.wrap (22 + (xA : Int)) = 22 + xA := IntWalk.u32_in _ (by omega);have jB : IntKind.u32.wrap (22 + (xB : Int)) = 22 + xB := IntWalk.u32_in _ (by omega);have jK : IntKind.u32.wrap (24 + (k : Int)) = 24 + k := IntWalk.u32_in _ (by omega);go_wp2_with (first | (go_at_call 6; (first | (with_reducible refine (cA _).mono ?_) | (with_reducible refine (cB _).mono ?_)); rintro e w1 ⟨rfl, rfl⟩));have hcl : ∀ W W2, Bl w W → Bl W W2 → Bl w W2 := fun _ _ h k => az h k
   have hSw : Bl w _ := HO.drew.below;refine au (S := fun W => Bl w W) (by kernel_rfl) ?_;refine ag hcl 0 ?_;refine ag hcl 2 ?_;refine ag hcl 3 ?_;refine ag hcl 4 ?_;refine ag hcl 5 ?_;refine ag hcl 6 ?_ (hv := fun w hw => by have eo := he _ hw; have zo := zb _ hw; go_simp; first | done | with_reducible rfl);refine ag hcl 7 ?_;refine ag hcl 8 ?_;refine ag hcl 9 ?_;refine ag hcl 10 ?_;refine tV hcl 11 16 (fun w hw => bZ (22 + (xA : Nat)) w) ?_;refine ag hcl 12 ?_;refine ag hcl 13 ?_;refine tV hcl 14 16 (fun w hw => bZ (22 + (xB : Nat)) w) ?_;refine dC [1, 15] fun W2 hW2 => ?_
   replace HO := HO.drew.then hW2
   clear hW2 hSw;apply bA
   case h2 =>
    intro key;have k1 := HO.cells 1 rfl;refine BF (fun K hK => ?_) fun K hK => ?_
    ·go_simp
     refine bX hK HO.below ?_;clear hK K k1;refine dC [15] fun W3 hW3 => ?_
     have HN := HO.then hW3
     refine dO (fun K hK => ?_);go_simp;refine bX hK (HN.alloc _).below ?_;clear hK K;refine Aq HN ?_;generalize W3.heap.size = H;intro W4 HN2;exact key H W4 HN2
    ·go_simp
     refine bX hK (HO.alloc _).below ?_;clear hK K k1;refine Aq HO ?_;generalize W2.heap.size = H;intro W3 HN;refine dC [1] fun W4 hW4 => ?_
     replace HN := HN.then hW4
     have k1 := HN.cells 2 rfl;refine dO (fun K hK => ?_);go_simp;refine bX hK HN.below ?_;clear hK K k1;exact key H W4 HN
   clear HO;intro H W4 HO;refine dC [16] fun W5 hW5 => ?_
   replace HO := HO.then hW5
   clear hW5 W4;refine dO (fun K hK => ?_);go_simp;go_at_call 14;have cc := bn w v _ _ _ (op) (3) (24 + k) (some ⟨H, 0, none⟩) 2 2 W5 (HO.perm (List.Perm.swap _ _ _)) (by omega);rw [show ((24 + k : Nat) : Int) = 24 + k by omega] at cc;refine cc.mono ?_;clear cc HO;rintro e W6 ⟨g6, c6, rfl, HO⟩;refine bX hK HO.below ?_;clear hK K;have hSw := HO.below;refine ag hcl 17 ?_;clear hSw;refine dC [18] fun W7 hW7 => ?_
   replace HO := HO.then hW7
   clear hW7;have k1 := HO.cells 2 rfl;have m1 := HO.melt 2 rfl;refine dO (fun K hK => ?_);go_simp;replace HO := HO.set 2 2 (.slice (some ⟨g6, 0, none⟩) (23 + k + 1) c6) rfl;refine bX hK HO.below ?_;clear hK K k1 m1;simp only [yT] at HO;refine kS fun W8 hW8 => ?_
   replace HO := HO.then hW8
   clear hW8 W5 W6;have hS2 := iJ.push (l := qU ln k) (i := dZ k ⟨op, 3, 22 + xA, 22 + xB⟩) HO 2 hp (by rw [hpl]) (by simp [dZ]) (by simp [dm, eU, dZ]);rw [← hlf.out, ← Fz] at hS2;clear HO hp hpl;have HS2 := hid hS2;clear hS2;go_wp2_with fail;exact ⟨⟨k + 1, hi.out, by go_num, HS2.out⟩, by have := hi.out; simp [intOf]; omega⟩
  ·obtain rfl : k = n := by omega
   have jN : IntKind.u32.wrap (23 + (k : Int)) = 23 + k := IntWalk.u32_in _ (by omega);have i1 : ¬ ((k : Nat) : Int) < k := by omega
   have HS := hid hS;clear hS;go_wp2_with fail;obtain ⟨p, v, D, hp, HO⟩ := HS.out.at_;have hpl : p.length = 23 + k := (bD hp).trans (by simp [oQ]);unfold og at HO;rw [hpl] at HO;clear HS;go_wp2_with fail;refine aU (by kernel_rfl) ?_;refine jP 0 ?_;refine jM 2 16 (fun w => (bZ 12 w)) ?_;refine jP 3 ?_;refine jP 4 ?_;refine jM 5 16 (fun w => (bZ (23 + (k : Nat)) w)) ?_;refine dz [1, 6] fun W2 hW2 => ?_
   replace HO := HO.drew.then hW2
   clear hW2;apply bA
   case h2 =>
    intro key;refine uA (fun K hK => ?_) fun K hK => ?_
    ·have k1 := HO.cells 1 rfl
     go_simp;refine bL hK ?_;clear hK K k1;refine dz [6] fun U2 hU2 => ?_
     have M2 := HO.then hU2
     refine dV (fun K hK => ?_)
     ·have k1 := M2.cells 1 rfl
      go_simp;refine bL hK ?_;clear hK K k1;refine aH M2 ?_;generalize U2.heap.size = H;intro V3 N3;exact key H _ N3
    ·have k1 := HO.cells 1 rfl
     go_simp;refine bL hK ?_;clear hK K k1;refine aH HO ?_;generalize W2.heap.size = H;intro V2 N2;refine dz [1] fun U2 hU2 => ?_
     have M2 := N2.then hU2
     refine dV (fun K hK => ?_)
     ·have k1 := M2.cells 2 rfl
      go_simp;refine bL hK ?_;clear hK K k1;exact key H _ M2
   clear HO;intro H W4 HO;refine dz [7] fun W5 hW5 => ?_
   replace HO := HO.then hW5
   clear hW5 W4;refine dV (fun K hK => ?_);go_simp;go_at_call 14;have cc := bn w v _ _ _ (62) (0) (0) (some ⟨H, 0, none⟩) 2 2 W5 (HO.perm (List.Perm.swap _ _ _)) (by omega);refine cc.mono ?_;clear cc HO;rintro e W6 ⟨g6, c6, rfl, HO⟩;refine bL hK ?_;clear hK K;refine jP 8 ?_;refine dz [9] fun W7 hW7 => ?_
   replace HO := HO.then hW7
   clear hW7;have k1 := HO.cells 2 rfl;have m1 := HO.melt 2 rfl;refine dV (fun K hK => ?_);go_simp;refine bL hK ?_;clear hK K k1 m1;replace HO := HO.set 2 2 (.slice (some ⟨g6, 0, none⟩) (23 + k + 1) c6) rfl;simp only [yT] at HO;refine uC fun W8 hW8 => ?_
   replace HO := HO.then hW8
   clear hW8 W5 W6;have HS := hid (iJ.push (l := qU ln k) (i := ⟨62, 0, 0, [eU 12, eU (23 + k)]⟩) HO 2 hp (by rw [hpl]) rfl (by simp [dm, eU]));clear HO hp hpl;obtain ⟨p, v, D, hp, HO⟩ := HS.out.at_;have hpl : p.length = 23 + k + 1 := (bD hp).trans (by simp [oQ]);unfold og at HO;rw [hpl] at HO;clear HS;go_wp2_with fail;refine aU (by kernel_rfl) ?_;refine jP 0 ?_;refine jM 2 16 (fun w => (bZ 13 w)) ?_;refine jM 3 16 (fun w => (bZ 9 w)) ?_;refine dz [1, 4] fun W2 hW2 => ?_
   replace HO := HO.drew.then hW2
   clear hW2;apply bA
   case h2 =>
    intro key;refine uA (fun K hK => ?_) fun K hK => ?_
    ·have k1 := HO.cells 1 rfl
     go_simp;refine bL hK ?_;clear hK K k1;refine dz [4] fun U2 hU2 => ?_
     have M2 := HO.then hU2
     refine dV (fun K hK => ?_)
     ·have k1 := M2.cells 1 rfl
      go_simp;refine bL hK ?_;clear hK K k1;refine aH M2 ?_;generalize U2.heap.size = H;intro V3 N3;exact key H _ N3
    ·have k1 := HO.cells 1 rfl
     go_simp;refine bL hK ?_;clear hK K k1;refine aH HO ?_;generalize W2.heap.size = H;intro V2 N2;refine dz [1] fun U2 hU2 => ?_
     have M2 := N2.then hU2
     refine dV (fun K hK => ?_)
     ·have k1 := M2.cells 2 rfl
      go_simp;refine bL hK ?_;clear hK K k1;exact key H _ M2
   clear HO;intro H W4 HO;refine dz [5] fun W5 hW5 => ?_
   replace HO := HO.then hW5
   clear hW5 W4;refine dV (fun K hK => ?_);go_simp;go_at_call 14;have cc := bn w v _ _ _ (62) (0) (0) (some ⟨H, 0, none⟩) 2 2 W5 (HO.perm (List.Perm.swap _ _ _)) (by omega);refine cc.mono ?_;clear cc HO;rintro e W6 ⟨g6, c6, rfl, HO⟩;refine bL hK ?_;clear hK K;refine jP 6 ?_;refine dz [7] fun W7 hW7 => ?_
   replace HO := HO.then hW7
   clear hW7;have k1 := HO.cells 2 rfl;have m1 := HO.melt 2 rfl;refine dV (fun K hK => ?_);go_simp;refine bL hK ?_;clear hK K k1 m1;replace HO := HO.set 2 2 (.slice (some ⟨g6, 0, none⟩) (23 + k + 1 + 1) c6) rfl;simp only [yT] at HO;refine uC fun W8 hW8 => ?_
   replace HO := HO.then hW8
   clear hW8 W5 W6;have HS := hid (iJ.push (l := qU ln k ++ [⟨62, 0, 0, [eU 12, eU (23 + k)]⟩]) (i := ⟨62, 0, 0, [eU 13, eU 9]⟩) HO 2 hp (by rw [hpl]) rfl rfl);clear HO hp hpl;obtain ⟨p, v, D, hp, HO⟩ := HS.out.at_;have hpl : p.length = 23 + k + 2 := (bD hp).trans (by simp [oQ]);unfold og at HO;rw [hpl, hL0.out] at HO;clear HS;(try simp only [yD] at HO); have kk := HO.kk;go_wp2_with (first | ((first | (with_reducible refine ah HO ?_) | (refine ay 34 HO ?_)); clear HO; (try clear kk); intro W' HO kk) | (refine bG 34 HO Tryz.underlying34 ?_) | (go_at_call 14; (first | refine (bn w v _ _ _ 253 0 0 none 0 0 _ HO (by omega)).mono ?_ | refine (bn w _ _ _ _ 56 0 0 none 0 0 _ HO (by omega)).mono ?_); rintro e W6 ⟨g6, c6, rfl, HO1⟩; clear HO; (try clear kk); have HO := HO1; clear HO1; (try simp only [yD] at HO); have kk := HO.kk));(try clear kk);have hz : 23 + k + 2 + 1 + 1 = (aj k (xW ln)).length := by rw [ak]; omega
   obtain ⟨g7, e7, _, _, hle, _⟩ := HO.slice2 0 rfl (by omega);refine bodyPost_ret_by (bF rfl _ _ _ 34 #[.int .u32 0, .int .u32 (30 + k), .slice (some ⟨g6, 0, none⟩) (23 + k + 2 + 1 + 1) c6] _ _ rfl (HO.blk 3 rfl) Tryz.underlying34 rfl xq) rfl ?_;refine ⟨⟨g6, c6, p ++ [(⟨253, 0, 0, []⟩, none, 0)] ++ [(⟨56, 0, 0, []⟩, none, 0)], D, ?_, ?_, ?_, ?_⟩⟩
   ·rw [← hz, show ((30 + k : Nat) : Int) = 30 + k by omega]
   ·rw [← hz]; exact hle
   ·rw [← KI ln]; exact (hp.snoc (⟨253, 0, 0, []⟩, none, 0) (Nat.le_refl _)).snoc (⟨56, 0, 0, []⟩, none, 0) (Nat.le_refl _)
   ·rw [← hz, lu, lu]
    have h5 := HO.recast 2 (A' := fD D (p ++ [(⟨253, 0, 0, []⟩, none, 0)] ++ [(⟨56, 0, 0, []⟩, none, 0)])) rfl (fun k hk => hk) (vE (vE (HO.at 2 rfl) ⟨253, 0, 0, []⟩ rfl) ⟨56, 0, 0, []⟩ rfl);simp only [yT] at h5;exact h5.sub (.cons_cons _ (.cons _ (.cons_cons _ (.cons _ .slnil))))
end Go.Proofs.YtlkolghiknbbfaaGreatDoor
