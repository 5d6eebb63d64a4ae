/- The kit: the straight module, made. -/
import Derived.Test.YtbhijdmlonplgaaGreatDoorBu
namespace Go.Proofs.YtbhijdmlonplgaaGreatDoor
set_option linter.unusedVariables false
set_option linter.unusedSimpArgs false
set_option maxRecDepth 100000
set_option maxHeartbeats 40000000
open Go.RowKit
theorem kstraight_own (b o cap n : Nat) (ln : Nat → Nat × Int × Int) (ad : Option Addr) (w : World) (hn : n ≤ 1000) (hA : 0 < n → ad = some ⟨b, o, none⟩) (hl : LnAt w b o n ln) :
  Calls Tryz.prog 5 #[.slice ad n cap] w fun e w' => StrEnd n (lnF ln) w e w' := by
 have HA := hid hA
 clear hA
 have HO := Own.nil w
 have HL := hid hl
 clear hl
 go_enter Tryz.func5, Tryz.ntmps5
 go_wp2_with (first | ((first | (with_reducible refine sp_al HO ?_; intro g hg; rw [← hg.out]; clear hg) | (with_reducible refine sp_alc HO ?_; intro g hg; rw [← hg.out]; clear hg) | (with_reducible refine sp_sk HO ?_) | (with_reducible refine sp_skc HO ?_) | (refine sp_wk HO rfl 30 _ _ rfl rfl rfl (by kernel_rfl) (by rfl) (by simp [Value.oneCell']) ?_)); intro W' HO'; clear HO; (try clear kk); have HO := HO'; clear HO'; (try simp only [zTz, zTs, zTa] at HO); (try have kk := HO.kk); skip))
 rename_i gR W1 W2 K1 a1
 obtain ⟨gm, rfl⟩ : ∃ q, q = g := ⟨_, rfl⟩
 replace HO := HO.free (A := argsA (fun _ => False) []) (fun k hk => hk) (fun x h => by cases h)
 replace HO := (HO.perm (List.Perm.swap _ _ _)).row w.heap.size 41 4
 obtain ⟨L0, hL0⟩ : ∃ L0, Hid (L0 = [blk gR (Obj.cells #[.int .u32 0, .int .u32 0, .slice none 0 0] 30 (0, 0))]) := ⟨_, hid rfl⟩
 rw [← hL0.out] at HO
 have HS := hid (show StP w gm (30 + n) L0 [] W' from ⟨[], _, _, rfl, HO⟩)
 clear HO
 (try clear kk); skip
 try simp only [Act.put, zTa, zTz, zTs]
 obtain ⟨p, v, D, hp, HO⟩ := HS.out.at_
 have hpl : p.length = 0 := stp_len hp
 unfold stS at HO
 rw [hpl] at HO
 clear HS
 refine wp_region_x (by kernel_rfl) ?_
 refine xTk 0 (v := ?_) (hm := ⟨by rfl, .inl ?_⟩) (h := ?_)
 rotate_left
 ·(intro w; go_simp; first | done | with_reducible rfl)
 try simp only [Act.put, zTa, zTz, zTs]
 refine xTk 2 (v := _) (hm := ⟨by rfl, .inr ⟨9, _, ?_, fun w => (kenum_own 0 w)⟩⟩) (h := ?_)
 ·(intro w; go_simp; (try exact u32_in _ (by omega)))
 try simp only [Act.put, zTa, zTz, zTs]
 refine xTk 3 (v := _) (hm := ⟨by rfl, .inr ⟨9, _, ?_, fun w => (kenum_own 0 w)⟩⟩) (h := ?_)
 ·(intro w; go_simp; (try exact u32_in _ (by omega)))
 try simp only [Act.put, zTa, zTz, zTs]
 refine wpX_ready (rs := [1, 4]) (by kernel_rfl) (by simp) (fun W2 hW2 => ?_)
 replace HO := HO.drew.then hW2
 clear hW2
 apply merge_HW
 case h2 =>
  intro key
  have k1 := HO.cells 1 rfl
  refine AllReadyX.cons (by simp only [zGa, zGs, zGz]; rfl) (fun K hK => ?_) (AllReadyX.cons (by simp only [zGa, zGs, zGz]; rfl) (fun K hK => ?_) AllReadyX.nil)
  ·go_simp
   refine hK.out _ _ ?_
   clear hK K k1
   try simp only [Act.put, zTa, zTz, zTs]
   refine wpX_ready (rs := [4]) (by kernel_rfl) (by simp) (fun W3 hW3 => ?_)
   have HN := HO.then hW3
   refine xR1 (fun K hK => ?_)
   go_simp
   refine hK.out _ _ ?_
   clear hK K
   try simp only [Act.put, zTa, zTz, zTs]
   refine sx_alloc HN ?_
   generalize W3.heap.size = H
   intro W4 HN2
   exact key H W4 HN2
  ·go_simp
   refine hK.out _ _ ?_
   clear hK K k1
   try simp only [Act.put, zTa, zTz, zTs]
   refine sx_alloc HO ?_
   generalize W2.heap.size = H
   intro W3 HN
   refine wpX_ready (rs := [1]) (by kernel_rfl) (by simp) (fun W4 hW4 => ?_)
   replace HN := HN.then hW4
   have k1 := HN.cells 2 rfl
   refine xR1 (fun K hK => ?_)
   go_simp
   refine hK.out _ _ ?_
   clear hK K k1
   try simp only [Act.put, zTa, zTz, zTs]
   exact key H W4 HN
 clear HO
 intro H W4 HO
 refine wpX_ready (rs := [5]) (by kernel_rfl) (by simp) (fun W5 hW5 => ?_)
 replace HO := HO.then hW5
 clear hW5 W4
 refine xR1 (fun K hK => ?_)
 go_simp
 go_at_call 8
 have cc := kadd_own w v _ _ _ (14) (0) (0) (some ⟨H, 0, none⟩) 2 2 W5 (HO.perm (List.Perm.swap _ _ _)) (by omega)
 refine cc.mono ?_
 clear cc HO
 rintro e W6 ⟨g6, c6, rfl, HO⟩
 refine hK.out _ _ ?_
 clear hK K
 try simp only [Act.put, zTa, zTz, zTs]
 refine xTk 6 (v := ?_) (hm := ⟨by rfl, .inl ?_⟩) (h := ?_)
 rotate_left
 ·(intro w; go_simp; first | done | with_reducible rfl)
 try simp only [Act.put, zTa, zTz, zTs]
 refine wpX_ready (rs := [7]) (by kernel_rfl) (by simp) (fun W7 hW7 => ?_)
 replace HO := HO.then hW7
 clear hW7
 have k1 := HO.cells 2 rfl
 have m1 := HO.melt 2 rfl
 refine xR1 (fun K hK => ?_)
 go_simp
 refine hK.out _ _ ?_
 clear hK K k1 m1
 try simp only [Act.put, zTa, zTz, zTs]
 replace HO := HO.set 2 2 (.slice (some ⟨g6, 0, none⟩) (0 + 1) c6) rfl
 simp only [zTz, zTs, zTa] at HO
 refine wpX_done (by kernel_rfl) (fun W8 hW8 => ?_) _
 replace HO := HO.then hW8
 clear hW8 W5 W6
 have HS : Hid (StP w gm (30 + n) L0 (headL.take 1) W8) := hid (StP.push (l := headL.take 0) (i := ⟨14, 0, 0, [enA 0, enA 0]⟩) HO 2 hp (by rw [hpl]) rfl rfl)
 clear HO hp hpl
 obtain ⟨p, v, D, hp, HO⟩ := HS.out.at_
 have hpl : p.length = 1 := stp_len hp
 unfold stS at HO
 rw [hpl] at HO
 clear HS
 go_wp2_with fail
 refine wp_region_x (by kernel_rfl) ?_
 refine xTk 0 (v := ?_) (hm := ⟨by rfl, .inl ?_⟩) (h := ?_)
 rotate_left
 ·(intro w; go_simp; first | done | with_reducible rfl)
 try simp only [Act.put, zTa, zTz, zTs]
 refine xTk 2 (v := _) (hm := ⟨by rfl, .inr ⟨9, _, ?_, fun w => (kenum_own 0 w)⟩⟩) (h := ?_)
 ·(intro w; go_simp; (try exact u32_in _ (by omega)))
 try simp only [Act.put, zTa, zTz, zTs]
 refine xTk 3 (v := _) (hm := ⟨by rfl, .inr ⟨10, _, ?_, fun w => (kid_own 20 w)⟩⟩) (h := ?_)
 ·(intro w; go_simp; (try exact u32_in _ (by omega)))
 try simp only [Act.put, zTa, zTz, zTs]
 refine xTk 4 (v := _) (hm := ⟨by rfl, .inr ⟨11, _, ?_, fun w => (ktext_own ⟨#[109, 97, 105, 110]⟩ w)⟩⟩) (h := ?_)
 ·(intro w; go_simp; (try exact u32_in _ (by omega)))
 try simp only [Act.put, zTa, zTz, zTs]
 refine xTk 5 (v := _) (hm := ⟨by rfl, .inr ⟨10, _, ?_, fun w => (kid_own 10 w)⟩⟩) (h := ?_)
 ·(intro w; go_simp; (try exact u32_in _ (by omega)))
 try simp only [Act.put, zTa, zTz, zTs]
 refine xTk 6 (v := _) (hm := ⟨by rfl, .inr ⟨10, _, ?_, fun w => (kid_own 11 w)⟩⟩) (h := ?_)
 ·(intro w; go_simp; (try exact u32_in _ (by omega)))
 try simp only [Act.put, zTa, zTz, zTs]
 refine xTk 7 (v := _) (hm := ⟨by rfl, .inr ⟨10, _, ?_, fun w => (kid_own 12 w)⟩⟩) (h := ?_)
 ·(intro w; go_simp; (try exact u32_in _ (by omega)))
 try simp only [Act.put, zTa, zTz, zTs]
 refine xTk 8 (v := _) (hm := ⟨by rfl, .inr ⟨10, _, ?_, fun w => (kid_own 13 w)⟩⟩) (h := ?_)
 ·(intro w; go_simp; (try exact u32_in _ (by omega)))
 try simp only [Act.put, zTa, zTz, zTs]
 refine wpX_ready (rs := [1, 9]) (by kernel_rfl) (by simp) (fun W2 hW2 => ?_)
 replace HO := HO.drew.then hW2
 clear hW2
 apply merge_HW
 case h2 =>
  intro key
  have k1 := HO.cells 1 rfl
  refine AllReadyX.cons (by simp only [zGa, zGs, zGz]; rfl) (fun K hK => ?_) (AllReadyX.cons (by simp only [zGa, zGs, zGz]; rfl) (fun K hK => ?_) AllReadyX.nil)
  ·go_simp
   refine hK.out _ _ ?_
   clear hK K k1
   try simp only [Act.put, zTa, zTz, zTs]
   refine wpX_ready (rs := [9]) (by kernel_rfl) (by simp) (fun W3 hW3 => ?_)
   have HN := HO.then hW3
   refine xR1 (fun K hK => ?_)
   go_simp
   refine hK.out _ _ ?_
   clear hK K
   try simp only [Act.put, zTa, zTz, zTs]
   refine sx_alloc HN ?_
   generalize W3.heap.size = H
   intro W4 HN2
   exact key H W4 HN2
  ·go_simp
   refine hK.out _ _ ?_
   clear hK K k1
   try simp only [Act.put, zTa, zTz, zTs]
   refine sx_alloc HO ?_
   generalize W2.heap.size = H
   intro W3 HN
   refine wpX_ready (rs := [1]) (by kernel_rfl) (by simp) (fun W4 hW4 => ?_)
   replace HN := HN.then hW4
   have k1 := HN.cells 2 rfl
   refine xR1 (fun K hK => ?_)
   go_simp
   refine hK.out _ _ ?_
   clear hK K k1
   try simp only [Act.put, zTa, zTz, zTs]
   exact key H W4 HN
 clear HO
 intro H W4 HO
 refine wpX_ready (rs := [10]) (by kernel_rfl) (by simp) (fun W5 hW5 => ?_)
 replace HO := HO.then hW5
 clear hW5 W4
 refine xR1 (fun K hK => ?_)
 go_simp
 go_at_call 8
 have cc := kadd_own w v _ _ _ (15) (0) (0) (some ⟨H, 0, none⟩) 7 7 W5 (HO.perm (List.Perm.swap _ _ _)) (by omega)
 refine cc.mono ?_
 clear cc HO
 rintro e W6 ⟨g6, c6, rfl, HO⟩
 refine hK.out _ _ ?_
 clear hK K
 try simp only [Act.put, zTa, zTz, zTs]
 refine xTk 11 (v := ?_) (hm := ⟨by rfl, .inl ?_⟩) (h := ?_)
 rotate_left
 ·(intro w; go_simp; first | done | with_reducible rfl)
 try simp only [Act.put, zTa, zTz, zTs]
 refine wpX_ready (rs := [12]) (by kernel_rfl) (by simp) (fun W7 hW7 => ?_)
 replace HO := HO.then hW7
 clear hW7
 have k1 := HO.cells 2 rfl
 have m1 := HO.melt 2 rfl
 refine xR1 (fun K hK => ?_)
 go_simp
 refine hK.out _ _ ?_
 clear hK K k1 m1
 try simp only [Act.put, zTa, zTz, zTs]
 replace HO := HO.set 2 2 (.slice (some ⟨g6, 0, none⟩) (1 + 1) c6) rfl
 simp only [zTz, zTs, zTa] at HO
 refine wpX_done (by kernel_rfl) (fun W8 hW8 => ?_) _
 replace HO := HO.then hW8
 clear hW8 W5 W6
 have HS : Hid (StP w gm (30 + n) L0 (headL.take 2) W8) := hid (StP.push (l := headL.take 1) (i := ⟨15, 0, 0, [enA 0, idA 20, txA mainS, idA 10, idA 11, idA 12, idA 13]⟩) HO 7 hp (by rw [hpl]) rfl rfl)
 clear HO hp hpl
 obtain ⟨p, v, D, hp, HO⟩ := HS.out.at_
 have hpl : p.length = 2 := stp_len hp
 unfold stS at HO
 rw [hpl] at HO
 clear HS
 go_wp2_with fail
 refine wp_region_x (by kernel_rfl) ?_
 refine xTk 0 (v := ?_) (hm := ⟨by rfl, .inl ?_⟩) (h := ?_)
 rotate_left
 ·(intro w; go_simp; first | done | with_reducible rfl)
 try simp only [Act.put, zTa, zTz, zTs]
 refine xTk 2 (v := _) (hm := ⟨by rfl, .inr ⟨10, _, ?_, fun w => (kid_own 10 w)⟩⟩) (h := ?_)
 ·(intro w; go_simp; (try exact u32_in _ (by omega)))
 try simp only [Act.put, zTa, zTz, zTs]
 refine xTk 3 (v := _) (hm := ⟨by rfl, .inr ⟨9, _, ?_, fun w => (kenum_own 30 w)⟩⟩) (h := ?_)
 ·(intro w; go_simp; (try exact u32_in _ (by omega)))
 try simp only [Act.put, zTa, zTz, zTs]
 refine xTk 4 (v := _) (hm := ⟨by rfl, .inr ⟨12, _, ?_, fun w => (knumber_own 0 w)⟩⟩) (h := ?_)
 ·(intro w; go_simp; (try exact u32_in _ (by omega)))
 try simp only [Act.put, zTa, zTz, zTs]
 refine wpX_ready (rs := [1, 5]) (by kernel_rfl) (by simp) (fun W2 hW2 => ?_)
 replace HO := HO.drew.then hW2
 clear hW2
 apply merge_HW
 case h2 =>
  intro key
  have k1 := HO.cells 1 rfl
  refine AllReadyX.cons (by simp only [zGa, zGs, zGz]; rfl) (fun K hK => ?_) (AllReadyX.cons (by simp only [zGa, zGs, zGz]; rfl) (fun K hK => ?_) AllReadyX.nil)
  ·go_simp
   refine hK.out _ _ ?_
   clear hK K k1
   try simp only [Act.put, zTa, zTz, zTs]
   refine wpX_ready (rs := [5]) (by kernel_rfl) (by simp) (fun W3 hW3 => ?_)
   have HN := HO.then hW3
   refine xR1 (fun K hK => ?_)
   go_simp
   refine hK.out _ _ ?_
   clear hK K
   try simp only [Act.put, zTa, zTz, zTs]
   refine sx_alloc HN ?_
   generalize W3.heap.size = H
   intro W4 HN2
   exact key H W4 HN2
  ·go_simp
   refine hK.out _ _ ?_
   clear hK K k1
   try simp only [Act.put, zTa, zTz, zTs]
   refine sx_alloc HO ?_
   generalize W2.heap.size = H
   intro W3 HN
   refine wpX_ready (rs := [1]) (by kernel_rfl) (by simp) (fun W4 hW4 => ?_)
   replace HN := HN.then hW4
   have k1 := HN.cells 2 rfl
   refine xR1 (fun K hK => ?_)
   go_simp
   refine hK.out _ _ ?_
   clear hK K k1
   try simp only [Act.put, zTa, zTz, zTs]
   exact key H W4 HN
 clear HO
 intro H W4 HO
 refine wpX_ready (rs := [6]) (by kernel_rfl) (by simp) (fun W5 hW5 => ?_)
 replace HO := HO.then hW5
 clear hW5 W4
 refine xR1 (fun K hK => ?_)
 go_simp
 go_at_call 8
 have cc := kadd_own w v _ _ _ (71) (0) (0) (some ⟨H, 0, none⟩) 3 3 W5 (HO.perm (List.Perm.swap _ _ _)) (by omega)
 refine cc.mono ?_
 clear cc HO
 rintro e W6 ⟨g6, c6, rfl, HO⟩
 refine hK.out _ _ ?_
 clear hK K
 try simp only [Act.put, zTa, zTz, zTs]
 refine xTk 7 (v := ?_) (hm := ⟨by rfl, .inl ?_⟩) (h := ?_)
 rotate_left
 ·(intro w; go_simp; first | done | with_reducible rfl)
 try simp only [Act.put, zTa, zTz, zTs]
 refine wpX_ready (rs := [8]) (by kernel_rfl) (by simp) (fun W7 hW7 => ?_)
 replace HO := HO.then hW7
 clear hW7
 have k1 := HO.cells 2 rfl
 have m1 := HO.melt 2 rfl
 refine xR1 (fun K hK => ?_)
 go_simp
 refine hK.out _ _ ?_
 clear hK K k1 m1
 try simp only [Act.put, zTa, zTz, zTs]
 replace HO := HO.set 2 2 (.slice (some ⟨g6, 0, none⟩) (2 + 1) c6) rfl
 simp only [zTz, zTs, zTa] at HO
 refine wpX_done (by kernel_rfl) (fun W8 hW8 => ?_) _
 replace HO := HO.then hW8
 clear hW8 W5 W6
 have HS : Hid (StP w gm (30 + n) L0 (headL.take 3) W8) := hid (StP.push (l := headL.take 2) (i := ⟨71, 0, 0, [idA 10, enA 30, numA 0]⟩) HO 3 hp (by rw [hpl]) rfl rfl)
 clear HO hp hpl
 obtain ⟨p, v, D, hp, HO⟩ := HS.out.at_
 have hpl : p.length = 3 := stp_len hp
 unfold stS at HO
 rw [hpl] at HO
 clear HS
 go_wp2_with fail
 refine wp_region_x (by kernel_rfl) ?_
 refine xTk 0 (v := ?_) (hm := ⟨by rfl, .inl ?_⟩) (h := ?_)
 rotate_left
 ·(intro w; go_simp; first | done | with_reducible rfl)
 try simp only [Act.put, zTa, zTz, zTs]
 refine xTk 2 (v := _) (hm := ⟨by rfl, .inr ⟨10, _, ?_, fun w => (kid_own 11 w)⟩⟩) (h := ?_)
 ·(intro w; go_simp; (try exact u32_in _ (by omega)))
 try simp only [Act.put, zTa, zTz, zTs]
 refine xTk 3 (v := _) (hm := ⟨by rfl, .inr ⟨9, _, ?_, fun w => (kenum_own 30 w)⟩⟩) (h := ?_)
 ·(intro w; go_simp; (try exact u32_in _ (by omega)))
 try simp only [Act.put, zTa, zTz, zTs]
 refine xTk 4 (v := _) (hm := ⟨by rfl, .inr ⟨12, _, ?_, fun w => (knumber_own 1 w)⟩⟩) (h := ?_)
 ·(intro w; go_simp; (try exact u32_in _ (by omega)))
 try simp only [Act.put, zTa, zTz, zTs]
 refine wpX_ready (rs := [1, 5]) (by kernel_rfl) (by simp) (fun W2 hW2 => ?_)
 replace HO := HO.drew.then hW2
 clear hW2
 apply merge_HW
 case h2 =>
  intro key
  have k1 := HO.cells 1 rfl
  refine AllReadyX.cons (by simp only [zGa, zGs, zGz]; rfl) (fun K hK => ?_) (AllReadyX.cons (by simp only [zGa, zGs, zGz]; rfl) (fun K hK => ?_) AllReadyX.nil)
  ·go_simp
   refine hK.out _ _ ?_
   clear hK K k1
   try simp only [Act.put, zTa, zTz, zTs]
   refine wpX_ready (rs := [5]) (by kernel_rfl) (by simp) (fun W3 hW3 => ?_)
   have HN := HO.then hW3
   refine xR1 (fun K hK => ?_)
   go_simp
   refine hK.out _ _ ?_
   clear hK K
   try simp only [Act.put, zTa, zTz, zTs]
   refine sx_alloc HN ?_
   generalize W3.heap.size = H
   intro W4 HN2
   exact key H W4 HN2
  ·go_simp
   refine hK.out _ _ ?_
   clear hK K k1
   try simp only [Act.put, zTa, zTz, zTs]
   refine sx_alloc HO ?_
   generalize W2.heap.size = H
   intro W3 HN
   refine wpX_ready (rs := [1]) (by kernel_rfl) (by simp) (fun W4 hW4 => ?_)
   replace HN := HN.then hW4
   have k1 := HN.cells 2 rfl
   refine xR1 (fun K hK => ?_)
   go_simp
   refine hK.out _ _ ?_
   clear hK K k1
   try simp only [Act.put, zTa, zTz, zTs]
   exact key H W4 HN
 clear HO
 intro H W4 HO
 refine wpX_ready (rs := [6]) (by kernel_rfl) (by simp) (fun W5 hW5 => ?_)
 replace HO := HO.then hW5
 clear hW5 W4
 refine xR1 (fun K hK => ?_)
 go_simp
 go_at_call 8
 have cc := kadd_own w v _ _ _ (71) (0) (0) (some ⟨H, 0, none⟩) 3 3 W5 (HO.perm (List.Perm.swap _ _ _)) (by omega)
 refine cc.mono ?_
 clear cc HO
 rintro e W6 ⟨g6, c6, rfl, HO⟩
 refine hK.out _ _ ?_
 clear hK K
 try simp only [Act.put, zTa, zTz, zTs]
 refine xTk 7 (v := ?_) (hm := ⟨by rfl, .inl ?_⟩) (h := ?_)
 rotate_left
 ·(intro w; go_simp; first | done | with_reducible rfl)
 try simp only [Act.put, zTa, zTz, zTs]
 refine wpX_ready (rs := [8]) (by kernel_rfl) (by simp) (fun W7 hW7 => ?_)
 replace HO := HO.then hW7
 clear hW7
 have k1 := HO.cells 2 rfl
 have m1 := HO.melt 2 rfl
 refine xR1 (fun K hK => ?_)
 go_simp
 refine hK.out _ _ ?_
 clear hK K k1 m1
 try simp only [Act.put, zTa, zTz, zTs]
 replace HO := HO.set 2 2 (.slice (some ⟨g6, 0, none⟩) (3 + 1) c6) rfl
 simp only [zTz, zTs, zTa] at HO
 refine wpX_done (by kernel_rfl) (fun W8 hW8 => ?_) _
 replace HO := HO.then hW8
 clear hW8 W5 W6
 have HS : Hid (StP w gm (30 + n) L0 (headL.take 4) W8) := hid (StP.push (l := headL.take 3) (i := ⟨71, 0, 0, [idA 11, enA 30, numA 1]⟩) HO 3 hp (by rw [hpl]) rfl rfl)
 clear HO hp hpl
 obtain ⟨p, v, D, hp, HO⟩ := HS.out.at_
 have hpl : p.length = 4 := stp_len hp
 unfold stS at HO
 rw [hpl] at HO
 clear HS
 go_wp2_with fail
 refine wp_region_x (by kernel_rfl) ?_
 refine xTk 0 (v := ?_) (hm := ⟨by rfl, .inl ?_⟩) (h := ?_)
 rotate_left
 ·(intro w; go_simp; first | done | with_reducible rfl)
 try simp only [Act.put, zTa, zTz, zTs]
 refine xTk 2 (v := _) (hm := ⟨by rfl, .inr ⟨10, _, ?_, fun w => (kid_own 12 w)⟩⟩) (h := ?_)
 ·(intro w; go_simp; (try exact u32_in _ (by omega)))
 try simp only [Act.put, zTa, zTz, zTs]
 refine xTk 3 (v := _) (hm := ⟨by rfl, .inr ⟨9, _, ?_, fun w => (kenum_own 30 w)⟩⟩) (h := ?_)
 ·(intro w; go_simp; (try exact u32_in _ (by omega)))
 try simp only [Act.put, zTa, zTz, zTs]
 refine xTk 4 (v := _) (hm := ⟨by rfl, .inr ⟨12, _, ?_, fun w => (knumber_own 0 w)⟩⟩) (h := ?_)
 ·(intro w; go_simp; (try exact u32_in _ (by omega)))
 try simp only [Act.put, zTa, zTz, zTs]
 refine wpX_ready (rs := [1, 5]) (by kernel_rfl) (by simp) (fun W2 hW2 => ?_)
 replace HO := HO.drew.then hW2
 clear hW2
 apply merge_HW
 case h2 =>
  intro key
  have k1 := HO.cells 1 rfl
  refine AllReadyX.cons (by simp only [zGa, zGs, zGz]; rfl) (fun K hK => ?_) (AllReadyX.cons (by simp only [zGa, zGs, zGz]; rfl) (fun K hK => ?_) AllReadyX.nil)
  ·go_simp
   refine hK.out _ _ ?_
   clear hK K k1
   try simp only [Act.put, zTa, zTz, zTs]
   refine wpX_ready (rs := [5]) (by kernel_rfl) (by simp) (fun W3 hW3 => ?_)
   have HN := HO.then hW3
   refine xR1 (fun K hK => ?_)
   go_simp
   refine hK.out _ _ ?_
   clear hK K
   try simp only [Act.put, zTa, zTz, zTs]
   refine sx_alloc HN ?_
   generalize W3.heap.size = H
   intro W4 HN2
   exact key H W4 HN2
  ·go_simp
   refine hK.out _ _ ?_
   clear hK K k1
   try simp only [Act.put, zTa, zTz, zTs]
   refine sx_alloc HO ?_
   generalize W2.heap.size = H
   intro W3 HN
   refine wpX_ready (rs := [1]) (by kernel_rfl) (by simp) (fun W4 hW4 => ?_)
   replace HN := HN.then hW4
   have k1 := HN.cells 2 rfl
   refine xR1 (fun K hK => ?_)
   go_simp
   refine hK.out _ _ ?_
   clear hK K k1
   try simp only [Act.put, zTa, zTz, zTs]
   exact key H W4 HN
 clear HO
 intro H W4 HO
 refine wpX_ready (rs := [6]) (by kernel_rfl) (by simp) (fun W5 hW5 => ?_)
 replace HO := HO.then hW5
 clear hW5 W4
 refine xR1 (fun K hK => ?_)
 go_simp
 go_at_call 8
 have cc := kadd_own w v _ _ _ (71) (0) (0) (some ⟨H, 0, none⟩) 3 3 W5 (HO.perm (List.Perm.swap _ _ _)) (by omega)
 refine cc.mono ?_
 clear cc HO
 rintro e W6 ⟨g6, c6, rfl, HO⟩
 refine hK.out _ _ ?_
 clear hK K
 try simp only [Act.put, zTa, zTz, zTs]
 refine xTk 7 (v := ?_) (hm := ⟨by rfl, .inl ?_⟩) (h := ?_)
 rotate_left
 ·(intro w; go_simp; first | done | with_reducible rfl)
 try simp only [Act.put, zTa, zTz, zTs]
 refine wpX_ready (rs := [8]) (by kernel_rfl) (by simp) (fun W7 hW7 => ?_)
 replace HO := HO.then hW7
 clear hW7
 have k1 := HO.cells 2 rfl
 have m1 := HO.melt 2 rfl
 refine xR1 (fun K hK => ?_)
 go_simp
 refine hK.out _ _ ?_
 clear hK K k1 m1
 try simp only [Act.put, zTa, zTz, zTs]
 replace HO := HO.set 2 2 (.slice (some ⟨g6, 0, none⟩) (4 + 1) c6) rfl
 simp only [zTz, zTs, zTa] at HO
 refine wpX_done (by kernel_rfl) (fun W8 hW8 => ?_) _
 replace HO := HO.then hW8
 clear hW8 W5 W6
 have HS : Hid (StP w gm (30 + n) L0 (headL.take 5) W8) := hid (StP.push (l := headL.take 4) (i := ⟨71, 0, 0, [idA 12, enA 30, numA 0]⟩) HO 3 hp (by rw [hpl]) rfl rfl)
 clear HO hp hpl
 obtain ⟨p, v, D, hp, HO⟩ := HS.out.at_
 have hpl : p.length = 5 := stp_len hp
 unfold stS at HO
 rw [hpl] at HO
 clear HS
 go_wp2_with fail
 refine wp_region_x (by kernel_rfl) ?_
 refine xTk 0 (v := ?_) (hm := ⟨by rfl, .inl ?_⟩) (h := ?_)
 rotate_left
 ·(intro w; go_simp; first | done | with_reducible rfl)
 try simp only [Act.put, zTa, zTz, zTs]
 refine xTk 2 (v := _) (hm := ⟨by rfl, .inr ⟨10, _, ?_, fun w => (kid_own 13 w)⟩⟩) (h := ?_)
 ·(intro w; go_simp; (try exact u32_in _ (by omega)))
 try simp only [Act.put, zTa, zTz, zTs]
 refine xTk 3 (v := _) (hm := ⟨by rfl, .inr ⟨9, _, ?_, fun w => (kenum_own 11 w)⟩⟩) (h := ?_)
 ·(intro w; go_simp; (try exact u32_in _ (by omega)))
 try simp only [Act.put, zTa, zTz, zTs]
 refine xTk 4 (v := _) (hm := ⟨by rfl, .inr ⟨12, _, ?_, fun w => (knumber_own 0 w)⟩⟩) (h := ?_)
 ·(intro w; go_simp; (try exact u32_in _ (by omega)))
 try simp only [Act.put, zTa, zTz, zTs]
 refine wpX_ready (rs := [1, 5]) (by kernel_rfl) (by simp) (fun W2 hW2 => ?_)
 replace HO := HO.drew.then hW2
 clear hW2
 apply merge_HW
 case h2 =>
  intro key
  have k1 := HO.cells 1 rfl
  refine AllReadyX.cons (by simp only [zGa, zGs, zGz]; rfl) (fun K hK => ?_) (AllReadyX.cons (by simp only [zGa, zGs, zGz]; rfl) (fun K hK => ?_) AllReadyX.nil)
  ·go_simp
   refine hK.out _ _ ?_
   clear hK K k1
   try simp only [Act.put, zTa, zTz, zTs]
   refine wpX_ready (rs := [5]) (by kernel_rfl) (by simp) (fun W3 hW3 => ?_)
   have HN := HO.then hW3
   refine xR1 (fun K hK => ?_)
   go_simp
   refine hK.out _ _ ?_
   clear hK K
   try simp only [Act.put, zTa, zTz, zTs]
   refine sx_alloc HN ?_
   generalize W3.heap.size = H
   intro W4 HN2
   exact key H W4 HN2
  ·go_simp
   refine hK.out _ _ ?_
   clear hK K k1
   try simp only [Act.put, zTa, zTz, zTs]
   refine sx_alloc HO ?_
   generalize W2.heap.size = H
   intro W3 HN
   refine wpX_ready (rs := [1]) (by kernel_rfl) (by simp) (fun W4 hW4 => ?_)
   replace HN := HN.then hW4
   have k1 := HN.cells 2 rfl
   refine xR1 (fun K hK => ?_)
   go_simp
   refine hK.out _ _ ?_
   clear hK K k1
   try simp only [Act.put, zTa, zTz, zTs]
   exact key H W4 HN
 clear HO
 intro H W4 HO
 refine wpX_ready (rs := [6]) (by kernel_rfl) (by simp) (fun W5 hW5 => ?_)
 replace HO := HO.then hW5
 clear hW5 W4
 refine xR1 (fun K hK => ?_)
 go_simp
 go_at_call 8
 have cc := kadd_own w v _ _ _ (71) (0) (0) (some ⟨H, 0, none⟩) 3 3 W5 (HO.perm (List.Perm.swap _ _ _)) (by omega)
 refine cc.mono ?_
 clear cc HO
 rintro e W6 ⟨g6, c6, rfl, HO⟩
 refine hK.out _ _ ?_
 clear hK K
 try simp only [Act.put, zTa, zTz, zTs]
 refine xTk 7 (v := ?_) (hm := ⟨by rfl, .inl ?_⟩) (h := ?_)
 rotate_left
 ·(intro w; go_simp; first | done | with_reducible rfl)
 try simp only [Act.put, zTa, zTz, zTs]
 refine wpX_ready (rs := [8]) (by kernel_rfl) (by simp) (fun W7 hW7 => ?_)
 replace HO := HO.then hW7
 clear hW7
 have k1 := HO.cells 2 rfl
 have m1 := HO.melt 2 rfl
 refine xR1 (fun K hK => ?_)
 go_simp
 refine hK.out _ _ ?_
 clear hK K k1 m1
 try simp only [Act.put, zTa, zTz, zTs]
 replace HO := HO.set 2 2 (.slice (some ⟨g6, 0, none⟩) (5 + 1) c6) rfl
 simp only [zTz, zTs, zTa] at HO
 refine wpX_done (by kernel_rfl) (fun W8 hW8 => ?_) _
 replace HO := HO.then hW8
 clear hW8 W5 W6
 have HS : Hid (StP w gm (30 + n) L0 (headL.take 6) W8) := hid (StP.push (l := headL.take 5) (i := ⟨71, 0, 0, [idA 13, enA 11, numA 0]⟩) HO 3 hp (by rw [hpl]) rfl rfl)
 clear HO hp hpl
 obtain ⟨p, v, D, hp, HO⟩ := HS.out.at_
 have hpl : p.length = 6 := stp_len hp
 unfold stS at HO
 rw [hpl] at HO
 clear HS
 (try simp only [zTz, zTs, zTa, zDs, zDz] at HO); (try have kk := HO.kk); skip
 go_wp2_with (first | ((first | (with_reducible refine sp_sk HO ?_) | (with_reducible refine sp_skc HO ?_)); intro W' HO'; clear HO; (try clear kk); have HO := HO'; clear HO'; (try simp only [zTz, zTs, zTa] at HO); (try have kk := HO.kk); skip) | (go_at_call 8; refine (kadd_own w v _ _ _ 19 0 1 none 0 0 _ HO (by omega)).mono ?_; rintro e W6 ⟨g6, c6, rfl, HO1⟩; clear HO; (try clear kk); skip; have HO := HO1; clear HO1; (try simp only [zTz, zTs, zTa, zDs, zDz] at HO); (try have kk := HO.kk); skip))
 (try clear kk); skip
 have HS := hid (show StP w gm (30 + n) L0 (headL.take 7) _ from StP.push0 (l := headL.take 6) (i := ⟨19, 0, 1, []⟩) HO hp (by rw [hpl]) rfl rfl)
 clear HO hp hpl
 obtain ⟨p, v, D, hp, HO⟩ := HS.out.at_
 have hpl : p.length = 7 := stp_len hp
 unfold stS at HO
 rw [hpl] at HO
 clear HS
 go_wp2_with fail
 refine wp_region_x (by kernel_rfl) ?_
 refine xTk 0 (v := ?_) (hm := ⟨by rfl, .inl ?_⟩) (h := ?_)
 rotate_left
 ·(intro w; go_simp; first | done | with_reducible rfl)
 try simp only [Act.put, zTa, zTz, zTs]
 refine xTk 2 (v := _) (hm := ⟨by rfl, .inr ⟨10, _, ?_, fun w => (kid_own 1 w)⟩⟩) (h := ?_)
 ·(intro w; go_simp; (try exact u32_in _ (by omega)))
 try simp only [Act.put, zTa, zTz, zTs]
 refine wpX_ready (rs := [1, 3]) (by kernel_rfl) (by simp) (fun W2 hW2 => ?_)
 replace HO := HO.drew.then hW2
 clear hW2
 apply merge_HW
 case h2 =>
  intro key
  have k1 := HO.cells 1 rfl
  refine AllReadyX.cons (by simp only [zGa, zGs, zGz]; rfl) (fun K hK => ?_) (AllReadyX.cons (by simp only [zGa, zGs, zGz]; rfl) (fun K hK => ?_) AllReadyX.nil)
  ·go_simp
   refine hK.out _ _ ?_
   clear hK K k1
   try simp only [Act.put, zTa, zTz, zTs]
   refine wpX_ready (rs := [3]) (by kernel_rfl) (by simp) (fun W3 hW3 => ?_)
   have HN := HO.then hW3
   refine xR1 (fun K hK => ?_)
   go_simp
   refine hK.out _ _ ?_
   clear hK K
   try simp only [Act.put, zTa, zTz, zTs]
   refine sx_alloc HN ?_
   generalize W3.heap.size = H
   intro W4 HN2
   exact key H W4 HN2
  ·go_simp
   refine hK.out _ _ ?_
   clear hK K k1
   try simp only [Act.put, zTa, zTz, zTs]
   refine sx_alloc HO ?_
   generalize W2.heap.size = H
   intro W3 HN
   refine wpX_ready (rs := [1]) (by kernel_rfl) (by simp) (fun W4 hW4 => ?_)
   replace HN := HN.then hW4
   have k1 := HN.cells 2 rfl
   refine xR1 (fun K hK => ?_)
   go_simp
   refine hK.out _ _ ?_
   clear hK K k1
   try simp only [Act.put, zTa, zTz, zTs]
   exact key H W4 HN
 clear HO
 intro H W4 HO
 refine wpX_ready (rs := [4]) (by kernel_rfl) (by simp) (fun W5 hW5 => ?_)
 replace HO := HO.then hW5
 clear hW5 W4
 refine xR1 (fun K hK => ?_)
 go_simp
 go_at_call 8
 have cc := kadd_own w v _ _ _ (33) (0) (2) (some ⟨H, 0, none⟩) 1 1 W5 (HO.perm (List.Perm.swap _ _ _)) (by omega)
 refine cc.mono ?_
 clear cc HO
 rintro e W6 ⟨g6, c6, rfl, HO⟩
 refine hK.out _ _ ?_
 clear hK K
 try simp only [Act.put, zTa, zTz, zTs]
 refine xTk 5 (v := ?_) (hm := ⟨by rfl, .inl ?_⟩) (h := ?_)
 rotate_left
 ·(intro w; go_simp; first | done | with_reducible rfl)
 try simp only [Act.put, zTa, zTz, zTs]
 refine wpX_ready (rs := [6]) (by kernel_rfl) (by simp) (fun W7 hW7 => ?_)
 replace HO := HO.then hW7
 clear hW7
 have k1 := HO.cells 2 rfl
 have m1 := HO.melt 2 rfl
 refine xR1 (fun K hK => ?_)
 go_simp
 refine hK.out _ _ ?_
 clear hK K k1 m1
 try simp only [Act.put, zTa, zTz, zTs]
 replace HO := HO.set 2 2 (.slice (some ⟨g6, 0, none⟩) (7 + 1) c6) rfl
 simp only [zTz, zTs, zTa] at HO
 refine wpX_done (by kernel_rfl) (fun W8 hW8 => ?_) _
 replace HO := HO.then hW8
 clear hW8 W5 W6
 have HS : Hid (StP w gm (30 + n) L0 (headL.take 8) W8) := hid (StP.push (l := headL.take 7) (i := ⟨33, 0, 2, [idA 1]⟩) HO 1 hp (by rw [hpl]) rfl rfl)
 clear HO hp hpl
 obtain ⟨p, v, D, hp, HO⟩ := HS.out.at_
 have hpl : p.length = 8 := stp_len hp
 unfold stS at HO
 rw [hpl] at HO
 clear HS
 go_wp2_with fail
 refine wp_region_x (by kernel_rfl) ?_
 refine xTk 0 (v := ?_) (hm := ⟨by rfl, .inl ?_⟩) (h := ?_)
 rotate_left
 ·(intro w; go_simp; first | done | with_reducible rfl)
 try simp only [Act.put, zTa, zTz, zTs]
 refine xTk 2 (v := _) (hm := ⟨by rfl, .inr ⟨12, _, ?_, fun w => (knumber_own 32 w)⟩⟩) (h := ?_)
 ·(intro w; go_simp; (try exact u32_in _ (by omega)))
 try simp only [Act.put, zTa, zTz, zTs]
 refine xTk 3 (v := _) (hm := ⟨by rfl, .inr ⟨12, _, ?_, fun w => (knumber_own 0 w)⟩⟩) (h := ?_)
 ·(intro w; go_simp; (try exact u32_in _ (by omega)))
 try simp only [Act.put, zTa, zTz, zTs]
 refine wpX_ready (rs := [1, 4]) (by kernel_rfl) (by simp) (fun W2 hW2 => ?_)
 replace HO := HO.drew.then hW2
 clear hW2
 apply merge_HW
 case h2 =>
  intro key
  have k1 := HO.cells 1 rfl
  refine AllReadyX.cons (by simp only [zGa, zGs, zGz]; rfl) (fun K hK => ?_) (AllReadyX.cons (by simp only [zGa, zGs, zGz]; rfl) (fun K hK => ?_) AllReadyX.nil)
  ·go_simp
   refine hK.out _ _ ?_
   clear hK K k1
   try simp only [Act.put, zTa, zTz, zTs]
   refine wpX_ready (rs := [4]) (by kernel_rfl) (by simp) (fun W3 hW3 => ?_)
   have HN := HO.then hW3
   refine xR1 (fun K hK => ?_)
   go_simp
   refine hK.out _ _ ?_
   clear hK K
   try simp only [Act.put, zTa, zTz, zTs]
   refine sx_alloc HN ?_
   generalize W3.heap.size = H
   intro W4 HN2
   exact key H W4 HN2
  ·go_simp
   refine hK.out _ _ ?_
   clear hK K k1
   try simp only [Act.put, zTa, zTz, zTs]
   refine sx_alloc HO ?_
   generalize W2.heap.size = H
   intro W3 HN
   refine wpX_ready (rs := [1]) (by kernel_rfl) (by simp) (fun W4 hW4 => ?_)
   replace HN := HN.then hW4
   have k1 := HN.cells 2 rfl
   refine xR1 (fun K hK => ?_)
   go_simp
   refine hK.out _ _ ?_
   clear hK K k1
   try simp only [Act.put, zTa, zTz, zTs]
   exact key H W4 HN
 clear HO
 intro H W4 HO
 refine wpX_ready (rs := [5]) (by kernel_rfl) (by simp) (fun W5 hW5 => ?_)
 replace HO := HO.then hW5
 clear hW5 W4
 refine xR1 (fun K hK => ?_)
 go_simp
 go_at_call 8
 have cc := kadd_own w v _ _ _ (21) (0) (3) (some ⟨H, 0, none⟩) 2 2 W5 (HO.perm (List.Perm.swap _ _ _)) (by omega)
 refine cc.mono ?_
 clear cc HO
 rintro e W6 ⟨g6, c6, rfl, HO⟩
 refine hK.out _ _ ?_
 clear hK K
 try simp only [Act.put, zTa, zTz, zTs]
 refine xTk 6 (v := ?_) (hm := ⟨by rfl, .inl ?_⟩) (h := ?_)
 rotate_left
 ·(intro w; go_simp; first | done | with_reducible rfl)
 try simp only [Act.put, zTa, zTz, zTs]
 refine wpX_ready (rs := [7]) (by kernel_rfl) (by simp) (fun W7 hW7 => ?_)
 replace HO := HO.then hW7
 clear hW7
 have k1 := HO.cells 2 rfl
 have m1 := HO.melt 2 rfl
 refine xR1 (fun K hK => ?_)
 go_simp
 refine hK.out _ _ ?_
 clear hK K k1 m1
 try simp only [Act.put, zTa, zTz, zTs]
 replace HO := HO.set 2 2 (.slice (some ⟨g6, 0, none⟩) (8 + 1) c6) rfl
 simp only [zTz, zTs, zTa] at HO
 refine wpX_done (by kernel_rfl) (fun W8 hW8 => ?_) _
 replace HO := HO.then hW8
 clear hW8 W5 W6
 have HS : Hid (StP w gm (30 + n) L0 (headL.take 9) W8) := hid (StP.push (l := headL.take 8) (i := ⟨21, 0, 3, [numA 32, numA 0]⟩) HO 2 hp (by rw [hpl]) rfl rfl)
 clear HO hp hpl
 obtain ⟨p, v, D, hp, HO⟩ := HS.out.at_
 have hpl : p.length = 9 := stp_len hp
 unfold stS at HO
 rw [hpl] at HO
 clear HS
 go_wp2_with fail
 refine wp_region_x (by kernel_rfl) ?_
 refine xTk 0 (v := ?_) (hm := ⟨by rfl, .inl ?_⟩) (h := ?_)
 rotate_left
 ·(intro w; go_simp; first | done | with_reducible rfl)
 try simp only [Act.put, zTa, zTz, zTs]
 refine xTk 2 (v := _) (hm := ⟨by rfl, .inr ⟨12, _, ?_, fun w => (knumber_own 32 w)⟩⟩) (h := ?_)
 ·(intro w; go_simp; (try exact u32_in _ (by omega)))
 try simp only [Act.put, zTa, zTz, zTs]
 refine xTk 3 (v := _) (hm := ⟨by rfl, .inr ⟨12, _, ?_, fun w => (knumber_own 1 w)⟩⟩) (h := ?_)
 ·(intro w; go_simp; (try exact u32_in _ (by omega)))
 try simp only [Act.put, zTa, zTz, zTs]
 refine wpX_ready (rs := [1, 4]) (by kernel_rfl) (by simp) (fun W2 hW2 => ?_)
 replace HO := HO.drew.then hW2
 clear hW2
 apply merge_HW
 case h2 =>
  intro key
  have k1 := HO.cells 1 rfl
  refine AllReadyX.cons (by simp only [zGa, zGs, zGz]; rfl) (fun K hK => ?_) (AllReadyX.cons (by simp only [zGa, zGs, zGz]; rfl) (fun K hK => ?_) AllReadyX.nil)
  ·go_simp
   refine hK.out _ _ ?_
   clear hK K k1
   try simp only [Act.put, zTa, zTz, zTs]
   refine wpX_ready (rs := [4]) (by kernel_rfl) (by simp) (fun W3 hW3 => ?_)
   have HN := HO.then hW3
   refine xR1 (fun K hK => ?_)
   go_simp
   refine hK.out _ _ ?_
   clear hK K
   try simp only [Act.put, zTa, zTz, zTs]
   refine sx_alloc HN ?_
   generalize W3.heap.size = H
   intro W4 HN2
   exact key H W4 HN2
  ·go_simp
   refine hK.out _ _ ?_
   clear hK K k1
   try simp only [Act.put, zTa, zTz, zTs]
   refine sx_alloc HO ?_
   generalize W2.heap.size = H
   intro W3 HN
   refine wpX_ready (rs := [1]) (by kernel_rfl) (by simp) (fun W4 hW4 => ?_)
   replace HN := HN.then hW4
   have k1 := HN.cells 2 rfl
   refine xR1 (fun K hK => ?_)
   go_simp
   refine hK.out _ _ ?_
   clear hK K k1
   try simp only [Act.put, zTa, zTz, zTs]
   exact key H W4 HN
 clear HO
 intro H W4 HO
 refine wpX_ready (rs := [5]) (by kernel_rfl) (by simp) (fun W5 hW5 => ?_)
 replace HO := HO.then hW5
 clear hW5 W4
 refine xR1 (fun K hK => ?_)
 go_simp
 go_at_call 8
 have cc := kadd_own w v _ _ _ (21) (0) (4) (some ⟨H, 0, none⟩) 2 2 W5 (HO.perm (List.Perm.swap _ _ _)) (by omega)
 refine cc.mono ?_
 clear cc HO
 rintro e W6 ⟨g6, c6, rfl, HO⟩
 refine hK.out _ _ ?_
 clear hK K
 try simp only [Act.put, zTa, zTz, zTs]
 refine xTk 6 (v := ?_) (hm := ⟨by rfl, .inl ?_⟩) (h := ?_)
 rotate_left
 ·(intro w; go_simp; first | done | with_reducible rfl)
 try simp only [Act.put, zTa, zTz, zTs]
 refine wpX_ready (rs := [7]) (by kernel_rfl) (by simp) (fun W7 hW7 => ?_)
 replace HO := HO.then hW7
 clear hW7
 have k1 := HO.cells 2 rfl
 have m1 := HO.melt 2 rfl
 refine xR1 (fun K hK => ?_)
 go_simp
 refine hK.out _ _ ?_
 clear hK K k1 m1
 try simp only [Act.put, zTa, zTz, zTs]
 replace HO := HO.set 2 2 (.slice (some ⟨g6, 0, none⟩) (9 + 1) c6) rfl
 simp only [zTz, zTs, zTa] at HO
 refine wpX_done (by kernel_rfl) (fun W8 hW8 => ?_) _
 replace HO := HO.then hW8
 clear hW8 W5 W6
 have HS : Hid (StP w gm (30 + n) L0 (headL.take 10) W8) := hid (StP.push (l := headL.take 9) (i := ⟨21, 0, 4, [numA 32, numA 1]⟩) HO 2 hp (by rw [hpl]) rfl rfl)
 clear HO hp hpl
 obtain ⟨p, v, D, hp, HO⟩ := HS.out.at_
 have hpl : p.length = 10 := stp_len hp
 unfold stS at HO
 rw [hpl] at HO
 clear HS
 go_wp2_with fail
 refine wp_region_x (by kernel_rfl) ?_
 refine xTk 0 (v := ?_) (hm := ⟨by rfl, .inl ?_⟩) (h := ?_)
 rotate_left
 ·(intro w; go_simp; first | done | with_reducible rfl)
 try simp only [Act.put, zTa, zTz, zTs]
 refine xTk 2 (v := _) (hm := ⟨by rfl, .inr ⟨10, _, ?_, fun w => (kid_own 4 w)⟩⟩) (h := ?_)
 ·(intro w; go_simp; (try exact u32_in _ (by omega)))
 try simp only [Act.put, zTa, zTz, zTs]
 refine xTk 3 (v := _) (hm := ⟨by rfl, .inr ⟨12, _, ?_, fun w => (knumber_own 4 w)⟩⟩) (h := ?_)
 ·(intro w; go_simp; (try exact u32_in _ (by omega)))
 try simp only [Act.put, zTa, zTz, zTs]
 refine wpX_ready (rs := [1, 4]) (by kernel_rfl) (by simp) (fun W2 hW2 => ?_)
 replace HO := HO.drew.then hW2
 clear hW2
 apply merge_HW
 case h2 =>
  intro key
  have k1 := HO.cells 1 rfl
  refine AllReadyX.cons (by simp only [zGa, zGs, zGz]; rfl) (fun K hK => ?_) (AllReadyX.cons (by simp only [zGa, zGs, zGz]; rfl) (fun K hK => ?_) AllReadyX.nil)
  ·go_simp
   refine hK.out _ _ ?_
   clear hK K k1
   try simp only [Act.put, zTa, zTz, zTs]
   refine wpX_ready (rs := [4]) (by kernel_rfl) (by simp) (fun W3 hW3 => ?_)
   have HN := HO.then hW3
   refine xR1 (fun K hK => ?_)
   go_simp
   refine hK.out _ _ ?_
   clear hK K
   try simp only [Act.put, zTa, zTz, zTs]
   refine sx_alloc HN ?_
   generalize W3.heap.size = H
   intro W4 HN2
   exact key H W4 HN2
  ·go_simp
   refine hK.out _ _ ?_
   clear hK K k1
   try simp only [Act.put, zTa, zTz, zTs]
   refine sx_alloc HO ?_
   generalize W2.heap.size = H
   intro W3 HN
   refine wpX_ready (rs := [1]) (by kernel_rfl) (by simp) (fun W4 hW4 => ?_)
   replace HN := HN.then hW4
   have k1 := HN.cells 2 rfl
   refine xR1 (fun K hK => ?_)
   go_simp
   refine hK.out _ _ ?_
   clear hK K k1
   try simp only [Act.put, zTa, zTz, zTs]
   exact key H W4 HN
 clear HO
 intro H W4 HO
 refine wpX_ready (rs := [5]) (by kernel_rfl) (by simp) (fun W5 hW5 => ?_)
 replace HO := HO.then hW5
 clear hW5 W4
 refine xR1 (fun K hK => ?_)
 go_simp
 go_at_call 8
 have cc := kadd_own w v _ _ _ (23) (0) (5) (some ⟨H, 0, none⟩) 2 2 W5 (HO.perm (List.Perm.swap _ _ _)) (by omega)
 refine cc.mono ?_
 clear cc HO
 rintro e W6 ⟨g6, c6, rfl, HO⟩
 refine hK.out _ _ ?_
 clear hK K
 try simp only [Act.put, zTa, zTz, zTs]
 refine xTk 6 (v := ?_) (hm := ⟨by rfl, .inl ?_⟩) (h := ?_)
 rotate_left
 ·(intro w; go_simp; first | done | with_reducible rfl)
 try simp only [Act.put, zTa, zTz, zTs]
 refine wpX_ready (rs := [7]) (by kernel_rfl) (by simp) (fun W7 hW7 => ?_)
 replace HO := HO.then hW7
 clear hW7
 have k1 := HO.cells 2 rfl
 have m1 := HO.melt 2 rfl
 refine xR1 (fun K hK => ?_)
 go_simp
 refine hK.out _ _ ?_
 clear hK K k1 m1
 try simp only [Act.put, zTa, zTz, zTs]
 replace HO := HO.set 2 2 (.slice (some ⟨g6, 0, none⟩) (10 + 1) c6) rfl
 simp only [zTz, zTs, zTa] at HO
 refine wpX_done (by kernel_rfl) (fun W8 hW8 => ?_) _
 replace HO := HO.then hW8
 clear hW8 W5 W6
 have HS : Hid (StP w gm (30 + n) L0 (headL.take 11) W8) := hid (StP.push (l := headL.take 10) (i := ⟨23, 0, 5, [idA 4, numA 4]⟩) HO 2 hp (by rw [hpl]) rfl rfl)
 clear HO hp hpl
 obtain ⟨p, v, D, hp, HO⟩ := HS.out.at_
 have hpl : p.length = 11 := stp_len hp
 unfold stS at HO
 rw [hpl] at HO
 clear HS
 go_wp2_with fail
 refine wp_region_x (by kernel_rfl) ?_
 refine xTk 0 (v := ?_) (hm := ⟨by rfl, .inl ?_⟩) (h := ?_)
 rotate_left
 ·(intro w; go_simp; first | done | with_reducible rfl)
 try simp only [Act.put, zTa, zTz, zTs]
 refine xTk 2 (v := _) (hm := ⟨by rfl, .inr ⟨9, _, ?_, fun w => (kenum_own 1 w)⟩⟩) (h := ?_)
 ·(intro w; go_simp; (try exact u32_in _ (by omega)))
 try simp only [Act.put, zTa, zTz, zTs]
 refine xTk 3 (v := _) (hm := ⟨by rfl, .inr ⟨10, _, ?_, fun w => (kid_own 3 w)⟩⟩) (h := ?_)
 ·(intro w; go_simp; (try exact u32_in _ (by omega)))
 try simp only [Act.put, zTa, zTz, zTs]
 refine wpX_ready (rs := [1, 4]) (by kernel_rfl) (by simp) (fun W2 hW2 => ?_)
 replace HO := HO.drew.then hW2
 clear hW2
 apply merge_HW
 case h2 =>
  intro key
  have k1 := HO.cells 1 rfl
  refine AllReadyX.cons (by simp only [zGa, zGs, zGz]; rfl) (fun K hK => ?_) (AllReadyX.cons (by simp only [zGa, zGs, zGz]; rfl) (fun K hK => ?_) AllReadyX.nil)
  ·go_simp
   refine hK.out _ _ ?_
   clear hK K k1
   try simp only [Act.put, zTa, zTz, zTs]
   refine wpX_ready (rs := [4]) (by kernel_rfl) (by simp) (fun W3 hW3 => ?_)
   have HN := HO.then hW3
   refine xR1 (fun K hK => ?_)
   go_simp
   refine hK.out _ _ ?_
   clear hK K
   try simp only [Act.put, zTa, zTz, zTs]
   refine sx_alloc HN ?_
   generalize W3.heap.size = H
   intro W4 HN2
   exact key H W4 HN2
  ·go_simp
   refine hK.out _ _ ?_
   clear hK K k1
   try simp only [Act.put, zTa, zTz, zTs]
   refine sx_alloc HO ?_
   generalize W2.heap.size = H
   intro W3 HN
   refine wpX_ready (rs := [1]) (by kernel_rfl) (by simp) (fun W4 hW4 => ?_)
   replace HN := HN.then hW4
   have k1 := HN.cells 2 rfl
   refine xR1 (fun K hK => ?_)
   go_simp
   refine hK.out _ _ ?_
   clear hK K k1
   try simp only [Act.put, zTa, zTz, zTs]
   exact key H W4 HN
 clear HO
 intro H W4 HO
 refine wpX_ready (rs := [5]) (by kernel_rfl) (by simp) (fun W5 hW5 => ?_)
 replace HO := HO.then hW5
 clear hW5 W4
 refine xR1 (fun K hK => ?_)
 go_simp
 go_at_call 8
 have cc := kadd_own w v _ _ _ (32) (0) (6) (some ⟨H, 0, none⟩) 2 2 W5 (HO.perm (List.Perm.swap _ _ _)) (by omega)
 refine cc.mono ?_
 clear cc HO
 rintro e W6 ⟨g6, c6, rfl, HO⟩
 refine hK.out _ _ ?_
 clear hK K
 try simp only [Act.put, zTa, zTz, zTs]
 refine xTk 6 (v := ?_) (hm := ⟨by rfl, .inl ?_⟩) (h := ?_)
 rotate_left
 ·(intro w; go_simp; first | done | with_reducible rfl)
 try simp only [Act.put, zTa, zTz, zTs]
 refine wpX_ready (rs := [7]) (by kernel_rfl) (by simp) (fun W7 hW7 => ?_)
 replace HO := HO.then hW7
 clear hW7
 have k1 := HO.cells 2 rfl
 have m1 := HO.melt 2 rfl
 refine xR1 (fun K hK => ?_)
 go_simp
 refine hK.out _ _ ?_
 clear hK K k1 m1
 try simp only [Act.put, zTa, zTz, zTs]
 replace HO := HO.set 2 2 (.slice (some ⟨g6, 0, none⟩) (11 + 1) c6) rfl
 simp only [zTz, zTs, zTa] at HO
 refine wpX_done (by kernel_rfl) (fun W8 hW8 => ?_) _
 replace HO := HO.then hW8
 clear hW8 W5 W6
 have HS : Hid (StP w gm (30 + n) L0 (headL.take 12) W8) := hid (StP.push (l := headL.take 11) (i := ⟨32, 0, 6, [enA 1, idA 3]⟩) HO 2 hp (by rw [hpl]) rfl rfl)
 clear HO hp hpl
 obtain ⟨p, v, D, hp, HO⟩ := HS.out.at_
 have hpl : p.length = 12 := stp_len hp
 unfold stS at HO
 rw [hpl] at HO
 clear HS
 go_wp2_with fail
 refine wp_region_x (by kernel_rfl) ?_
 refine xTk 0 (v := ?_) (hm := ⟨by rfl, .inl ?_⟩) (h := ?_)
 rotate_left
 ·(intro w; go_simp; first | done | with_reducible rfl)
 try simp only [Act.put, zTa, zTz, zTs]
 refine xTk 2 (v := _) (hm := ⟨by rfl, .inr ⟨9, _, ?_, fun w => (kenum_own 3 w)⟩⟩) (h := ?_)
 ·(intro w; go_simp; (try exact u32_in _ (by omega)))
 try simp only [Act.put, zTa, zTz, zTs]
 refine xTk 3 (v := _) (hm := ⟨by rfl, .inr ⟨10, _, ?_, fun w => (kid_own 3 w)⟩⟩) (h := ?_)
 ·(intro w; go_simp; (try exact u32_in _ (by omega)))
 try simp only [Act.put, zTa, zTz, zTs]
 refine wpX_ready (rs := [1, 4]) (by kernel_rfl) (by simp) (fun W2 hW2 => ?_)
 replace HO := HO.drew.then hW2
 clear hW2
 apply merge_HW
 case h2 =>
  intro key
  have k1 := HO.cells 1 rfl
  refine AllReadyX.cons (by simp only [zGa, zGs, zGz]; rfl) (fun K hK => ?_) (AllReadyX.cons (by simp only [zGa, zGs, zGz]; rfl) (fun K hK => ?_) AllReadyX.nil)
  ·go_simp
   refine hK.out _ _ ?_
   clear hK K k1
   try simp only [Act.put, zTa, zTz, zTs]
   refine wpX_ready (rs := [4]) (by kernel_rfl) (by simp) (fun W3 hW3 => ?_)
   have HN := HO.then hW3
   refine xR1 (fun K hK => ?_)
   go_simp
   refine hK.out _ _ ?_
   clear hK K
   try simp only [Act.put, zTa, zTz, zTs]
   refine sx_alloc HN ?_
   generalize W3.heap.size = H
   intro W4 HN2
   exact key H W4 HN2
  ·go_simp
   refine hK.out _ _ ?_
   clear hK K k1
   try simp only [Act.put, zTa, zTz, zTs]
   refine sx_alloc HO ?_
   generalize W2.heap.size = H
   intro W3 HN
   refine wpX_ready (rs := [1]) (by kernel_rfl) (by simp) (fun W4 hW4 => ?_)
   replace HN := HN.then hW4
   have k1 := HN.cells 2 rfl
   refine xR1 (fun K hK => ?_)
   go_simp
   refine hK.out _ _ ?_
   clear hK K k1
   try simp only [Act.put, zTa, zTz, zTs]
   exact key H W4 HN
 clear HO
 intro H W4 HO
 refine wpX_ready (rs := [5]) (by kernel_rfl) (by simp) (fun W5 hW5 => ?_)
 replace HO := HO.then hW5
 clear hW5 W4
 refine xR1 (fun K hK => ?_)
 go_simp
 go_at_call 8
 have cc := kadd_own w v _ _ _ (32) (0) (7) (some ⟨H, 0, none⟩) 2 2 W5 (HO.perm (List.Perm.swap _ _ _)) (by omega)
 refine cc.mono ?_
 clear cc HO
 rintro e W6 ⟨g6, c6, rfl, HO⟩
 refine hK.out _ _ ?_
 clear hK K
 try simp only [Act.put, zTa, zTz, zTs]
 refine xTk 6 (v := ?_) (hm := ⟨by rfl, .inl ?_⟩) (h := ?_)
 rotate_left
 ·(intro w; go_simp; first | done | with_reducible rfl)
 try simp only [Act.put, zTa, zTz, zTs]
 refine wpX_ready (rs := [7]) (by kernel_rfl) (by simp) (fun W7 hW7 => ?_)
 replace HO := HO.then hW7
 clear hW7
 have k1 := HO.cells 2 rfl
 have m1 := HO.melt 2 rfl
 refine xR1 (fun K hK => ?_)
 go_simp
 refine hK.out _ _ ?_
 clear hK K k1 m1
 try simp only [Act.put, zTa, zTz, zTs]
 replace HO := HO.set 2 2 (.slice (some ⟨g6, 0, none⟩) (12 + 1) c6) rfl
 simp only [zTz, zTs, zTa] at HO
 refine wpX_done (by kernel_rfl) (fun W8 hW8 => ?_) _
 replace HO := HO.then hW8
 clear hW8 W5 W6
 have HS : Hid (StP w gm (30 + n) L0 (headL.take 13) W8) := hid (StP.push (l := headL.take 12) (i := ⟨32, 0, 7, [enA 3, idA 3]⟩) HO 2 hp (by rw [hpl]) rfl rfl)
 clear HO hp hpl
 obtain ⟨p, v, D, hp, HO⟩ := HS.out.at_
 have hpl : p.length = 13 := stp_len hp
 unfold stS at HO
 rw [hpl] at HO
 clear HS
 go_wp2_with fail
 refine wp_region_x (by kernel_rfl) ?_
 refine xTk 0 (v := ?_) (hm := ⟨by rfl, .inl ?_⟩) (h := ?_)
 rotate_left
 ·(intro w; go_simp; first | done | with_reducible rfl)
 try simp only [Act.put, zTa, zTz, zTs]
 refine xTk 2 (v := _) (hm := ⟨by rfl, .inr ⟨9, _, ?_, fun w => (kenum_own 3 w)⟩⟩) (h := ?_)
 ·(intro w; go_simp; (try exact u32_in _ (by omega)))
 try simp only [Act.put, zTa, zTz, zTs]
 refine xTk 3 (v := _) (hm := ⟨by rfl, .inr ⟨10, _, ?_, fun w => (kid_own 5 w)⟩⟩) (h := ?_)
 ·(intro w; go_simp; (try exact u32_in _ (by omega)))
 try simp only [Act.put, zTa, zTz, zTs]
 refine wpX_ready (rs := [1, 4]) (by kernel_rfl) (by simp) (fun W2 hW2 => ?_)
 replace HO := HO.drew.then hW2
 clear hW2
 apply merge_HW
 case h2 =>
  intro key
  have k1 := HO.cells 1 rfl
  refine AllReadyX.cons (by simp only [zGa, zGs, zGz]; rfl) (fun K hK => ?_) (AllReadyX.cons (by simp only [zGa, zGs, zGz]; rfl) (fun K hK => ?_) AllReadyX.nil)
  ·go_simp
   refine hK.out _ _ ?_
   clear hK K k1
   try simp only [Act.put, zTa, zTz, zTs]
   refine wpX_ready (rs := [4]) (by kernel_rfl) (by simp) (fun W3 hW3 => ?_)
   have HN := HO.then hW3
   refine xR1 (fun K hK => ?_)
   go_simp
   refine hK.out _ _ ?_
   clear hK K
   try simp only [Act.put, zTa, zTz, zTs]
   refine sx_alloc HN ?_
   generalize W3.heap.size = H
   intro W4 HN2
   exact key H W4 HN2
  ·go_simp
   refine hK.out _ _ ?_
   clear hK K k1
   try simp only [Act.put, zTa, zTz, zTs]
   refine sx_alloc HO ?_
   generalize W2.heap.size = H
   intro W3 HN
   refine wpX_ready (rs := [1]) (by kernel_rfl) (by simp) (fun W4 hW4 => ?_)
   replace HN := HN.then hW4
   have k1 := HN.cells 2 rfl
   refine xR1 (fun K hK => ?_)
   go_simp
   refine hK.out _ _ ?_
   clear hK K k1
   try simp only [Act.put, zTa, zTz, zTs]
   exact key H W4 HN
 clear HO
 intro H W4 HO
 refine wpX_ready (rs := [5]) (by kernel_rfl) (by simp) (fun W5 hW5 => ?_)
 replace HO := HO.then hW5
 clear hW5 W4
 refine xR1 (fun K hK => ?_)
 go_simp
 go_at_call 8
 have cc := kadd_own w v _ _ _ (32) (0) (8) (some ⟨H, 0, none⟩) 2 2 W5 (HO.perm (List.Perm.swap _ _ _)) (by omega)
 refine cc.mono ?_
 clear cc HO
 rintro e W6 ⟨g6, c6, rfl, HO⟩
 refine hK.out _ _ ?_
 clear hK K
 try simp only [Act.put, zTa, zTz, zTs]
 refine xTk 6 (v := ?_) (hm := ⟨by rfl, .inl ?_⟩) (h := ?_)
 rotate_left
 ·(intro w; go_simp; first | done | with_reducible rfl)
 try simp only [Act.put, zTa, zTz, zTs]
 refine wpX_ready (rs := [7]) (by kernel_rfl) (by simp) (fun W7 hW7 => ?_)
 replace HO := HO.then hW7
 clear hW7
 have k1 := HO.cells 2 rfl
 have m1 := HO.melt 2 rfl
 refine xR1 (fun K hK => ?_)
 go_simp
 refine hK.out _ _ ?_
 clear hK K k1 m1
 try simp only [Act.put, zTa, zTz, zTs]
 replace HO := HO.set 2 2 (.slice (some ⟨g6, 0, none⟩) (13 + 1) c6) rfl
 simp only [zTz, zTs, zTa] at HO
 refine wpX_done (by kernel_rfl) (fun W8 hW8 => ?_) _
 replace HO := HO.then hW8
 clear hW8 W5 W6
 have HS : Hid (StP w gm (30 + n) L0 (headL.take 14) W8) := hid (StP.push (l := headL.take 13) (i := ⟨32, 0, 8, [enA 3, idA 5]⟩) HO 2 hp (by rw [hpl]) rfl rfl)
 clear HO hp hpl
 obtain ⟨p, v, D, hp, HO⟩ := HS.out.at_
 have hpl : p.length = 14 := stp_len hp
 unfold stS at HO
 rw [hpl] at HO
 clear HS
 (try simp only [zTz, zTs, zTa, zDs, zDz] at HO); (try have kk := HO.kk); skip
 go_wp2_with (first | ((first | (with_reducible refine sp_sk HO ?_) | (with_reducible refine sp_skc HO ?_)); intro W' HO'; clear HO; (try clear kk); have HO := HO'; clear HO'; (try simp only [zTz, zTs, zTa] at HO); (try have kk := HO.kk); skip) | (go_at_call 8; refine (kadd_own w v _ _ _ 46 5 9 none 0 0 _ HO (by omega)).mono ?_; rintro e W6 ⟨g6, c6, rfl, HO1⟩; clear HO; (try clear kk); skip; have HO := HO1; clear HO1; (try simp only [zTz, zTs, zTa, zDs, zDz] at HO); (try have kk := HO.kk); skip))
 (try clear kk); skip
 have HS := hid (show StP w gm (30 + n) L0 (headL.take 15) _ from StP.push0 (l := headL.take 14) (i := ⟨46, 5, 9, []⟩) HO hp (by rw [hpl]) rfl rfl)
 clear HO hp hpl
 obtain ⟨p, v, D, hp, HO⟩ := HS.out.at_
 have hpl : p.length = 15 := stp_len hp
 unfold stS at HO
 rw [hpl] at HO
 clear HS
 go_wp2_with fail
 refine wp_region_x (by kernel_rfl) ?_
 refine xTk 0 (v := ?_) (hm := ⟨by rfl, .inl ?_⟩) (h := ?_)
 rotate_left
 ·(intro w; go_simp; first | done | with_reducible rfl)
 try simp only [Act.put, zTa, zTz, zTs]
 refine xTk 2 (v := _) (hm := ⟨by rfl, .inr ⟨9, _, ?_, fun w => (kenum_own 1 w)⟩⟩) (h := ?_)
 ·(intro w; go_simp; (try exact u32_in _ (by omega)))
 try simp only [Act.put, zTa, zTz, zTs]
 refine wpX_ready (rs := [1, 3]) (by kernel_rfl) (by simp) (fun W2 hW2 => ?_)
 replace HO := HO.drew.then hW2
 clear hW2
 apply merge_HW
 case h2 =>
  intro key
  have k1 := HO.cells 1 rfl
  refine AllReadyX.cons (by simp only [zGa, zGs, zGz]; rfl) (fun K hK => ?_) (AllReadyX.cons (by simp only [zGa, zGs, zGz]; rfl) (fun K hK => ?_) AllReadyX.nil)
  ·go_simp
   refine hK.out _ _ ?_
   clear hK K k1
   try simp only [Act.put, zTa, zTz, zTs]
   refine wpX_ready (rs := [3]) (by kernel_rfl) (by simp) (fun W3 hW3 => ?_)
   have HN := HO.then hW3
   refine xR1 (fun K hK => ?_)
   go_simp
   refine hK.out _ _ ?_
   clear hK K
   try simp only [Act.put, zTa, zTz, zTs]
   refine sx_alloc HN ?_
   generalize W3.heap.size = H
   intro W4 HN2
   exact key H W4 HN2
  ·go_simp
   refine hK.out _ _ ?_
   clear hK K k1
   try simp only [Act.put, zTa, zTz, zTs]
   refine sx_alloc HO ?_
   generalize W2.heap.size = H
   intro W3 HN
   refine wpX_ready (rs := [1]) (by kernel_rfl) (by simp) (fun W4 hW4 => ?_)
   replace HN := HN.then hW4
   have k1 := HN.cells 2 rfl
   refine xR1 (fun K hK => ?_)
   go_simp
   refine hK.out _ _ ?_
   clear hK K k1
   try simp only [Act.put, zTa, zTz, zTs]
   exact key H W4 HN
 clear HO
 intro H W4 HO
 refine wpX_ready (rs := [4]) (by kernel_rfl) (by simp) (fun W5 hW5 => ?_)
 replace HO := HO.then hW5
 clear hW5 W4
 refine xR1 (fun K hK => ?_)
 go_simp
 go_at_call 8
 have cc := kadd_own w v _ _ _ (59) (6) (10) (some ⟨H, 0, none⟩) 1 1 W5 (HO.perm (List.Perm.swap _ _ _)) (by omega)
 refine cc.mono ?_
 clear cc HO
 rintro e W6 ⟨g6, c6, rfl, HO⟩
 refine hK.out _ _ ?_
 clear hK K
 try simp only [Act.put, zTa, zTz, zTs]
 refine xTk 5 (v := ?_) (hm := ⟨by rfl, .inl ?_⟩) (h := ?_)
 rotate_left
 ·(intro w; go_simp; first | done | with_reducible rfl)
 try simp only [Act.put, zTa, zTz, zTs]
 refine wpX_ready (rs := [6]) (by kernel_rfl) (by simp) (fun W7 hW7 => ?_)
 replace HO := HO.then hW7
 clear hW7
 have k1 := HO.cells 2 rfl
 have m1 := HO.melt 2 rfl
 refine xR1 (fun K hK => ?_)
 go_simp
 refine hK.out _ _ ?_
 clear hK K k1 m1
 try simp only [Act.put, zTa, zTz, zTs]
 replace HO := HO.set 2 2 (.slice (some ⟨g6, 0, none⟩) (15 + 1) c6) rfl
 simp only [zTz, zTs, zTa] at HO
 refine wpX_done (by kernel_rfl) (fun W8 hW8 => ?_) _
 replace HO := HO.then hW8
 clear hW8 W5 W6
 have HS : Hid (StP w gm (30 + n) L0 (headL.take 16) W8) := hid (StP.push (l := headL.take 15) (i := ⟨59, 6, 10, [enA 1]⟩) HO 1 hp (by rw [hpl]) rfl rfl)
 clear HO hp hpl
 obtain ⟨p, v, D, hp, HO⟩ := HS.out.at_
 have hpl : p.length = 16 := stp_len hp
 unfold stS at HO
 rw [hpl] at HO
 clear HS
 go_wp2_with fail
 refine wp_region_x (by kernel_rfl) ?_
 refine xTk 0 (v := ?_) (hm := ⟨by rfl, .inl ?_⟩) (h := ?_)
 rotate_left
 ·(intro w; go_simp; first | done | with_reducible rfl)
 try simp only [Act.put, zTa, zTz, zTs]
 refine xTk 2 (v := _) (hm := ⟨by rfl, .inr ⟨9, _, ?_, fun w => (kenum_own 1 w)⟩⟩) (h := ?_)
 ·(intro w; go_simp; (try exact u32_in _ (by omega)))
 try simp only [Act.put, zTa, zTz, zTs]
 refine wpX_ready (rs := [1, 3]) (by kernel_rfl) (by simp) (fun W2 hW2 => ?_)
 replace HO := HO.drew.then hW2
 clear hW2
 apply merge_HW
 case h2 =>
  intro key
  have k1 := HO.cells 1 rfl
  refine AllReadyX.cons (by simp only [zGa, zGs, zGz]; rfl) (fun K hK => ?_) (AllReadyX.cons (by simp only [zGa, zGs, zGz]; rfl) (fun K hK => ?_) AllReadyX.nil)
  ·go_simp
   refine hK.out _ _ ?_
   clear hK K k1
   try simp only [Act.put, zTa, zTz, zTs]
   refine wpX_ready (rs := [3]) (by kernel_rfl) (by simp) (fun W3 hW3 => ?_)
   have HN := HO.then hW3
   refine xR1 (fun K hK => ?_)
   go_simp
   refine hK.out _ _ ?_
   clear hK K
   try simp only [Act.put, zTa, zTz, zTs]
   refine sx_alloc HN ?_
   generalize W3.heap.size = H
   intro W4 HN2
   exact key H W4 HN2
  ·go_simp
   refine hK.out _ _ ?_
   clear hK K k1
   try simp only [Act.put, zTa, zTz, zTs]
   refine sx_alloc HO ?_
   generalize W2.heap.size = H
   intro W3 HN
   refine wpX_ready (rs := [1]) (by kernel_rfl) (by simp) (fun W4 hW4 => ?_)
   replace HN := HN.then hW4
   have k1 := HN.cells 2 rfl
   refine xR1 (fun K hK => ?_)
   go_simp
   refine hK.out _ _ ?_
   clear hK K k1
   try simp only [Act.put, zTa, zTz, zTs]
   exact key H W4 HN
 clear HO
 intro H W4 HO
 refine wpX_ready (rs := [4]) (by kernel_rfl) (by simp) (fun W5 hW5 => ?_)
 replace HO := HO.then hW5
 clear hW5 W4
 refine xR1 (fun K hK => ?_)
 go_simp
 go_at_call 8
 have cc := kadd_own w v _ _ _ (59) (6) (11) (some ⟨H, 0, none⟩) 1 1 W5 (HO.perm (List.Perm.swap _ _ _)) (by omega)
 refine cc.mono ?_
 clear cc HO
 rintro e W6 ⟨g6, c6, rfl, HO⟩
 refine hK.out _ _ ?_
 clear hK K
 try simp only [Act.put, zTa, zTz, zTs]
 refine xTk 5 (v := ?_) (hm := ⟨by rfl, .inl ?_⟩) (h := ?_)
 rotate_left
 ·(intro w; go_simp; first | done | with_reducible rfl)
 try simp only [Act.put, zTa, zTz, zTs]
 refine wpX_ready (rs := [6]) (by kernel_rfl) (by simp) (fun W7 hW7 => ?_)
 replace HO := HO.then hW7
 clear hW7
 have k1 := HO.cells 2 rfl
 have m1 := HO.melt 2 rfl
 refine xR1 (fun K hK => ?_)
 go_simp
 refine hK.out _ _ ?_
 clear hK K k1 m1
 try simp only [Act.put, zTa, zTz, zTs]
 replace HO := HO.set 2 2 (.slice (some ⟨g6, 0, none⟩) (16 + 1) c6) rfl
 simp only [zTz, zTs, zTa] at HO
 refine wpX_done (by kernel_rfl) (fun W8 hW8 => ?_) _
 replace HO := HO.then hW8
 clear hW8 W5 W6
 have HS : Hid (StP w gm (30 + n) L0 (headL.take 17) W8) := hid (StP.push (l := headL.take 16) (i := ⟨59, 6, 11, [enA 1]⟩) HO 1 hp (by rw [hpl]) rfl rfl)
 clear HO hp hpl
 obtain ⟨p, v, D, hp, HO⟩ := HS.out.at_
 have hpl : p.length = 17 := stp_len hp
 unfold stS at HO
 rw [hpl] at HO
 clear HS
 go_wp2_with fail
 refine wp_region_x (by kernel_rfl) ?_
 refine xTk 0 (v := ?_) (hm := ⟨by rfl, .inl ?_⟩) (h := ?_)
 rotate_left
 ·(intro w; go_simp; first | done | with_reducible rfl)
 try simp only [Act.put, zTa, zTz, zTs]
 refine xTk 2 (v := _) (hm := ⟨by rfl, .inr ⟨9, _, ?_, fun w => (kenum_own 3 w)⟩⟩) (h := ?_)
 ·(intro w; go_simp; (try exact u32_in _ (by omega)))
 try simp only [Act.put, zTa, zTz, zTs]
 refine wpX_ready (rs := [1, 3]) (by kernel_rfl) (by simp) (fun W2 hW2 => ?_)
 replace HO := HO.drew.then hW2
 clear hW2
 apply merge_HW
 case h2 =>
  intro key
  have k1 := HO.cells 1 rfl
  refine AllReadyX.cons (by simp only [zGa, zGs, zGz]; rfl) (fun K hK => ?_) (AllReadyX.cons (by simp only [zGa, zGs, zGz]; rfl) (fun K hK => ?_) AllReadyX.nil)
  ·go_simp
   refine hK.out _ _ ?_
   clear hK K k1
   try simp only [Act.put, zTa, zTz, zTs]
   refine wpX_ready (rs := [3]) (by kernel_rfl) (by simp) (fun W3 hW3 => ?_)
   have HN := HO.then hW3
   refine xR1 (fun K hK => ?_)
   go_simp
   refine hK.out _ _ ?_
   clear hK K
   try simp only [Act.put, zTa, zTz, zTs]
   refine sx_alloc HN ?_
   generalize W3.heap.size = H
   intro W4 HN2
   exact key H W4 HN2
  ·go_simp
   refine hK.out _ _ ?_
   clear hK K k1
   try simp only [Act.put, zTa, zTz, zTs]
   refine sx_alloc HO ?_
   generalize W2.heap.size = H
   intro W3 HN
   refine wpX_ready (rs := [1]) (by kernel_rfl) (by simp) (fun W4 hW4 => ?_)
   replace HN := HN.then hW4
   have k1 := HN.cells 2 rfl
   refine xR1 (fun K hK => ?_)
   go_simp
   refine hK.out _ _ ?_
   clear hK K k1
   try simp only [Act.put, zTa, zTz, zTs]
   exact key H W4 HN
 clear HO
 intro H W4 HO
 refine wpX_ready (rs := [4]) (by kernel_rfl) (by simp) (fun W5 hW5 => ?_)
 replace HO := HO.then hW5
 clear hW5 W4
 refine xR1 (fun K hK => ?_)
 go_simp
 go_at_call 8
 have cc := kadd_own w v _ _ _ (59) (7) (12) (some ⟨H, 0, none⟩) 1 1 W5 (HO.perm (List.Perm.swap _ _ _)) (by omega)
 refine cc.mono ?_
 clear cc HO
 rintro e W6 ⟨g6, c6, rfl, HO⟩
 refine hK.out _ _ ?_
 clear hK K
 try simp only [Act.put, zTa, zTz, zTs]
 refine xTk 5 (v := ?_) (hm := ⟨by rfl, .inl ?_⟩) (h := ?_)
 rotate_left
 ·(intro w; go_simp; first | done | with_reducible rfl)
 try simp only [Act.put, zTa, zTz, zTs]
 refine wpX_ready (rs := [6]) (by kernel_rfl) (by simp) (fun W7 hW7 => ?_)
 replace HO := HO.then hW7
 clear hW7
 have k1 := HO.cells 2 rfl
 have m1 := HO.melt 2 rfl
 refine xR1 (fun K hK => ?_)
 go_simp
 refine hK.out _ _ ?_
 clear hK K k1 m1
 try simp only [Act.put, zTa, zTz, zTs]
 replace HO := HO.set 2 2 (.slice (some ⟨g6, 0, none⟩) (17 + 1) c6) rfl
 simp only [zTz, zTs, zTa] at HO
 refine wpX_done (by kernel_rfl) (fun W8 hW8 => ?_) _
 replace HO := HO.then hW8
 clear hW8 W5 W6
 have HS : Hid (StP w gm (30 + n) L0 (headL.take 18) W8) := hid (StP.push (l := headL.take 17) (i := ⟨59, 7, 12, [enA 3]⟩) HO 1 hp (by rw [hpl]) rfl rfl)
 clear HO hp hpl
 obtain ⟨p, v, D, hp, HO⟩ := HS.out.at_
 have hpl : p.length = 18 := stp_len hp
 unfold stS at HO
 rw [hpl] at HO
 clear HS
 go_wp2_with fail
 refine wp_region_x (by kernel_rfl) ?_
 refine xTk 0 (v := ?_) (hm := ⟨by rfl, .inl ?_⟩) (h := ?_)
 rotate_left
 ·(intro w; go_simp; first | done | with_reducible rfl)
 try simp only [Act.put, zTa, zTz, zTs]
 refine xTk 2 (v := _) (hm := ⟨by rfl, .inr ⟨9, _, ?_, fun w => (kenum_own 3 w)⟩⟩) (h := ?_)
 ·(intro w; go_simp; (try exact u32_in _ (by omega)))
 try simp only [Act.put, zTa, zTz, zTs]
 refine wpX_ready (rs := [1, 3]) (by kernel_rfl) (by simp) (fun W2 hW2 => ?_)
 replace HO := HO.drew.then hW2
 clear hW2
 apply merge_HW
 case h2 =>
  intro key
  have k1 := HO.cells 1 rfl
  refine AllReadyX.cons (by simp only [zGa, zGs, zGz]; rfl) (fun K hK => ?_) (AllReadyX.cons (by simp only [zGa, zGs, zGz]; rfl) (fun K hK => ?_) AllReadyX.nil)
  ·go_simp
   refine hK.out _ _ ?_
   clear hK K k1
   try simp only [Act.put, zTa, zTz, zTs]
   refine wpX_ready (rs := [3]) (by kernel_rfl) (by simp) (fun W3 hW3 => ?_)
   have HN := HO.then hW3
   refine xR1 (fun K hK => ?_)
   go_simp
   refine hK.out _ _ ?_
   clear hK K
   try simp only [Act.put, zTa, zTz, zTs]
   refine sx_alloc HN ?_
   generalize W3.heap.size = H
   intro W4 HN2
   exact key H W4 HN2
  ·go_simp
   refine hK.out _ _ ?_
   clear hK K k1
   try simp only [Act.put, zTa, zTz, zTs]
   refine sx_alloc HO ?_
   generalize W2.heap.size = H
   intro W3 HN
   refine wpX_ready (rs := [1]) (by kernel_rfl) (by simp) (fun W4 hW4 => ?_)
   replace HN := HN.then hW4
   have k1 := HN.cells 2 rfl
   refine xR1 (fun K hK => ?_)
   go_simp
   refine hK.out _ _ ?_
   clear hK K k1
   try simp only [Act.put, zTa, zTz, zTs]
   exact key H W4 HN
 clear HO
 intro H W4 HO
 refine wpX_ready (rs := [4]) (by kernel_rfl) (by simp) (fun W5 hW5 => ?_)
 replace HO := HO.then hW5
 clear hW5 W4
 refine xR1 (fun K hK => ?_)
 go_simp
 go_at_call 8
 have cc := kadd_own w v _ _ _ (59) (8) (13) (some ⟨H, 0, none⟩) 1 1 W5 (HO.perm (List.Perm.swap _ _ _)) (by omega)
 refine cc.mono ?_
 clear cc HO
 rintro e W6 ⟨g6, c6, rfl, HO⟩
 refine hK.out _ _ ?_
 clear hK K
 try simp only [Act.put, zTa, zTz, zTs]
 refine xTk 5 (v := ?_) (hm := ⟨by rfl, .inl ?_⟩) (h := ?_)
 rotate_left
 ·(intro w; go_simp; first | done | with_reducible rfl)
 try simp only [Act.put, zTa, zTz, zTs]
 refine wpX_ready (rs := [6]) (by kernel_rfl) (by simp) (fun W7 hW7 => ?_)
 replace HO := HO.then hW7
 clear hW7
 have k1 := HO.cells 2 rfl
 have m1 := HO.melt 2 rfl
 refine xR1 (fun K hK => ?_)
 go_simp
 refine hK.out _ _ ?_
 clear hK K k1 m1
 try simp only [Act.put, zTa, zTz, zTs]
 replace HO := HO.set 2 2 (.slice (some ⟨g6, 0, none⟩) (18 + 1) c6) rfl
 simp only [zTz, zTs, zTa] at HO
 refine wpX_done (by kernel_rfl) (fun W8 hW8 => ?_) _
 replace HO := HO.then hW8
 clear hW8 W5 W6
 have HS : Hid (StP w gm (30 + n) L0 (headL.take 19) W8) := hid (StP.push (l := headL.take 18) (i := ⟨59, 8, 13, [enA 3]⟩) HO 1 hp (by rw [hpl]) rfl rfl)
 clear HO hp hpl
 obtain ⟨p, v, D, hp, HO⟩ := HS.out.at_
 have hpl : p.length = 19 := stp_len hp
 unfold stS at HO
 rw [hpl] at HO
 clear HS
 go_wp2_with fail
 refine wp_region_x (by kernel_rfl) ?_
 refine xTk 0 (v := ?_) (hm := ⟨by rfl, .inl ?_⟩) (h := ?_)
 rotate_left
 ·(intro w; go_simp; first | done | with_reducible rfl)
 try simp only [Act.put, zTa, zTz, zTs]
 refine xTk 2 (v := _) (hm := ⟨by rfl, .inr ⟨9, _, ?_, fun w => (kenum_own 0 w)⟩⟩) (h := ?_)
 ·(intro w; go_simp; (try exact u32_in _ (by omega)))
 try simp only [Act.put, zTa, zTz, zTs]
 refine xTk 3 (v := _) (hm := ⟨by rfl, .inr ⟨10, _, ?_, fun w => (kid_own 2 w)⟩⟩) (h := ?_)
 ·(intro w; go_simp; (try exact u32_in _ (by omega)))
 try simp only [Act.put, zTa, zTz, zTs]
 refine wpX_ready (rs := [1, 4]) (by kernel_rfl) (by simp) (fun W2 hW2 => ?_)
 replace HO := HO.drew.then hW2
 clear hW2
 apply merge_HW
 case h2 =>
  intro key
  have k1 := HO.cells 1 rfl
  refine AllReadyX.cons (by simp only [zGa, zGs, zGz]; rfl) (fun K hK => ?_) (AllReadyX.cons (by simp only [zGa, zGs, zGz]; rfl) (fun K hK => ?_) AllReadyX.nil)
  ·go_simp
   refine hK.out _ _ ?_
   clear hK K k1
   try simp only [Act.put, zTa, zTz, zTs]
   refine wpX_ready (rs := [4]) (by kernel_rfl) (by simp) (fun W3 hW3 => ?_)
   have HN := HO.then hW3
   refine xR1 (fun K hK => ?_)
   go_simp
   refine hK.out _ _ ?_
   clear hK K
   try simp only [Act.put, zTa, zTz, zTs]
   refine sx_alloc HN ?_
   generalize W3.heap.size = H
   intro W4 HN2
   exact key H W4 HN2
  ·go_simp
   refine hK.out _ _ ?_
   clear hK K k1
   try simp only [Act.put, zTa, zTz, zTs]
   refine sx_alloc HO ?_
   generalize W2.heap.size = H
   intro W3 HN
   refine wpX_ready (rs := [1]) (by kernel_rfl) (by simp) (fun W4 hW4 => ?_)
   replace HN := HN.then hW4
   have k1 := HN.cells 2 rfl
   refine xR1 (fun K hK => ?_)
   go_simp
   refine hK.out _ _ ?_
   clear hK K k1
   try simp only [Act.put, zTa, zTz, zTs]
   exact key H W4 HN
 clear HO
 intro H W4 HO
 refine wpX_ready (rs := [5]) (by kernel_rfl) (by simp) (fun W5 hW5 => ?_)
 replace HO := HO.then hW5
 clear hW5 W4
 refine xR1 (fun K hK => ?_)
 go_simp
 go_at_call 8
 have cc := kadd_own w v _ _ _ (54) (1) (20) (some ⟨H, 0, none⟩) 2 2 W5 (HO.perm (List.Perm.swap _ _ _)) (by omega)
 refine cc.mono ?_
 clear cc HO
 rintro e W6 ⟨g6, c6, rfl, HO⟩
 refine hK.out _ _ ?_
 clear hK K
 try simp only [Act.put, zTa, zTz, zTs]
 refine xTk 6 (v := ?_) (hm := ⟨by rfl, .inl ?_⟩) (h := ?_)
 rotate_left
 ·(intro w; go_simp; first | done | with_reducible rfl)
 try simp only [Act.put, zTa, zTz, zTs]
 refine wpX_ready (rs := [7]) (by kernel_rfl) (by simp) (fun W7 hW7 => ?_)
 replace HO := HO.then hW7
 clear hW7
 have k1 := HO.cells 2 rfl
 have m1 := HO.melt 2 rfl
 refine xR1 (fun K hK => ?_)
 go_simp
 refine hK.out _ _ ?_
 clear hK K k1 m1
 try simp only [Act.put, zTa, zTz, zTs]
 replace HO := HO.set 2 2 (.slice (some ⟨g6, 0, none⟩) (19 + 1) c6) rfl
 simp only [zTz, zTs, zTa] at HO
 refine wpX_done (by kernel_rfl) (fun W8 hW8 => ?_) _
 replace HO := HO.then hW8
 clear hW8 W5 W6
 have HS : Hid (StP w gm (30 + n) L0 (headL.take 20) W8) := hid (StP.push (l := headL.take 19) (i := ⟨54, 1, 20, [enA 0, idA 2]⟩) HO 2 hp (by rw [hpl]) rfl rfl)
 clear HO hp hpl
 obtain ⟨p, v, D, hp, HO⟩ := HS.out.at_
 have hpl : p.length = 20 := stp_len hp
 unfold stS at HO
 rw [hpl] at HO
 clear HS
 (try simp only [zTz, zTs, zTa, zDs, zDz] at HO); (try have kk := HO.kk); skip
 go_wp2_with (first | ((first | (with_reducible refine sp_sk HO ?_) | (with_reducible refine sp_skc HO ?_)); intro W' HO'; clear HO; (try clear kk); have HO := HO'; clear HO'; (try simp only [zTz, zTs, zTa] at HO); (try have kk := HO.kk); skip) | (go_at_call 8; refine (kadd_own w v _ _ _ 248 0 21 none 0 0 _ HO (by omega)).mono ?_; rintro e W6 ⟨g6, c6, rfl, HO1⟩; clear HO; (try clear kk); skip; have HO := HO1; clear HO1; (try simp only [zTz, zTs, zTa, zDs, zDz] at HO); (try have kk := HO.kk); skip))
 (try clear kk); skip
 have HS := hid (show StP w gm (30 + n) L0 (headL.take 21) _ from StP.push0 (l := headL.take 20) (i := ⟨248, 0, 21, []⟩) HO hp (by rw [hpl]) rfl rfl)
 clear HO hp hpl
 obtain ⟨p, v, D, hp, HO⟩ := HS.out.at_
 have hpl : p.length = 21 := stp_len hp
 unfold stS at HO
 rw [hpl] at HO
 clear HS
 go_wp2_with fail
 refine wp_region_x (by kernel_rfl) ?_
 refine xTk 0 (v := ?_) (hm := ⟨by rfl, .inl ?_⟩) (h := ?_)
 rotate_left
 ·(intro w; go_simp; first | done | with_reducible rfl)
 try simp only [Act.put, zTa, zTz, zTs]
 refine xTk 2 (v := _) (hm := ⟨by rfl, .inr ⟨10, _, ?_, fun w => (kid_own 10 w)⟩⟩) (h := ?_)
 ·(intro w; go_simp; (try exact u32_in _ (by omega)))
 try simp only [Act.put, zTa, zTz, zTs]
 refine wpX_ready (rs := [1, 3]) (by kernel_rfl) (by simp) (fun W2 hW2 => ?_)
 replace HO := HO.drew.then hW2
 clear hW2
 apply merge_HW
 case h2 =>
  intro key
  have k1 := HO.cells 1 rfl
  refine AllReadyX.cons (by simp only [zGa, zGs, zGz]; rfl) (fun K hK => ?_) (AllReadyX.cons (by simp only [zGa, zGs, zGz]; rfl) (fun K hK => ?_) AllReadyX.nil)
  ·go_simp
   refine hK.out _ _ ?_
   clear hK K k1
   try simp only [Act.put, zTa, zTz, zTs]
   refine wpX_ready (rs := [3]) (by kernel_rfl) (by simp) (fun W3 hW3 => ?_)
   have HN := HO.then hW3
   refine xR1 (fun K hK => ?_)
   go_simp
   refine hK.out _ _ ?_
   clear hK K
   try simp only [Act.put, zTa, zTz, zTs]
   refine sx_alloc HN ?_
   generalize W3.heap.size = H
   intro W4 HN2
   exact key H W4 HN2
  ·go_simp
   refine hK.out _ _ ?_
   clear hK K k1
   try simp only [Act.put, zTa, zTz, zTs]
   refine sx_alloc HO ?_
   generalize W2.heap.size = H
   intro W3 HN
   refine wpX_ready (rs := [1]) (by kernel_rfl) (by simp) (fun W4 hW4 => ?_)
   replace HN := HN.then hW4
   have k1 := HN.cells 2 rfl
   refine xR1 (fun K hK => ?_)
   go_simp
   refine hK.out _ _ ?_
   clear hK K k1
   try simp only [Act.put, zTa, zTz, zTs]
   exact key H W4 HN
 clear HO
 intro H W4 HO
 refine wpX_ready (rs := [4]) (by kernel_rfl) (by simp) (fun W5 hW5 => ?_)
 replace HO := HO.then hW5
 clear hW5 W4
 refine xR1 (fun K hK => ?_)
 go_simp
 go_at_call 8
 have cc := kadd_own w v _ _ _ (61) (3) (22) (some ⟨H, 0, none⟩) 1 1 W5 (HO.perm (List.Perm.swap _ _ _)) (by omega)
 refine cc.mono ?_
 clear cc HO
 rintro e W6 ⟨g6, c6, rfl, HO⟩
 refine hK.out _ _ ?_
 clear hK K
 try simp only [Act.put, zTa, zTz, zTs]
 refine xTk 5 (v := ?_) (hm := ⟨by rfl, .inl ?_⟩) (h := ?_)
 rotate_left
 ·(intro w; go_simp; first | done | with_reducible rfl)
 try simp only [Act.put, zTa, zTz, zTs]
 refine wpX_ready (rs := [6]) (by kernel_rfl) (by simp) (fun W7 hW7 => ?_)
 replace HO := HO.then hW7
 clear hW7
 have k1 := HO.cells 2 rfl
 have m1 := HO.melt 2 rfl
 refine xR1 (fun K hK => ?_)
 go_simp
 refine hK.out _ _ ?_
 clear hK K k1 m1
 try simp only [Act.put, zTa, zTz, zTs]
 replace HO := HO.set 2 2 (.slice (some ⟨g6, 0, none⟩) (21 + 1) c6) rfl
 simp only [zTz, zTs, zTa] at HO
 refine wpX_done (by kernel_rfl) (fun W8 hW8 => ?_) _
 replace HO := HO.then hW8
 clear hW8 W5 W6
 have HS : Hid (StP w gm (30 + n) L0 (headL.take 22) W8) := hid (StP.push (l := headL.take 21) (i := ⟨61, 3, 22, [idA 10]⟩) HO 1 hp (by rw [hpl]) rfl rfl)
 clear HO hp hpl
 obtain ⟨p, v, D, hp, HO⟩ := HS.out.at_
 have hpl : p.length = 22 := stp_len hp
 unfold stS at HO
 rw [hpl] at HO
 clear HS
 go_wp2_with fail
 refine wp_region_x (by kernel_rfl) ?_
 refine xTk 0 (v := ?_) (hm := ⟨by rfl, .inl ?_⟩) (h := ?_)
 rotate_left
 ·(intro w; go_simp; first | done | with_reducible rfl)
 try simp only [Act.put, zTa, zTz, zTs]
 refine xTk 2 (v := _) (hm := ⟨by rfl, .inr ⟨10, _, ?_, fun w => (kid_own 11 w)⟩⟩) (h := ?_)
 ·(intro w; go_simp; (try exact u32_in _ (by omega)))
 try simp only [Act.put, zTa, zTz, zTs]
 refine wpX_ready (rs := [1, 3]) (by kernel_rfl) (by simp) (fun W2 hW2 => ?_)
 replace HO := HO.drew.then hW2
 clear hW2
 apply merge_HW
 case h2 =>
  intro key
  have k1 := HO.cells 1 rfl
  refine AllReadyX.cons (by simp only [zGa, zGs, zGz]; rfl) (fun K hK => ?_) (AllReadyX.cons (by simp only [zGa, zGs, zGz]; rfl) (fun K hK => ?_) AllReadyX.nil)
  ·go_simp
   refine hK.out _ _ ?_
   clear hK K k1
   try simp only [Act.put, zTa, zTz, zTs]
   refine wpX_ready (rs := [3]) (by kernel_rfl) (by simp) (fun W3 hW3 => ?_)
   have HN := HO.then hW3
   refine xR1 (fun K hK => ?_)
   go_simp
   refine hK.out _ _ ?_
   clear hK K
   try simp only [Act.put, zTa, zTz, zTs]
   refine sx_alloc HN ?_
   generalize W3.heap.size = H
   intro W4 HN2
   exact key H W4 HN2
  ·go_simp
   refine hK.out _ _ ?_
   clear hK K k1
   try simp only [Act.put, zTa, zTz, zTs]
   refine sx_alloc HO ?_
   generalize W2.heap.size = H
   intro W3 HN
   refine wpX_ready (rs := [1]) (by kernel_rfl) (by simp) (fun W4 hW4 => ?_)
   replace HN := HN.then hW4
   have k1 := HN.cells 2 rfl
   refine xR1 (fun K hK => ?_)
   go_simp
   refine hK.out _ _ ?_
   clear hK K k1
   try simp only [Act.put, zTa, zTz, zTs]
   exact key H W4 HN
 clear HO
 intro H W4 HO
 refine wpX_ready (rs := [4]) (by kernel_rfl) (by simp) (fun W5 hW5 => ?_)
 replace HO := HO.then hW5
 clear hW5 W4
 refine xR1 (fun K hK => ?_)
 go_simp
 go_at_call 8
 have cc := kadd_own w v _ _ _ (61) (3) (23) (some ⟨H, 0, none⟩) 1 1 W5 (HO.perm (List.Perm.swap _ _ _)) (by omega)
 refine cc.mono ?_
 clear cc HO
 rintro e W6 ⟨g6, c6, rfl, HO⟩
 refine hK.out _ _ ?_
 clear hK K
 try simp only [Act.put, zTa, zTz, zTs]
 refine xTk 5 (v := ?_) (hm := ⟨by rfl, .inl ?_⟩) (h := ?_)
 rotate_left
 ·(intro w; go_simp; first | done | with_reducible rfl)
 try simp only [Act.put, zTa, zTz, zTs]
 refine wpX_ready (rs := [6]) (by kernel_rfl) (by simp) (fun W7 hW7 => ?_)
 replace HO := HO.then hW7
 clear hW7
 have k1 := HO.cells 2 rfl
 have m1 := HO.melt 2 rfl
 refine xR1 (fun K hK => ?_)
 go_simp
 refine hK.out _ _ ?_
 clear hK K k1 m1
 try simp only [Act.put, zTa, zTz, zTs]
 replace HO := HO.set 2 2 (.slice (some ⟨g6, 0, none⟩) (22 + 1) c6) rfl
 simp only [zTz, zTs, zTa] at HO
 refine wpX_done (by kernel_rfl) (fun W8 hW8 => ?_) _
 replace HO := HO.then hW8
 clear hW8 W5 W6
 have HS : Hid (StP w gm (30 + n) L0 (headL.take 23) W8) := hid (StP.push (l := headL.take 22) (i := ⟨61, 3, 23, [idA 11]⟩) HO 1 hp (by rw [hpl]) rfl rfl)
 clear HO hp hpl
 replace HS : Hid (StP w gm (30 + n) L0 (preL ln 0) W8) := HS
 go_wp2_with fail
 have i0 : (n : Int) ≤ 1000 := by omega
 go_loopw [5, 6, 7] (fun x5 _ _ wr => ∃ k : Nat, k ≤ n ∧ x5 = .int .u32 k ∧ StP w gm (30 + n) L0 (preL ln k) wr) (fun x _ _ _ => n - (intOf x).toNat)
 case atStart => exact ⟨0, by omega, rfl, HS.out⟩
 case round =>
  obtain ⟨k, hk, rfl, hS⟩ := hrel
  clear HS
  by_cases hlt : k < n
  ·obtain ⟨p, v, D, hp, HO⟩ := hS.at_
   have hpl : p.length = 23 + k := (stp_len hp).trans (preL_len ln k)
   unfold stS at HO
   rw [hpl] at HO
   clear hS
   obtain rfl := HA.out (by omega)
   have hw := HL.out.below HO.below
   have e1 := hw.a k hlt
   have e2 := hw.b k hlt
   have he : ∀ W, Below w.heap.size w W → W.cell? ⟨b, o + k * 3, none⟩ = some (.int .u16 (ln k).1) := fun W hb => (HL.out.below hb).op k hlt
   have zb : ∀ W, Below w.heap.size w W → b < W.heap.size := fun W hb => (HL.out.below hb).lt (by omega)
   have hop := HL.out.op_lt k hlt
   have ha := HL.out.a_in k hlt
   have hb := HL.out.b_in k hlt
   have q1 := bh_lt (ln k).2.1 (k + 2) (by omega)
   have q2 := bh_lt (ln k).2.2 (k + 2) (by omega)
   have hlf : Hid (lnF ln k = ⟨(ln k).1, 3, 22 + bh (ln k).2.1 (k + 2), 22 + bh (ln k).2.2 (k + 2)⟩) := hid rfl
   have hi := hid hlt
   clear hw
   generalize (ln k).1 = op at he hop hlf
   generalize (ln k).2.1 = A at e1 ha q1 hlf
   generalize (ln k).2.2 = B at e2 hb q2 hlf
   have cA : ∀ W, Calls Tryz.prog 13 #[.int .i64 A, .int .u32 ((k : Int) + 2)] W fun e w' => e = .returned (.int .u32 (bh A (k + 2))) ∧ w' = W := fun W => kbehind_own A (k + 2) W ha (by omega)
   have cB : ∀ W, Calls Tryz.prog 13 #[.int .i64 B, .int .u32 ((k : Int) + 2)] W fun e w' => e = .returned (.int .u32 (bh B (k + 2))) ∧ w' = W := fun W => kbehind_own B (k + 2) W hb (by omega)
   have i1 : (k : Int) < n := by omega
   have zb0 := zb _ HO.below
   have hk1000 : k < 1000 := by omega
   generalize hxA : bh A (k + 2) = xA at cA q1 hlf
   generalize hxB : bh B (k + 2) = xB at cB q2 hlf
   clear hxA hxB ha hb
   have i5 : (xA : Int) < 1002 := by omega
   have i6 : (xB : Int) < 1002 := by omega
   have jA : IntKind.u32.wrap (22 + (xA : Int)) = 22 + xA := IntWalk.u32_in _ (by omega)
   have jB : IntKind.u32.wrap (22 + (xB : Int)) = 22 + xB := IntWalk.u32_in _ (by omega)
   have jK : IntKind.u32.wrap (24 + (k : Int)) = 24 + k := IntWalk.u32_in _ (by omega)
   go_wp2_with (first | (go_at_call 13; (first | (with_reducible refine (cA _).mono ?_) | (with_reducible refine (cB _).mono ?_)); rintro e w1 ⟨rfl, rfl⟩))
   have hcl : ∀ W W2, Below w.heap.size w W → Below W.heap.size W W2 → Below w.heap.size w W2 := fun _ _ h k => bcall h k
   have hSw : Below w.heap.size w _ := HO.drew.below
   refine wp_region_s (S := fun W => Below w.heap.size w W) (by kernel_rfl) ?_
   refine sTk hcl 0 (v := ?_) (hm := ⟨by rfl, .inl ?_⟩) (hSw := hSw) (h := ?_)
   rotate_left
   ·(intro w hw; go_simp; first | done | with_reducible rfl)
   try simp only [Act.put, zTa, zTz, zTs]
   refine sTk hcl 2 (v := ?_) (hm := ⟨by rfl, .inl ?_⟩) (hSw := hSw) (h := ?_)
   rotate_left
   ·(intro w hw; go_simp; first | done | with_reducible rfl)
   try simp only [Act.put, zTa, zTz, zTs]
   refine sTk hcl 3 (v := ?_) (hm := ⟨by rfl, .inl ?_⟩) (hSw := hSw) (h := ?_)
   rotate_left
   ·(intro w hw; go_simp; first | done | with_reducible rfl)
   try simp only [Act.put, zTa, zTz, zTs]
   refine sTk hcl 4 (v := ?_) (hm := ⟨by rfl, .inl ?_⟩) (hSw := hSw) (h := ?_)
   rotate_left
   ·(intro w hw; go_simp; first | done | with_reducible rfl)
   try simp only [Act.put, zTa, zTz, zTs]
   refine sTk hcl 5 (v := ?_) (hm := ⟨by rfl, .inl ?_⟩) (hSw := hSw) (h := ?_)
   rotate_left
   ·(intro w hw; go_simp; first | done | with_reducible rfl)
   try simp only [Act.put, zTa, zTz, zTs]
   refine sTk hcl 6 (v := ?_) (hm := ⟨by rfl, .inl ?_⟩) (hSw := hSw) (h := ?_)
   rotate_left
   ·(intro w hw; have eo := he _ hw; have zo := zb _ hw; go_simp; first | done | with_reducible rfl)
   try simp only [Act.put, zTa, zTz, zTs]
   refine sTk hcl 7 (v := ?_) (hm := ⟨by rfl, .inl ?_⟩) (hSw := hSw) (h := ?_)
   rotate_left
   ·(intro w hw; go_simp; first | done | with_reducible rfl)
   try simp only [Act.put, zTa, zTz, zTs]
   refine sTk hcl 8 (v := ?_) (hm := ⟨by rfl, .inl ?_⟩) (hSw := hSw) (h := ?_)
   rotate_left
   ·(intro w hw; go_simp; first | done | with_reducible rfl)
   try simp only [Act.put, zTa, zTz, zTs]
   refine sTk hcl 9 (v := ?_) (hm := ⟨by rfl, .inl ?_⟩) (hSw := hSw) (h := ?_)
   rotate_left
   ·(intro w hw; go_simp; first | done | with_reducible rfl)
   try simp only [Act.put, zTa, zTz, zTs]
   refine sTk hcl 10 (v := ?_) (hm := ⟨by rfl, .inl ?_⟩) (hSw := hSw) (h := ?_)
   rotate_left
   ·(intro w hw; go_simp; first | done | with_reducible rfl)
   try simp only [Act.put, zTa, zTz, zTs]
   refine sTk hcl 11 (v := _) (hm := ⟨by rfl, .inr ⟨10, _, ?_, fun w hw => kid_own (22 + (xA : Nat)) w⟩⟩) (hSw := hSw) (h := ?_)
   ·(intro w hw; go_simp; (try exact u32_in _ (by omega)))
   try simp only [Act.put, zTa, zTz, zTs]
   refine sTk hcl 12 (v := ?_) (hm := ⟨by rfl, .inl ?_⟩) (hSw := hSw) (h := ?_)
   rotate_left
   ·(intro w hw; go_simp; first | done | with_reducible rfl)
   try simp only [Act.put, zTa, zTz, zTs]
   refine sTk hcl 13 (v := ?_) (hm := ⟨by rfl, .inl ?_⟩) (hSw := hSw) (h := ?_)
   rotate_left
   ·(intro w hw; go_simp; first | done | with_reducible rfl)
   try simp only [Act.put, zTa, zTz, zTs]
   refine sTk hcl 14 (v := _) (hm := ⟨by rfl, .inr ⟨10, _, ?_, fun w hw => kid_own (22 + (xB : Nat)) w⟩⟩) (hSw := hSw) (h := ?_)
   ·(intro w hw; go_simp; (try exact u32_in _ (by omega)))
   try simp only [Act.put, zTa, zTz, zTs]
   refine wpS_ready (rs := [1, 15]) (by kernel_rfl) (by simp) (fun W2 hW2 => ?_)
   replace HO := HO.drew.then hW2
   clear hW2 hSw
   apply merge_HW
   case h2 =>
    intro key
    have k1 := HO.cells 1 rfl
    refine AllReadyS.cons (by simp only [zGa, zGs, zGz]; rfl) (fun K hK => ?_) (AllReadyS.cons (by simp only [zGa, zGs, zGz]; rfl) (fun K hK => ?_) AllReadyS.nil)
    ·go_simp
     refine hK.out _ _ HO.below ?_
     clear hK K k1
     try simp only [Act.put, zTa, zTz, zTs]
     refine wpS_ready (rs := [15]) (by kernel_rfl) (by simp) (fun W3 hW3 => ?_)
     have HN := HO.then hW3
     refine sR1 (fun K hK => ?_)
     go_simp
     refine hK.out _ _ (HN.alloc _).below ?_
     clear hK K
     try simp only [Act.put, zTa, zTz, zTs]
     refine ss_alloc HN ?_
     generalize W3.heap.size = H
     intro W4 HN2
     exact key H W4 HN2
    ·go_simp
     refine hK.out _ _ (HO.alloc _).below ?_
     clear hK K k1
     try simp only [Act.put, zTa, zTz, zTs]
     refine ss_alloc HO ?_
     generalize W2.heap.size = H
     intro W3 HN
     refine wpS_ready (rs := [1]) (by kernel_rfl) (by simp) (fun W4 hW4 => ?_)
     replace HN := HN.then hW4
     have k1 := HN.cells 2 rfl
     refine sR1 (fun K hK => ?_)
     go_simp
     refine hK.out _ _ HN.below ?_
     clear hK K k1
     try simp only [Act.put, zTa, zTz, zTs]
     exact key H W4 HN
   clear HO
   intro H W4 HO
   refine wpS_ready (rs := [16]) (by kernel_rfl) (by simp) (fun W5 hW5 => ?_)
   replace HO := HO.then hW5
   clear hW5 W4
   refine sR1 (fun K hK => ?_)
   go_simp
   go_at_call 8
   have cc := kadd_own w v _ _ _ (op) (3) (24 + k) (some ⟨H, 0, none⟩) 2 2 W5 (HO.perm (List.Perm.swap _ _ _)) (by omega)
   rw [show ((24 + k : Nat) : Int) = 24 + k by omega] at cc
   refine cc.mono ?_
   clear cc HO
   rintro e W6 ⟨g6, c6, rfl, HO⟩
   refine hK.out _ _ HO.below ?_
   clear hK K
   try simp only [Act.put, zTa, zTz, zTs]
   have hSw := HO.below
   refine sTk hcl 17 (v := ?_) (hm := ⟨by rfl, .inl ?_⟩) (hSw := hSw) (h := ?_)
   rotate_left
   ·(intro w hw; go_simp; first | done | with_reducible rfl)
   try simp only [Act.put, zTa, zTz, zTs]
   clear hSw
   refine wpS_ready (rs := [18]) (by kernel_rfl) (by simp) (fun W7 hW7 => ?_)
   replace HO := HO.then hW7
   clear hW7
   have k1 := HO.cells 2 rfl
   have m1 := HO.melt 2 rfl
   refine sR1 (fun K hK => ?_)
   go_simp
   replace HO := HO.set 2 2 (.slice (some ⟨g6, 0, none⟩) (23 + k + 1) c6) rfl
   refine hK.out _ _ HO.below ?_
   clear hK K k1 m1
   try simp only [Act.put, zTa, zTz, zTs]
   simp only [zTz, zTs, zTa] at HO
   refine wpS_done (by kernel_rfl) (fun W8 hW8 => ?_) _
   replace HO := HO.then hW8
   clear hW8 W5 W6
   have hS2 := StP.push (l := preL ln k) (i := lineI k ⟨op, 3, 22 + xA, 22 + xB⟩) HO 2 hp (by rw [hpl]) (by simp [lineI]) (by simp [agCells, idA, lineI])
   rw [← hlf.out, ← preL_succ] at hS2
   clear HO hp hpl
   have HS2 := hid hS2
   clear hS2
   go_wp2_with fail
   exact ⟨⟨k + 1, hi.out, by go_num, HS2.out⟩, by have := hi.out; simp [intOf]; omega⟩
  ·obtain rfl : k = n := by omega
   have jN : IntKind.u32.wrap (23 + (k : Int)) = 23 + k := IntWalk.u32_in _ (by omega)
   have i1 : ¬ ((k : Nat) : Int) < k := by omega
   have HS := hid hS
   clear hS
   go_wp2_with fail
   obtain ⟨p, v, D, hp, HO⟩ := HS.out.at_
   have hpl : p.length = 23 + k := (stp_len hp).trans (by simp [preL_len])
   unfold stS at HO
   rw [hpl] at HO
   clear HS
   go_wp2_with fail
   refine wp_region_x (by kernel_rfl) ?_
   refine xTk 0 (v := ?_) (hm := ⟨by rfl, .inl ?_⟩) (h := ?_)
   rotate_left
   ·(intro w; go_simp; first | done | with_reducible rfl)
   try simp only [Act.put, zTa, zTz, zTs]
   refine xTk 2 (v := _) (hm := ⟨by rfl, .inr ⟨10, _, ?_, fun w => (kid_own 12 w)⟩⟩) (h := ?_)
   ·(intro w; go_simp; (try exact u32_in _ (by omega)))
   try simp only [Act.put, zTa, zTz, zTs]
   refine xTk 3 (v := ?_) (hm := ⟨by rfl, .inl ?_⟩) (h := ?_)
   rotate_left
   ·(intro w; go_simp; first | done | with_reducible rfl)
   try simp only [Act.put, zTa, zTz, zTs]
   refine xTk 4 (v := ?_) (hm := ⟨by rfl, .inl ?_⟩) (h := ?_)
   rotate_left
   ·(intro w; go_simp; first | done | with_reducible rfl)
   try simp only [Act.put, zTa, zTz, zTs]
   refine xTk 5 (v := _) (hm := ⟨by rfl, .inr ⟨10, _, ?_, fun w => (kid_own (23 + (k : Nat)) w)⟩⟩) (h := ?_)
   ·(intro w; go_simp; (try exact u32_in _ (by omega)))
   try simp only [Act.put, zTa, zTz, zTs]
   refine wpX_ready (rs := [1, 6]) (by kernel_rfl) (by simp) (fun W2 hW2 => ?_)
   replace HO := HO.drew.then hW2
   clear hW2
   apply merge_HW
   case h2 =>
    intro key
    refine AllReadyX.cons (by simp only [zGa, zGs, zGz]; rfl) (fun K hK => ?_) (AllReadyX.cons (by simp only [zGa, zGs, zGz]; rfl) (fun K hK => ?_) AllReadyX.nil)
    ·have k1 := HO.cells 1 rfl
     go_simp
     refine hK.out _ _ ?_
     clear hK K k1
     try simp only [Act.put, zTa, zTz, zTs]
     refine wpX_ready (rs := [6]) (by kernel_rfl) (by simp) (fun U2 hU2 => ?_)
     have M2 := HO.then hU2
     refine xR1 (fun K hK => ?_)
     ·have k1 := M2.cells 1 rfl
      go_simp
      refine hK.out _ _ ?_
      clear hK K k1
      try simp only [Act.put, zTa, zTz, zTs]
      refine sx_alloc M2 ?_
      generalize U2.heap.size = H
      intro V3 N3
      exact key H _ N3
    ·have k1 := HO.cells 1 rfl
     go_simp
     refine hK.out _ _ ?_
     clear hK K k1
     try simp only [Act.put, zTa, zTz, zTs]
     refine sx_alloc HO ?_
     generalize W2.heap.size = H
     intro V2 N2
     refine wpX_ready (rs := [1]) (by kernel_rfl) (by simp) (fun U2 hU2 => ?_)
     have M2 := N2.then hU2
     refine xR1 (fun K hK => ?_)
     ·have k1 := M2.cells 2 rfl
      go_simp
      refine hK.out _ _ ?_
      clear hK K k1
      try simp only [Act.put, zTa, zTz, zTs]
      exact key H _ M2
   clear HO
   intro H W4 HO
   refine wpX_ready (rs := [7]) (by kernel_rfl) (by simp) (fun W5 hW5 => ?_)
   replace HO := HO.then hW5
   clear hW5 W4
   refine xR1 (fun K hK => ?_)
   go_simp
   go_at_call 8
   have cc := kadd_own w v _ _ _ (62) (0) (0) (some ⟨H, 0, none⟩) 2 2 W5 (HO.perm (List.Perm.swap _ _ _)) (by omega)
   refine cc.mono ?_
   clear cc HO
   rintro e W6 ⟨g6, c6, rfl, HO⟩
   refine hK.out _ _ ?_
   clear hK K
   try simp only [Act.put, zTa, zTz, zTs]
   refine xTk 8 (v := ?_) (hm := ⟨by rfl, .inl ?_⟩) (h := ?_)
   rotate_left
   ·(intro w; go_simp; first | done | with_reducible rfl)
   try simp only [Act.put, zTa, zTz, zTs]
   refine wpX_ready (rs := [9]) (by kernel_rfl) (by simp) (fun W7 hW7 => ?_)
   replace HO := HO.then hW7
   clear hW7
   have k1 := HO.cells 2 rfl
   have m1 := HO.melt 2 rfl
   refine xR1 (fun K hK => ?_)
   go_simp
   refine hK.out _ _ ?_
   clear hK K k1 m1
   try simp only [Act.put, zTa, zTz, zTs]
   replace HO := HO.set 2 2 (.slice (some ⟨g6, 0, none⟩) (23 + k + 1) c6) rfl
   simp only [zTz, zTs, zTa] at HO
   refine wpX_done (by kernel_rfl) (fun W8 hW8 => ?_) _
   replace HO := HO.then hW8
   clear hW8 W5 W6
   have HS := hid (StP.push (l := preL ln k) (i := ⟨62, 0, 0, [idA 12, idA (23 + k)]⟩) HO 2 hp (by rw [hpl]) rfl (by simp [agCells, idA]))
   clear HO hp hpl
   obtain ⟨p, v, D, hp, HO⟩ := HS.out.at_
   have hpl : p.length = 23 + k + 1 := (stp_len hp).trans (by simp [preL_len])
   unfold stS at HO
   rw [hpl] at HO
   clear HS
   go_wp2_with fail
   refine wp_region_x (by kernel_rfl) ?_
   refine xTk 0 (v := ?_) (hm := ⟨by rfl, .inl ?_⟩) (h := ?_)
   rotate_left
   ·(intro w; go_simp; first | done | with_reducible rfl)
   try simp only [Act.put, zTa, zTz, zTs]
   refine xTk 2 (v := _) (hm := ⟨by rfl, .inr ⟨10, _, ?_, fun w => (kid_own 13 w)⟩⟩) (h := ?_)
   ·(intro w; go_simp; (try exact u32_in _ (by omega)))
   try simp only [Act.put, zTa, zTz, zTs]
   refine xTk 3 (v := _) (hm := ⟨by rfl, .inr ⟨10, _, ?_, fun w => (kid_own 9 w)⟩⟩) (h := ?_)
   ·(intro w; go_simp; (try exact u32_in _ (by omega)))
   try simp only [Act.put, zTa, zTz, zTs]
   refine wpX_ready (rs := [1, 4]) (by kernel_rfl) (by simp) (fun W2 hW2 => ?_)
   replace HO := HO.drew.then hW2
   clear hW2
   apply merge_HW
   case h2 =>
    intro key
    refine AllReadyX.cons (by simp only [zGa, zGs, zGz]; rfl) (fun K hK => ?_) (AllReadyX.cons (by simp only [zGa, zGs, zGz]; rfl) (fun K hK => ?_) AllReadyX.nil)
    ·have k1 := HO.cells 1 rfl
     go_simp
     refine hK.out _ _ ?_
     clear hK K k1
     try simp only [Act.put, zTa, zTz, zTs]
     refine wpX_ready (rs := [4]) (by kernel_rfl) (by simp) (fun U2 hU2 => ?_)
     have M2 := HO.then hU2
     refine xR1 (fun K hK => ?_)
     ·have k1 := M2.cells 1 rfl
      go_simp
      refine hK.out _ _ ?_
      clear hK K k1
      try simp only [Act.put, zTa, zTz, zTs]
      refine sx_alloc M2 ?_
      generalize U2.heap.size = H
      intro V3 N3
      exact key H _ N3
    ·have k1 := HO.cells 1 rfl
     go_simp
     refine hK.out _ _ ?_
     clear hK K k1
     try simp only [Act.put, zTa, zTz, zTs]
     refine sx_alloc HO ?_
     generalize W2.heap.size = H
     intro V2 N2
     refine wpX_ready (rs := [1]) (by kernel_rfl) (by simp) (fun U2 hU2 => ?_)
     have M2 := N2.then hU2
     refine xR1 (fun K hK => ?_)
     ·have k1 := M2.cells 2 rfl
      go_simp
      refine hK.out _ _ ?_
      clear hK K k1
      try simp only [Act.put, zTa, zTz, zTs]
      exact key H _ M2
   clear HO
   intro H W4 HO
   refine wpX_ready (rs := [5]) (by kernel_rfl) (by simp) (fun W5 hW5 => ?_)
   replace HO := HO.then hW5
   clear hW5 W4
   refine xR1 (fun K hK => ?_)
   go_simp
   go_at_call 8
   have cc := kadd_own w v _ _ _ (62) (0) (0) (some ⟨H, 0, none⟩) 2 2 W5 (HO.perm (List.Perm.swap _ _ _)) (by omega)
   refine cc.mono ?_
   clear cc HO
   rintro e W6 ⟨g6, c6, rfl, HO⟩
   refine hK.out _ _ ?_
   clear hK K
   try simp only [Act.put, zTa, zTz, zTs]
   refine xTk 6 (v := ?_) (hm := ⟨by rfl, .inl ?_⟩) (h := ?_)
   rotate_left
   ·(intro w; go_simp; first | done | with_reducible rfl)
   try simp only [Act.put, zTa, zTz, zTs]
   refine wpX_ready (rs := [7]) (by kernel_rfl) (by simp) (fun W7 hW7 => ?_)
   replace HO := HO.then hW7
   clear hW7
   have k1 := HO.cells 2 rfl
   have m1 := HO.melt 2 rfl
   refine xR1 (fun K hK => ?_)
   go_simp
   refine hK.out _ _ ?_
   clear hK K k1 m1
   try simp only [Act.put, zTa, zTz, zTs]
   replace HO := HO.set 2 2 (.slice (some ⟨g6, 0, none⟩) (23 + k + 1 + 1) c6) rfl
   simp only [zTz, zTs, zTa] at HO
   refine wpX_done (by kernel_rfl) (fun W8 hW8 => ?_) _
   replace HO := HO.then hW8
   clear hW8 W5 W6
   have HS := hid (StP.push (l := preL ln k ++ [⟨62, 0, 0, [idA 12, idA (23 + k)]⟩]) (i := ⟨62, 0, 0, [idA 13, idA 9]⟩) HO 2 hp (by rw [hpl]) rfl rfl)
   clear HO hp hpl
   obtain ⟨p, v, D, hp, HO⟩ := HS.out.at_
   have hpl : p.length = 23 + k + 2 := (stp_len hp).trans (by simp [preL_len])
   unfold stS at HO
   rw [hpl, hL0.out] at HO
   clear HS
   (try simp only [zTz, zTs, zTa, zDs, zDz] at HO); (try have kk := HO.kk); skip
   go_wp2_with (first | ((first | (with_reducible refine sp_sk HO ?_) | (with_reducible refine sp_skc HO ?_) | (refine sp_wk HO rfl 30 _ _ rfl rfl rfl (by kernel_rfl) (by rfl) (by simp [Value.oneCell']) ?_)); intro W' HO'; clear HO; (try clear kk); have HO := HO'; clear HO'; (try simp only [zTz, zTs, zTa] at HO); (try have kk := HO.kk); skip) | (refine sp_lk HO rfl 30 _ rfl rfl _ Tryz.underlying30 rfl (by kernel_rfl) ?_) | (go_at_call 8; (first | refine (kadd_own w v _ _ _ 253 0 0 none 0 0 _ HO (by omega)).mono ?_ | refine (kadd_own w _ _ _ _ 56 0 0 none 0 0 _ HO (by omega)).mono ?_); rintro e W6 ⟨g6, c6, rfl, HO1⟩; clear HO; (try clear kk); skip; have HO := HO1; clear HO1; (try simp only [zTz, zTs, zTa, zDs, zDz] at HO); (try have kk := HO.kk); skip))
   (try clear kk); skip
   have hz : 23 + k + 2 + 1 + 1 = (strL k (lnF ln)).length := by rw [strL_len]; omega
   obtain ⟨g7, e7, _, _, hle, _⟩ := HO.slice2 0 rfl (by omega)
   refine bodyPost_ret_by (res_row rfl _ _ _ 30 #[.int .u32 0, .int .u32 (30 + k), .slice (some ⟨g6, 0, none⟩) (23 + k + 2 + 1 + 1) c6] _ _ rfl (HO.blk 3 rfl) Tryz.underlying30 rfl infoMdl) rfl ?_
   refine ⟨⟨g6, c6, p ++ [(⟨253, 0, 0, []⟩, none, 0)] ++ [(⟨56, 0, 0, []⟩, none, 0)], D, ?_, ?_, ?_, ?_⟩⟩
   ·rw [← hz, show ((30 + k : Nat) : Int) = 30 + k by omega]
   ·rw [← hz]; exact hle
   ·rw [List.map_append, List.map_append, hp]; exact preL_str ln
   ·rw [← hz, flatI_snoc, flatI_snoc]
    have h5 := HO.recast 2 (A' := argsA D (p ++ [(⟨253, 0, 0, []⟩, none, 0)] ++ [(⟨56, 0, 0, []⟩, none, 0)])) rfl (fun k hk => hk) (args_none (args_none (HO.at 2 rfl) ⟨253, 0, 0, []⟩ rfl) ⟨56, 0, 0, []⟩ rfl)
    simp only [List.set_cons_zero, List.set_cons_succ] at h5
    exact h5.sub (.cons_cons _ (.cons _ (.cons_cons _ (.cons _ .slnil))))
end Go.Proofs.YtbhijdmlonplgaaGreatDoor
