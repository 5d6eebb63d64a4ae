/- Face: used. -/
import Derived.Test.YtbhijdmlonplgaaGreatDoorBj
import Derived.Test.YtbhijdmlonplgaaGreatDoorAf
import Derived.Test.YtbhijdmlonplgaaGreatDoorBh
namespace Go.Proofs.YtbhijdmlonplgaaGreatDoor
set_option linter.unusedVariables false
set_option linter.unusedSimpArgs false
set_option maxRecDepth 100000
set_option maxHeartbeats 2000000
open Go.RowKit Go.MapKept
section
variable {K P T C gf gc gd b o cap b2 cb id lab y st en : Nat} {l : List In} {sv : Nat → Option Addr × Nat} {tab : Nat → Option TyD} {vs : Nat → Option (Nat × Nat × Nat)} {fk : Nat → Option Nat} {w : World}
theorem fused_own (h : Fkr K P T C gf gc gd b o cap b2 cb id lab y st en l sv tab vs fk w) (hz : ∀ id c ty n, vs id = some (c, ty, n) → 0 < n ∧ n ≤ 4096 ∧ (c = 1 ∨ c = 3)) (m ge ec : Nat) (nm : ByteArray) (x : Nat → Nat) (he : ∀ j, j < 4 → w.cell? ⟨ge, 0 + j, none⟩ = some (.int .u32 (x j))) (hy : y < en) (hen : en ≤ l.length) (hcap : l.length ≤ cap) (hn : l.length ≤ 2000)
  (hu : ∀ k (hk : k < l.length), y ≤ k → k < en → ∀ v ∈ idsOf l[k], clsOf vs v ≠ 0 → ∃ j, j < 4 ∧ x j = v) :
  Calls Tryz.prog 272 #[.pointer (some ⟨K, 0, none⟩), .agg #[.int .u32 m, .int .u32 id, .string nm, .slice (some ⟨ge, 0, none⟩) 4 ec]] w fun e w' => e = .returned (.bool true) ∧ Below w.heap.size w w' := by
 have HO := Own.nil w
 have HH := hid h
 have HU := hid hu
 have HE := hid he
 have g2 := h.c2
 have g3 := h.c3
 have g4 := h.c4
 have zK := block_lt_of_cell g2
 have zE := block_lt_of_cell (he 0 (by omega))
 have zb := h.ms.lt
 obtain ⟨lo3, hq⟩ := h.fq
 obtain ⟨zg, f0, f1, f2, f3, f4⟩ := hq.mem
 have cF : ∀ W, Below w.heap.size w W → Calls Tryz.prog 269 #[.pointer (some ⟨K, 0, none⟩), .int .u32 id] W fun e w' => e = .returned (.int .i64 0) ∧ Below W.heap.size W w' := fun W hb => by
  obtain ⟨lo, hq2⟩ := (h.below hb).fq
  exact ffunction_own K gf gc b2 cb id y en W (h.below hb).c3 hq2.mem
 have cR : ∀ W, Below w.heap.size w W → Calls Tryz.prog 281 #[.pointer (some ⟨C, 0, none⟩), .int .i64 0] W fun e w' => ∃ g c, e = .returned (.slice (some ⟨g, 0, none⟩) 1 c) ∧ Own noX W [rw_ W.heap.size 3 1 (.slice (some ⟨g, 0, none⟩) 1 c) 1 [.int .i64 0]] w' := fun W hb => by
  obtain ⟨lo, hc⟩ := (h.below hb).ca
  exact creached_own C lo W hc
 have CL := hid (fun (v : Nat) (W : World) (hb : Below w.heap.size w W) => fclass_own (h.below hb) hz v)
 clear h hq hu he
 go_enter Tryz.func272, Tryz.ntmps272
 go_wp2_with (first | ((first | (with_reducible refine sp_al HO ?_; intro g hg; rw [← hg.out]; clear hg) | (with_reducible refine sp_alc HO ?_; intro g hg; rw [← hg.out]; clear hg) | (with_reducible refine sp_sk HO ?_) | (with_reducible refine sp_skc HO ?_)); intro W' HO'; clear HO; (try clear kk); have HO := HO'; clear HO'; (try simp only [zTz, zTs, zTa] at HO); (try have kk := HO.kk); skip))
 obtain ⟨gE, rfl⟩ : ∃ q, q = g := ⟨_, rfl⟩
 (try clear kk); skip
 have hcl : ∀ W W2 : World, (Below w.heap.size w W ∧ W.cell? ⟨gE, 1, none⟩ = some (.int .u32 id)) → Below W.heap.size W W2 → (Below w.heap.size w W2 ∧ W2.cell? ⟨gE, 1, none⟩ = some (.int .u32 id)) := fun _ _ h k => ⟨bcall h.1 k, cell_last h.2 (block_lt_of_cell h.2) k⟩
 have hSw : Below w.heap.size w W'.drew ∧ W'.drew.cell? ⟨gE, 1, none⟩ = some (.int .u32 id) := ⟨HO.drew.below, HO.drew.cell 0 1 rfl rfl⟩
 refine wp_region_s (S := fun W => Below w.heap.size w W ∧ W.cell? ⟨gE, 1, none⟩ = some (.int .u32 id)) (by kernel_rfl) ?_
 refine sTk hcl 0 (v := ?_) (hm := ⟨by rfl, .inl ?_⟩) (hSw := hSw) (h := ?_)
 rotate_left
 ·(intro w hw; go_simp; first | done | with_reducible rfl)
 try simp only [Act.put, zTa, zTz, zTs]
 refine sTk hcl 1 (v := ?_) (hm := ⟨by rfl, .inl ?_⟩) (hSw := hSw) (h := ?_)
 rotate_left
 ·(intro w hw; go_simp; first | done | with_reducible rfl)
 try simp only [Act.put, zTa, zTz, zTs]
 refine sTk hcl 2 (v := ?_) (hm := ⟨by rfl, .inl ?_⟩) (hSw := hSw) (h := ?_)
 rotate_left
 ·(intro w hw; go_simp; first | done | with_reducible rfl)
 try simp only [Act.put, zTa, zTz, zTs]
 refine sTk hcl 3 (v := ?_) (hm := ⟨by rfl, .inl ?_⟩) (hSw := hSw) (h := ?_)
 rotate_left
 ·(intro w hw; have q1 := (hw.1.cell (p := ⟨K, 2, none⟩) zK).trans g2; go_simp; first | done | with_reducible rfl)
 try simp only [Act.put, zTa, zTz, zTs]
 refine sTk hcl 4 (v := ?_) (hm := ⟨by rfl, .inl ?_⟩) (hSw := hSw) (h := ?_)
 rotate_left
 ·(intro w hw; go_simp; first | done | with_reducible rfl)
 try simp only [Act.put, zTa, zTz, zTs]
 refine sTk hcl 5 (v := ?_) (hm := ⟨by rfl, .inl ?_⟩) (hSw := hSw) (h := ?_)
 rotate_left
 ·(intro w hw; go_simp; first | done | with_reducible rfl)
 try simp only [Act.put, zTa, zTz, zTs]
 refine sTk hcl 6 (v := ?_) (hm := ⟨by rfl, .inl ?_⟩) (hSw := hSw) (h := ?_)
 rotate_left
 ·(intro w hw; have q1 := hw.2; go_simp; first | done | with_reducible rfl)
 try simp only [Act.put, zTa, zTz, zTs]
 refine sTk hcl 7 (v := _) (hm := ⟨by rfl, .inr ⟨269, _, ?_, fun w hw => cF w hw.1⟩⟩) (hSw := hSw) (h := ?_)
 ·(intro w hw; go_simp; (try exact u32_in _ (by omega)))
 try simp only [Act.put, zTa, zTz, zTs]
 refine sTk hcl 10 (v := ?_) (hm := ⟨by rfl, .inl ?_⟩) (hSw := hSw) (h := ?_)
 rotate_left
 ·(intro w hw; go_simp; first | done | with_reducible rfl)
 try simp only [Act.put, zTa, zTz, zTs]
 refine wpS_ready (rs := [8]) (by kernel_rfl) (by simp) (fun W2 hW2 => ?_)
 replace HO := HO.drew.then hW2
 clear hW2 hSw
 refine sR1 (fun K hK => ?_)
 go_simp
 go_at_call 281
 refine (cR _ HO.below).mono ?_
 rintro e w2 ⟨gr, cr, rfl, h2⟩
 replace HO := HO.app h2
 clear h2
 simp only [List.cons_append, List.nil_append] at HO
 have hSw : Below w.heap.size w w2 ∧ w2.cell? ⟨gE, 1, none⟩ = some (.int .u32 id) := ⟨HO.below, HO.cell 1 1 rfl rfl⟩
 refine hK.out _ _ hSw ?_
 clear hK
 try simp only [Act.put, zTa, zTz, zTs]
 refine sTk hcl 9 (v := ?_) (hm := ⟨by rfl, .inl ?_⟩) (hSw := hSw) (h := ?_)
 rotate_left
 ·(intro w hw; go_simp; first | done | with_reducible rfl)
 try simp only [Act.put, zTa, zTz, zTs]
 refine wpS_done (by kernel_rfl) (fun W8 hW8 => ?_) _
 replace HO := HO.then hW8
 clear hW8 hSw hcl cR cF
 go_wp2_with fail
 refine wp_loop_rounds 2 ?_
 rw [rounds_succ]
 have r0 := HO.rowcell 0 0 rfl rfl
 have zr := block_lt_of_cell r0
 (try simp only [zTz, zTs, zTa, zDs, zDz] at HO); (try have kk := HO.kk); skip
 go_wp2_with (first | ((first | (with_reducible refine sp_al HO ?_; intro g hg; rw [← hg.out]; clear hg) | (with_reducible refine sp_sk HO ?_) | (with_reducible refine sp_skc HO ?_) | (refine sp_wk HO rfl 117 _ _ rfl rfl rfl (by kernel_rfl) (by rfl) (by simp [Value.oneCell']) ?_)); intro W' HO'; clear HO; (try clear kk); have HO := HO'; clear HO'; (try simp only [zTz, zTs, zTa] at HO); (try have kk := HO.kk); skip))
 have i5 : (y : Int) ≤ en := by omega
 have i6 : (en : Int) ≤ cap := by omega
 have i7 : (en : Int) ≤ l.length := by omega
 have j1 : y < cap := by omega
 have j2 : (y : Int) < cap := by omega
 have j3 : ¬ (cap = y) := by omega
 have j4 : ¬ (cap - y = 0) := by omega
 have j5 : y ≤ en := by omega
 have j6 : y ≤ cap := by omega
 go_quiet (fail)
 replace HO := HO.drewN nq
 have gK3 := cell_last g4 zK HO.below
 have zK2 := block_lt_of_cell gK3
 have gE3 := HO.cell 2 3 rfl rfl
 have zE2 := block_lt_of_cell gE3
 have hHX := HO.below
 have hEE : ∀ j, j < 4 → W'.drewN nq = W'.drewN nq ∧ (W'.drewN nq).cell? ⟨ge, 0 + j, none⟩ = some (.int .u32 (x j)) := fun j hj => ⟨rfl, cell_last (HE.out j hj) zE hHX⟩
 have HX := hid hHX
 have HEE := hid (fun j hj => (hEE j hj).2)
 clear hHX hEE r0 g2 g3 HO
 (try clear kk)
 generalize W'.drewN nq = wq at gK3 zK2 gE3 zE2 HX HEE
 go_wp2_with fail
 go_loopw [9, 11, 43, 50] (fun _ _ x43 _ wv => ∃ k : Nat, k ≤ en - y ∧ x43 = .int .i64 k ∧ Below wq.heap.size wq wv) (fun _ _ x _ _ => en - y - (intOf x).toNat)
 case atStart => exact ⟨0, by omega, rfl, Below.refl _ _⟩
 case round =>
  obtain ⟨k, hk, rfl, hw⟩ := hrel
  have hwr := HX.out.trans (hw.mono HX.out.size)
  by_cases hkl : k < en - y
  ·have hkn : y + k < l.length := by omega
   have hMM := HH.out.ms.below hwr
   have e0 := hMM.op (y + k) hkn
   have e1 := hMM.ty (y + k) hkn
   have e2 := hMM.res (y + k) hkn
   have e3 := hMM.args (y + k) hkn
   have hsl := hid (hMM.sl (y + k) hkn)
   have hal := hid (hMM.len (y + k) hkn)
   have HUU := hid (HU.out (y + k) hkn (by omega) (by omega))
   have zb := hMM.lt
   clear hMM
   generalize l[y + k] = i at e0 e1 e2 e3 hsl hal HUU
   generalize sv (y + k) = s at e3 hsl
   obtain ⟨sa, sc⟩ := s
   simp only at e3 hsl
   rw [show o + (y + k) * 4 = o + y * 4 + k * 4 by omega] at e0 e1 e2 e3
   have i4 : (k : Int) < (en - y : Nat) := by omega
   have i5 : (k : Int) < (en : Int) - y := by omega
   have HKL := hid hkl
   have HW := hid hw
   have HWR := hid hwr
   clear hkl hk hkn hw hwr
   have HO := Own.nil wr
   (try simp only [zTz, zTs, zTa, zDs, zDz] at HO); (try have kk := HO.kk); skip
   go_wp2_with (first | ((first | (with_reducible refine sp_al HO ?_; intro g hg; rw [← hg.out]; clear hg) | (with_reducible refine sp_alc HO ?_; intro g hg; rw [← hg.out]; clear hg) | (with_reducible refine sp_sk HO ?_) | (with_reducible refine sp_skc HO ?_) | (refine sp_wk HO rfl 41 _ _ rfl rfl rfl (by kernel_rfl) (by rfl) (by simp [Value.oneCell']) ?_)); intro W' HO'; clear HO; (try clear kk); have HO := HO'; clear HO'; (try simp only [zTz, zTs, zTa] at HO); (try have kk := HO.kk); skip) | (refine sp_lk HO rfl 41 _ rfl rfl _ Tryz.underlying41 rfl (by kernel_rfl) ?_))
   have hcc := ids_own i sa sc W' (hsl.out.below AgAt.lasts HO.below) hal.out
   have hnl := hid (show (idsOf i).length ≤ 1048577 from Nat.le_trans (idsTo_len i _) (by have := hal.out; omega))
   with_reducible refine Calls.mono hcc ?_
   rintro e w3 ⟨⟨v, rfl, hv⟩, hn3⟩
   obtain ⟨va, vc, rfl, hids⟩ := own_nums hv
   replace HO := HO.then hn3
   clear hv hn3 hcc e0 e1 e2 e3
   (try clear kk); skip
   have HXI := hid HO.below
   have HQ := hid hids
   have gE4 := cell_last gE3 zE2 (HW.out.trans (HO.below.mono HW.out.size))
   have zE4 := block_lt_of_cell gE4
   clear HO hids
   have i6 := hnl.out
   go_wp2_with fail
   rename World => wz
   have HY := hid (HWR.out.trans (HXI.out.mono HWR.out.size))
   go_loopw [11, 50] (fun _ x50 wv => ∃ j : Nat, j ≤ (idsOf i).length ∧ x50 = .int .i64 j ∧ Below wz.heap.size wz wv) (fun _ x _ => (idsOf i).length - (intOf x).toNat)
   case atStart => exact ⟨0, by omega, rfl, Below.refl _ _⟩
   case round =>
    obtain ⟨j, hj, rfl, hw⟩ := hrel
    have hwr := HY.out.trans (hw.mono HY.out.size)
    by_cases hjl : j < (idsOf i).length
    ·have hmy := HUU.out _ (List.getElem_mem hjl)
     obtain ⟨qb, qo, ha, hql, hqc⟩ := (HQ.out.below (NumAt.lasts .u32) hw).at_ (by omega)
     subst ha
     have q1 : wr.cell? ⟨qb, qo + j * 1, none⟩ = some (.int .u32 (idsOf i)[j]) := hqc j hjl
     rw [Nat.mul_one] at q1
     have i7 : (j : Int) < (idsOf i).length := by omega
     have gE5 := cell_last gE4 zE4 hw
     have HJL := hid hjl
     have HW2 := hid hw
     clear hqc hw
     generalize (idsOf i)[j] = idj at q1 hmy
     have cL := fun (W : World) (hb : Below wr.heap.size wr W) => CL.out idj W (hwr.trans (hb.mono hwr.size))
     have HO := Own.nil wr
     by_cases hc0 : clsOf vs idj = 0
     ·rw [hc0] at cL
      clear hjl hmy hc0
      go_wp2_with (first | (go_at_call 144; (with_reducible refine (cL _ HO.below).mono ?_); rintro e w1 ⟨rfl, hn1⟩; replace HO := HO.then hn1; clear hn1))
      exact ⟨⟨j + 1, HJL.out, by go_num, HW2.out.trans (HO.below.mono HW2.out.size)⟩, by have := HJL.out; simp [intOf]; omega⟩
     ·have hex := hmy hc0
      have cT : ∀ W, Below wr.heap.size wr W → Calls Tryz.prog 270 #[.slice (some ⟨ge, 0, none⟩) 4 ec, .int .u32 idj] W fun e w' => e = .returned (.bool true) ∧ w' = W := fun W hb => ucontains_own ge 0 4 ec idj x W (fun j hj => cell_last (HE.out j hj) zE (hwr.trans (hb.mono hwr.size))) (by omega) true (by simp only [true_iff]; exact hex)
      generalize clsOf vs idj = cj at cL hc0
      clear hjl hmy hex
      go_wp2_with (first | (go_at_call 144; (with_reducible refine (cL _ HO.below).mono ?_); rintro e w1 ⟨rfl, hn1⟩; replace HO := HO.then hn1; have gE6 := cell_last gE5 (block_lt_of_cell gE5) HO.below; clear hn1) | (go_at_call 270; (with_reducible refine (cT _ HO.below).mono ?_); rintro e w1 ⟨rfl, rfl⟩))
      exact ⟨⟨j + 1, HJL.out, by go_num, HW2.out.trans (HO.below.mono HW2.out.size)⟩, by have := HJL.out; simp [intOf]; omega⟩
    ·obtain rfl : j = (idsOf i).length := by omega
     have i7 : ¬ (((idsOf i).length : Int) < (idsOf i).length) := by omega
     have hwf := HW.out.trans ((HXI.out.trans (hw.mono HXI.out.size)).mono HW.out.size)
     go_wp2_with fail
     exact ⟨⟨k + 1, HKL.out, by go_num, hwf⟩, by have := HKL.out; simp [intOf]; omega⟩
  ·obtain rfl : k = en - y := by omega
   have i4 : ¬ (((en - y : Nat) : Int) < (en - y : Nat)) := by omega
   go_wp2_with fail
   rw [rounds_succ]
   go_wp2_with fail
   go_ret
   exact ⟨rfl, hwr⟩
end
end Go.Proofs.YtbhijdmlonplgaaGreatDoor
