/- Fold: what makes a value; what an id is known to say; the values of arguments. -/
import Derived.Test.YtindnnbopaeklaaGreatDoorDe
import Derived.Test.YtindnnbopaeklaaGreatDoorDb
import Derived.Test.YtindnnbopaeklaaGreatDoorBc
namespace Go.Proofs.YtindnnbopaeklaaGreatDoor
set_option linter.unusedVariables false
set_option linter.unusedSimpArgs false
set_option maxRecDepth 100000
set_option maxHeartbeats 4000000
open Go.RowKit Go.MapKept
def liftV (F : Nat) : Value := .func (.func 104) #[.pointer (some ⟨F, 0, none⟩)] #[]
theorem maker_two (F op : Nat) (h : isTwo op = true) (w : World) :
  Calls Tryz.prog 77 #[.pointer (some ⟨F, 0, none⟩), .int .u16 op] w fun e w' => e = .returned (liftV F) ∧ Below w.heap.size w w' := by
 have HO := Own.nil w
 have cA := arity_two op h
 have hm := isTwo_mem h
 simp only [List.mem_cons, List.not_mem_nil, or_false] at hm
 have i77 : ((op : Int) == 77) = false := by rw [beq_eq_false_iff_ne]; omega
 have i78 : ((op : Int) == 78) = false := by rw [beq_eq_false_iff_ne]; omega
 have i79 : ((op : Int) == 79) = false := by rw [beq_eq_false_iff_ne]; omega
 have i80 : ((op : Int) == 80) = false := by rw [beq_eq_false_iff_ne]; omega
 have i81 : ((op : Int) == 81) = false := by rw [beq_eq_false_iff_ne]; omega
 have i82 : ((op : Int) == 82) = false := by rw [beq_eq_false_iff_ne]; omega
 clear hm h
 go_enter Tryz.func77, Tryz.ntmps77
 go_wp2_with (first | (go_at_call 103; (with_reducible refine (cA _).mono ?_); rintro e w1 ⟨rfl, hn1⟩; replace HO := HO.then hn1; clear hn1))
 go_ret
 exact ⟨rfl, HO.below⟩
theorem maker_none (F op : Nat) (h : op = 248 ∨ op = 254) (w : World) :
  Calls Tryz.prog 77 #[.pointer (some ⟨F, 0, none⟩), .int .u16 op] w fun e w' => e = .returned .nilFunc ∧ Below w.heap.size w w' := by
 have HO := Own.nil w
 have cA := arity_none op h
 have i77 : ((op : Int) == 77) = false := by rw [beq_eq_false_iff_ne]; omega
 have i78 : ((op : Int) == 78) = false := by rw [beq_eq_false_iff_ne]; omega
 have i79 : ((op : Int) == 79) = false := by rw [beq_eq_false_iff_ne]; omega
 have i80 : ((op : Int) == 80) = false := by rw [beq_eq_false_iff_ne]; omega
 have i81 : ((op : Int) == 81) = false := by rw [beq_eq_false_iff_ne]; omega
 have i82 : ((op : Int) == 82) = false := by rw [beq_eq_false_iff_ne]; omega
 clear h
 go_enter Tryz.func77, Tryz.ntmps77
 go_wp2_with (first | (go_at_call 103; (with_reducible refine (cA _).mono ?_); rintro e w1 ⟨rfl, hn1⟩; replace HO := HO.then hn1; clear hn1))
 go_ret
 exact ⟨rfl, HO.below⟩
theorem infoVal : (Tryz.prog.info? 61).map (·.size) = some 2 := by kernel_rfl
theorem el_val : El 99 61 2 32 := El.of Tryz.underlying99 (z := .agg #[.int .u32 0, .slice none 0 0]) (by kernel_rfl) rfl (by omega)
theorem el_rws : El 33 32 1 24 := El.of Tryz.underlying33 (z := .slice none 0 0) (by kernel_rfl) rfl (by omega)
section
variable {lo P T : Nat} {tab : Nat → Option TyD} {cv : Nat → Option (Nat × Nat)} {ids : List Nat} {w : World}
theorem says_own (F : Nat) (h : PnIn lo P T tab cv ids w) (hF : w.cell? ⟨F, 3, none⟩ = some (.pointer (some ⟨P, 0, none⟩))) (id ty y : Nat) (hf : cv id = some (ty, y)) :
  Calls Tryz.prog 105 #[.pointer (some ⟨F, 0, none⟩), .int .u32 id] w fun e w' => (∃ g, e = .returned (.tuple #[.agg #[.int .u32 ty, .slice (some ⟨g, 0, none⟩) 1 1], .bool true]) ∧ w1P g y w.heap.size w') ∧ Below w.heap.size w w' := by
 have HO := Own.nil w
 have zF := block_lt_of_cell hF
 have cV : ∀ W, Below w.heap.size w W → _ := fun W hb => cvalue_own (h.below hb) id ty y hf
 clear h hf
 go_enter Tryz.func105, Tryz.ntmps105
 go_wp2_with (first | ((first | ((with_reducible first | refine sp_al HO ?_ | refine sp_alc HO ?_); intro g hg; rw [← hg.out]; clear hg) | (with_reducible first | refine sp_sk HO ?_ | refine sp_skc HO ?_) | (refine sp_wk HO rfl 61 _ _ rfl rfl rfl (by kernel_rfl) (by rfl) (by simp [Value.oneCell']) ?_)); clear HO; (try clear kk); intro W' HO; (try simp only [zTz, zTs, zTa] at HO); (try have kk := HO.kk)) | (go_at_call 149; (with_reducible refine (cV _ HO.below).mono ?_); rintro e w1 ⟨⟨gw, rfl, hq⟩, hn1⟩; have HZ := hid HO.below.size; replace HO := HO.deep (P := w1P gw y) hn1 hq; have HQ := hid hq; clear hn1 hq; (try clear kk); (try simp only [zTz, zTs, zTa, zDs, zDz] at HO); (try have kk := HO.kk)))
 refine bodyPost_ret_by (results_row_tmp rfl _ _ _ 61 #[.int .u32 ty, .slice (some ⟨gw, 0, none⟩) 1 1] _ _ rfl (HO.blk 1 rfl) Tryz.underlying61 rfl infoVal) rfl ?_
 obtain ⟨U, u1, u2, u3⟩ := (HO.at 0 rfl : DeepAt _ _ _ _).at_
 have hb := block_lt_of_cell u2.2
 refine ⟨⟨gw, rfl, Nat.le_trans HZ.out HQ.out.1, (World.cell?_of_block (a := ⟨gw, 0, none⟩) (u3 gw u2.1 (by rw [← u1]; exact hb))).trans u2.2⟩, HO.below⟩
structure Vals2 (R t0 t1 g0 g1 y0 y1 lo : Nat) (W : World) : Prop where
 low : lo ≤ R
 a0 : W.cell? ⟨R, 0, none⟩ = some (.int .u32 t0)
 a1 : W.cell? ⟨R, 1, none⟩ = some (.slice (some ⟨g0, 0, none⟩) 1 1)
 b0 : W.cell? ⟨R, 2, none⟩ = some (.int .u32 t1)
 b1 : W.cell? ⟨R, 3, none⟩ = some (.slice (some ⟨g1, 0, none⟩) 1 1)
 x0 : W.cell? ⟨g0, 0, none⟩ = some (.int .u32 y0)
 x1 : W.cell? ⟨g1, 0, none⟩ = some (.int .u32 y1)
theorem Vals2.below {R t0 t1 g0 g1 y0 y1 lo : Nat} {W W' : World} (h : Vals2 R t0 t1 g0 g1 y0 y1 lo W) (hb : Below W.heap.size W W') : Vals2 R t0 t1 g0 g1 y0 y1 lo W' :=
 ⟨h.low, cell_last h.a0 (block_lt_of_cell h.a0) hb, cell_last h.a1 (block_lt_of_cell h.a1) hb, cell_last h.b0 (block_lt_of_cell h.b0) hb, cell_last h.b1 (block_lt_of_cell h.b1) hb, cell_last h.x0 (block_lt_of_cell h.x0) hb, cell_last h.x1 (block_lt_of_cell h.x1) hb⟩
theorem args_own (F : Nat) (h : PnIn lo P T tab cv ids w) (hF : w.cell? ⟨F, 3, none⟩ = some (.pointer (some ⟨P, 0, none⟩))) (op ty res ab ao cm x0 x1 t0 t1 y0 y1 : Nat) (h2 : Two ab ao x0 x1 w) (f0 : cv x0 = some (t0, y0)) (f1 : cv x1 = some (t1, y1)) :
  Calls Tryz.prog 78 #[.pointer (some ⟨F, 0, none⟩), .agg #[.int .u16 op, .int .u32 ty, .int .u32 res, .slice (some ⟨ab, ao, none⟩) 2 cm]] w fun e w' => (∃ R c g0 g1, e = .returned (.tuple #[.slice (some ⟨R, 0, none⟩) 2 c, .bool true]) ∧ Vals2 R t0 t1 g0 g1 y0 y1 w.heap.size w') ∧ Below w.heap.size w w' := by
 have HO := Own.nil w
 have zF := block_lt_of_cell hF
 have c0 : ∀ W, Below w.heap.size w W → _ := fun W hb => says_own F (h.below hb) (cell_last hF zF hb) x0 t0 y0 f0
 have c1 : ∀ W, Below w.heap.size w W → _ := fun W hb => says_own F (h.below hb) (cell_last hF zF hb) x1 t1 y1 f1
 obtain ⟨k0, n0, s0, k1, n1, s1⟩ := h2
 have zA := block_lt_of_cell k0
 clear h f0 f1
 go_enter Tryz.func78, Tryz.ntmps78
 go_wp2_with (first | ((first | ((with_reducible first | refine sp_al HO ?_ | refine sp_alc HO ?_); intro g hg; rw [← hg.out]; clear hg) | (with_reducible first | refine sp_sk HO ?_ | refine sp_skc HO ?_)); clear HO; (try clear kk); intro W' HO; (try simp only [zTz, zTs, zTa] at HO); (try have kk := HO.kk)))
 refine wp_loop_rounds 3 ?_
 replace HO := HO.row w.heap.size 61 2
 rw [rounds_succ]
 go_wp2_with (first | ((first | ((with_reducible first | refine sp_al HO ?_ | refine sp_alc HO ?_); intro g hg; rw [← hg.out]; clear hg) | (with_reducible first | refine sp_sk HO ?_ | refine sp_skc HO ?_) | (refine sp_wk HO rfl 45 _ _ rfl rfl rfl (by kernel_rfl) (by rfl) (by simp [Value.oneCell']) ?_) | (refine sp_wk HO rfl 61 _ _ rfl rfl rfl (by kernel_rfl) (by rfl) (by simp [Value.oneCell']) ?_)); clear HO; (try clear kk); intro W' HO; (try simp only [zTz, zTs, zTa] at HO); (try have kk := HO.kk)) | (refine sp_lk HO rfl 45 _ rfl rfl _ Tryz.underlying45 rfl (by kernel_rfl) ?_) | (refine sp_lk HO rfl 61 _ rfl rfl _ Tryz.underlying61 rfl (by kernel_rfl) ?_) | (go_at_call 105; (with_reducible refine (c0 _ HO.below).mono ?_); rintro e w1 ⟨⟨g0, rfl, hq⟩, hn1⟩; replace HO := HO.deep (P := w1P g0 y0) hn1 hq; clear hn1 hq; (try clear kk); (try simp only [zTz, zTs, zTa, zDs, zDz] at HO); (try have kk := HO.kk)) | ((with_reducible refine at_append ?_); refine sp_append HO el_val 4 0 rfl rfl rfl _ _ rfl rfl rfl rfl (by simp [Value.oneCell']) (by omega) (by omega) (Nat.le_refl _) ?_; clear HO; (try clear kk); intro r0 d0 W' HO; (try simp only [zTz, zTs, zTa] at HO); (try simp only [zTz, zTs, zTa, zDs, zDz] at HO); (try have kk := HO.kk)))
 rw [rounds_succ]
 go_wp2_with (first | ((first | ((with_reducible first | refine sp_al HO ?_ | refine sp_alc HO ?_); intro g hg; rw [← hg.out]; clear hg) | (with_reducible first | refine sp_sk HO ?_ | refine sp_skc HO ?_) | (refine sp_wk HO rfl 45 _ _ rfl rfl rfl (by kernel_rfl) (by rfl) (by simp [Value.oneCell']) ?_) | (refine sp_wk HO rfl 61 _ _ rfl rfl rfl (by kernel_rfl) (by rfl) (by simp [Value.oneCell']) ?_)); clear HO; (try clear kk); intro W' HO; (try simp only [zTz, zTs, zTa] at HO); (try have kk := HO.kk)) | (refine sp_lk HO rfl 45 _ rfl rfl _ Tryz.underlying45 rfl (by kernel_rfl) ?_) | (refine sp_lk HO rfl 61 _ rfl rfl _ Tryz.underlying61 rfl (by kernel_rfl) ?_) | (go_at_call 105; (with_reducible refine (c1 _ HO.below).mono ?_); rintro e w1 ⟨⟨g1, rfl, hq⟩, hn1⟩; replace HO := HO.deep (P := w1P g1 y1) hn1 hq; clear hn1 hq; (try clear kk); (try simp only [zTz, zTs, zTa, zDs, zDz] at HO); (try have kk := HO.kk)) | ((with_reducible refine at_append ?_); refine sp_append HO el_val 8 0 rfl rfl rfl _ _ rfl rfl rfl rfl (by simp [Value.oneCell']) (by omega) (by omega) (Nat.le_refl _) ?_; clear HO; (try clear kk); intro r1 d1 W' HO; (try simp only [zTz, zTs, zTa] at HO); (try simp only [zTz, zTs, zTa, zDs, zDz] at HO); (try have kk := HO.kk)))
 rw [rounds_succ]
 go_wp2_with fail
 go_ret2
 have e0 := deep1 (HO.at 6 rfl)
 have e1 := deep1 (HO.at 2 rfl)
 exact ⟨⟨r1, d1, g0, g1, rfl, HO.rowle 8 rfl, HO.rowcell 8 0 rfl rfl, HO.rowcell 8 1 rfl rfl, HO.rowcell 8 2 rfl rfl, HO.rowcell 8 3 rfl rfl, e0.1, e1.1⟩, HO.below⟩
end
theorem flift_own (F op ty res R c t0 t1 g0 g1 y0 y1 lo : Nat) (v : Value) (h : isTwo op = true) (hy0 : y0 < 4294967296) (hy1 : y1 < 4294967296) (w : World) (hv : Vals2 R t0 t1 g0 g1 y0 y1 lo w) :
  Calls Tryz.prog 104 #[.pointer (some ⟨F, 0, none⟩), .agg #[.int .u16 op, .int .u32 ty, .int .u32 res, v], .slice (some ⟨R, 0, none⟩) 2 c] w fun e w' => (∃ g c, e = .returned (.slice (some ⟨g, 0, none⟩) 1 c) ∧ w1P g (bin2 op y0 y1) w.heap.size w') ∧ Below w.heap.size w w' := by
 have HO := Own.nil w
 have cL : ∀ (B cB : Nat) W, Below w.heap.size w W → W.cell? ⟨B, 0, none⟩ = some (.slice (some ⟨g0, 0, none⟩) 1 1) → W.cell? ⟨B, 1, none⟩ = some (.slice (some ⟨g1, 0, none⟩) 1 1) → _ := fun B cB W hb e0 e1 => lift_two op h B cB g0 g1 1 1 y0 y1 (by omega) (by omega) (by omega) (by omega) W e0 e1 (hv.below hb).x0 (hv.below hb).x1
 have hq : ∀ W, Below w.heap.size w W → W.cell? ⟨R, 0, none⟩ = some (.int .u32 t0) ∧ W.cell? ⟨R, 1, none⟩ = some (.slice (some ⟨g0, 0, none⟩) 1 1) ∧ W.cell? ⟨R, 2, none⟩ = some (.int .u32 t1) ∧ W.cell? ⟨R, 3, none⟩ = some (.slice (some ⟨g1, 0, none⟩) 1 1) := fun W hb => ⟨(hv.below hb).a0, (hv.below hb).a1, (hv.below hb).b0, (hv.below hb).b1⟩
 clear hv h hy0 hy1
 go_enter Tryz.func104, Tryz.ntmps104
 go_wp2_with (first | ((first | ((with_reducible first | refine sp_al HO ?_ | refine sp_alc HO ?_); intro g hg; rw [← hg.out]; clear hg) | (with_reducible first | refine sp_sk HO ?_ | refine sp_skc HO ?_)); clear HO; (try clear kk); intro W' HO; (try simp only [zTz, zTs, zTa] at HO); (try have kk := HO.kk)))
 refine wp_loop_rounds 3 ?_
 replace HO := HO.row w.heap.size 32 1
 have hcl0 : ∀ (gV gx : Nat) (W W2 : World), (Below w.heap.size w W ∧ W.cell? ⟨gV, 1, none⟩ = some (.slice (some ⟨gx, 0, none⟩) 1 1)) → Below W.heap.size W W2 → (Below w.heap.size w W2 ∧ W2.cell? ⟨gV, 1, none⟩ = some (.slice (some ⟨gx, 0, none⟩) 1 1)) := fun _ _ _ _ h k => ⟨bcall h.1 k, cell_last h.2 (block_lt_of_cell h.2) k⟩
 have q := hq _ HO.below
 rw [rounds_succ]
 go_wp2_with (first | ((first | ((with_reducible first | refine sp_al HO ?_ | refine sp_alc HO ?_); intro g hg; rw [← hg.out]; clear hg) | (with_reducible first | refine sp_sk HO ?_ | refine sp_skc HO ?_) | (refine sp_wk HO rfl 61 _ _ rfl rfl rfl (by kernel_rfl) (by rfl) (by simp [Value.oneCell']) ?_)); clear HO; (try clear kk); intro W' HO; (try simp only [zTz, zTs, zTa] at HO); (try have kk := HO.kk)))
 obtain ⟨gV, rfl⟩ : ∃ q, q = g := ⟨_, rfl⟩
 (try clear kk)
 have hSw : Below w.heap.size w W'.drew ∧ W'.drew.cell? ⟨gV, 1, none⟩ = some (.slice (some ⟨g0, 0, none⟩) 1 1) := ⟨HO.drew.below, HO.drew.cell 0 1 rfl rfl⟩
 refine wp_region_s (S := fun W => Below w.heap.size w W ∧ W.cell? ⟨gV, 1, none⟩ = some (.slice (some ⟨g0, 0, none⟩) 1 1)) (by kernel_rfl) ?_
 have hcl := fun W W2 h k => hcl0 gV g0 W W2 h k
 refine wpS_take hcl (i := 0) (v := ?_) (by simp only [List.getElem?_toArray, List.getElem?_cons_succ, List.getElem?_cons_zero]; rfl) (by kernel_rfl) (by kernel_rfl) (by kernel_rfl) (by exact fun _ _ _ h => h) ⟨by rfl, .inl ?_⟩ hSw ?_
 rotate_left
 ·(intro w hw; go_simp; first | done | with_reducible rfl)
 try simp only [Act.put, zTa, zTz, zTs]
 refine wpS_take hcl (i := 1) (v := ?_) (by simp only [List.getElem?_toArray, List.getElem?_cons_succ, List.getElem?_cons_zero]; rfl) (by kernel_rfl) (by kernel_rfl) (by kernel_rfl) (by exact fun _ _ _ h => h) ⟨by rfl, .inl ?_⟩ hSw ?_
 rotate_left
 ·(intro w hw; have q1 := hw.2; go_simp; first | done | with_reducible rfl)
 try simp only [Act.put, zTa, zTz, zTs]
 refine wpS_take hcl (i := 2) (v := ?_) (by simp only [List.getElem?_toArray, List.getElem?_cons_succ, List.getElem?_cons_zero]; rfl) (by kernel_rfl) (by kernel_rfl) (by kernel_rfl) (by exact fun _ _ _ h => h) ⟨by rfl, .inl ?_⟩ hSw ?_
 rotate_left
 ·(intro w hw; go_simp; first | done | with_reducible rfl)
 try simp only [Act.put, zTa, zTz, zTs]
 refine wpS_take hcl (i := 3) (v := ?_) (by simp only [List.getElem?_toArray, List.getElem?_cons_succ, List.getElem?_cons_zero]; rfl) (by kernel_rfl) (by kernel_rfl) (by kernel_rfl) (by exact fun _ _ _ h => h) ⟨by rfl, .inl ?_⟩ hSw ?_
 rotate_left
 ·(intro w hw; go_simp; first | done | with_reducible rfl)
 try simp only [Act.put, zTa, zTz, zTs]
 refine wpS_take hcl (i := 4) (v := ?_) (by simp only [List.getElem?_toArray, List.getElem?_cons_succ, List.getElem?_cons_zero]; rfl) (by kernel_rfl) (by kernel_rfl) (by kernel_rfl) (by exact fun _ _ _ h => h) ⟨by rfl, .inl ?_⟩ hSw ?_
 rotate_left
 ·(intro w hw; go_simp; first | done | with_reducible rfl)
 try simp only [Act.put, zTa, zTz, zTs]
 refine wpS_take hcl (i := 5) (v := ?_) (by simp only [List.getElem?_toArray, List.getElem?_cons_succ, List.getElem?_cons_zero]; rfl) (by kernel_rfl) (by kernel_rfl) (by kernel_rfl) (by exact fun _ _ _ h => h) ⟨by rfl, .inl ?_⟩ hSw ?_
 rotate_left
 ·(intro w hw; go_simp; first | done | with_reducible rfl)
 try simp only [Act.put, zTa, zTz, zTs]
 refine wpS_take hcl (i := 6) (v := ?_) (by simp only [List.getElem?_toArray, List.getElem?_cons_succ, List.getElem?_cons_zero]; rfl) (by kernel_rfl) (by kernel_rfl) (by kernel_rfl) (by exact fun _ _ _ h => h) ⟨by rfl, .inl ?_⟩ hSw ?_
 rotate_left
 ·(intro w hw; have q1 := (hq _ hw.1).2.1; go_simp; first | done | with_reducible rfl)
 try simp only [Act.put, zTa, zTz, zTs]
 refine wpS_take hcl (i := 7) (v := ?_) (by simp only [List.getElem?_toArray, List.getElem?_cons_succ, List.getElem?_cons_zero]; rfl) (by kernel_rfl) (by kernel_rfl) (by kernel_rfl) (by exact fun _ _ _ h => h) ⟨by rfl, .inl ?_⟩ hSw ?_
 rotate_left
 ·(intro w hw; go_simp; first | done | with_reducible rfl)
 try simp only [Act.put, zTa, zTz, zTs]
 refine wpS_take hcl (i := 8) (v := ?_) (by simp only [List.getElem?_toArray, List.getElem?_cons_succ, List.getElem?_cons_zero]; rfl) (by kernel_rfl) (by kernel_rfl) (by kernel_rfl) (by exact fun _ _ _ h => h) ⟨by rfl, .inl ?_⟩ hSw ?_
 rotate_left
 ·(intro w hw; go_simp; first | done | with_reducible rfl)
 try simp only [Act.put, zTa, zTz, zTs]
 refine wpS_done (by kernel_rfl) (fun W2 hW2 => ?_) _
 replace HO := HO.drew.then hW2
 clear hSw hW2 hcl
 (try simp only [zTz, zTs, zTa, zDs, zDz] at HO); (try have kk := HO.kk)
 go_wp2_with (first | ((with_reducible refine sp_alloc HO ?_); clear HO; (try clear kk); intro g W' hg HO; rw [← hg.out]; clear hg; (try simp only [zTz, zTs, zTa] at HO); (try have kk := HO.kk)) | ((with_reducible refine at_append ?_); refine sp_append HO el_rws 2 0 rfl rfl rfl _ _ rfl rfl rfl rfl (by simp [Value.oneCell']) (by omega) (by omega) (Nat.le_refl _) ?_; clear HO; (try clear kk); intro r0 d0 W' HO; (try simp only [zTz, zTs, zTa] at HO); (try simp only [zTz, zTs, zTa, zDs, zDz] at HO); (try have kk := HO.kk)))
 have q := hq _ HO.below
 rw [rounds_succ]
 go_wp2_with (first | ((first | ((with_reducible first | refine sp_al HO ?_ | refine sp_alc HO ?_); intro g hg; rw [← hg.out]; clear hg) | (with_reducible first | refine sp_sk HO ?_ | refine sp_skc HO ?_) | (refine sp_wk HO rfl 61 _ _ rfl rfl rfl (by kernel_rfl) (by rfl) (by simp [Value.oneCell']) ?_)); clear HO; (try clear kk); intro W' HO; (try simp only [zTz, zTs, zTa] at HO); (try have kk := HO.kk)))
 obtain ⟨gV, rfl⟩ : ∃ q, q = g := ⟨_, rfl⟩
 (try clear kk)
 have hSw : Below w.heap.size w W'.drew ∧ W'.drew.cell? ⟨gV, 1, none⟩ = some (.slice (some ⟨g1, 0, none⟩) 1 1) := ⟨HO.drew.below, HO.drew.cell 0 1 rfl rfl⟩
 refine wp_region_s (S := fun W => Below w.heap.size w W ∧ W.cell? ⟨gV, 1, none⟩ = some (.slice (some ⟨g1, 0, none⟩) 1 1)) (by kernel_rfl) ?_
 have hcl := fun W W2 h k => hcl0 gV g1 W W2 h k
 refine wpS_take hcl (i := 0) (v := ?_) (by simp only [List.getElem?_toArray, List.getElem?_cons_succ, List.getElem?_cons_zero]; rfl) (by kernel_rfl) (by kernel_rfl) (by kernel_rfl) (by exact fun _ _ _ h => h) ⟨by rfl, .inl ?_⟩ hSw ?_
 rotate_left
 ·(intro w hw; go_simp; first | done | with_reducible rfl)
 try simp only [Act.put, zTa, zTz, zTs]
 refine wpS_take hcl (i := 1) (v := ?_) (by simp only [List.getElem?_toArray, List.getElem?_cons_succ, List.getElem?_cons_zero]; rfl) (by kernel_rfl) (by kernel_rfl) (by kernel_rfl) (by exact fun _ _ _ h => h) ⟨by rfl, .inl ?_⟩ hSw ?_
 rotate_left
 ·(intro w hw; have q1 := hw.2; go_simp; first | done | with_reducible rfl)
 try simp only [Act.put, zTa, zTz, zTs]
 refine wpS_take hcl (i := 2) (v := ?_) (by simp only [List.getElem?_toArray, List.getElem?_cons_succ, List.getElem?_cons_zero]; rfl) (by kernel_rfl) (by kernel_rfl) (by kernel_rfl) (by exact fun _ _ _ h => h) ⟨by rfl, .inl ?_⟩ hSw ?_
 rotate_left
 ·(intro w hw; go_simp; first | done | with_reducible rfl)
 try simp only [Act.put, zTa, zTz, zTs]
 refine wpS_take hcl (i := 3) (v := ?_) (by simp only [List.getElem?_toArray, List.getElem?_cons_succ, List.getElem?_cons_zero]; rfl) (by kernel_rfl) (by kernel_rfl) (by kernel_rfl) (by exact fun _ _ _ h => h) ⟨by rfl, .inl ?_⟩ hSw ?_
 rotate_left
 ·(intro w hw; go_simp; first | done | with_reducible rfl)
 try simp only [Act.put, zTa, zTz, zTs]
 refine wpS_take hcl (i := 4) (v := ?_) (by simp only [List.getElem?_toArray, List.getElem?_cons_succ, List.getElem?_cons_zero]; rfl) (by kernel_rfl) (by kernel_rfl) (by kernel_rfl) (by exact fun _ _ _ h => h) ⟨by rfl, .inl ?_⟩ hSw ?_
 rotate_left
 ·(intro w hw; go_simp; first | done | with_reducible rfl)
 try simp only [Act.put, zTa, zTz, zTs]
 refine wpS_take hcl (i := 5) (v := ?_) (by simp only [List.getElem?_toArray, List.getElem?_cons_succ, List.getElem?_cons_zero]; rfl) (by kernel_rfl) (by kernel_rfl) (by kernel_rfl) (by exact fun _ _ _ h => h) ⟨by rfl, .inl ?_⟩ hSw ?_
 rotate_left
 ·(intro w hw; go_simp; first | done | with_reducible rfl)
 try simp only [Act.put, zTa, zTz, zTs]
 refine wpS_take hcl (i := 6) (v := ?_) (by simp only [List.getElem?_toArray, List.getElem?_cons_succ, List.getElem?_cons_zero]; rfl) (by kernel_rfl) (by kernel_rfl) (by kernel_rfl) (by exact fun _ _ _ h => h) ⟨by rfl, .inl ?_⟩ hSw ?_
 rotate_left
 ·(intro w hw; have q1 := (hq _ hw.1).2.1; go_simp; first | done | with_reducible rfl)
 try simp only [Act.put, zTa, zTz, zTs]
 refine wpS_take hcl (i := 7) (v := ?_) (by simp only [List.getElem?_toArray, List.getElem?_cons_succ, List.getElem?_cons_zero]; rfl) (by kernel_rfl) (by kernel_rfl) (by kernel_rfl) (by exact fun _ _ _ h => h) ⟨by rfl, .inl ?_⟩ hSw ?_
 rotate_left
 ·(intro w hw; go_simp; first | done | with_reducible rfl)
 try simp only [Act.put, zTa, zTz, zTs]
 refine wpS_take hcl (i := 8) (v := ?_) (by simp only [List.getElem?_toArray, List.getElem?_cons_succ, List.getElem?_cons_zero]; rfl) (by kernel_rfl) (by kernel_rfl) (by kernel_rfl) (by exact fun _ _ _ h => h) ⟨by rfl, .inl ?_⟩ hSw ?_
 rotate_left
 ·(intro w hw; go_simp; first | done | with_reducible rfl)
 try simp only [Act.put, zTa, zTz, zTs]
 refine wpS_done (by kernel_rfl) (fun W2 hW2 => ?_) _
 replace HO := HO.drew.then hW2
 clear hSw hW2 hcl
 (try simp only [zTz, zTs, zTa, zDs, zDz] at HO); (try have kk := HO.kk)
 go_wp2_with (first | ((with_reducible refine sp_alloc HO ?_); clear HO; (try clear kk); intro g W' hg HO; rw [← hg.out]; clear hg; (try simp only [zTz, zTs, zTa] at HO); (try have kk := HO.kk)) | ((with_reducible refine at_append ?_); refine sp_append HO el_rws 4 0 rfl rfl rfl _ _ rfl rfl rfl rfl (by simp [Value.oneCell']) (by omega) (by omega) (Nat.le_refl _) ?_; clear HO; (try clear kk); intro r1 d1 W' HO; (try simp only [zTz, zTs, zTa] at HO); (try simp only [zTz, zTs, zTa, zDs, zDz] at HO); (try have kk := HO.kk)))
 have q := hq _ HO.below
 rw [rounds_succ]
 have cc := fun W hb e0 e1 => cL r1 d1 W hb e0 e1
 clear cL hcl0 hq
 go_wp2_with (first | (go_at_call 148; (with_reducible refine (cc _ HO.below (HO.rowcell 4 0 rfl rfl) (HO.rowcell 4 1 rfl rfl)).mono ?_); rintro e w1 ⟨⟨gr, cr, rfl, hx1, hx2⟩, hn1⟩; have HX := hid (And.intro hx1 hx2); have HB := hid HO.below; replace HO := HO.then hn1; clear hn1 hx1 hx2; (try clear kk)))
 go_ret
 exact ⟨⟨gr, cr, rfl, Nat.le_trans HB.out.size HX.out.1, HX.out.2⟩, HO.below⟩
end Go.Proofs.YtindnnbopaeklaaGreatDoor
