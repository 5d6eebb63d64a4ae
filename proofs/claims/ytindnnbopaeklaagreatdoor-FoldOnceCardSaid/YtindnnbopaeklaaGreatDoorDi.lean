/- Fold: constants; what finds or makes one. -/
import Derived.Test.YtindnnbopaeklaaGreatDoorDh
import Derived.Test.YtindnnbopaeklaaGreatDoorBd
namespace Go.Proofs.YtindnnbopaeklaaGreatDoor
set_option linter.unusedVariables false
set_option linter.unusedSimpArgs false
set_option maxRecDepth 100000
set_option maxHeartbeats 4000000
open Go.RowKit Go.MapKept
def findV (A O B V : Nat) : Value := .func (.func 60) #[] #[.pointer (some ⟨A, 0, none⟩), .pointer (some ⟨O, 0, none⟩), .pointer (some ⟨B, 0, none⟩), .pointer (some ⟨V, 0, none⟩)]
theorem constants_own (F M : Nat) (w0 : World) (L : List As) (w : World) (H : Own noX w0 L w) :
  Calls Tryz.prog 18 #[.pointer (some ⟨F, 0, none⟩), .pointer (some ⟨M, 0, none⟩)] w fun e w' => ∃ A O B V, e = .returned (findV A O B V) ∧ Own noX w0 (cls V #[findV A O B V] 69 :: cls O #[.slice none 0 0] 99 :: cls B #[.pointer (some ⟨M, 0, none⟩)] 71 :: cls A #[.pointer (some ⟨F, 0, none⟩)] 52 :: L) w' := by
 have HO := H
 clear H
 go_enter Tryz.func18, Tryz.ntmps18
 (try simp only [zTz, zTs, zTa, zDs, zDz] at HO); (try have kk := HO.kk)
 go_wp2_with (first | ((first | ((with_reducible first | refine sp_al HO ?_ | refine sp_alc HO ?_); intro g hg; rw [← hg.out]; clear hg) | (with_reducible first | refine sp_sk HO ?_ | refine sp_skc HO ?_) | (refine sp_wk HO rfl 69 _ _ rfl rfl rfl (by kernel_rfl) (by rfl) (by simp [Value.oneCell']) ?_)); clear HO; (try clear kk); intro W' HO; (try simp only [zTz, zTs, zTa] at HO); (try have kk := HO.kk)))
 go_ret
 exact ⟨_, _, _, _, rfl, HO⟩
theorem ixnil_own (f : Value) (w : World) :
  Calls Tryz.prog 62 #[.slice none 0 0, f] w fun e w' => e = .returned (.int .i64 (-1)) ∧ Below w.heap.size w w' := by
 have HO := Own.nil w
 go_enter Tryz.func62, Tryz.ntmps62
 go_wp2_with (first | (((with_reducible first | refine sp_al HO ?_ | refine sp_alc HO ?_); intro g hg; rw [← hg.out]; clear hg); clear HO; (try clear kk); intro W' HO; (try simp only [zTz, zTs, zTa] at HO); (try have kk := HO.kk)))
 refine wp_loop_rounds 1 ?_
 rw [rounds_succ]
 go_wp2_with fail
 go_ret
 exact ⟨rfl, HO.below⟩
theorem find_own (gen bound F M A O B V P T lo hi l2 h2 gv c ty z x0 x1 y0 y1 km sb sc : Nat) (mv : Value) (tab : Nat → Option TyD) (cv : Nat → Option (Nat × Nat)) (w0 : World) (L : List As) (w : World)
  (H : Own noX w0 (cls V #[findV A O B V] 69 :: cls O #[.slice none 0 0] 99 :: cls B #[.pointer (some ⟨M, 0, none⟩)] 71 :: cls A #[.pointer (some ⟨F, 0, none⟩)] 52 :: cls M #[.slice none 0 0] 26 :: cls F (fCells gen bound mv P T (.slice (some ⟨sb, 0, none⟩) 1 sc) km) 66 :: deep lo hi (fun lo W => PnIn lo P T tab cv [x0, x1] W) :: deep l2 h2 (w1P gv z) :: L) w)
  (f0 : cv x0 = some (ty, y0)) (f1 : cv x1 = some (ty, y1)) (hk : (getD_ tab ty).kind = 3) (hz : z < 4294967296) (hb : bound < 4294967296) (e0 : y0 ≠ z) (e1 : y1 ≠ z) :
  Calls Tryz.prog 60 #[.agg #[.int .u32 ty, .slice (some ⟨gv, 0, none⟩) 1 c], .pointer (some ⟨A, 0, none⟩), .pointer (some ⟨O, 0, none⟩), .pointer (some ⟨B, 0, none⟩), .pointer (some ⟨V, 0, none⟩)] w fun e w' => ∃ gm cm ga, e = .returned (.int .u32 bound) ∧ Own noX w0 (cls ga #[.int .u8 2, .int .u32 z, .string ⟨#[]⟩] 45 :: rw_ w0.heap.size 43 4 (.slice (some ⟨gm, 0, none⟩) 1 cm) 1 [.int .u16 43, .int .u32 ty, .int .u32 bound, .slice (some ⟨ga, 0, none⟩) 1 1] :: cls M #[.slice (some ⟨gm, 0, none⟩) 1 cm] 26 :: cls F (fCells gen bound mv P T (.slice (some ⟨sb, 0, none⟩) 1 sc) km) 66 :: deep lo hi (fun lo W => PnIn lo P T tab cv [x0, x1] W) :: deep l2 h2 (w1P gv z) :: L) w' := by
 have HO := H
 clear H
 unfold fCells at HO ⊢
 have cF : ∀ W, PnIn lo P T tab cv [x0, x1] W → W.cell? ⟨gv, 0, none⟩ = some (.int .u32 z) → Calls Tryz.prog 61 #[.pointer (some ⟨P, 0, none⟩), .int .u32 ty, .slice (some ⟨gv, 0, none⟩) 1 c] W fun e w' => e = .returned (.tuple #[.int .u32 0, .bool false]) ∧ Below W.heap.size W w' := fun W h hg => (cfind_own x0 x1 y0 y1 z ty gv c h f0 f1 hg).mono fun e w' q => ⟨by rw [q.1, if_neg e0, if_neg e1, decide_eq_false e0, decide_eq_false e1]; rfl, q.2⟩
 go_enter Tryz.func60, Tryz.ntmps60
 replace HO := HO.row w0.heap.size 43 4
 replace HO := HO.row w0.heap.size 61 2
 (try simp only [zTz, zTs, zTa, zDs, zDz] at HO); (try have kk := HO.kk)
 go_wp2_with (first | ((first | ((with_reducible first | refine sp_al HO ?_ | refine sp_alc HO ?_); intro g hg; rw [← hg.out]; clear hg) | (with_reducible first | refine sp_sk HO ?_ | refine sp_skc HO ?_) | (refine sp_wk HO rfl 69 _ _ rfl rfl rfl (by kernel_rfl) (by rfl) (by simp [Value.oneCell']) ?_)); clear HO; (try clear kk); intro W' HO; (try simp only [zTz, zTs, zTa] at HO); (try have kk := HO.kk)))
 obtain ⟨gV, rfl⟩ : ∃ q, q = g := ⟨_, rfl⟩
 (try clear kk)
 replace HO := HO.drew
 have hg : ∀ (W : World) (i : Nat) (L : List As), Own noX w0 L W → L[i]? = some (deep l2 h2 (w1P gv z)) → W.cell? ⟨gv, 0, none⟩ = some (.int .u32 z) := fun W i L h h1 => by
  obtain ⟨U, u1, u2, u3⟩ := (h.at i h1 : DeepAt _ _ _ _).at_
  have hb := block_lt_of_cell u2.2
  exact (World.cell?_of_block (a := ⟨gv, 0, none⟩) (u3 gv u2.1 (by rw [← u1]; exact hb))).trans u2.2
 have hcl : ∀ (W W2 : World), (W.cell? ⟨A, 0, none⟩ = some (.pointer (some ⟨F, 0, none⟩)) ∧ W.cell? ⟨F, 3, none⟩ = some (.pointer (some ⟨P, 0, none⟩)) ∧ W.cell? ⟨gV, 0, none⟩ = some (.int .u32 ty) ∧ W.cell? ⟨gV, 1, none⟩ = some (.slice (some ⟨gv, 0, none⟩) 1 c) ∧ W.cell? ⟨gv, 0, none⟩ = some (.int .u32 z) ∧ PnIn lo P T tab cv [x0, x1] W) → Below W.heap.size W W2 → (W2.cell? ⟨A, 0, none⟩ = some (.pointer (some ⟨F, 0, none⟩)) ∧ W2.cell? ⟨F, 3, none⟩ = some (.pointer (some ⟨P, 0, none⟩)) ∧ W2.cell? ⟨gV, 0, none⟩ = some (.int .u32 ty) ∧ W2.cell? ⟨gV, 1, none⟩ = some (.slice (some ⟨gv, 0, none⟩) 1 c) ∧ W2.cell? ⟨gv, 0, none⟩ = some (.int .u32 z) ∧ PnIn lo P T tab cv [x0, x1] W2) := fun _ _ h k => ⟨cell_last h.1 (block_lt_of_cell h.1) k, cell_last h.2.1 (block_lt_of_cell h.2.1) k, cell_last h.2.2.1 (block_lt_of_cell h.2.2.1) k, cell_last h.2.2.2.1 (block_lt_of_cell h.2.2.2.1) k, cell_last h.2.2.2.2.1 (block_lt_of_cell h.2.2.2.2.1) k, h.2.2.2.2.2.below k⟩
 have cF2 := fun W (h : W.cell? ⟨A, 0, none⟩ = some (.pointer (some ⟨F, 0, none⟩)) ∧ W.cell? ⟨F, 3, none⟩ = some (.pointer (some ⟨P, 0, none⟩)) ∧ W.cell? ⟨gV, 0, none⟩ = some (.int .u32 ty) ∧ W.cell? ⟨gV, 1, none⟩ = some (.slice (some ⟨gv, 0, none⟩) 1 c) ∧ W.cell? ⟨gv, 0, none⟩ = some (.int .u32 z) ∧ PnIn lo P T tab cv [x0, x1] W) => cF W h.2.2.2.2.2 h.2.2.2.2.1
 have hSw := And.intro (HO.cell 6 0 rfl rfl) (And.intro (HO.cell 8 3 rfl rfl) (And.intro (HO.cell 0 0 rfl rfl) (And.intro (HO.cell 0 1 rfl rfl) (And.intro (hg _ 10 _ HO rfl) ((HO.at 9 rfl : DeepAt _ _ _ _).out (PnIn.keeps P T tab cv [x0, x1]))))))
 refine wp_region_s (S := fun W => W.cell? ⟨A, 0, none⟩ = some (.pointer (some ⟨F, 0, none⟩)) ∧ W.cell? ⟨F, 3, none⟩ = some (.pointer (some ⟨P, 0, none⟩)) ∧ W.cell? ⟨gV, 0, none⟩ = some (.int .u32 ty) ∧ W.cell? ⟨gV, 1, none⟩ = some (.slice (some ⟨gv, 0, none⟩) 1 c) ∧ W.cell? ⟨gv, 0, none⟩ = some (.int .u32 z) ∧ PnIn lo P T tab cv [x0, x1] W) (by kernel_rfl) ?_
 refine sTk hcl 0 (v := ?_) (hm := ⟨by rfl, .inl ?_⟩) (hSw := hSw) (h := ?_)
 rotate_left
 ·(intro w hw; have q1 := hw.1; go_simp; first | done | with_reducible rfl)
 try simp only [Act.put, zTa, zTz, zTs]
 refine sTp hcl 1 ?_
 refine sTp hcl 2 ?_
 refine sTk hcl 3 (v := ?_) (hm := ⟨by rfl, .inl ?_⟩) (hSw := hSw) (h := ?_)
 rotate_left
 ·(intro w hw; have q1 := hw.2.1; go_simp; first | done | with_reducible rfl)
 try simp only [Act.put, zTa, zTz, zTs]
 refine sTp hcl 4 ?_
 refine sTk hcl 5 (v := ?_) (hm := ⟨by rfl, .inl ?_⟩) (hSw := hSw) (h := ?_)
 rotate_left
 ·(intro w hw; have q1 := hw.2.2.1; go_simp; first | done | with_reducible rfl)
 try simp only [Act.put, zTa, zTz, zTs]
 refine sTp hcl 6 ?_
 refine sTk hcl 7 (v := ?_) (hm := ⟨by rfl, .inl ?_⟩) (hSw := hSw) (h := ?_)
 rotate_left
 ·(intro w hw; have q1 := hw.2.2.2.1; go_simp; first | done | with_reducible rfl)
 try simp only [Act.put, zTa, zTz, zTs]
 refine sTc hcl 8 61 (fun w hw => cF2 w hw) ?_
 refine sTp hcl 9 ?_
 refine sTp hcl 10 ?_
 refine sTp hcl 11 ?_
 refine sTp hcl 12 ?_
 refine sTp hcl 13 ?_
 refine wpS_done (by kernel_rfl) (fun W2 hW2 => ?_) _
 replace HO := HO.then hW2
 clear hW2 hSw hcl cF cF2
 (try simp only [zTz, zTs, zTa, zDs, zDz] at HO); (try have kk := HO.kk)
 go_wp2_with (first | ((first | ((with_reducible first | refine sp_al HO ?_ | refine sp_alc HO ?_); intro g hg; rw [← hg.out]; clear hg) | (with_reducible first | refine sp_sk HO ?_ | refine sp_skc HO ?_)); clear HO; (try clear kk); intro W' HO; (try simp only [zTz, zTs, zTa] at HO); (try have kk := HO.kk)) | (go_at_call 62; with_reducible refine (ixnil_own _ _).mono ?_; rintro e w1 ⟨rfl, hn1⟩; replace HO := HO.then hn1; clear hn1; (try clear kk); (try simp only [zTz, zTs, zTa, zDs, zDz] at HO); (try have kk := HO.kk)) | ((refine sp_wk HO rfl 43 _ _ rfl rfl rfl (by kernel_rfl) (by rfl) (by simp [Value.oneCell']) ?_); clear HO; (try clear kk); intro W' HO; (try simp only [zTz, zTs, zTa] at HO); (try have kk := HO.kk)))
 obtain ⟨gI, rfl⟩ : ∃ q, q = g := ⟨_, rfl⟩
 (try clear kk)
 replace HO := HO.drew
 have hcl : ∀ (W W2 : World), (W.cell? ⟨A, 0, none⟩ = some (.pointer (some ⟨F, 0, none⟩)) ∧ W.cell? ⟨F, 4, none⟩ = some (.pointer (some ⟨T, 0, none⟩)) ∧ W.cell? ⟨gV, 0, none⟩ = some (.int .u32 ty) ∧ PnIn lo P T tab cv [x0, x1] W) → Below W.heap.size W W2 → (W2.cell? ⟨A, 0, none⟩ = some (.pointer (some ⟨F, 0, none⟩)) ∧ W2.cell? ⟨F, 4, none⟩ = some (.pointer (some ⟨T, 0, none⟩)) ∧ W2.cell? ⟨gV, 0, none⟩ = some (.int .u32 ty) ∧ PnIn lo P T tab cv [x0, x1] W2) := fun _ _ h k => ⟨cell_last h.1 (block_lt_of_cell h.1) k, cell_last h.2.1 (block_lt_of_cell h.2.1) k, cell_last h.2.2.1 (block_lt_of_cell h.2.2.1) k, h.2.2.2.below k⟩
 have cK : ∀ W, (W.cell? ⟨A, 0, none⟩ = some (.pointer (some ⟨F, 0, none⟩)) ∧ W.cell? ⟨F, 4, none⟩ = some (.pointer (some ⟨T, 0, none⟩)) ∧ W.cell? ⟨gV, 0, none⟩ = some (.int .u32 ty) ∧ PnIn lo P T tab cv [x0, x1] W) → Calls Tryz.prog 65 #[.pointer (some ⟨T, 0, none⟩), .int .u32 ty] W fun e w' => e = .returned (.int .u8 3) ∧ Below W.heap.size W w' := fun W h => (h.2.2.2.pl.tb.kind ty).mono fun e w' q => ⟨by rw [q.1, hk]; rfl, q.2⟩
 have hSw := And.intro (HO.cell 7 0 rfl rfl) (And.intro (HO.cell 9 4 rfl rfl) (And.intro (HO.cell 1 0 rfl rfl) ((HO.at 10 rfl : DeepAt _ _ _ _).out (PnIn.keeps P T tab cv [x0, x1]))))
 refine wp_region_s (S := fun W => W.cell? ⟨A, 0, none⟩ = some (.pointer (some ⟨F, 0, none⟩)) ∧ W.cell? ⟨F, 4, none⟩ = some (.pointer (some ⟨T, 0, none⟩)) ∧ W.cell? ⟨gV, 0, none⟩ = some (.int .u32 ty) ∧ PnIn lo P T tab cv [x0, x1] W) (by kernel_rfl) ?_
 refine sTk hcl 0 (v := ?_) (hm := ⟨by rfl, .inl ?_⟩) (hSw := hSw) (h := ?_)
 rotate_left
 ·(intro w hw; have q1 := hw.1; go_simp; first | done | with_reducible rfl)
 try simp only [Act.put, zTa, zTz, zTs]
 refine sTp hcl 1 ?_
 refine sTp hcl 2 ?_
 refine sTk hcl 3 (v := ?_) (hm := ⟨by rfl, .inl ?_⟩) (hSw := hSw) (h := ?_)
 rotate_left
 ·(intro w hw; have q1 := hw.2.1; go_simp; first | done | with_reducible rfl)
 try simp only [Act.put, zTa, zTz, zTs]
 refine sTp hcl 4 ?_
 refine sTk hcl 5 (v := ?_) (hm := ⟨by rfl, .inl ?_⟩) (hSw := hSw) (h := ?_)
 rotate_left
 ·(intro w hw; have q1 := hw.2.2.1; go_simp; first | done | with_reducible rfl)
 try simp only [Act.put, zTa, zTz, zTs]
 refine sTc hcl 6 65 (fun w hw => cK w hw) ?_
 refine wpS_done (by kernel_rfl) (fun W2 hW2 => ?_) _
 replace HO := HO.then hW2
 clear hW2 hSw hcl cK
 (try simp only [zTz, zTs, zTa, zDs, zDz] at HO); (try have kk := HO.kk)
 go_wp2_with (first | (((with_reducible first | refine sp_al HO ?_ | refine sp_alc HO ?_); intro g hg; rw [← hg.out]; clear hg); clear HO; (try clear kk); intro W' HO; (try simp only [zTz, zTs, zTa] at HO); (try have kk := HO.kk)) | (((with_reducible first | refine sp_sk HO ?_ | refine sp_skc HO ?_); clear HO; (try clear kk); intro W' HO; (try simp only [zTz, zTs, zTa] at HO); (try have kk := HO.kk)); (try have g0 := hg _ 11 _ HO rfl)))
 obtain ⟨ga, rfl⟩ : ∃ q, q = g := ⟨_, rfl⟩
 (try clear kk)
 (try clear g0)
 replace HO := HO.drew
 have hcl : ∀ (W W2 : World), (W.cell? ⟨A, 0, none⟩ = some (.pointer (some ⟨F, 0, none⟩)) ∧ W.cell? ⟨F, 1, none⟩ = some (.int .u32 bound) ∧ W.cell? ⟨B, 0, none⟩ = some (.pointer (some ⟨M, 0, none⟩)) ∧ W.cell? ⟨M, 0, none⟩ = some (.slice none 0 0)) → Below W.heap.size W W2 → (W2.cell? ⟨A, 0, none⟩ = some (.pointer (some ⟨F, 0, none⟩)) ∧ W2.cell? ⟨F, 1, none⟩ = some (.int .u32 bound) ∧ W2.cell? ⟨B, 0, none⟩ = some (.pointer (some ⟨M, 0, none⟩)) ∧ W2.cell? ⟨M, 0, none⟩ = some (.slice none 0 0)) := fun _ _ h k => ⟨cell_last h.1 (block_lt_of_cell h.1) k, cell_last h.2.1 (block_lt_of_cell h.2.1) k, cell_last h.2.2.1 (block_lt_of_cell h.2.2.1) k, cell_last h.2.2.2 (block_lt_of_cell h.2.2.2) k⟩
 have hSw := And.intro (HO.cell 8 0 rfl rfl) (And.intro (HO.cell 10 1 rfl rfl) (And.intro (HO.cell 7 0 rfl rfl) (HO.cell 9 0 rfl rfl)))
 refine wp_region_s (S := fun W => W.cell? ⟨A, 0, none⟩ = some (.pointer (some ⟨F, 0, none⟩)) ∧ W.cell? ⟨F, 1, none⟩ = some (.int .u32 bound) ∧ W.cell? ⟨B, 0, none⟩ = some (.pointer (some ⟨M, 0, none⟩)) ∧ W.cell? ⟨M, 0, none⟩ = some (.slice none 0 0)) (by kernel_rfl) ?_
 refine sTk hcl 0 (v := ?_) (hm := ⟨by rfl, .inl ?_⟩) (hSw := hSw) (h := ?_)
 rotate_left
 ·(intro w hw; have q1 := hw.1; go_simp; first | done | with_reducible rfl)
 try simp only [Act.put, zTa, zTz, zTs]
 refine sTp hcl 1 ?_
 refine sTp hcl 2 ?_
 refine sTp hcl 3 ?_
 refine sTk hcl 4 (v := ?_) (hm := ⟨by rfl, .inl ?_⟩) (hSw := hSw) (h := ?_)
 rotate_left
 ·(intro w hw; have q1 := hw.2.1; go_simp; first | done | with_reducible rfl)
 try simp only [Act.put, zTa, zTz, zTs]
 refine sTk hcl 5 (v := ?_) (hm := ⟨by rfl, .inl ?_⟩) (hSw := hSw) (h := ?_)
 rotate_left
 ·(intro w hw; have q1 := hw.2.2.1; go_simp; first | done | with_reducible rfl)
 try simp only [Act.put, zTa, zTz, zTs]
 refine sTp hcl 6 ?_
 refine sTk hcl 7 (v := ?_) (hm := ⟨by rfl, .inl ?_⟩) (hSw := hSw) (h := ?_)
 rotate_left
 ·(intro w hw; have q1 := hw.2.2.2; go_simp; first | done | with_reducible rfl)
 try simp only [Act.put, zTa, zTz, zTs]
 refine sTp hcl 8 ?_
 refine sTp hcl 9 ?_
 refine sTp hcl 10 ?_
 refine sTp hcl 11 ?_
 refine wpS_ready (rs := [12]) (by kernel_rfl) (by simp) (fun W3 hW3 => ?_)
 replace HO := HO.then hW3
 clear hW3 hSw
 have k0 := HO.cells 1 rfl
 have m0 := HO.melt 1 rfl
 refine sR1 (fun K hK => ?_)
 go_simp
 have hwr : IntKind.u32.wrap ((bound : Int) + IntKind.u32.wrap 0) = bound := by
  rw [show IntKind.u32.wrap 0 = 0 from rfl, Int.add_zero]
  rw [IntKind.wrap_u32]
  omega
 rw [hwr]
 have H := HO.set 1 2 (.int .u32 bound) rfl
 have hSw := And.intro (H.cell 8 0 rfl rfl) (And.intro (H.cell 10 1 rfl rfl) (And.intro (H.cell 7 0 rfl rfl) (H.cell 9 0 rfl rfl)))
 refine hK.out _ _ hSw ?_
 clear hK K k0 m0 HO hwr
 try simp only [Act.put, zTa, zTz, zTs]
 refine wpS_done (by kernel_rfl) (fun W2 hW2 => ?_) _
 have HO := H.then hW2
 clear H hW2 hSw hcl
 (try simp only [List.set_cons_zero, List.setIfInBounds_toArray, List.set_cons_succ] at HO)
 (try simp only [zTz, zTs, zTa, zDs, zDz] at HO); (try have kk := HO.kk)
 go_wp2_with fail
 (try clear kk)
 replace HO := HO.drew
 have hcl : ∀ (W W2 : World), (W.cell? ⟨B, 0, none⟩ = some (.pointer (some ⟨M, 0, none⟩)) ∧ W.cell? ⟨gI, 0, none⟩ = some (.int .u16 43) ∧ W.cell? ⟨gI, 1, none⟩ = some (.int .u32 ty) ∧ W.cell? ⟨gI, 2, none⟩ = some (.int .u32 bound) ∧ W.cell? ⟨gI, 3, none⟩ = some (.slice (some ⟨ga, 0, none⟩) 1 1)) → Below W.heap.size W W2 → (W2.cell? ⟨B, 0, none⟩ = some (.pointer (some ⟨M, 0, none⟩)) ∧ W2.cell? ⟨gI, 0, none⟩ = some (.int .u16 43) ∧ W2.cell? ⟨gI, 1, none⟩ = some (.int .u32 ty) ∧ W2.cell? ⟨gI, 2, none⟩ = some (.int .u32 bound) ∧ W2.cell? ⟨gI, 3, none⟩ = some (.slice (some ⟨ga, 0, none⟩) 1 1)) := fun _ _ h k => ⟨cell_last h.1 (block_lt_of_cell h.1) k, cell_last h.2.1 (block_lt_of_cell h.2.1) k, cell_last h.2.2.1 (block_lt_of_cell h.2.2.1) k, cell_last h.2.2.2.1 (block_lt_of_cell h.2.2.2.1) k, cell_last h.2.2.2.2 (block_lt_of_cell h.2.2.2.2) k⟩
 have mkS : ∀ (W : World) (i j : Nat) (L : List As), Own noX w0 L W → L[i]? = some (cls gI #[.int .u16 43, .int .u32 ty, .int .u32 bound, .slice (some ⟨ga, 0, none⟩) 1 1] 43) → L[j]? = some (cls B #[.pointer (some ⟨M, 0, none⟩)] 71) → (W.cell? ⟨B, 0, none⟩ = some (.pointer (some ⟨M, 0, none⟩)) ∧ W.cell? ⟨gI, 0, none⟩ = some (.int .u16 43) ∧ W.cell? ⟨gI, 1, none⟩ = some (.int .u32 ty) ∧ W.cell? ⟨gI, 2, none⟩ = some (.int .u32 bound) ∧ W.cell? ⟨gI, 3, none⟩ = some (.slice (some ⟨ga, 0, none⟩) 1 1)) := fun W i j L h h1 h2 => ⟨h.cell j 0 h2 rfl, h.cell i 0 h1 rfl, h.cell i 1 h1 rfl, h.cell i 2 h1 rfl, h.cell i 3 h1 rfl⟩
 have hSw := mkS _ 1 7 _ HO rfl rfl
 refine wp_region_s (S := fun W => W.cell? ⟨B, 0, none⟩ = some (.pointer (some ⟨M, 0, none⟩)) ∧ W.cell? ⟨gI, 0, none⟩ = some (.int .u16 43) ∧ W.cell? ⟨gI, 1, none⟩ = some (.int .u32 ty) ∧ W.cell? ⟨gI, 2, none⟩ = some (.int .u32 bound) ∧ W.cell? ⟨gI, 3, none⟩ = some (.slice (some ⟨ga, 0, none⟩) 1 1)) (by kernel_rfl) ?_
 refine sTk hcl 0 (v := ?_) (hm := ⟨by rfl, .inl ?_⟩) (hSw := hSw) (h := ?_)
 rotate_left
 ·(intro w hw; have q1 := hw.1; go_simp; first | done | with_reducible rfl)
 try simp only [Act.put, zTa, zTz, zTs]
 refine sTk hcl 1 (v := ?_) (hm := ⟨by rfl, .inl ?_⟩) (hSw := hSw) (h := ?_)
 rotate_left
 ·(intro w hw; have q1 := hw.1; go_simp; first | done | with_reducible rfl)
 try simp only [Act.put, zTa, zTz, zTs]
 refine sTp hcl 2 ?_
 refine sTk hcl 4 (v := ?_) (hm := ⟨by rfl, .inl ?_⟩) (hSw := hSw) (h := ?_)
 rotate_left
 ·(intro w hw; obtain ⟨-, q1, q2, q3, q4⟩ := hw; go_simp; first | done | with_reducible rfl)
 try simp only [Act.put, zTa, zTz, zTs]
 refine wpS_ready (rs := [3, 5]) (by kernel_rfl) (by simp) (fun W2 hW2 => ?_)
 replace HO := HO.then hW2
 clear hW2 hSw
 apply merge_F
 case h2 =>
  intro key
  refine AllReadyS.cons (by simp only [zGa, zGs, zGz]; rfl) (fun K hK => ?_) (AllReadyS.cons (by simp only [zGa, zGs, zGz]; rfl) (fun K hK => ?_) AllReadyS.nil)
  ·have k0 := HO.cells 9 rfl
   have m0 := HO.melt 9 rfl
   go_simp
   refine hK.out _ _ (mkS _ 1 7 _ HO rfl rfl) ?_
   clear hK K k0 m0
   try simp only [Act.put, zTa, zTz, zTs]
   refine wpS_ready (rs := [5]) (by kernel_rfl) (by simp) (fun W3 hW3 => ?_)
   have HN := HO.then hW3
   refine sR1 (fun K hK => ?_)
   go_simp
   refine hK.out _ _ (mkS _ 2 8 _ (HN.alloc _) rfl rfl) ?_
   clear hK K
   try simp only [Act.put, zTa, zTz, zTs]
   refine fe_alloc HN ?_
   generalize W3.heap.size = H
   intro W4 HN2
   exact key H W4 HN2
  ·go_simp
   refine hK.out _ _ (mkS _ 2 8 _ (HO.alloc _) rfl rfl) ?_
   clear hK K
   try simp only [Act.put, zTa, zTz, zTs]
   refine fe_alloc HO ?_
   generalize W2.heap.size = H
   intro W3 HN
   refine wpS_ready (rs := [3]) (by kernel_rfl) (by simp) (fun W4 hW4 => ?_)
   replace HN := HN.then hW4
   have k0 := HN.cells 10 rfl
   have m0 := HN.melt 10 rfl
   refine sR1 (fun K hK => ?_)
   go_simp
   refine hK.out _ _ (mkS _ 2 8 _ HN rfl rfl) ?_
   clear hK K k0 m0
   try simp only [Act.put, zTa, zTz, zTs]
   exact key H W4 HN
 clear HO
 intro H W4 HO
 refine wpS_ready (rs := [6]) (by kernel_rfl) (by simp) (fun W5 hW5 => ?_)
 replace HO := HO.then hW5
 clear hW5 W4
 refine sR1 (fun K hK => ?_)
 refine sp_append_step HO el_inst 5 0 rfl rfl rfl _ _ rfl rfl rfl rfl (by simp [Value.oneCell']) (by omega) (by omega) (Nat.le_refl _) ?_
 intro gm cm W6 HP
 simp only [List.set_cons_zero, List.set_cons_succ, List.nil_append] at HP
 refine hK.out _ _ (mkS _ 2 8 _ HP rfl rfl) ?_
 clear hK K HO
 try simp only [Act.put, zTa, zTz, zTs]
 have hSw := mkS _ 2 8 _ HP rfl rfl
 refine sTp hcl 7 ?_
 refine wpS_ready (rs := [8]) (by kernel_rfl) (by simp) (fun W7 hW7 => ?_)
 have HO := HP.then hW7
 clear hW7 HP hSw
 have k0 := HO.cells 10 rfl
 have m0 := HO.melt 10 rfl
 refine sR1 (fun K hK => ?_)
 go_simp
 have H := HO.set 10 0 (.slice (some ⟨gm, 0, none⟩) 1 cm) rfl
 refine hK.out _ _ (mkS _ 2 8 _ H rfl rfl) ?_
 clear hK K k0 m0 HO mkS hcl
 try simp only [Act.put, zTa, zTz, zTs]
 refine wpS_done (by kernel_rfl) (fun W8 hW8 => ?_) _
 have HO := H.then hW8
 clear H hW8
 (try simp only [List.set_cons_zero, List.setIfInBounds_toArray, List.set_cons_succ] at HO)
 (try simp only [zTz, zTs, zTa, zDs, zDz] at HO); (try have kk := HO.kk)
 go_wp2_with (first | ((first | ((with_reducible first | refine sp_al HO ?_ | refine sp_alc HO ?_); intro g hg; rw [← hg.out]; clear hg) | (with_reducible first | refine sp_sk HO ?_ | refine sp_skc HO ?_)); clear HO; (try clear kk); intro W' HO; (try simp only [zTz, zTs, zTa] at HO); (try have kk := HO.kk)) | ((with_reducible refine at_append ?_); refine sp_append HO el_val 5 0 rfl rfl rfl _ _ rfl rfl rfl rfl (by simp [Value.oneCell']) (by omega) (by omega) (Nat.le_refl _) ?_; clear HO; (try clear kk); intro r0 d0 W' HO; (try simp only [zTz, zTs, zTa] at HO); (try simp only [zTz, zTs, zTa, zDs, zDz] at HO); (try have kk := HO.kk)))
 replace HO := HO.pull 10 rfl
 simp only [List.eraseIdx_cons_zero, List.eraseIdx_cons_succ] at HO
 replace HO := HO.pull 10 rfl
 simp only [List.eraseIdx_cons_zero, List.eraseIdx_cons_succ] at HO
 replace HO := HO.pull 10 rfl
 simp only [List.eraseIdx_cons_zero, List.eraseIdx_cons_succ] at HO
 replace HO := HO.pull 10 rfl
 simp only [List.eraseIdx_cons_zero, List.eraseIdx_cons_succ] at HO
 replace HO := HO.pull 9 rfl
 simp only [List.eraseIdx_cons_zero, List.eraseIdx_cons_succ] at HO
 replace HO := HO.pull 9 rfl
 simp only [List.eraseIdx_cons_zero, List.eraseIdx_cons_succ] at HO
 replace HO := HO.pull 9 rfl
 simp only [List.eraseIdx_cons_zero, List.eraseIdx_cons_succ] at HO
 replace HO := HO.pull 8 rfl
 simp only [List.eraseIdx_cons_zero, List.eraseIdx_cons_succ] at HO
 replace HO := HO.pull 8 rfl
 simp only [List.eraseIdx_cons_zero, List.eraseIdx_cons_succ] at HO
 replace HO := HO.pull 14 rfl
 simp only [List.eraseIdx_cons_zero, List.eraseIdx_cons_succ] at HO
 replace HO := HO.pull 14 rfl
 simp only [List.eraseIdx_cons_zero, List.eraseIdx_cons_succ] at HO
 replace HO := HO.pull 14 rfl
 simp only [List.eraseIdx_cons_zero, List.eraseIdx_cons_succ] at HO
 replace HO := HO.pull 14 rfl
 simp only [List.eraseIdx_cons_zero, List.eraseIdx_cons_succ] at HO
 replace HO := HO.pull 14 rfl
 simp only [List.eraseIdx_cons_zero, List.eraseIdx_cons_succ] at HO
 replace HO := HO.pull 14 rfl
 simp only [List.eraseIdx_cons_zero, List.eraseIdx_cons_succ] at HO
 go_ret
 exact ⟨gm, cm, ga, rfl, HO.sub (.cons_cons _ (.cons_cons _ (.cons_cons _ (.cons_cons _ (.cons_cons _ (.cons_cons _ (.cons _ (.cons _ (.cons _ (.cons _ (.cons _ (.cons _ (.cons _ (.cons _ (.cons _ (List.Sublist.refl _))))))))))))))))⟩
end Go.Proofs.YtindnnbopaeklaaGreatDoor
