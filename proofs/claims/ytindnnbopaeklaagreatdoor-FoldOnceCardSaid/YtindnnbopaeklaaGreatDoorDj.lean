/- Fold: what finds a constant that is there. -/
import Derived.Test.YtindnnbopaeklaaGreatDoorDi
import Derived.Test.YtindnnbopaeklaaGreatDoorBd
namespace Go.Proofs.YtindnnbopaeklaaGreatDoor
set_option linter.unusedVariables false
set_option linter.unusedSimpArgs false
set_option maxRecDepth 100000
set_option maxHeartbeats 4000000
open Go.RowKit Go.MapKept
theorem findhit_own (gen bound F M A O B V P T lo hi l2 h2 gv c ty z x0 x1 y0 y1 km sb sc : Nat) (mv : Value) (tab : Nat → Option TyD) (cv : Nat → Option (Nat × Nat)) (w0 : World) (L : List As) (w : World)
  (H : Own noX w0 (cls V #[findV A O B V] 69 :: cls O #[.slice none 0 0] 99 :: cls B #[.pointer (some ⟨M, 0, none⟩)] 71 :: cls A #[.pointer (some ⟨F, 0, none⟩)] 52 :: cls M #[.slice none 0 0] 26 :: cls F (fCells gen bound mv P T (.slice (some ⟨sb, 0, none⟩) 1 sc) km) 66 :: deep lo hi (fun lo W => PnIn lo P T tab cv [x0, x1] W) :: deep l2 h2 (w1P gv z) :: L) w)
  (f0 : cv x0 = some (ty, y0)) (f1 : cv x1 = some (ty, y1)) (hh : y0 = z ∨ y1 = z) :
  Calls Tryz.prog 60 #[.agg #[.int .u32 ty, .slice (some ⟨gv, 0, none⟩) 1 c], .pointer (some ⟨A, 0, none⟩), .pointer (some ⟨O, 0, none⟩), .pointer (some ⟨B, 0, none⟩), .pointer (some ⟨V, 0, none⟩)] w fun e w' => e = .returned (.int .u32 (if y0 = z then x0 else x1 : Nat)) ∧ Own noX w0 (cls V #[findV A O B V] 69 :: cls O #[.slice none 0 0] 99 :: cls B #[.pointer (some ⟨M, 0, none⟩)] 71 :: cls A #[.pointer (some ⟨F, 0, none⟩)] 52 :: cls M #[.slice none 0 0] 26 :: cls F (fCells gen bound mv P T (.slice (some ⟨sb, 0, none⟩) 1 sc) km) 66 :: deep lo hi (fun lo W => PnIn lo P T tab cv [x0, x1] W) :: deep l2 h2 (w1P gv z) :: L) w' := by
 have HO := H
 clear H
 unfold fCells at HO ⊢
 have cF : ∀ W, PnIn lo P T tab cv [x0, x1] W → W.cell? ⟨gv, 0, none⟩ = some (.int .u32 z) → Calls Tryz.prog 61 #[.pointer (some ⟨P, 0, none⟩), .int .u32 ty, .slice (some ⟨gv, 0, none⟩) 1 c] W fun e w' => e = .returned (.tuple #[.int .u32 (if y0 = z then x0 else x1 : Nat), .bool true]) ∧ Below W.heap.size W w' := fun W h hg => (cfind_own x0 x1 y0 y1 z ty gv c h f0 f1 hg).mono fun e w' q => ⟨by
  rw [q.1]
  by_cases e : y0 = z
  ·rw [if_pos e, if_pos e, decide_eq_true e]; rfl
  ·rw [if_neg e, if_neg e, if_pos (hh.resolve_left e), decide_eq_true (hh.resolve_left e), Bool.or_true], q.2⟩
 generalize (if y0 = z then x0 else x1) = r at cF ⊢
 go_enter Tryz.func60, Tryz.ntmps60
 replace HO := HO.row w0.heap.size 43 4
 replace HO := HO.row w0.heap.size 61 2
 (try simp only [zTz, zTs, zTa, zDs, zDz] at HO); (try have kk := HO.kk)
 go_wp2_with (first | ((first | ((with_reducible first | refine sp_al HO ?_ | refine sp_alc HO ?_); intro g hg; rw [← hg.out]; clear hg) | (with_reducible first | refine sp_sk HO ?_ | refine sp_skc HO ?_) | (refine sp_wk HO rfl 69 _ _ rfl rfl rfl (by kernel_rfl) (by rfl) (by simp [Value.oneCell']) ?_)); clear HO; (try clear kk); intro W' HO; (try simp only [zTz, zTs, zTa] at HO); (try have kk := HO.kk)))
 obtain ⟨gV, rfl⟩ : ∃ q, q = g := ⟨_, rfl⟩
 (try clear kk)
 replace HO := HO.drew
 have hg : ∀ (W : World) (i : Nat) (L : List As), Own noX w0 L W → L[i]? = some (deep l2 h2 (w1P gv z)) → W.cell? ⟨gv, 0, none⟩ = some (.int .u32 z) := fun W i L h h1 => by
  obtain ⟨U, u1, u2, u3⟩ := (h.at i h1 : DeepAt _ _ _ _).at_
  have hb := block_lt_of_cell u2.2
  exact (World.cell?_of_block (a := ⟨gv, 0, none⟩) (u3 gv u2.1 (by rw [← u1]; exact hb))).trans u2.2
 have hcl : ∀ (W W2 : World), (W.cell? ⟨A, 0, none⟩ = some (.pointer (some ⟨F, 0, none⟩)) ∧ W.cell? ⟨F, 3, none⟩ = some (.pointer (some ⟨P, 0, none⟩)) ∧ W.cell? ⟨gV, 0, none⟩ = some (.int .u32 ty) ∧ W.cell? ⟨gV, 1, none⟩ = some (.slice (some ⟨gv, 0, none⟩) 1 c) ∧ W.cell? ⟨gv, 0, none⟩ = some (.int .u32 z) ∧ PnIn lo P T tab cv [x0, x1] W) → Below W.heap.size W W2 → (W2.cell? ⟨A, 0, none⟩ = some (.pointer (some ⟨F, 0, none⟩)) ∧ W2.cell? ⟨F, 3, none⟩ = some (.pointer (some ⟨P, 0, none⟩)) ∧ W2.cell? ⟨gV, 0, none⟩ = some (.int .u32 ty) ∧ W2.cell? ⟨gV, 1, none⟩ = some (.slice (some ⟨gv, 0, none⟩) 1 c) ∧ W2.cell? ⟨gv, 0, none⟩ = some (.int .u32 z) ∧ PnIn lo P T tab cv [x0, x1] W2) := fun _ _ h k => ⟨cell_last h.1 (block_lt_of_cell h.1) k, cell_last h.2.1 (block_lt_of_cell h.2.1) k, cell_last h.2.2.1 (block_lt_of_cell h.2.2.1) k, cell_last h.2.2.2.1 (block_lt_of_cell h.2.2.2.1) k, cell_last h.2.2.2.2.1 (block_lt_of_cell h.2.2.2.2.1) k, h.2.2.2.2.2.below k⟩
 have cF2 := fun W (h : W.cell? ⟨A, 0, none⟩ = some (.pointer (some ⟨F, 0, none⟩)) ∧ W.cell? ⟨F, 3, none⟩ = some (.pointer (some ⟨P, 0, none⟩)) ∧ W.cell? ⟨gV, 0, none⟩ = some (.int .u32 ty) ∧ W.cell? ⟨gV, 1, none⟩ = some (.slice (some ⟨gv, 0, none⟩) 1 c) ∧ W.cell? ⟨gv, 0, none⟩ = some (.int .u32 z) ∧ PnIn lo P T tab cv [x0, x1] W) => cF W h.2.2.2.2.2 h.2.2.2.2.1
 have hSw := And.intro (HO.cell 6 0 rfl rfl) (And.intro (HO.cell 8 3 rfl rfl) (And.intro (HO.cell 0 0 rfl rfl) (And.intro (HO.cell 0 1 rfl rfl) (And.intro (hg _ 10 _ HO rfl) ((HO.at 9 rfl : DeepAt _ _ _ _).out (PnIn.keeps P T tab cv [x0, x1]))))))
 refine wp_region_s (S := fun W => W.cell? ⟨A, 0, none⟩ = some (.pointer (some ⟨F, 0, none⟩)) ∧ W.cell? ⟨F, 3, none⟩ = some (.pointer (some ⟨P, 0, none⟩)) ∧ W.cell? ⟨gV, 0, none⟩ = some (.int .u32 ty) ∧ W.cell? ⟨gV, 1, none⟩ = some (.slice (some ⟨gv, 0, none⟩) 1 c) ∧ W.cell? ⟨gv, 0, none⟩ = some (.int .u32 z) ∧ PnIn lo P T tab cv [x0, x1] W) (by kernel_rfl) ?_
 refine wpS_take hcl (i := 0) (v := ?_) (by simp only [List.getElem?_toArray, List.getElem?_cons_succ, List.getElem?_cons_zero]; rfl) (by kernel_rfl) (by kernel_rfl) (by kernel_rfl) (by exact fun _ _ _ h => h) ⟨by rfl, .inl ?_⟩ hSw ?_
 rotate_left
 ·(intro w hw; have q1 := hw.1; go_simp; first | done | with_reducible rfl)
 try simp only [Act.put, zTa, zTz, zTs]
 refine wpS_take hcl (i := 1) (v := ?_) (by simp only [List.getElem?_toArray, List.getElem?_cons_succ, List.getElem?_cons_zero]; rfl) (by kernel_rfl) (by kernel_rfl) (by kernel_rfl) (by exact fun _ _ _ h => h) ⟨by rfl, .inl ?_⟩ hSw ?_
 rotate_left
 ·(intro w hw; go_simp; first | done | with_reducible rfl)
 try simp only [Act.put, zTa, zTz, zTs]
 refine wpS_take hcl (i := 2) (v := ?_) (by simp only [List.getElem?_toArray, List.getElem?_cons_succ, List.getElem?_cons_zero]; rfl) (by kernel_rfl) (by kernel_rfl) (by kernel_rfl) (by exact fun _ _ _ h => h) ⟨by rfl, .inl ?_⟩ hSw ?_
 rotate_left
 ·(intro w hw; go_simp; first | done | with_reducible rfl)
 try simp only [Act.put, zTa, zTz, zTs]
 refine wpS_take hcl (i := 3) (v := ?_) (by simp only [List.getElem?_toArray, List.getElem?_cons_succ, List.getElem?_cons_zero]; rfl) (by kernel_rfl) (by kernel_rfl) (by kernel_rfl) (by exact fun _ _ _ h => h) ⟨by rfl, .inl ?_⟩ hSw ?_
 rotate_left
 ·(intro w hw; have q1 := hw.2.1; go_simp; first | done | with_reducible rfl)
 try simp only [Act.put, zTa, zTz, zTs]
 refine wpS_take hcl (i := 4) (v := ?_) (by simp only [List.getElem?_toArray, List.getElem?_cons_succ, List.getElem?_cons_zero]; rfl) (by kernel_rfl) (by kernel_rfl) (by kernel_rfl) (by exact fun _ _ _ h => h) ⟨by rfl, .inl ?_⟩ hSw ?_
 rotate_left
 ·(intro w hw; go_simp; first | done | with_reducible rfl)
 try simp only [Act.put, zTa, zTz, zTs]
 refine wpS_take hcl (i := 5) (v := ?_) (by simp only [List.getElem?_toArray, List.getElem?_cons_succ, List.getElem?_cons_zero]; rfl) (by kernel_rfl) (by kernel_rfl) (by kernel_rfl) (by exact fun _ _ _ h => h) ⟨by rfl, .inl ?_⟩ hSw ?_
 rotate_left
 ·(intro w hw; have q1 := hw.2.2.1; go_simp; first | done | with_reducible rfl)
 try simp only [Act.put, zTa, zTz, zTs]
 refine wpS_take hcl (i := 6) (v := ?_) (by simp only [List.getElem?_toArray, List.getElem?_cons_succ, List.getElem?_cons_zero]; rfl) (by kernel_rfl) (by kernel_rfl) (by kernel_rfl) (by exact fun _ _ _ h => h) ⟨by rfl, .inl ?_⟩ hSw ?_
 rotate_left
 ·(intro w hw; go_simp; first | done | with_reducible rfl)
 try simp only [Act.put, zTa, zTz, zTs]
 refine wpS_take hcl (i := 7) (v := ?_) (by simp only [List.getElem?_toArray, List.getElem?_cons_succ, List.getElem?_cons_zero]; rfl) (by kernel_rfl) (by kernel_rfl) (by kernel_rfl) (by exact fun _ _ _ h => h) ⟨by rfl, .inl ?_⟩ hSw ?_
 rotate_left
 ·(intro w hw; have q1 := hw.2.2.2.1; go_simp; first | done | with_reducible rfl)
 try simp only [Act.put, zTa, zTz, zTs]
 refine wpS_take hcl (i := 8) (v := _) (by simp only [List.getElem?_toArray, List.getElem?_cons_succ, List.getElem?_cons_zero]; rfl) (by kernel_rfl) (by kernel_rfl) (by kernel_rfl) (by exact fun _ _ _ h => h) ⟨by rfl, .inr ⟨61, _, ?_, fun w hw => cF2 w hw⟩⟩ hSw ?_
 ·(intro w hw; go_simp; (try exact u32_in _ (by omega)))
 try simp only [Act.put, zTa, zTz, zTs]
 refine wpS_take hcl (i := 9) (v := ?_) (by simp only [List.getElem?_toArray, List.getElem?_cons_succ, List.getElem?_cons_zero]; rfl) (by kernel_rfl) (by kernel_rfl) (by kernel_rfl) (by exact fun _ _ _ h => h) ⟨by rfl, .inl ?_⟩ hSw ?_
 rotate_left
 ·(intro w hw; go_simp; first | done | with_reducible rfl)
 try simp only [Act.put, zTa, zTz, zTs]
 refine wpS_take hcl (i := 10) (v := ?_) (by simp only [List.getElem?_toArray, List.getElem?_cons_succ, List.getElem?_cons_zero]; rfl) (by kernel_rfl) (by kernel_rfl) (by kernel_rfl) (by exact fun _ _ _ h => h) ⟨by rfl, .inl ?_⟩ hSw ?_
 rotate_left
 ·(intro w hw; go_simp; first | done | with_reducible rfl)
 try simp only [Act.put, zTa, zTz, zTs]
 refine wpS_take hcl (i := 11) (v := ?_) (by simp only [List.getElem?_toArray, List.getElem?_cons_succ, List.getElem?_cons_zero]; rfl) (by kernel_rfl) (by kernel_rfl) (by kernel_rfl) (by exact fun _ _ _ h => h) ⟨by rfl, .inl ?_⟩ hSw ?_
 rotate_left
 ·(intro w hw; go_simp; first | done | with_reducible rfl)
 try simp only [Act.put, zTa, zTz, zTs]
 refine wpS_take hcl (i := 12) (v := ?_) (by simp only [List.getElem?_toArray, List.getElem?_cons_succ, List.getElem?_cons_zero]; rfl) (by kernel_rfl) (by kernel_rfl) (by kernel_rfl) (by exact fun _ _ _ h => h) ⟨by rfl, .inl ?_⟩ hSw ?_
 rotate_left
 ·(intro w hw; go_simp; first | done | with_reducible rfl)
 try simp only [Act.put, zTa, zTz, zTs]
 refine wpS_take hcl (i := 13) (v := ?_) (by simp only [List.getElem?_toArray, List.getElem?_cons_succ, List.getElem?_cons_zero]; rfl) (by kernel_rfl) (by kernel_rfl) (by kernel_rfl) (by exact fun _ _ _ h => h) ⟨by rfl, .inl ?_⟩ hSw ?_
 rotate_left
 ·(intro w hw; go_simp; first | done | with_reducible rfl)
 try simp only [Act.put, zTa, zTz, zTs]
 refine wpS_done (by kernel_rfl) (fun W2 hW2 => ?_) _
 replace HO := HO.then hW2
 clear hW2 hSw hcl cF cF2
 (try simp only [zTz, zTs, zTa, zDs, zDz] at HO); (try have kk := HO.kk)
 go_wp2_with fail
 go_ret
 exact ⟨rfl, HO.sub (.cons _ (.cons _ (.cons _ (List.Sublist.refl _))))⟩
theorem fnamed_own (F op : Nat) (a b c : Value) (h5 : op ≠ 5) (h6 : op ≠ 6) (h71 : op ≠ 71) (w : World) :
  Calls Tryz.prog 20 #[.pointer (some ⟨F, 0, none⟩), .agg #[.int .u16 op, a, b, c]] w fun e w' => e = .returned (.bool false) ∧ Below w.heap.size w w' := by
 have HO := Own.nil w
 have i5 : ((op : Int) != 5) = true := by rw [bne_iff_ne]; omega
 have i6 : ((op : Int) != 6) = true := by rw [bne_iff_ne]; omega
 have i71 : ((op : Int) != 71) = true := by rw [bne_iff_ne]; omega
 go_enter Tryz.func20, Tryz.ntmps20
 go_wp2_with (first | ((with_reducible refine sp_alloc HO ?_); clear HO; (try clear kk); intro g W' hg HO; rw [← hg.out]; clear hg; (try simp only [zTz, zTs, zTa] at HO); (try have kk := HO.kk)))
 go_ret
 exact ⟨rfl, HO.below⟩
theorem argsA_mono {D : Nat → Prop} {p q : List Pr} {W : World} (h : (argsA D q).holds W) (hs : ∀ x ∈ p, x ∈ q) : (argsA D p).holds W := fun x hx h0 => h x (hs x hx) h0
def madeL (there : Bool) (ty r z : Nat) : List In := if there then [] else [⟨43, ty, r, [⟨2, z, ⟨#[]⟩⟩]⟩]
theorem findx_own (there : Bool) (r gen bound F M A O B V P T lo hi l2 h2 gv c ty z x0 x1 y0 y1 km sb sc : Nat) (mv : Value) (tab : Nat → Option TyD) (cv : Nat → Option (Nat × Nat)) (w0 : World) (L : List As) (w : World)
  (H : Own noX w0 (cls V #[findV A O B V] 69 :: cls O #[.slice none 0 0] 99 :: cls B #[.pointer (some ⟨M, 0, none⟩)] 71 :: cls A #[.pointer (some ⟨F, 0, none⟩)] 52 :: cls M #[.slice none 0 0] 26 :: cls F (fCells gen bound mv P T (.slice (some ⟨sb, 0, none⟩) 1 sc) km) 66 :: deep lo hi (fun lo W => PnIn lo P T tab cv [x0, x1] W) :: deep l2 h2 (w1P gv z) :: L) w)
  (f0 : cv x0 = some (ty, y0)) (f1 : cv x1 = some (ty, y1)) (hk : (getD_ tab ty).kind = 3) (hz : z < 4294967296) (hb : bound < 4294967296) (ht : there = true → (y0 = z ∨ y1 = z) ∧ r = if y0 = z then x0 else x1) (hf : there = false → y0 ≠ z ∧ y1 ≠ z ∧ r = bound) :
  Calls Tryz.prog 60 #[.agg #[.int .u32 ty, .slice (some ⟨gv, 0, none⟩) 1 c], .pointer (some ⟨A, 0, none⟩), .pointer (some ⟨O, 0, none⟩), .pointer (some ⟨B, 0, none⟩), .pointer (some ⟨V, 0, none⟩)] w fun e w' => e = .returned (.int .u32 r) ∧ ∃ am cm p D, p.map Prod.fst = madeL there ty r z ∧ (there = true → am = none ∧ cm = 0) ∧ Own noX w0 (rw_ w0.heap.size 43 4 (.slice am (madeL there ty r z).length cm) (madeL there ty r z).length (flatI p) :: argsA D p :: cls M #[.slice am (madeL there ty r z).length cm] 26 :: cls F (fCells gen bound mv P T (.slice (some ⟨sb, 0, none⟩) 1 sc) km) 66 :: deep lo hi (fun lo W => PnIn lo P T tab cv [x0, x1] W) :: deep l2 h2 (w1P gv z) :: L) w' := by
 cases there with
 | true =>
  obtain ⟨h1, h2'⟩ := ht rfl
  refine (findhit_own gen bound F M A O B V P T lo hi l2 h2 gv c ty z x0 x1 y0 y1 km sb sc mv tab cv w0 L w H f0 f1 h1).mono ?_
  rintro e w' ⟨rfl, HO⟩
  refine ⟨by rw [h2'], none, 0, [], fun _ => False, rfl, fun _ => ⟨rfl, rfl⟩, ?_⟩
  have H1 := HO.sub (L' := _) (.cons _ (.cons _ (.cons _ (.cons _ (List.Sublist.refl _)))))
  exact (H1.free (A := argsA (fun _ => False) []) (fun k hk => hk) (fun x h => by cases h)).row w0.heap.size 43 4
 | false =>
  obtain ⟨h1, h2', rfl⟩ := hf rfl
  refine (find_own gen r F M A O B V P T lo hi l2 h2 gv c ty z x0 x1 y0 y1 km sb sc mv tab cv w0 L w H f0 f1 hk hz hb h1 h2').mono ?_
  rintro e w' ⟨gm, cm, ga, rfl, HO⟩
  refine ⟨rfl, some ⟨gm, 0, none⟩, cm, [(⟨43, ty, r, [⟨2, z, ⟨#[]⟩⟩]⟩, some ⟨ga, 0, none⟩, 1)], fun k => k = ga, rfl, (fun h => Bool.noConfusion h), ?_⟩
  have H1 := HO.recast 0 (A' := argsA (fun k => k = ga) [(⟨43, ty, r, [⟨2, z, ⟨#[]⟩⟩]⟩, some ⟨ga, 0, none⟩, 1)]) rfl (fun k hk => hk) (fun x hx h0 => by
   rw [List.mem_singleton.1 hx]
   refine ⟨ga, rfl, rfl, fun j v hv => ?_⟩
   rw [HO.cells 0 rfl j, ← Array.getElem?_toList]
   exact hv)
  exact H1.perm (.swap _ _ _)
end Go.Proofs.YtindnnbopaeklaaGreatDoor
