/- Fold: read. -/
import Derived.Test.YtindnnbopaeklaaGreatDoorDg
import Derived.Test.YtindnnbopaeklaaGreatDoorAz
import Derived.Test.YtindnnbopaeklaaGreatDoorAu
namespace Go.Proofs.YtindnnbopaeklaaGreatDoor
set_option linter.unusedVariables false
set_option linter.unusedSimpArgs false
set_option maxRecDepth 100000
set_option maxHeartbeats 4000000
open Go.RowKit Go.MapKept
theorem el_span : El 64 75 2 16 := El.of Tryz.underlying64 (z := .agg #[.int .i64 0, .int .i64 0]) (by kernel_rfl) rfl (by omega)
def FdEnd (gen bound : Nat) (mv : Value) (ty : Nat) (tab : Nat → Option TyD) (cv : Nat → Option (Nat × Nat)) (ids : List Nat) (y : Int) (w : World) (r : Ending) (w' : World) : Prop :=
 ∃ F P T sb sc km lo hi l2 h2 g c, r = .returned (.tuple #[.pointer (some ⟨F, 0, none⟩), .agg #[.int .i64 0, .int .i64 0]]) ∧ Own noX w [mpA (.int .u32) keyU encKv km (kup (fun _ => none) 7 ⟨ty, g, c⟩), cls F (fCells gen bound mv P T (.slice (some ⟨sb, 0, none⟩) 1 sc) km) 66, rw_ w.heap.size 75 2 (.slice (some ⟨sb, 0, none⟩) 1 sc) 1 [.int .i64 6, .int .i64 9], deep lo hi (fun lo W => PnIn lo P T tab cv ids W), deep l2 h2 (w1P g y)] w'
theorem fe_alloc {P : Program} {ops : Array Oper} {Q : Exit → Act → World → Prop} {S : World → Prop} {md : Region.Mode} {fuel : Nat} {listed : Array Bool} {a : Act} {X : Nat → Prop} {w W : World} {L : List As} {o : Obj} (h : Own X w L W) (k : ∀ W', Own X w (blk W.heap.size o :: L) W' → wpS P md ops Q S fuel listed a W') : wpS P md ops Q S fuel listed a (W.alloc o) := k _ (h.alloc o)
theorem merge_F {F : Nat → World → Prop} {w : World} {LH : Nat → List As} {g : Prop} (h2 : (∀ H W, Own noX w (LH H) W → F H W) → g) (h1 : ∀ H W, Own noX w (LH H) W → F H W) : g := h2 h1
theorem fread_own (gen bound b o n cap id lab op ty ab ao cm x0 x1 t0 t1 y0 y1 : Nat) (tab : Nat → Option TyD) (cv : Nat → Option (Nat × Nat)) (ids : List Nat) (a6 a8 : Option Addr) (k6 d6 k8 d8 : Nat) (w : World)
  (hn : 9 ≤ n) (hcap : n ≤ cap) (h2 : isTwo op = true) (i6 : InC w b (o + 24) 248 0 6 (.slice a6 k6 d6)) (i7 : InC w b (o + 28) op ty 7 (.slice (some ⟨ab, ao, none⟩) 2 cm)) (i8 : InC w b (o + 32) 254 0 0 (.slice a8 k8 d8)) (hT : Two ab ao x0 x1 w) (f0 : cv x0 = some (t0, y0)) (f1 : cv x1 = some (t1, y1)) (hy0 : y0 < 4294967296) (hy1 : y1 < 4294967296)
  (cW : ∀ W, Below w.heap.size w W → Calls Tryz.prog 52 #[.agg #[.int .u32 gen, .int .u32 bound, .slice (some ⟨b, o, none⟩) n cap]] W fun e w' => (∃ s, e = .returned (.tuple #[.string s, .agg #[.int .i64 0, .int .i64 0]])) ∧ Below W.heap.size W w')
  (cN : ∀ W, Below w.heap.size w W → Calls Tryz.prog 53 #[.agg #[.int .u32 gen, .int .u32 bound, .slice (some ⟨b, o, none⟩) n cap]] W fun r w' => (∃ P T, r = .returned (.tuple #[.pointer (some ⟨P, 0, none⟩), .agg #[.int .i64 0, .int .i64 0]]) ∧ PnIn W.heap.size P T tab cv ids w') ∧ Below W.heap.size W w')
  (cC : ∀ W, Below w.heap.size w W → Calls Tryz.prog 54 #[.agg #[.int .u32 gen, .int .u32 bound, .slice (some ⟨b, o, none⟩) n cap]] W fun r w' => (∃ g c, r = .returned (.tuple #[.slice (some ⟨g, 0, none⟩) 1 c, .agg #[.int .i64 0, .int .i64 0]]) ∧ ∃ b2 c2, FnQ g b2 c2 id lab 5 6 9 W.heap.size w') ∧ Below W.heap.size W w') :
  Calls Tryz.prog 14 #[.agg #[.int .u32 gen, .int .u32 bound, .slice (some ⟨b, o, none⟩) n cap]] w fun r w' => FdEnd gen bound (.slice (some ⟨b, o, none⟩) n cap) ty tab cv ids (bin2 op y0 y1) w r w' := by
 have HI := hid (And.intro i6 (And.intro i7 (And.intro i8 hT)))
 have HF := hid (And.intro f0 (And.intro f1 (And.intro hy0 hy1)))
 clear i6 i7 i8 hT f0 f1
 have HO := Own.nil w
 have hmm := @run_makeMap Tryz.prog
 go_enter Tryz.func14, Tryz.ntmps14
 go_wp2_with (first | ((first | (with_reducible refine sp_al HO ?_; intro g hg; rw [← hg.out]; clear hg) | (with_reducible first | refine sp_sk HO ?_ | refine sp_skc HO ?_) | (refine sp_wk HO rfl 36 _ _ rfl rfl rfl (by kernel_rfl) (by rfl) (by simp [Value.oneCell']) ?_)); clear HO; (try clear kk); intro W' HO; (try simp only [zTz, zTs, zTa] at HO); (try have kk := HO.kk)) | (go_at_call 52; (with_reducible refine (cW _ HO.below).mono ?_); rintro e w1 ⟨⟨s, rfl⟩, hn1⟩; replace HO := HO.then hn1; clear hn1; (try clear kk); (try simp only [zTz, zTs, zTa, zDs, zDz] at HO); (try have kk := HO.kk)) | (go_at_call 53; (with_reducible refine (cN _ HO.below).mono ?_); rintro e w1 ⟨⟨gP, gT, rfl, hq⟩, hn1⟩; replace HO := HO.deep (P := fun lo W => PnIn lo gP gT tab cv ids W) hn1 hq; clear hn1 hq; (try clear kk); (try simp only [zTz, zTs, zTa, zDs, zDz] at HO); (try have kk := HO.kk)) | (go_at_call 54; (with_reducible refine (cC _ HO.below).mono ?_); rintro e w1 ⟨⟨gf, gc, rfl, b2, c2, q⟩, hn1⟩; replace HO := HO.deep hn1 q; clear hn1 q; (try clear kk); (try simp only [zTz, zTs, zTa, zDs, zDz] at HO); (try have kk := HO.kk)))
 (try clear kk)
 clear cW cN cC
 rename_i gM V0 gSp3 V1 V2 gSp5 V3 V4 V5 gSp7 V6 V7 V8 K1 a1
 obtain ⟨gSp, rfl⟩ : ∃ q, q = g := ⟨_, rfl⟩
 obtain ⟨lo, hlo⟩ : ∃ lo, Hid (lo = V4.heap.size) := ⟨_, hid rfl⟩
 rw [← hlo.out] at HO
 clear hlo
 have cT : ∀ W, (W.cell? ⟨gP, 0, none⟩ = some (.pointer (some ⟨gT, 0, none⟩)) ∧ W.cell? ⟨gM, 0, none⟩ = some (.int .u32 gen) ∧ W.cell? ⟨gM, 1, none⟩ = some (.int .u32 bound) ∧ W.cell? ⟨gM, 2, none⟩ = some (.slice (some ⟨b, o, none⟩) n cap)) → Calls Tryz.prog 55 #[.pointer (some ⟨gP, 0, none⟩)] W fun e w' => e = .returned (.pointer (some ⟨gT, 0, none⟩)) ∧ Below W.heap.size W w' := fun W h => (ctypes_own gP gT W h.1).mono fun e w' q => ⟨q.1, q.2 ▸ (Own.nil W).below⟩
 have hcl : ∀ (W W2 : World), (W.cell? ⟨gP, 0, none⟩ = some (.pointer (some ⟨gT, 0, none⟩)) ∧ W.cell? ⟨gM, 0, none⟩ = some (.int .u32 gen) ∧ W.cell? ⟨gM, 1, none⟩ = some (.int .u32 bound) ∧ W.cell? ⟨gM, 2, none⟩ = some (.slice (some ⟨b, o, none⟩) n cap)) → Below W.heap.size W W2 → (W2.cell? ⟨gP, 0, none⟩ = some (.pointer (some ⟨gT, 0, none⟩)) ∧ W2.cell? ⟨gM, 0, none⟩ = some (.int .u32 gen) ∧ W2.cell? ⟨gM, 1, none⟩ = some (.int .u32 bound) ∧ W2.cell? ⟨gM, 2, none⟩ = some (.slice (some ⟨b, o, none⟩) n cap)) := fun _ _ h k => ⟨cell_last h.1 (block_lt_of_cell h.1) k, cell_last h.2.1 (block_lt_of_cell h.2.1) k, cell_last h.2.2.1 (block_lt_of_cell h.2.2.1) k, cell_last h.2.2.2 (block_lt_of_cell h.2.2.2) k⟩
 have mkS : ∀ (W : World) (i j : Nat) (L : List As), Own noX w L W → L[i]? = some (deep lo gSp7 (fun lo W => PnIn lo gP gT tab cv ids W)) → L[j]? = some (cls gM #[.int .u32 gen, .int .u32 bound, .slice (some ⟨b, o, none⟩) n cap] 28) → (W.cell? ⟨gP, 0, none⟩ = some (.pointer (some ⟨gT, 0, none⟩)) ∧ W.cell? ⟨gM, 0, none⟩ = some (.int .u32 gen) ∧ W.cell? ⟨gM, 1, none⟩ = some (.int .u32 bound) ∧ W.cell? ⟨gM, 2, none⟩ = some (.slice (some ⟨b, o, none⟩) n cap)) := fun W i j L h h1 h2 => by
  obtain ⟨mv, fv, Dm, -, -, -, h4, -⟩ := ((h.at i h1 : DeepAt _ _ _ W).out (PnIn.keeps gP gT tab cv ids)).pl.at_
  exact ⟨h4, h.cell j 0 h2 rfl, h.cell j 1 h2 rfl, h.cell j 2 h2 rfl⟩
 replace HO := HO.drew
 have hSw := mkS _ 3 6 _ HO rfl rfl
 refine wp_region_s (S := fun W => W.cell? ⟨gP, 0, none⟩ = some (.pointer (some ⟨gT, 0, none⟩)) ∧ W.cell? ⟨gM, 0, none⟩ = some (.int .u32 gen) ∧ W.cell? ⟨gM, 1, none⟩ = some (.int .u32 bound) ∧ W.cell? ⟨gM, 2, none⟩ = some (.slice (some ⟨b, o, none⟩) n cap)) (by kernel_rfl) ?_
 refine sTk hcl 0 (v := ?_) (hm := ⟨by rfl, .inl ?_⟩) (hSw := hSw) (h := ?_)
 rotate_left
 ·(intro w hw; obtain ⟨q0, q1, q2, q3⟩ := hw; go_simp; first | done | with_reducible rfl)
 try simp only [Act.put, zTa, zTz, zTs]
 refine sTp hcl 1 ?_
 refine sTp hcl 2 ?_
 refine sTc hcl 3 55 (fun w hw => cT w hw) ?_
 refine wpS_ready (rs := [4]) (by kernel_rfl) (by simp) (fun W2 hW2 => ?_)
 replace HO := HO.then hW2
 clear hW2 hSw
 refine sR1 (fun K hK => ?_)
 go_simp
 have H := HO.alloc (.map #[] 0)
 have hSw := mkS _ 4 7 _ H rfl rfl
 refine hK.out _ _ hSw ?_
 clear hK K HO
 try simp only [Act.put, zTa, zTz, zTs]
 obtain ⟨km, hkm⟩ : ∃ km, Hid (km = W2.heap.size) := ⟨_, hid rfl⟩
 rw [← hkm.out] at H ⊢
 refine sTp hcl 5 ?_
 refine wpS_ready (rs := [6]) (by kernel_rfl) (by simp) (fun W3 hW3 => ?_)
 have HO := H.then hW3
 clear hW3 H hSw
 refine sR1 (fun K hK => ?_)
 go_simp
 have H := HO.alloc (.cells #[.int .u32 gen, .int .u32 bound, .slice (some ⟨b, o, none⟩) n cap, .pointer (some ⟨gP, 0, none⟩), .pointer (some ⟨gT, 0, none⟩), .slice none 0 0, .map (some km)] 66 (0, 0))
 have hSw := mkS _ 5 8 _ H rfl rfl
 refine hK.out _ _ hSw ?_
 clear hK K HO
 try simp only [Act.put, zTa, zTz, zTs]
 obtain ⟨F, hF⟩ : ∃ F, Hid (F = W3.heap.size) := ⟨_, hid rfl⟩
 rw [← hF.out] at H ⊢
 refine sTp hcl 7 ?_
 refine wpS_done (by kernel_rfl) (fun W8 hW8 => ?_) _
 have HO := H.then hW8
 clear H hW8 hSw hcl hF hkm cT mkS
 replace HO := HO.recast 1 (A' := mpA (.int .u32) keyU encKv km (fun _ => none)) rfl (fun k hk => hk) (mp_new (HO.blk 1 rfl))
 simp only [List.set_cons_zero, List.set_cons_succ] at HO
 replace HO := HO.row w.heap.size 75 2
 have q := (HO.at 4 rfl : DeepAt _ _ _ _).out (fnkeeps _ _ _ _ _ _ _ _)
 have p0 := q.mem.c0
 have p1 := q.mem.c1
 have p2 := q.mem.c2
 have p3 := q.mem.c3
 have p4 := q.mem.c4
 clear q
 (try simp only [zTz, zTs, zTa, zDs, zDz] at HO); (try have kk := HO.kk)
 go_wp2_with (first | ((first | (with_reducible refine sp_al HO ?_; intro g hg; rw [← hg.out]; clear hg) | (with_reducible first | refine sp_sk HO ?_ | refine sp_skc HO ?_) | (refine sp_wk HO rfl 94 _ _ rfl rfl rfl (by kernel_rfl) (by rfl) (by simp [Value.oneCell']) ?_)); clear HO; (try clear kk); intro W' HO; (try simp only [zTz, zTs, zTa] at HO); (try have kk := HO.kk)))
 refine wp_loop_rounds 2 ?_
 rw [rounds_succ]
 go_wp2_with (first | ((first | (with_reducible refine sp_al HO ?_; intro g hg; rw [← hg.out]; clear hg) | (with_reducible first | refine sp_sk HO ?_ | refine sp_skc HO ?_) | (refine sp_wk HO rfl 94 _ _ rfl rfl rfl (by kernel_rfl) (by rfl) (by simp [Value.oneCell']) ?_)); clear HO; (try clear kk); intro W' HO; (try simp only [zTz, zTs, zTa] at HO); (try have kk := HO.kk)))
 obtain ⟨gFn, rfl⟩ : ∃ q, q = g := ⟨_, rfl⟩
 refine wp_loop_rounds 2 ?_
 rw [rounds_succ]
 have q := (HO.at 5 rfl : DeepAt _ _ _ _).out (fnkeeps _ _ _ _ _ _ _ _)
 have p0 := q.at_.h0
 have p1 := q.at_.h1
 have p2 := q.at_.h2
 clear q
 go_wp2_with (first | ((first | (with_reducible refine sp_al HO ?_; intro g hg; rw [← hg.out]; clear hg) | (with_reducible first | refine sp_sk HO ?_ | refine sp_skc HO ?_) | (refine sp_wk HO rfl 96 _ _ rfl rfl rfl (by kernel_rfl) (by rfl) (by simp [Value.oneCell']) ?_)); clear HO; (try clear kk); intro W' HO; (try simp only [zTz, zTs, zTa] at HO); (try have kk := HO.kk)))
 (try clear kk)
 obtain ⟨gBk, rfl⟩ : ∃ q, q = g := ⟨_, rfl⟩
 clear p0 p1 p2
 replace HO := HO.drew
 have hcl : ∀ (W W2 : World), (W.cell? ⟨gBk, 1, none⟩ = some (.int .i64 6) ∧ W.cell? ⟨gBk, 2, none⟩ = some (.int .i64 9)) → Below W.heap.size W W2 → (W2.cell? ⟨gBk, 1, none⟩ = some (.int .i64 6) ∧ W2.cell? ⟨gBk, 2, none⟩ = some (.int .i64 9)) := fun _ _ h k => ⟨cell_last h.1 (block_lt_of_cell h.1) k, cell_last h.2 (block_lt_of_cell h.2) k⟩
 have mkS : ∀ (W : World) (i : Nat) (L : List As), Own noX w L W → L[i]? = some (cls gBk #[.int .u32 lab, .int .i64 6, .int .i64 9] 96) → (W.cell? ⟨gBk, 1, none⟩ = some (.int .i64 6) ∧ W.cell? ⟨gBk, 2, none⟩ = some (.int .i64 9)) := fun W i L h h1 => ⟨h.cell i 1 h1 rfl, h.cell i 2 h1 rfl⟩
 have hSw := mkS _ 0 _ HO rfl
 refine wp_region_s (S := fun W => W.cell? ⟨gBk, 1, none⟩ = some (.int .i64 6) ∧ W.cell? ⟨gBk, 2, none⟩ = some (.int .i64 9)) (by kernel_rfl) ?_
 refine sTp hcl 0 ?_
 refine sTp hcl 1 ?_
 refine sTp hcl 2 ?_
 refine sTp hcl 3 ?_
 refine sTp hcl 5 ?_
 refine sTk hcl 6 (v := ?_) (hm := ⟨by rfl, .inl ?_⟩) (hSw := hSw) (h := ?_)
 rotate_left
 ·(intro w hw; have q1 := hw.1; go_simp; first | done | with_reducible rfl)
 try simp only [Act.put, zTa, zTz, zTs]
 refine sTp hcl 7 ?_
 refine sTk hcl 8 (v := ?_) (hm := ⟨by rfl, .inl ?_⟩) (hSw := hSw) (h := ?_)
 rotate_left
 ·(intro w hw; have q1 := hw.2; go_simp; first | done | with_reducible rfl)
 try simp only [Act.put, zTa, zTz, zTs]
 refine sTp hcl 9 ?_
 refine wpS_ready (rs := [4, 10]) (by kernel_rfl) (by simp) (fun W2 hW2 => ?_)
 replace HO := HO.then hW2
 clear hW2 hSw
 apply merge_F
 case h2 =>
  intro key
  refine AllReadyS.cons (by simp only [zGa, zGs, zGz]; rfl) (fun K hK => ?_) (AllReadyS.cons (by simp only [zGa, zGs, zGz]; rfl) (fun K hK => ?_) AllReadyS.nil)
  ·have k0 := HO.cells 3 rfl
   have m0 := HO.melt 3 rfl
   go_simp
   refine hK.out _ _ (mkS _ 0 _ HO rfl) ?_
   clear hK K k0 m0
   try simp only [Act.put, zTa, zTz, zTs]
   refine wpS_ready (rs := [10]) (by kernel_rfl) (by simp) (fun W3 hW3 => ?_)
   have HN := HO.then hW3
   refine sR1 (fun K hK => ?_)
   go_simp
   refine hK.out _ _ (mkS _ 1 _ (HN.alloc _) rfl) ?_
   clear hK K
   try simp only [Act.put, zTa, zTz, zTs]
   refine fe_alloc HN ?_
   generalize W3.heap.size = H
   intro W4 HN2
   exact key H W4 HN2
  ·go_simp
   refine hK.out _ _ (mkS _ 1 _ (HO.alloc _) rfl) ?_
   clear hK K
   try simp only [Act.put, zTa, zTz, zTs]
   refine fe_alloc HO ?_
   generalize W2.heap.size = H
   intro W3 HN
   refine wpS_ready (rs := [4]) (by kernel_rfl) (by simp) (fun W4 hW4 => ?_)
   replace HN := HN.then hW4
   have k0 := HN.cells 4 rfl
   have m0 := HN.melt 4 rfl
   refine sR1 (fun K hK => ?_)
   go_simp
   refine hK.out _ _ (mkS _ 1 _ HN rfl) ?_
   clear hK K k0 m0
   try simp only [Act.put, zTa, zTz, zTs]
   exact key H W4 HN
 clear HO
 intro H W4 HO
 refine wpS_ready (rs := [11]) (by kernel_rfl) (by simp) (fun W5 hW5 => ?_)
 replace HO := HO.then hW5
 clear hW5 W4
 refine sR1 (fun K hK => ?_)
 refine sp_append_step HO el_span 3 0 rfl rfl rfl _ _ rfl rfl rfl rfl (by simp [Value.oneCell']) (by omega) (by omega) (Nat.le_refl _) ?_
 intro sb sc W6 HP
 simp only [List.set_cons_zero, List.set_cons_succ, List.nil_append] at HP
 refine hK.out _ _ (mkS _ 1 _ HP rfl) ?_
 clear hK K HO
 try simp only [Act.put, zTa, zTz, zTs]
 have hSw := mkS _ 1 _ HP rfl
 refine sTp hcl 12 ?_
 refine sTp hcl 13 ?_
 refine wpS_ready (rs := [14]) (by kernel_rfl) (by simp) (fun W7 hW7 => ?_)
 have HO := HP.then hW7
 clear hW7 HP hSw
 have k0 := HO.cells 4 rfl
 have m0 := HO.melt 4 rfl
 refine sR1 (fun K hK => ?_)
 go_simp
 have H := HO.set 4 5 (.slice (some ⟨sb, 0, none⟩) 1 sc) rfl
 refine hK.out _ _ (mkS _ 1 _ H rfl) ?_
 clear hK K k0 m0 HO mkS hcl
 try simp only [Act.put, zTa, zTz, zTs]
 refine wpS_done (by kernel_rfl) (fun W8 hW8 => ?_) _
 have HO := H.then hW8
 clear H hW8
 (try simp only [List.set_cons_zero, List.setIfInBounds_toArray, List.set_cons_succ] at HO)
 go_wp2_with fail
 rw [rounds_succ]
 go_wp2_with fail
 rw [rounds_succ]
 go_wp2_with fail
 replace HO := HO.sub (.cons _ (.cons _ (.cons _ (List.Sublist.refl _))))
 replace HO := HO.pull 5 rfl
 simp only [List.eraseIdx_cons_zero, List.eraseIdx_cons_succ] at HO
 replace HO := HO.pull 5 rfl
 simp only [List.eraseIdx_cons_zero, List.eraseIdx_cons_succ] at HO
 replace HO := HO.pull 5 rfl
 simp only [List.eraseIdx_cons_zero, List.eraseIdx_cons_succ] at HO
 replace HO := HO.pull 6 rfl
 simp only [List.eraseIdx_cons_zero, List.eraseIdx_cons_succ] at HO
 replace HO := HO.pull 4 rfl
 simp only [List.eraseIdx_cons_zero, List.eraseIdx_cons_succ] at HO
 replace HO := HO.pull 5 rfl
 simp only [List.eraseIdx_cons_zero, List.eraseIdx_cons_succ] at HO
 replace HO := HO.pull 6 rfl
 simp only [List.eraseIdx_cons_zero, List.eraseIdx_cons_succ] at HO
 have cL := learn_own gen bound b o cap n gP gT F sb sc km lo gSp7 op ty 7 ab ao cm x0 x1 t0 t1 y0 y1 tab cv ids a6 a8 k6 d6 k8 d8 w _ _ HO hn hcap h2 HI.out.1 HI.out.2.1 HI.out.2.2.1 HI.out.2.2.2 HF.out.1 HF.out.2.1 HF.out.2.2.1 HF.out.2.2.2
 refine cL.mono ?_
 clear cL HO
 rintro e w9 ⟨rfl, g, c, l2, h2', HO, hg, hcell⟩
 have HG := hid (And.intro hg hcell)
 clear hg hcell
 unfold fCells at HO
 (try simp only [zTz, zTs, zTa, zDs, zDz] at HO); (try have kk := HO.kk)
 go_wp2_with (first | ((first | (with_reducible first | refine sp_sk HO ?_ | refine sp_skc HO ?_) | (refine sp_wk HO rfl 36 _ _ rfl rfl rfl (by kernel_rfl) (by rfl) (by simp [Value.oneCell']) ?_)); clear HO; (try clear kk); intro W' HO; (try simp only [zTz, zTs, zTa] at HO); (try have kk := HO.kk)))
 refine bodyPost_ret_by (res_tmp_row rfl _ _ _ 36 #[.int .i64 0, .int .i64 0] _ _ rfl (HO.blk 9 rfl) Tryz.underlying36 rfl infoSpt) rfl ?_
 exact ⟨F, gP, gT, sb, sc, km, lo, gSp7, l2, h2', g, c, rfl, HO.sub (.cons_cons _ (.cons_cons _ (.cons_cons _ (.cons_cons _ (.cons_cons _ (List.nil_sublist _))))))⟩
end Go.Proofs.YtindnnbopaeklaaGreatDoor
