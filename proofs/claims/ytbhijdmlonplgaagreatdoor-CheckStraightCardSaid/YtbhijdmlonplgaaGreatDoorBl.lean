/- Face: unlike. -/
import Derived.Test.YtbhijdmlonplgaaGreatDoorBi
import Derived.Test.YtbhijdmlonplgaaGreatDoorAf
namespace Go.Proofs.YtbhijdmlonplgaaGreatDoor
set_option linter.unusedVariables false
set_option linter.unusedSimpArgs false
set_option maxRecDepth 100000
set_option maxHeartbeats 2000000
open Go.RowKit Go.MapKept
theorem merge_V {F : World → Prop} {w : World} {L : List As} {g : Prop} (h2 : (∀ W, Own noX w L W → F W) → g) (h1 : ∀ W, Own noX w L W → F W) : g := h2 h1
theorem heap_putMap {w : World} {b : Nat} {o : Obj} (h : b < w.heap.size) : (putMap w b o).heap[b]? = some o := by
 show (w.heap.setIfInBounds b o)[b]? = _
 simp [h]
theorem Own.mapTo {X : Nat → Prop} {w W : World} {L : List As} (h : Own X w L W) (i : Nat) {g : Nat} {o : Obj} (o' : Obj) (hi : L[i]? = some (Go.Proofs.YtbhijdmlonplgaaGreatDoor.blk g o)) : Own X w (L.set i (Go.Proofs.YtbhijdmlonplgaaGreatDoor.blk g o')) (putMap W g o') :=
 h.step i hi ⟨rfl, rfl, rfl, by rw [putMap_size]; exact Nat.le_refl _, fun k _ hk => putMap_other W o' hk, fun k hk => ⟨by cases hk; rw [putMap_size]; exact h.lt i hi, .inl hk⟩, heap_putMap (h.lt i hi)⟩
structure Stg (m : Nat) (key : Value) (v : Int) (st : Nat) (o o1 o2 : Obj) : Prop where
 lo : 0 ≤ v
 hi : v ≤ 1
 lk : ∀ W : World, W.heap[m]? = some o → (Instr.lookup 397 (.map (some m)) key false).run Tryz.prog W = .ok (.int .i64 v) W
 me : ∀ W : World, W.heap[m]? = some o → (Instr.mapEntry 397 (.map (some m)) key).run Tryz.prog W = .ok (.tuple #[.int .i64 v, .int .i64 st]) (putMap W m o1)
 lk1 : ∀ W : World, W.heap[m]? = some o1 → (Instr.lookup 397 (.map (some m)) key false).run Tryz.prog W = .ok (.int .i64 v) W
 en : ∀ W : World, W.heap[m]? = some o1 → (Instr.entryStore 397 (.map (some m)) (.int .i64 st) (.int .i64 (IntKind.i64.wrap (v + 1)))).run Tryz.prog W = .ok () (putMap W m o2)
 lk2 : ∀ W : World, W.heap[m]? = some o2 → (Instr.lookup 397 (.map (some m)) key false).run Tryz.prog W = .ok (.int .i64 (v + 1)) W
theorem pa0 (a b c d : Int) (W : World) : (Instr.index 399 (.agg #[.int .i64 a, .int .i64 b, .int .i64 c, .int .i64 d]) (.int .i64 0)).run Tryz.prog W = .ok (.agg #[.int .i64 a, .int .i64 b]) W := by kernel_rfl
theorem pa1 (a b c d : Int) (W : World) : (Instr.index 399 (.agg #[.int .i64 a, .int .i64 b, .int .i64 c, .int .i64 d]) (.int .i64 1)).run Tryz.prog W = .ok (.agg #[.int .i64 c, .int .i64 d]) W := by kernel_rfl
theorem funlike_own (g cap : Nat) (x y : PtD) (w : World) (h0 : PtAt w g 0 x) (h1 : PtAt w g 6 y) (v0 v1 v2 v3 : Int) (s0 s1 s2 s3 : Nat) (o1 a1 o2 a2 o3 a3 o4 a4 : Obj)
  (t0 : ∀ m, Stg m (.agg #[.int .i64 0, .int .i64 x.loc]) v0 s0 (.map #[] 0) a1 o1) (t1 : ∀ m, Stg m (.agg #[.int .i64 1, .int .i64 x.bi]) v1 s1 o1 a2 o2) (t2 : ∀ m, Stg m (.agg #[.int .i64 0, .int .i64 y.loc]) v2 s2 o2 a3 o3) (t3 : ∀ m, Stg m (.agg #[.int .i64 1, .int .i64 y.bi]) v3 s3 o3 a4 o4)
  (n0 : 0 ≤ x.loc ∧ v0 = 0) (n1 : x.bi < 0) (n2 : (0 ≤ y.loc ∧ v2 = 0 ∧ y.bi < 0) ∨ (y.loc < 0 ∧ 0 ≤ y.bi ∧ v3 = 0)) :
  Calls Tryz.prog 273 #[.slice (some ⟨g, 0, none⟩) 2 cap] w fun e w' => e = .returned (.bool true) ∧ Below w.heap.size w w' := by
 have HO := Own.nil w
 obtain ⟨xv, xl, xb, xt, xs, xg⟩ := x
 obtain ⟨yv, yl, yb, yt, ys, yg⟩ := y
 simp only at t0 t1 t2 t3 n0 n1 n2
 obtain ⟨p0, p1, p2, p3, p4, p5⟩ := h0
 obtain ⟨q0, q1, q2, q3, q4, q5⟩ := h1
 simp only [Nat.zero_add, Nat.reduceAdd] at p0 p1 p2 p3 p4 p5 q0 q1 q2 q3 q4 q5
 have zg := block_lt_of_cell p0
 obtain ⟨n0, nv⟩ := n0
 have NV := hid nv
 clear nv
 have T0 := hid t0
 have T1 := hid t1
 have T2 := hid t2
 have T3 := hid t3
 clear t0 t1 t2 t3
 have N2 := hid n2
 clear n2
 have hmm := @run_makeMap Tryz.prog
 go_enter Tryz.func273, Tryz.ntmps273
 go_wp2_with (first | ((first | (with_reducible refine sp_al HO ?_; intro g hg; rw [← hg.out]; clear hg) | (with_reducible refine sp_alc HO ?_; intro g hg; rw [← hg.out]; clear hg) | (with_reducible refine sp_sk HO ?_) | (with_reducible refine sp_skc HO ?_)); intro W' HO'; clear HO; (try clear kk); have HO := HO'; clear HO'; (try simp only [zTz, zTs, zTa] at HO); (try have kk := HO.kk); skip))
 have x0 := pa0
 have x1 := pa1
 refine wp_loop_rounds 3 ?_
 rw [rounds_succ]
 go_wp2_with (first | ((first | (with_reducible refine sp_al HO ?_; intro g hg; rw [← hg.out]; clear hg) | (with_reducible refine sp_alc HO ?_; intro g hg; rw [← hg.out]; clear hg) | (with_reducible refine sp_sk HO ?_) | (with_reducible refine sp_skc HO ?_) | (refine sp_wk HO rfl 275 _ _ rfl rfl rfl (by kernel_rfl) (by rfl) (by simp [Value.oneCell']) ?_)); intro W' HO'; clear HO; (try clear kk); have HO := HO'; clear HO'; (try simp only [zTz, zTs, zTa] at HO); (try have kk := HO.kk); skip) | (refine sp_lk HO rfl 275 _ rfl rfl _ Tryz.underlying275 rfl (by kernel_rfl) ?_))
 refine wp_loop_rounds 3 ?_
 rw [rounds_succ]
 go_wp2_with (first | ((first | (with_reducible refine sp_al HO ?_; intro g hg; rw [← hg.out]; clear hg) | (with_reducible refine sp_alc HO ?_; intro g hg; rw [← hg.out]; clear hg) | (with_reducible refine sp_sk HO ?_) | (with_reducible refine sp_skc HO ?_) | (refine sp_wk HO rfl 398 _ _ rfl rfl rfl (by kernel_rfl) (by rfl) (by simp [Value.oneCell']) ?_)); intro W' HO'; clear HO; (try clear kk); have HO := HO'; clear HO'; (try simp only [zTz, zTs, zTa] at HO); (try have kk := HO.kk); skip))
 obtain ⟨gA, rfl⟩ : ∃ q, q = g := ⟨_, rfl⟩
 (try clear kk); skip
 have hcl : ∀ W W2 : World, (W.cell? ⟨gA, 0, none⟩ = some (.int .i64 0) ∧ W.cell? ⟨gA, 1, none⟩ = some (.int .i64 xl)) → Below W.heap.size W W2 → (W2.cell? ⟨gA, 0, none⟩ = some (.int .i64 0) ∧ W2.cell? ⟨gA, 1, none⟩ = some (.int .i64 xl)) := fun _ _ h k => ⟨cell_last h.1 (block_lt_of_cell h.1) k, cell_last h.2 (block_lt_of_cell h.2) k⟩
 have mkS : ∀ (W : World) (i : Nat) (L : List As), Own noX w L W → L[i]? = some (cls gA #[.int .i64 0, .int .i64 xl] 398) → W.cell? ⟨gA, 0, none⟩ = some (.int .i64 0) ∧ W.cell? ⟨gA, 1, none⟩ = some (.int .i64 xl) := fun W i L h h1 => ⟨h.cell i 0 h1 rfl, h.cell i 1 h1 rfl⟩
 have hSw := mkS _ 0 _ HO.drew rfl
 have hv0 := (T0.out 0).lo
 have hv1 := (T0.out 0).hi
 refine wp_region_s (S := fun W => W.cell? ⟨gA, 0, none⟩ = some (.int .i64 0) ∧ W.cell? ⟨gA, 1, none⟩ = some (.int .i64 xl)) (by kernel_rfl) ?_
 refine sTk hcl 0 (v := ?_) (hm := ⟨by rfl, .inl ?_⟩) (hSw := hSw) (h := ?_)
 rotate_left
 ·(intro w hw; go_simp; first | done | with_reducible rfl)
 try simp only [Act.put, zTa, zTz, zTs]
 refine sTk hcl 1 (v := ?_) (hm := ⟨by rfl, .inl ?_⟩) (hSw := hSw) (h := ?_)
 rotate_left
 ·(intro w hw; have q1 := hw.1; have q2 := hw.2; go_simp; first | done | with_reducible rfl)
 try simp only [Act.put, zTa, zTz, zTs]
 refine wpS_ready (rs := [2, 4]) (by kernel_rfl) (by simp) (fun W2 hW2 => ?_)
 replace HO := HO.drew.then hW2
 clear hW2 hSw
 apply merge_V
 case h2 =>
  intro key
  refine AllReadyS.cons (by simp only [zGa, zGs, zGz]; rfl) (fun K hK => ?_) (AllReadyS.cons (by simp only [zGa, zGs, zGz]; rfl) (fun K hK => ?_) AllReadyS.nil)
  ·have hl := (T0.out _).lk _ (HO.blk 2 rfl)
   go_simp
   refine hK.out _ _ (mkS _ 0 _ HO rfl) ?_
   clear hK K hl
   try simp only [Act.put, zTa, zTz, zTs]
   have hSw := mkS _ 0 _ HO rfl
   refine sTk hcl 3 (v := ?_) (hm := ⟨by rfl, .inl ?_⟩) (hSw := hSw) (h := ?_)
   rotate_left
   ·(intro w hw; go_simp; first | done | with_reducible rfl)
   try simp only [Act.put, zTa, zTz, zTs]
   refine wpS_ready (rs := [4]) (by kernel_rfl) (by simp) (fun W3 hW3 => ?_)
   have HN := HO.then hW3
   have hl := (T0.out _).me _ (HN.blk 2 rfl)
   have HP := HN.mapTo 2 a1 rfl
   simp only [List.set_cons_zero, List.set_cons_succ] at HP
   refine sR1 (fun K hK => ?_)
   go_simp
   refine hK.out _ _ (mkS _ 0 _ HP rfl) ?_
   clear hK K hl
   try simp only [Act.put, zTa, zTz, zTs]
   have hSw := mkS _ 0 _ HP rfl
   refine sTk hcl 5 (v := ?_) (hm := ⟨by rfl, .inl ?_⟩) (hSw := hSw) (h := ?_)
   rotate_left
   ·(intro w hw; go_simp; first | done | with_reducible rfl)
   try simp only [Act.put, zTa, zTz, zTs]
   exact key _ HP
  ·have hl := (T0.out _).me _ (HO.blk 2 rfl)
   have HP := HO.mapTo 2 a1 rfl
   simp only [List.set_cons_zero, List.set_cons_succ] at HP
   go_simp
   refine hK.out _ _ (mkS _ 0 _ HP rfl) ?_
   clear hK K hl
   try simp only [Act.put, zTa, zTz, zTs]
   have hSw := mkS _ 0 _ HP rfl
   refine sTk hcl 5 (v := ?_) (hm := ⟨by rfl, .inl ?_⟩) (hSw := hSw) (h := ?_)
   rotate_left
   ·(intro w hw; go_simp; first | done | with_reducible rfl)
   try simp only [Act.put, zTa, zTz, zTs]
   refine wpS_ready (rs := [2]) (by kernel_rfl) (by simp) (fun W3 hW3 => ?_)
   have HN := HP.then hW3
   have hl := (T0.out _).lk1 _ (HN.blk 2 rfl)
   refine sR1 (fun K hK => ?_)
   go_simp
   refine hK.out _ _ (mkS _ 0 _ HN rfl) ?_
   clear hK K hl
   try simp only [Act.put, zTa, zTz, zTs]
   have hSw := mkS _ 0 _ HN rfl
   refine sTk hcl 3 (v := ?_) (hm := ⟨by rfl, .inl ?_⟩) (hSw := hSw) (h := ?_)
   rotate_left
   ·(intro w hw; go_simp; first | done | with_reducible rfl)
   try simp only [Act.put, zTa, zTz, zTs]
   exact key _ HN
 clear HO
 intro W4 HO
 refine wpS_ready (rs := [6]) (by kernel_rfl) (by simp) (fun W5 hW5 => ?_)
 replace HO := HO.then hW5
 clear hW5 W4
 have hl := (T0.out _).en _ (HO.blk 2 rfl)
 have HP := HO.mapTo 2 o1 rfl
 simp only [List.set_cons_zero, List.set_cons_succ] at HP
 refine sR1 (fun K hK => ?_)
 go_simp
 refine hK.out _ _ (mkS _ 0 _ HP rfl) ?_
 clear hK K HO hl
 try simp only [Act.put, zTa, zTz, zTs]
 refine wpS_done (by kernel_rfl) (fun W8 hW8 => ?_) _
 have HO := HP.then hW8
 clear HP hW8 mkS hcl
 have hl := (T0.out _).lk2 _ (HO.blk 2 rfl)
 (try simp only [zTz, zTs, zTa, zDs, zDz] at HO); (try have kk := HO.kk); skip
 clear hv0 hv1
 have nv := NV.out
 go_wp2_with fail
 (try clear kk); skip
 replace HO := HO.drop 1
 simp only [List.drop_succ_cons, List.drop_zero] at HO
 clear hl
 (try simp only [zTz, zTs, zTa, zDs, zDz] at HO); (try have kk := HO.kk); skip
 rw [rounds_succ]
 go_wp2_with (first | ((first | (with_reducible refine sp_al HO ?_; intro g hg; rw [← hg.out]; clear hg) | (with_reducible refine sp_alc HO ?_; intro g hg; rw [← hg.out]; clear hg) | (with_reducible refine sp_sk HO ?_) | (with_reducible refine sp_skc HO ?_) | (refine sp_wk HO rfl 398 _ _ rfl rfl rfl (by kernel_rfl) (by rfl) (by simp [Value.oneCell']) ?_)); intro W' HO'; clear HO; (try clear kk); have HO := HO'; clear HO'; (try simp only [zTz, zTs, zTa] at HO); (try have kk := HO.kk); skip) | (refine sp_lk HO rfl 398 _ rfl rfl _ Tryz.underlying398 rfl (by kernel_rfl) ?_))
 obtain ⟨gA, rfl⟩ : ∃ q, q = g := ⟨_, rfl⟩
 (try clear kk); skip
 have hcl : ∀ W W2 : World, (W.cell? ⟨gA, 0, none⟩ = some (.int .i64 1) ∧ W.cell? ⟨gA, 1, none⟩ = some (.int .i64 xb)) → Below W.heap.size W W2 → (W2.cell? ⟨gA, 0, none⟩ = some (.int .i64 1) ∧ W2.cell? ⟨gA, 1, none⟩ = some (.int .i64 xb)) := fun _ _ h k => ⟨cell_last h.1 (block_lt_of_cell h.1) k, cell_last h.2 (block_lt_of_cell h.2) k⟩
 have mkS : ∀ (W : World) (i : Nat) (L : List As), Own noX w L W → L[i]? = some (cls gA #[.int .i64 1, .int .i64 xb] 398) → W.cell? ⟨gA, 0, none⟩ = some (.int .i64 1) ∧ W.cell? ⟨gA, 1, none⟩ = some (.int .i64 xb) := fun W i L h h1 => ⟨h.cell i 0 h1 rfl, h.cell i 1 h1 rfl⟩
 have hSw := mkS _ 0 _ HO.drew rfl
 have hv0 := (T1.out 0).lo
 have hv1 := (T1.out 0).hi
 refine wp_region_s (S := fun W => W.cell? ⟨gA, 0, none⟩ = some (.int .i64 1) ∧ W.cell? ⟨gA, 1, none⟩ = some (.int .i64 xb)) (by kernel_rfl) ?_
 refine sTk hcl 0 (v := ?_) (hm := ⟨by rfl, .inl ?_⟩) (hSw := hSw) (h := ?_)
 rotate_left
 ·(intro w hw; go_simp; first | done | with_reducible rfl)
 try simp only [Act.put, zTa, zTz, zTs]
 refine sTk hcl 1 (v := ?_) (hm := ⟨by rfl, .inl ?_⟩) (hSw := hSw) (h := ?_)
 rotate_left
 ·(intro w hw; have q1 := hw.1; have q2 := hw.2; go_simp; first | done | with_reducible rfl)
 try simp only [Act.put, zTa, zTz, zTs]
 refine wpS_ready (rs := [2, 4]) (by kernel_rfl) (by simp) (fun W2 hW2 => ?_)
 replace HO := HO.drew.then hW2
 clear hW2 hSw
 apply merge_V
 case h2 =>
  intro key
  refine AllReadyS.cons (by simp only [zGa, zGs, zGz]; rfl) (fun K hK => ?_) (AllReadyS.cons (by simp only [zGa, zGs, zGz]; rfl) (fun K hK => ?_) AllReadyS.nil)
  ·have hl := (T1.out _).lk _ (HO.blk 2 rfl)
   go_simp
   refine hK.out _ _ (mkS _ 0 _ HO rfl) ?_
   clear hK K hl
   try simp only [Act.put, zTa, zTz, zTs]
   have hSw := mkS _ 0 _ HO rfl
   refine sTk hcl 3 (v := ?_) (hm := ⟨by rfl, .inl ?_⟩) (hSw := hSw) (h := ?_)
   rotate_left
   ·(intro w hw; go_simp; first | done | with_reducible rfl)
   try simp only [Act.put, zTa, zTz, zTs]
   refine wpS_ready (rs := [4]) (by kernel_rfl) (by simp) (fun W3 hW3 => ?_)
   have HN := HO.then hW3
   have hl := (T1.out _).me _ (HN.blk 2 rfl)
   have HP := HN.mapTo 2 a2 rfl
   simp only [List.set_cons_zero, List.set_cons_succ] at HP
   refine sR1 (fun K hK => ?_)
   go_simp
   refine hK.out _ _ (mkS _ 0 _ HP rfl) ?_
   clear hK K hl
   try simp only [Act.put, zTa, zTz, zTs]
   have hSw := mkS _ 0 _ HP rfl
   refine sTk hcl 5 (v := ?_) (hm := ⟨by rfl, .inl ?_⟩) (hSw := hSw) (h := ?_)
   rotate_left
   ·(intro w hw; go_simp; first | done | with_reducible rfl)
   try simp only [Act.put, zTa, zTz, zTs]
   exact key _ HP
  ·have hl := (T1.out _).me _ (HO.blk 2 rfl)
   have HP := HO.mapTo 2 a2 rfl
   simp only [List.set_cons_zero, List.set_cons_succ] at HP
   go_simp
   refine hK.out _ _ (mkS _ 0 _ HP rfl) ?_
   clear hK K hl
   try simp only [Act.put, zTa, zTz, zTs]
   have hSw := mkS _ 0 _ HP rfl
   refine sTk hcl 5 (v := ?_) (hm := ⟨by rfl, .inl ?_⟩) (hSw := hSw) (h := ?_)
   rotate_left
   ·(intro w hw; go_simp; first | done | with_reducible rfl)
   try simp only [Act.put, zTa, zTz, zTs]
   refine wpS_ready (rs := [2]) (by kernel_rfl) (by simp) (fun W3 hW3 => ?_)
   have HN := HP.then hW3
   have hl := (T1.out _).lk1 _ (HN.blk 2 rfl)
   refine sR1 (fun K hK => ?_)
   go_simp
   refine hK.out _ _ (mkS _ 0 _ HN rfl) ?_
   clear hK K hl
   try simp only [Act.put, zTa, zTz, zTs]
   have hSw := mkS _ 0 _ HN rfl
   refine sTk hcl 3 (v := ?_) (hm := ⟨by rfl, .inl ?_⟩) (hSw := hSw) (h := ?_)
   rotate_left
   ·(intro w hw; go_simp; first | done | with_reducible rfl)
   try simp only [Act.put, zTa, zTz, zTs]
   exact key _ HN
 clear HO
 intro W4 HO
 refine wpS_ready (rs := [6]) (by kernel_rfl) (by simp) (fun W5 hW5 => ?_)
 replace HO := HO.then hW5
 clear hW5 W4
 have hl := (T1.out _).en _ (HO.blk 2 rfl)
 have HP := HO.mapTo 2 o2 rfl
 simp only [List.set_cons_zero, List.set_cons_succ] at HP
 refine sR1 (fun K hK => ?_)
 go_simp
 refine hK.out _ _ (mkS _ 0 _ HP rfl) ?_
 clear hK K HO hl
 try simp only [Act.put, zTa, zTz, zTs]
 refine wpS_done (by kernel_rfl) (fun W8 hW8 => ?_) _
 have HO := HP.then hW8
 clear HP hW8 mkS hcl
 have hl := (T1.out _).lk2 _ (HO.blk 2 rfl)
 (try simp only [zTz, zTs, zTa, zDs, zDz] at HO); (try have kk := HO.kk); skip
 clear hv0 hv1
 go_wp2_with fail
 (try clear kk); skip
 replace HO := HO.drop 1
 simp only [List.drop_succ_cons, List.drop_zero] at HO
 clear hl
 (try simp only [zTz, zTs, zTa, zDs, zDz] at HO); (try have kk := HO.kk); skip
 rw [rounds_succ]
 go_wp2_with fail
 (try clear kk); skip
 replace HO := HO.drop 1
 simp only [List.drop_succ_cons, List.drop_zero] at HO
 (try simp only [zTz, zTs, zTa, zDs, zDz] at HO); (try have kk := HO.kk); skip
 rw [rounds_succ]
 go_wp2_with (first | ((first | (with_reducible refine sp_al HO ?_; intro g hg; rw [← hg.out]; clear hg) | (with_reducible refine sp_alc HO ?_; intro g hg; rw [← hg.out]; clear hg) | (with_reducible refine sp_sk HO ?_) | (with_reducible refine sp_skc HO ?_) | (refine sp_wk HO rfl 275 _ _ rfl rfl rfl (by kernel_rfl) (by rfl) (by simp [Value.oneCell']) ?_)); intro W' HO'; clear HO; (try clear kk); have HO := HO'; clear HO'; (try simp only [zTz, zTs, zTa] at HO); (try have kk := HO.kk); skip) | (refine sp_lk HO rfl 275 _ rfl rfl _ Tryz.underlying275 rfl (by kernel_rfl) ?_))
 refine wp_loop_rounds 3 ?_
 rw [rounds_succ]
 go_wp2_with (first | ((first | (with_reducible refine sp_al HO ?_; intro g hg; rw [← hg.out]; clear hg) | (with_reducible refine sp_alc HO ?_; intro g hg; rw [← hg.out]; clear hg) | (with_reducible refine sp_sk HO ?_) | (with_reducible refine sp_skc HO ?_) | (refine sp_wk HO rfl 398 _ _ rfl rfl rfl (by kernel_rfl) (by rfl) (by simp [Value.oneCell']) ?_)); intro W' HO'; clear HO; (try clear kk); have HO := HO'; clear HO'; (try simp only [zTz, zTs, zTa] at HO); (try have kk := HO.kk); skip) | (refine sp_lk HO rfl 398 _ rfl rfl _ Tryz.underlying398 rfl (by kernel_rfl) ?_))
 obtain ⟨gA, rfl⟩ : ∃ q, q = g := ⟨_, rfl⟩
 (try clear kk); skip
 have hcl : ∀ W W2 : World, (W.cell? ⟨gA, 0, none⟩ = some (.int .i64 0) ∧ W.cell? ⟨gA, 1, none⟩ = some (.int .i64 yl)) → Below W.heap.size W W2 → (W2.cell? ⟨gA, 0, none⟩ = some (.int .i64 0) ∧ W2.cell? ⟨gA, 1, none⟩ = some (.int .i64 yl)) := fun _ _ h k => ⟨cell_last h.1 (block_lt_of_cell h.1) k, cell_last h.2 (block_lt_of_cell h.2) k⟩
 have mkS : ∀ (W : World) (i : Nat) (L : List As), Own noX w L W → L[i]? = some (cls gA #[.int .i64 0, .int .i64 yl] 398) → W.cell? ⟨gA, 0, none⟩ = some (.int .i64 0) ∧ W.cell? ⟨gA, 1, none⟩ = some (.int .i64 yl) := fun W i L h h1 => ⟨h.cell i 0 h1 rfl, h.cell i 1 h1 rfl⟩
 have hSw := mkS _ 0 _ HO.drew rfl
 have hv0 := (T2.out 0).lo
 have hv1 := (T2.out 0).hi
 refine wp_region_s (S := fun W => W.cell? ⟨gA, 0, none⟩ = some (.int .i64 0) ∧ W.cell? ⟨gA, 1, none⟩ = some (.int .i64 yl)) (by kernel_rfl) ?_
 refine sTk hcl 0 (v := ?_) (hm := ⟨by rfl, .inl ?_⟩) (hSw := hSw) (h := ?_)
 rotate_left
 ·(intro w hw; go_simp; first | done | with_reducible rfl)
 try simp only [Act.put, zTa, zTz, zTs]
 refine sTk hcl 1 (v := ?_) (hm := ⟨by rfl, .inl ?_⟩) (hSw := hSw) (h := ?_)
 rotate_left
 ·(intro w hw; have q1 := hw.1; have q2 := hw.2; go_simp; first | done | with_reducible rfl)
 try simp only [Act.put, zTa, zTz, zTs]
 refine wpS_ready (rs := [2, 4]) (by kernel_rfl) (by simp) (fun W2 hW2 => ?_)
 replace HO := HO.drew.then hW2
 clear hW2 hSw
 apply merge_V
 case h2 =>
  intro key
  refine AllReadyS.cons (by simp only [zGa, zGs, zGz]; rfl) (fun K hK => ?_) (AllReadyS.cons (by simp only [zGa, zGs, zGz]; rfl) (fun K hK => ?_) AllReadyS.nil)
  ·have hl := (T2.out _).lk _ (HO.blk 2 rfl)
   go_simp
   refine hK.out _ _ (mkS _ 0 _ HO rfl) ?_
   clear hK K hl
   try simp only [Act.put, zTa, zTz, zTs]
   have hSw := mkS _ 0 _ HO rfl
   refine sTk hcl 3 (v := ?_) (hm := ⟨by rfl, .inl ?_⟩) (hSw := hSw) (h := ?_)
   rotate_left
   ·(intro w hw; go_simp; first | done | with_reducible rfl)
   try simp only [Act.put, zTa, zTz, zTs]
   refine wpS_ready (rs := [4]) (by kernel_rfl) (by simp) (fun W3 hW3 => ?_)
   have HN := HO.then hW3
   have hl := (T2.out _).me _ (HN.blk 2 rfl)
   have HP := HN.mapTo 2 a3 rfl
   simp only [List.set_cons_zero, List.set_cons_succ] at HP
   refine sR1 (fun K hK => ?_)
   go_simp
   refine hK.out _ _ (mkS _ 0 _ HP rfl) ?_
   clear hK K hl
   try simp only [Act.put, zTa, zTz, zTs]
   have hSw := mkS _ 0 _ HP rfl
   refine sTk hcl 5 (v := ?_) (hm := ⟨by rfl, .inl ?_⟩) (hSw := hSw) (h := ?_)
   rotate_left
   ·(intro w hw; go_simp; first | done | with_reducible rfl)
   try simp only [Act.put, zTa, zTz, zTs]
   exact key _ HP
  ·have hl := (T2.out _).me _ (HO.blk 2 rfl)
   have HP := HO.mapTo 2 a3 rfl
   simp only [List.set_cons_zero, List.set_cons_succ] at HP
   go_simp
   refine hK.out _ _ (mkS _ 0 _ HP rfl) ?_
   clear hK K hl
   try simp only [Act.put, zTa, zTz, zTs]
   have hSw := mkS _ 0 _ HP rfl
   refine sTk hcl 5 (v := ?_) (hm := ⟨by rfl, .inl ?_⟩) (hSw := hSw) (h := ?_)
   rotate_left
   ·(intro w hw; go_simp; first | done | with_reducible rfl)
   try simp only [Act.put, zTa, zTz, zTs]
   refine wpS_ready (rs := [2]) (by kernel_rfl) (by simp) (fun W3 hW3 => ?_)
   have HN := HP.then hW3
   have hl := (T2.out _).lk1 _ (HN.blk 2 rfl)
   refine sR1 (fun K hK => ?_)
   go_simp
   refine hK.out _ _ (mkS _ 0 _ HN rfl) ?_
   clear hK K hl
   try simp only [Act.put, zTa, zTz, zTs]
   have hSw := mkS _ 0 _ HN rfl
   refine sTk hcl 3 (v := ?_) (hm := ⟨by rfl, .inl ?_⟩) (hSw := hSw) (h := ?_)
   rotate_left
   ·(intro w hw; go_simp; first | done | with_reducible rfl)
   try simp only [Act.put, zTa, zTz, zTs]
   exact key _ HN
 clear HO
 intro W4 HO
 refine wpS_ready (rs := [6]) (by kernel_rfl) (by simp) (fun W5 hW5 => ?_)
 replace HO := HO.then hW5
 clear hW5 W4
 have hl := (T2.out _).en _ (HO.blk 2 rfl)
 have HP := HO.mapTo 2 o3 rfl
 simp only [List.set_cons_zero, List.set_cons_succ] at HP
 refine sR1 (fun K hK => ?_)
 go_simp
 refine hK.out _ _ (mkS _ 0 _ HP rfl) ?_
 clear hK K HO hl
 try simp only [Act.put, zTa, zTz, zTs]
 refine wpS_done (by kernel_rfl) (fun W8 hW8 => ?_) _
 have HO := HP.then hW8
 clear HP hW8 mkS hcl
 have hl := (T2.out _).lk2 _ (HO.blk 2 rfl)
 (try simp only [zTz, zTs, zTa, zDs, zDz] at HO); (try have kk := HO.kk); skip
 clear hv0 hv1
 rcases N2.out with ⟨i1, i2, i3⟩ | ⟨i1, i2, i3⟩
 ·go_wp2_with fail
  (try clear kk); skip
  replace HO := HO.drop 1
  simp only [List.drop_succ_cons, List.drop_zero] at HO
  clear hl
  (try simp only [zTz, zTs, zTa, zDs, zDz] at HO); (try have kk := HO.kk); skip
  rw [rounds_succ]
  go_wp2_with (first | ((first | (with_reducible refine sp_al HO ?_; intro g hg; rw [← hg.out]; clear hg) | (with_reducible refine sp_alc HO ?_; intro g hg; rw [← hg.out]; clear hg) | (with_reducible refine sp_sk HO ?_) | (with_reducible refine sp_skc HO ?_) | (refine sp_wk HO rfl 398 _ _ rfl rfl rfl (by kernel_rfl) (by rfl) (by simp [Value.oneCell']) ?_)); intro W' HO'; clear HO; (try clear kk); have HO := HO'; clear HO'; (try simp only [zTz, zTs, zTa] at HO); (try have kk := HO.kk); skip) | (refine sp_lk HO rfl 398 _ rfl rfl _ Tryz.underlying398 rfl (by kernel_rfl) ?_))
  obtain ⟨gA, rfl⟩ : ∃ q, q = g := ⟨_, rfl⟩
  (try clear kk); skip
  have hcl : ∀ W W2 : World, (W.cell? ⟨gA, 0, none⟩ = some (.int .i64 1) ∧ W.cell? ⟨gA, 1, none⟩ = some (.int .i64 yb)) → Below W.heap.size W W2 → (W2.cell? ⟨gA, 0, none⟩ = some (.int .i64 1) ∧ W2.cell? ⟨gA, 1, none⟩ = some (.int .i64 yb)) := fun _ _ h k => ⟨cell_last h.1 (block_lt_of_cell h.1) k, cell_last h.2 (block_lt_of_cell h.2) k⟩
  have mkS : ∀ (W : World) (i : Nat) (L : List As), Own noX w L W → L[i]? = some (cls gA #[.int .i64 1, .int .i64 yb] 398) → W.cell? ⟨gA, 0, none⟩ = some (.int .i64 1) ∧ W.cell? ⟨gA, 1, none⟩ = some (.int .i64 yb) := fun W i L h h1 => ⟨h.cell i 0 h1 rfl, h.cell i 1 h1 rfl⟩
  have hSw := mkS _ 0 _ HO.drew rfl
  have hv0 := (T3.out 0).lo
  have hv1 := (T3.out 0).hi
  refine wp_region_s (S := fun W => W.cell? ⟨gA, 0, none⟩ = some (.int .i64 1) ∧ W.cell? ⟨gA, 1, none⟩ = some (.int .i64 yb)) (by kernel_rfl) ?_
  refine sTk hcl 0 (v := ?_) (hm := ⟨by rfl, .inl ?_⟩) (hSw := hSw) (h := ?_)
  rotate_left
  ·(intro w hw; go_simp; first | done | with_reducible rfl)
  try simp only [Act.put, zTa, zTz, zTs]
  refine sTk hcl 1 (v := ?_) (hm := ⟨by rfl, .inl ?_⟩) (hSw := hSw) (h := ?_)
  rotate_left
  ·(intro w hw; have q1 := hw.1; have q2 := hw.2; go_simp; first | done | with_reducible rfl)
  try simp only [Act.put, zTa, zTz, zTs]
  refine wpS_ready (rs := [2, 4]) (by kernel_rfl) (by simp) (fun W2 hW2 => ?_)
  replace HO := HO.drew.then hW2
  clear hW2 hSw
  apply merge_V
  case h2 =>
   intro key
   refine AllReadyS.cons (by simp only [zGa, zGs, zGz]; rfl) (fun K hK => ?_) (AllReadyS.cons (by simp only [zGa, zGs, zGz]; rfl) (fun K hK => ?_) AllReadyS.nil)
   ·have hl := (T3.out _).lk _ (HO.blk 2 rfl)
    go_simp
    refine hK.out _ _ (mkS _ 0 _ HO rfl) ?_
    clear hK K hl
    try simp only [Act.put, zTa, zTz, zTs]
    have hSw := mkS _ 0 _ HO rfl
    refine sTk hcl 3 (v := ?_) (hm := ⟨by rfl, .inl ?_⟩) (hSw := hSw) (h := ?_)
    rotate_left
    ·(intro w hw; go_simp; first | done | with_reducible rfl)
    try simp only [Act.put, zTa, zTz, zTs]
    refine wpS_ready (rs := [4]) (by kernel_rfl) (by simp) (fun W3 hW3 => ?_)
    have HN := HO.then hW3
    have hl := (T3.out _).me _ (HN.blk 2 rfl)
    have HP := HN.mapTo 2 a4 rfl
    simp only [List.set_cons_zero, List.set_cons_succ] at HP
    refine sR1 (fun K hK => ?_)
    go_simp
    refine hK.out _ _ (mkS _ 0 _ HP rfl) ?_
    clear hK K hl
    try simp only [Act.put, zTa, zTz, zTs]
    have hSw := mkS _ 0 _ HP rfl
    refine sTk hcl 5 (v := ?_) (hm := ⟨by rfl, .inl ?_⟩) (hSw := hSw) (h := ?_)
    rotate_left
    ·(intro w hw; go_simp; first | done | with_reducible rfl)
    try simp only [Act.put, zTa, zTz, zTs]
    exact key _ HP
   ·have hl := (T3.out _).me _ (HO.blk 2 rfl)
    have HP := HO.mapTo 2 a4 rfl
    simp only [List.set_cons_zero, List.set_cons_succ] at HP
    go_simp
    refine hK.out _ _ (mkS _ 0 _ HP rfl) ?_
    clear hK K hl
    try simp only [Act.put, zTa, zTz, zTs]
    have hSw := mkS _ 0 _ HP rfl
    refine sTk hcl 5 (v := ?_) (hm := ⟨by rfl, .inl ?_⟩) (hSw := hSw) (h := ?_)
    rotate_left
    ·(intro w hw; go_simp; first | done | with_reducible rfl)
    try simp only [Act.put, zTa, zTz, zTs]
    refine wpS_ready (rs := [2]) (by kernel_rfl) (by simp) (fun W3 hW3 => ?_)
    have HN := HP.then hW3
    have hl := (T3.out _).lk1 _ (HN.blk 2 rfl)
    refine sR1 (fun K hK => ?_)
    go_simp
    refine hK.out _ _ (mkS _ 0 _ HN rfl) ?_
    clear hK K hl
    try simp only [Act.put, zTa, zTz, zTs]
    have hSw := mkS _ 0 _ HN rfl
    refine sTk hcl 3 (v := ?_) (hm := ⟨by rfl, .inl ?_⟩) (hSw := hSw) (h := ?_)
    rotate_left
    ·(intro w hw; go_simp; first | done | with_reducible rfl)
    try simp only [Act.put, zTa, zTz, zTs]
    exact key _ HN
  clear HO
  intro W4 HO
  refine wpS_ready (rs := [6]) (by kernel_rfl) (by simp) (fun W5 hW5 => ?_)
  replace HO := HO.then hW5
  clear hW5 W4
  have hl := (T3.out _).en _ (HO.blk 2 rfl)
  have HP := HO.mapTo 2 o4 rfl
  simp only [List.set_cons_zero, List.set_cons_succ] at HP
  refine sR1 (fun K hK => ?_)
  go_simp
  refine hK.out _ _ (mkS _ 0 _ HP rfl) ?_
  clear hK K HO hl
  try simp only [Act.put, zTa, zTz, zTs]
  refine wpS_done (by kernel_rfl) (fun W8 hW8 => ?_) _
  have HO := HP.then hW8
  clear HP hW8 mkS hcl
  have hl := (T3.out _).lk2 _ (HO.blk 2 rfl)
  (try simp only [zTz, zTs, zTa, zDs, zDz] at HO); (try have kk := HO.kk); skip
  clear hv0 hv1
  go_wp2_with fail
  (try clear kk); skip
  replace HO := HO.drop 1
  simp only [List.drop_succ_cons, List.drop_zero] at HO
  clear hl
  (try simp only [zTz, zTs, zTa, zDs, zDz] at HO); (try have kk := HO.kk); skip
  rw [rounds_succ]
  go_wp2_with fail
  rw [rounds_succ]
  go_wp2_with fail
  go_ret
  exact ⟨rfl, HO.below⟩
 ·have H3 := hid i3
  clear i3
  go_wp2_with fail
  (try clear kk); skip
  replace HO := HO.drop 1
  simp only [List.drop_succ_cons, List.drop_zero] at HO
  clear hl
  (try simp only [zTz, zTs, zTa, zDs, zDz] at HO); (try have kk := HO.kk); skip
  rw [rounds_succ]
  go_wp2_with (first | ((first | (with_reducible refine sp_al HO ?_; intro g hg; rw [← hg.out]; clear hg) | (with_reducible refine sp_alc HO ?_; intro g hg; rw [← hg.out]; clear hg) | (with_reducible refine sp_sk HO ?_) | (with_reducible refine sp_skc HO ?_) | (refine sp_wk HO rfl 398 _ _ rfl rfl rfl (by kernel_rfl) (by rfl) (by simp [Value.oneCell']) ?_)); intro W' HO'; clear HO; (try clear kk); have HO := HO'; clear HO'; (try simp only [zTz, zTs, zTa] at HO); (try have kk := HO.kk); skip) | (refine sp_lk HO rfl 398 _ rfl rfl _ Tryz.underlying398 rfl (by kernel_rfl) ?_))
  obtain ⟨gA, rfl⟩ : ∃ q, q = g := ⟨_, rfl⟩
  (try clear kk); skip
  have hcl : ∀ W W2 : World, (W.cell? ⟨gA, 0, none⟩ = some (.int .i64 1) ∧ W.cell? ⟨gA, 1, none⟩ = some (.int .i64 yb)) → Below W.heap.size W W2 → (W2.cell? ⟨gA, 0, none⟩ = some (.int .i64 1) ∧ W2.cell? ⟨gA, 1, none⟩ = some (.int .i64 yb)) := fun _ _ h k => ⟨cell_last h.1 (block_lt_of_cell h.1) k, cell_last h.2 (block_lt_of_cell h.2) k⟩
  have mkS : ∀ (W : World) (i : Nat) (L : List As), Own noX w L W → L[i]? = some (cls gA #[.int .i64 1, .int .i64 yb] 398) → W.cell? ⟨gA, 0, none⟩ = some (.int .i64 1) ∧ W.cell? ⟨gA, 1, none⟩ = some (.int .i64 yb) := fun W i L h h1 => ⟨h.cell i 0 h1 rfl, h.cell i 1 h1 rfl⟩
  have hSw := mkS _ 0 _ HO.drew rfl
  have hv0 := (T3.out 0).lo
  have hv1 := (T3.out 0).hi
  refine wp_region_s (S := fun W => W.cell? ⟨gA, 0, none⟩ = some (.int .i64 1) ∧ W.cell? ⟨gA, 1, none⟩ = some (.int .i64 yb)) (by kernel_rfl) ?_
  refine sTk hcl 0 (v := ?_) (hm := ⟨by rfl, .inl ?_⟩) (hSw := hSw) (h := ?_)
  rotate_left
  ·(intro w hw; go_simp; first | done | with_reducible rfl)
  try simp only [Act.put, zTa, zTz, zTs]
  refine sTk hcl 1 (v := ?_) (hm := ⟨by rfl, .inl ?_⟩) (hSw := hSw) (h := ?_)
  rotate_left
  ·(intro w hw; have q1 := hw.1; have q2 := hw.2; go_simp; first | done | with_reducible rfl)
  try simp only [Act.put, zTa, zTz, zTs]
  refine wpS_ready (rs := [2, 4]) (by kernel_rfl) (by simp) (fun W2 hW2 => ?_)
  replace HO := HO.drew.then hW2
  clear hW2 hSw
  apply merge_V
  case h2 =>
   intro key
   refine AllReadyS.cons (by simp only [zGa, zGs, zGz]; rfl) (fun K hK => ?_) (AllReadyS.cons (by simp only [zGa, zGs, zGz]; rfl) (fun K hK => ?_) AllReadyS.nil)
   ·have hl := (T3.out _).lk _ (HO.blk 2 rfl)
    go_simp
    refine hK.out _ _ (mkS _ 0 _ HO rfl) ?_
    clear hK K hl
    try simp only [Act.put, zTa, zTz, zTs]
    have hSw := mkS _ 0 _ HO rfl
    refine sTk hcl 3 (v := ?_) (hm := ⟨by rfl, .inl ?_⟩) (hSw := hSw) (h := ?_)
    rotate_left
    ·(intro w hw; go_simp; first | done | with_reducible rfl)
    try simp only [Act.put, zTa, zTz, zTs]
    refine wpS_ready (rs := [4]) (by kernel_rfl) (by simp) (fun W3 hW3 => ?_)
    have HN := HO.then hW3
    have hl := (T3.out _).me _ (HN.blk 2 rfl)
    have HP := HN.mapTo 2 a4 rfl
    simp only [List.set_cons_zero, List.set_cons_succ] at HP
    refine sR1 (fun K hK => ?_)
    go_simp
    refine hK.out _ _ (mkS _ 0 _ HP rfl) ?_
    clear hK K hl
    try simp only [Act.put, zTa, zTz, zTs]
    have hSw := mkS _ 0 _ HP rfl
    refine sTk hcl 5 (v := ?_) (hm := ⟨by rfl, .inl ?_⟩) (hSw := hSw) (h := ?_)
    rotate_left
    ·(intro w hw; go_simp; first | done | with_reducible rfl)
    try simp only [Act.put, zTa, zTz, zTs]
    exact key _ HP
   ·have hl := (T3.out _).me _ (HO.blk 2 rfl)
    have HP := HO.mapTo 2 a4 rfl
    simp only [List.set_cons_zero, List.set_cons_succ] at HP
    go_simp
    refine hK.out _ _ (mkS _ 0 _ HP rfl) ?_
    clear hK K hl
    try simp only [Act.put, zTa, zTz, zTs]
    have hSw := mkS _ 0 _ HP rfl
    refine sTk hcl 5 (v := ?_) (hm := ⟨by rfl, .inl ?_⟩) (hSw := hSw) (h := ?_)
    rotate_left
    ·(intro w hw; go_simp; first | done | with_reducible rfl)
    try simp only [Act.put, zTa, zTz, zTs]
    refine wpS_ready (rs := [2]) (by kernel_rfl) (by simp) (fun W3 hW3 => ?_)
    have HN := HP.then hW3
    have hl := (T3.out _).lk1 _ (HN.blk 2 rfl)
    refine sR1 (fun K hK => ?_)
    go_simp
    refine hK.out _ _ (mkS _ 0 _ HN rfl) ?_
    clear hK K hl
    try simp only [Act.put, zTa, zTz, zTs]
    have hSw := mkS _ 0 _ HN rfl
    refine sTk hcl 3 (v := ?_) (hm := ⟨by rfl, .inl ?_⟩) (hSw := hSw) (h := ?_)
    rotate_left
    ·(intro w hw; go_simp; first | done | with_reducible rfl)
    try simp only [Act.put, zTa, zTz, zTs]
    exact key _ HN
  clear HO
  intro W4 HO
  refine wpS_ready (rs := [6]) (by kernel_rfl) (by simp) (fun W5 hW5 => ?_)
  replace HO := HO.then hW5
  clear hW5 W4
  have hl := (T3.out _).en _ (HO.blk 2 rfl)
  have HP := HO.mapTo 2 o4 rfl
  simp only [List.set_cons_zero, List.set_cons_succ] at HP
  refine sR1 (fun K hK => ?_)
  go_simp
  refine hK.out _ _ (mkS _ 0 _ HP rfl) ?_
  clear hK K HO hl
  try simp only [Act.put, zTa, zTz, zTs]
  refine wpS_done (by kernel_rfl) (fun W8 hW8 => ?_) _
  have HO := HP.then hW8
  clear HP hW8 mkS hcl
  have hl := (T3.out _).lk2 _ (HO.blk 2 rfl)
  (try simp only [zTz, zTs, zTa, zDs, zDz] at HO); (try have kk := HO.kk); skip
  clear hv0 hv1
  have i3 := H3.out
  go_wp2_with fail
  (try clear kk); skip
  replace HO := HO.drop 1
  simp only [List.drop_succ_cons, List.drop_zero] at HO
  clear hl
  (try simp only [zTz, zTs, zTa, zDs, zDz] at HO); (try have kk := HO.kk); skip
  rw [rounds_succ]
  go_wp2_with fail
  rw [rounds_succ]
  go_wp2_with fail
  go_ret
  exact ⟨rfl, HO.below⟩
end Go.Proofs.YtbhijdmlonplgaaGreatDoor
namespace Go.Proofs.YtbhijdmlonplgaaGreatDoor
set_option linter.unusedVariables false
set_option linter.unusedSimpArgs false
set_option maxRecDepth 100000
set_option maxHeartbeats 4000000
open Go.RowKit Go.MapKept
section
variable {m : Nat} {key : Value} {es es2 : Array MapEntry} {c : Nat}
theorem stg_new
  (hck : ∀ (e : Bool) (W : World), (Instr.checkKey e 10000 398 key).run Tryz.prog W = .ok () W)
  (hf : ∀ W : World, (Instr.findKey 398 key es.toList).run Tryz.prog W = .ok none W)
  (hf1 : ∀ W : World, (Instr.findKey 398 key (es.push { key := key, val := .int .i64 0, born := c }).toList).run Tryz.prog W = .ok (some (es.size, .int .i64 0)) W)
  (hi : (es.push { key := key, val := .int .i64 0, born := c }).findIdx? (fun e => (e.born : Int) == (c : Int)) = some es.size)
  (h2 : (es.push { key := key, val := .int .i64 0, born := c }).modify es.size (fun e => { e with val := .int .i64 1 }) = es2)
  (hf2 : ∀ W : World, ∃ j, (Instr.findKey 398 key es2.toList).run Tryz.prog W = .ok (some (j, .int .i64 1)) W) :
  Stg m key 0 c (.map es c) (.map (es.push { key := key, val := .int .i64 0, born := c }) (c + 1)) (.map es2 (c + 1)) := by
 have hu := Tryz.underlying397
 refine ⟨by omega, by omega, fun W hW => ?_, fun W hW => ?_, fun W hW => ?_, fun W hW => ?_, fun W hW => ?_⟩
 ·simp only [Instr.lookup, Sem.run_bind, Go.MapKept.run_getObj_map hW, hck, hf, zeroI, Result.andThen, run_underlying hu, Sem.run_pure]
  rfl
 ·simp only [Instr.mapEntry, Sem.run_bind, Go.MapKept.run_getObj_map hW, hck, hf, zeroI, Result.andThen, run_underlying hu, Sem.run_pure, run_setObj_map _ hW, goInt]
  rfl
 ·simp only [Instr.lookup, Sem.run_bind, Go.MapKept.run_getObj_map hW, hck, hf1, Result.andThen, run_underlying hu, Sem.run_pure]
  rfl
 ·have e1 : IntKind.i64.wrap (0 + 1) = 1 := rfl
  rw [e1]
  simp only [Instr.entryStore, Sem.run_bind, Go.MapKept.run_getObj_map hW, Result.andThen, asInt, asIntOf, Sem.run_pure, hi, h2, run_setObj_map _ hW]
  rfl
 ·obtain ⟨j, hj⟩ := hf2 W
  simp only [Instr.lookup, Sem.run_bind, Go.MapKept.run_getObj_map hW, hck, hj, Result.andThen, run_underlying hu, Sem.run_pure]
  rfl
theorem stg_old {i born : Nat}
  (hck : ∀ (e : Bool) (W : World), (Instr.checkKey e 10000 398 key).run Tryz.prog W = .ok () W)
  (hf : ∀ W : World, (Instr.findKey 398 key es.toList).run Tryz.prog W = .ok (some (i, .int .i64 1)) W)
  (hs : ∀ W : World, (Instr.keyThatStays (((es[i]?).map (·.key)).getD key) key).run Tryz.prog W = .ok key W)
  (h1 : es.modify i (fun e => { e with key := key }) = es)
  (hb : ((es[i]?).map (fun x => (x.born : Int))).getD 0 = (born : Int))
  (hi : es.findIdx? (fun e => (e.born : Int) == (born : Int)) = some i)
  (h2 : es.modify i (fun e => { e with val := .int .i64 2 }) = es2)
  (hf2 : ∀ W : World, ∃ j, (Instr.findKey 398 key es2.toList).run Tryz.prog W = .ok (some (j, .int .i64 2)) W) :
  Stg m key 1 born (.map es c) (.map es c) (.map es2 c) := by
 have hu := Tryz.underlying397
 refine ⟨by omega, by omega, fun W hW => ?_, fun W hW => ?_, fun W hW => ?_, fun W hW => ?_, fun W hW => ?_⟩
 ·simp only [Instr.lookup, Sem.run_bind, Go.MapKept.run_getObj_map hW, hck, hf, Result.andThen, run_underlying hu, Sem.run_pure]
  rfl
 ·simp only [Instr.mapEntry, Sem.run_bind, Go.MapKept.run_getObj_map hW, hck, hf, hs, h1, hb, Result.andThen, run_underlying hu, Sem.run_pure, run_setObj_map _ hW, goInt]
  rfl
 ·simp only [Instr.lookup, Sem.run_bind, Go.MapKept.run_getObj_map hW, hck, hf, Result.andThen, run_underlying hu, Sem.run_pure]
  rfl
 ·have e1 : IntKind.i64.wrap (1 + 1) = 2 := rfl
  rw [e1]
  simp only [Instr.entryStore, Sem.run_bind, Go.MapKept.run_getObj_map hW, Result.andThen, asInt, asIntOf, Sem.run_pure, hi, h2, run_setObj_map _ hW]
  rfl
 ·obtain ⟨j, hj⟩ := hf2 W
  simp only [Instr.lookup, Sem.run_bind, Go.MapKept.run_getObj_map hW, hck, hj, Result.andThen, run_underlying hu, Sem.run_pure]
  rfl
end
def k2 (a b : Int) : Value := .agg #[.int .i64 a, .int .i64 b]
def e2 (a b v : Int) (c : Nat) : MapEntry := { key := k2 a b, val := .int .i64 v, born := c }
theorem stg_1 (m : Nat) : Stg m (k2 0 0) 0 0 (.map #[] 0) (.map #[e2 0 0 0 0] 1) (.map #[e2 0 0 1 0] 1) := stg_new (fun e W => by kernel_rfl) (fun W => by kernel_rfl) (fun W => by kernel_rfl) (by simp [e2, List.findIdx?_cons]) (by rfl) (fun W => ⟨0, by kernel_rfl⟩)
theorem stg_2 (m : Nat) : Stg m (k2 1 (-1)) 0 1 (.map #[e2 0 0 1 0] 1) (.map #[e2 0 0 1 0, e2 1 (-1) 0 1] 2) (.map #[e2 0 0 1 0, e2 1 (-1) 1 1] 2) := stg_new (fun e W => by kernel_rfl) (fun W => by kernel_rfl) (fun W => by kernel_rfl) (by simp [e2, List.findIdx?_cons]) (by rfl) (fun W => ⟨1, by kernel_rfl⟩)
theorem stg_3 (m : Nat) (l : Int) (h : l = 1 ∨ l = -1) : Stg m (k2 0 l) 0 2 (.map #[e2 0 0 1 0, e2 1 (-1) 1 1] 2) (.map #[e2 0 0 1 0, e2 1 (-1) 1 1, e2 0 l 0 2] 3) (.map #[e2 0 0 1 0, e2 1 (-1) 1 1, e2 0 l 1 2] 3) := by
 rcases h with rfl | rfl
 ·exact stg_new (fun e W => by kernel_rfl) (fun W => by kernel_rfl) (fun W => by kernel_rfl) (by simp [e2, List.findIdx?_cons]) (by rfl) (fun W => ⟨2, by kernel_rfl⟩)
 ·exact stg_new (fun e W => by kernel_rfl) (fun W => by kernel_rfl) (fun W => by kernel_rfl) (by simp [e2, List.findIdx?_cons]) (by rfl) (fun W => ⟨2, by kernel_rfl⟩)
theorem stg_4i (m : Nat) : Stg m (k2 1 (-1)) 1 1 (.map #[e2 0 0 1 0, e2 1 (-1) 1 1, e2 0 1 1 2] 3) (.map #[e2 0 0 1 0, e2 1 (-1) 1 1, e2 0 1 1 2] 3) (.map #[e2 0 0 1 0, e2 1 (-1) 2 1, e2 0 1 1 2] 3) := stg_old (i := 1) (fun e W => by kernel_rfl) (fun W => by kernel_rfl) (fun W => by kernel_rfl) (by rfl) (by rfl) (by simp [e2, List.findIdx?_cons]) (by rfl) (fun W => ⟨1, by kernel_rfl⟩)
theorem stg_4o (m : Nat) : Stg m (k2 1 0) 0 3 (.map #[e2 0 0 1 0, e2 1 (-1) 1 1, e2 0 (-1) 1 2] 3) (.map #[e2 0 0 1 0, e2 1 (-1) 1 1, e2 0 (-1) 1 2, e2 1 0 0 3] 4) (.map #[e2 0 0 1 0, e2 1 (-1) 1 1, e2 0 (-1) 1 2, e2 1 0 1 3] 4) := stg_new (fun e W => by kernel_rfl) (fun W => by kernel_rfl) (fun W => by kernel_rfl) (by simp [e2, List.findIdx?_cons]) (by rfl) (fun W => ⟨3, by kernel_rfl⟩)
theorem unlike_in (g cap v v' ty ty' sz sz' : Nat) (sg sg' : Bool) (w : World) (h0 : PtAt w g 0 ⟨v, 0, -1, ty, sz, sg⟩) (h1 : PtAt w g 6 ⟨v', 1, -1, ty', sz', sg'⟩) :
  Calls Tryz.prog 273 #[.slice (some ⟨g, 0, none⟩) 2 cap] w fun e w' => e = .returned (.bool true) ∧ Below w.heap.size w w' :=
 funlike_own g cap ⟨v, 0, -1, ty, sz, sg⟩ ⟨v', 1, -1, ty', sz', sg'⟩ w h0 h1 0 0 0 1 0 1 2 1 _ _ _ _ _ _ _ _ stg_1 stg_2 (fun m => stg_3 m 1 (.inl rfl)) stg_4i ⟨by simp only; omega, rfl⟩ (by simp only; omega) (.inl ⟨by simp only; omega, rfl, by simp only; omega⟩)
theorem unlike_out (g cap v v' ty ty' sz sz' : Nat) (sg sg' : Bool) (w : World) (h0 : PtAt w g 0 ⟨v, 0, -1, ty, sz, sg⟩) (h1 : PtAt w g 6 ⟨v', -1, 0, ty', sz', sg'⟩) :
  Calls Tryz.prog 273 #[.slice (some ⟨g, 0, none⟩) 2 cap] w fun e w' => e = .returned (.bool true) ∧ Below w.heap.size w w' :=
 funlike_own g cap ⟨v, 0, -1, ty, sz, sg⟩ ⟨v', -1, 0, ty', sz', sg'⟩ w h0 h1 0 0 0 0 0 1 2 3 _ _ _ _ _ _ _ _ stg_1 stg_2 (fun m => stg_3 m (-1) (.inr rfl)) stg_4o ⟨by simp only; omega, rfl⟩ (by simp only; omega) (.inr ⟨by simp only; omega, by simp only; omega, rfl⟩)
end Go.Proofs.YtbhijdmlonplgaaGreatDoor
