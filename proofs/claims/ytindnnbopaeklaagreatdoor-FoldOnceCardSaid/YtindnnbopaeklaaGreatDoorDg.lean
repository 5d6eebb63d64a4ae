/- Fold: learn, where one instruction of three makes a number. -/
import Derived.Test.YtindnnbopaeklaaGreatDoorDf
import Derived.Test.YtindnnbopaeklaaGreatDoorDb
namespace Go.Proofs.YtindnnbopaeklaaGreatDoor
set_option linter.unusedVariables false
set_option linter.unusedSimpArgs false
set_option maxRecDepth 100000
set_option maxHeartbeats 4000000
open Go.RowKit Go.MapKept
structure KvD where
 ty : Nat
 at_ : Nat
 cap : Nat
abbrev KNo : Nat → Option KvD := fun _ => none
def encKv (x : KvD) : Value := .agg #[.int .u32 x.ty, .slice (some ⟨x.at_, 0, none⟩) 1 x.cap]
theorem zeroKv (w : World) : (zeroValue 61).run Tryz.prog w = .ok (.agg #[.int .u32 0, .slice none 0 0]) w := by kernel_rfl
theorem mkNil (w : World) : (binOp .eql 132 .nilFunc .nilFunc).run Tryz.prog w = .ok (.bool true) w := by kernel_rfl
theorem mkFn (n : Nat) (xs ys : Array Value) (w : World) : (binOp .eql 132 (.func (.func n) xs ys) .nilFunc).run Tryz.prog w = .ok (.bool false) w := by kernel_rfl
structure InC (W : World) (b q op ty res : Nat) (v : Value) : Prop where
 op : W.cell? ⟨b, q, none⟩ = some (.int .u16 op)
 ty : W.cell? ⟨b, q + 1, none⟩ = some (.int .u32 ty)
 res : W.cell? ⟨b, q + 2, none⟩ = some (.int .u32 res)
 args : W.cell? ⟨b, q + 3, none⟩ = some v
theorem InC.below {W W' : World} {b q op ty res : Nat} {v : Value} (h : InC W b q op ty res v) (hb : Below W.heap.size W W') : InC W' b q op ty res v :=
 ⟨cell_last h.op (block_lt_of_cell h.op) hb, cell_last h.ty (block_lt_of_cell h.op) hb, cell_last h.res (block_lt_of_cell h.op) hb, cell_last h.args (block_lt_of_cell h.op) hb⟩
def fCells (gen bound : Nat) (mv : Value) (P T : Nat) (sv : Value) (km : Nat) : Array Value := #[.int .u32 gen, .int .u32 bound, mv, .pointer (some ⟨P, 0, none⟩), .pointer (some ⟨T, 0, none⟩), sv, .map (some km)]
theorem learn_own (gen bound b o cap n P T F sb sc km lo hi op ty res ab ao cm x0 x1 t0 t1 y0 y1 : Nat) (tab : Nat → Option TyD) (cv : Nat → Option (Nat × Nat)) (ids : List Nat) (a6 a8 : Option Addr) (k6 d6 k8 d8 : Nat) (w0 : World) (L : List As) (w : World)
  (H : Own noX w0 (mpA (.int .u32) keyU encKv km (fun _ => none) :: cls F (fCells gen bound (.slice (some ⟨b, o, none⟩) n cap) P T (.slice (some ⟨sb, 0, none⟩) 1 sc) km) 66 :: rw_ w0.heap.size 75 2 (.slice (some ⟨sb, 0, none⟩) 1 sc) 1 [.int .i64 6, .int .i64 9] :: deep lo hi (fun lo W => PnIn lo P T tab cv ids W) :: L) w)
  (hn : 9 ≤ n) (hcap : n ≤ cap) (h2 : isTwo op = true) (i6 : InC w0 b (o + 24) 248 0 6 (.slice a6 k6 d6)) (i7 : InC w0 b (o + 28) op ty 7 (.slice (some ⟨ab, ao, none⟩) 2 cm)) (i8 : InC w0 b (o + 32) 254 0 0 (.slice a8 k8 d8)) (hT : Two ab ao x0 x1 w0) (f0 : cv x0 = some (t0, y0)) (f1 : cv x1 = some (t1, y1)) (hy0 : y0 < 4294967296) (hy1 : y1 < 4294967296) :
  Calls Tryz.prog 56 #[.pointer (some ⟨F, 0, none⟩)] w fun e w' => e = .returned (.tuple #[]) ∧ ∃ g c l2 h2, Own noX w0 (mpA (.int .u32) keyU encKv km (kup (fun _ => none) 7 ⟨ty, g, c⟩) :: cls F (fCells gen bound (.slice (some ⟨b, o, none⟩) n cap) P T (.slice (some ⟨sb, 0, none⟩) 1 sc) km) 66 :: rw_ w0.heap.size 75 2 (.slice (some ⟨sb, 0, none⟩) 1 sc) 1 [.int .i64 6, .int .i64 9] :: deep lo hi (fun lo W => PnIn lo P T tab cv ids W) :: deep l2 h2 (w1P g (bin2 op y0 y1)) :: L) w' ∧ w0.heap.size ≤ g ∧ w'.cell? ⟨g, 0, none⟩ = some (.int .u32 (bin2 op y0 y1)) := by
 have HO := H
 clear H
 unfold fCells at HO ⊢
 have q6 : ∀ W, Below w0.heap.size w0 W → InC W b (o + 24) 248 0 6 (.slice a6 k6 d6) := fun W hb => i6.below hb
 have q7 : ∀ W, Below w0.heap.size w0 W → InC W b (o + 28) op ty 7 (.slice (some ⟨ab, ao, none⟩) 2 cm) := fun W hb => i7.below hb
 have q8 : ∀ W, Below w0.heap.size w0 W → InC W b (o + 32) 254 0 0 (.slice a8 k8 d8) := fun W hb => i8.below hb
 have m6 : ∀ W, Calls Tryz.prog 77 #[.pointer (some ⟨F, 0, none⟩), .int .u16 248] W fun e w' => e = .returned .nilFunc ∧ Below W.heap.size W w' := fun W => maker_none F 248 (.inl rfl) W
 have m7 := fun W => maker_two F op h2 W
 have m8 : ∀ W, Calls Tryz.prog 77 #[.pointer (some ⟨F, 0, none⟩), .int .u16 254] W fun e w' => e = .returned .nilFunc ∧ Below W.heap.size W w' := fun W => maker_none F 254 (.inr rfl) W
 have sp0 := HO.rowcell 2 0 rfl rfl
 have sp1 := HO.rowcell 2 1 rfl rfl
 go_enter Tryz.func56, Tryz.ntmps56
 (try simp only [zTz, zTs, zTa, zDs, zDz] at HO); (try have kk := HO.kk)
 go_wp2_with fail
 go_step3
 go_wp2_with fail
 go_step3
 go_wp2_with fail
 refine wp_loop_rounds 2 ?_
 rw [rounds_succ]
 go_wp2_with fail
 have n1 : (9 : Int) ≤ cap := by omega
 have n2 : (9 : Int) ≤ n := by omega
 refine wp_loop_rounds 1 ?_
 rw [rounds_succ]
 go_wp2_with (first | ((first | ((with_reducible first | refine sp_al HO ?_ | refine sp_alc HO ?_); intro g hg; rw [← hg.out]; clear hg) | (with_reducible first | refine sp_sk HO ?_ | refine sp_skc HO ?_) | (refine sp_wk HO rfl 75 _ _ rfl rfl rfl (by kernel_rfl) (by rfl) (by simp [Value.oneCell']) ?_)); clear HO; (try clear kk); intro W' HO; (try simp only [zTz, zTs, zTa] at HO); (try have kk := HO.kk)))
 obtain ⟨gS, rfl⟩ : ∃ q, q = g := ⟨_, rfl⟩
 (try clear kk)
 have hcl3 : ∀ (gS : Nat) (W W2 : World), (W.cell? ⟨F, 2, none⟩ = some (.slice (some ⟨b, o, none⟩) n cap) ∧ W.cell? ⟨gS, 0, none⟩ = some (.int .i64 6) ∧ W.cell? ⟨gS, 1, none⟩ = some (.int .i64 9)) → Below W.heap.size W W2 → (W2.cell? ⟨F, 2, none⟩ = some (.slice (some ⟨b, o, none⟩) n cap) ∧ W2.cell? ⟨gS, 0, none⟩ = some (.int .i64 6) ∧ W2.cell? ⟨gS, 1, none⟩ = some (.int .i64 9)) := fun _ _ _ h k => ⟨cell_last h.1 (block_lt_of_cell h.1) k, cell_last h.2.1 (block_lt_of_cell h.2.1) k, cell_last h.2.2 (block_lt_of_cell h.2.2) k⟩
 have hSw : W'.drew.cell? ⟨F, 2, none⟩ = some (.slice (some ⟨b, o, none⟩) n cap) ∧ W'.drew.cell? ⟨gS, 0, none⟩ = some (.int .i64 6) ∧ W'.drew.cell? ⟨gS, 1, none⟩ = some (.int .i64 9) := ⟨HO.drew.cell 2 2 rfl rfl, HO.drew.cell 0 0 rfl rfl, HO.drew.cell 0 1 rfl rfl⟩
 have hcl := hcl3 gS
 refine wp_region_s (S := fun W => W.cell? ⟨F, 2, none⟩ = some (.slice (some ⟨b, o, none⟩) n cap) ∧ W.cell? ⟨gS, 0, none⟩ = some (.int .i64 6) ∧ W.cell? ⟨gS, 1, none⟩ = some (.int .i64 9)) (by kernel_rfl) ?_
 refine wpS_take hcl (i := 0) (v := ?_) (by simp only [List.getElem?_toArray, List.getElem?_cons_succ, List.getElem?_cons_zero]; rfl) (by kernel_rfl) (by kernel_rfl) (by kernel_rfl) (by exact fun _ _ _ h => h) ⟨by rfl, .inl ?_⟩ hSw ?_
 rotate_left
 ·(intro w hw; go_simp; first | done | with_reducible rfl)
 try simp only [Act.put, zTa, zTz, zTs]
 refine wpS_take hcl (i := 1) (v := ?_) (by simp only [List.getElem?_toArray, List.getElem?_cons_succ, List.getElem?_cons_zero]; rfl) (by kernel_rfl) (by kernel_rfl) (by kernel_rfl) (by exact fun _ _ _ h => h) ⟨by rfl, .inl ?_⟩ hSw ?_
 rotate_left
 ·(intro w hw; go_simp; first | done | with_reducible rfl)
 try simp only [Act.put, zTa, zTz, zTs]
 refine wpS_take hcl (i := 2) (v := ?_) (by simp only [List.getElem?_toArray, List.getElem?_cons_succ, List.getElem?_cons_zero]; rfl) (by kernel_rfl) (by kernel_rfl) (by kernel_rfl) (by exact fun _ _ _ h => h) ⟨by rfl, .inl ?_⟩ hSw ?_
 rotate_left
 ·(intro w hw; go_simp; first | done | with_reducible rfl)
 try simp only [Act.put, zTa, zTz, zTs]
 refine wpS_take hcl (i := 3) (v := ?_) (by simp only [List.getElem?_toArray, List.getElem?_cons_succ, List.getElem?_cons_zero]; rfl) (by kernel_rfl) (by kernel_rfl) (by kernel_rfl) (by exact fun _ _ _ h => h) ⟨by rfl, .inl ?_⟩ hSw ?_
 rotate_left
 ·(intro w hw; go_simp; first | done | with_reducible rfl)
 try simp only [Act.put, zTa, zTz, zTs]
 refine wpS_take hcl (i := 4) (v := ?_) (by simp only [List.getElem?_toArray, List.getElem?_cons_succ, List.getElem?_cons_zero]; rfl) (by kernel_rfl) (by kernel_rfl) (by kernel_rfl) (by exact fun _ _ _ h => h) ⟨by rfl, .inl ?_⟩ hSw ?_
 rotate_left
 ·(intro w hw; have q1 := hw.1; go_simp; first | done | with_reducible rfl)
 try simp only [Act.put, zTa, zTz, zTs]
 refine wpS_take hcl (i := 5) (v := ?_) (by simp only [List.getElem?_toArray, List.getElem?_cons_succ, List.getElem?_cons_zero]; rfl) (by kernel_rfl) (by kernel_rfl) (by kernel_rfl) (by exact fun _ _ _ h => h) ⟨by rfl, .inl ?_⟩ hSw ?_
 rotate_left
 ·(intro w hw; go_simp; first | done | with_reducible rfl)
 try simp only [Act.put, zTa, zTz, zTs]
 refine wpS_take hcl (i := 6) (v := ?_) (by simp only [List.getElem?_toArray, List.getElem?_cons_succ, List.getElem?_cons_zero]; rfl) (by kernel_rfl) (by kernel_rfl) (by kernel_rfl) (by exact fun _ _ _ h => h) ⟨by rfl, .inl ?_⟩ hSw ?_
 rotate_left
 ·(intro w hw; have q1 := hw.2.1; go_simp; first | done | with_reducible rfl)
 try simp only [Act.put, zTa, zTz, zTs]
 refine wpS_take hcl (i := 7) (v := ?_) (by simp only [List.getElem?_toArray, List.getElem?_cons_succ, List.getElem?_cons_zero]; rfl) (by kernel_rfl) (by kernel_rfl) (by kernel_rfl) (by exact fun _ _ _ h => h) ⟨by rfl, .inl ?_⟩ hSw ?_
 rotate_left
 ·(intro w hw; go_simp; first | done | with_reducible rfl)
 try simp only [Act.put, zTa, zTz, zTs]
 refine wpS_take hcl (i := 8) (v := ?_) (by simp only [List.getElem?_toArray, List.getElem?_cons_succ, List.getElem?_cons_zero]; rfl) (by kernel_rfl) (by kernel_rfl) (by kernel_rfl) (by exact fun _ _ _ h => h) ⟨by rfl, .inl ?_⟩ hSw ?_
 rotate_left
 ·(intro w hw; have q1 := hw.2.2; go_simp; first | done | with_reducible rfl)
 try simp only [Act.put, zTa, zTz, zTs]
 refine wpS_take hcl (i := 9) (v := ?_) (by simp only [List.getElem?_toArray, List.getElem?_cons_succ, List.getElem?_cons_zero]; rfl) (by kernel_rfl) (by kernel_rfl) (by kernel_rfl) (by exact fun _ _ _ h => h) ⟨by rfl, .inl ?_⟩ hSw ?_
 rotate_left
 ·(intro w hw; go_simp; first | done | with_reducible rfl)
 try simp only [Act.put, zTa, zTz, zTs]
 refine wpS_take hcl (i := 10) (v := ?_) (by simp only [List.getElem?_toArray, List.getElem?_cons_succ, List.getElem?_cons_zero]; rfl) (by kernel_rfl) (by kernel_rfl) (by kernel_rfl) (by exact fun _ _ _ h => h) ⟨by rfl, .inl ?_⟩ hSw ?_
 rotate_left
 ·(intro w hw; go_simp; first | done | with_reducible rfl)
 try simp only [Act.put, zTa, zTz, zTs]
 refine wpS_take hcl (i := 11) (v := ?_) (by simp only [List.getElem?_toArray, List.getElem?_cons_succ, List.getElem?_cons_zero]; rfl) (by kernel_rfl) (by kernel_rfl) (by kernel_rfl) (by exact fun _ _ _ h => h) ⟨by rfl, .inl ?_⟩ hSw ?_
 rotate_left
 ·(intro w hw; go_simp; first | done | with_reducible rfl)
 try simp only [Act.put, zTa, zTz, zTs]
 refine wpS_done (by kernel_rfl) (fun W2 hW2 => ?_) _
 replace HO := HO.drew.then hW2
 clear hSw hW2 hcl
 go_wp2_with fail
 refine wp_loop_rounds 2 ?_
 rw [rounds_succ]
 obtain ⟨e0, e1, e2, e3⟩ := q6 _ HO.below
 (try simp only [zTz, zTs, zTa, zDs, zDz] at HO); (try have kk := HO.kk)
 go_wp2_with (first | ((first | ((with_reducible first | refine sp_al HO ?_ | refine sp_alc HO ?_); intro g hg; rw [← hg.out]; clear hg) | (with_reducible first | refine sp_sk HO ?_ | refine sp_skc HO ?_) | (refine sp_wk HO rfl 43 _ _ rfl rfl rfl (by kernel_rfl) (by rfl) (by simp [Value.oneCell']) ?_)); clear HO; (try clear kk); intro W' HO; (try simp only [zTz, zTs, zTa] at HO); (try have kk := HO.kk)) | (go_at_call 77; (with_reducible refine (m6 _).mono ?_); rintro e w1 ⟨rfl, hn1⟩; replace HO := HO.then hn1; clear hn1; (try clear kk); (try simp only [zTz, zTs, zTa, zDs, zDz] at HO); (try have kk := HO.kk)))
 obtain ⟨gI, rfl⟩ : ∃ q, q = g := ⟨_, rfl⟩
 (try clear kk)
 have hmis : ∀ W, Mp (.int .u32) keyU (fun _ v x => v = encKv x) W km KNo → (Instr.lookup 59 (.map (some km)) (.int .u32 6) true).run Tryz.prog W = .ok (.tuple #[.agg #[.int .u32 0, .slice none 0 0], .bool false]) W := fun W h => h.miss keysU Tryz.underlying59 Tryz.underlying23 (k := 6) rfl (zeroKv W) true
 have hcl4 : ∀ (W W2 : World), (W.cell? ⟨F, 6, none⟩ = some (.map (some km)) ∧ W.cell? ⟨gI, 2, none⟩ = some (.int .u32 6) ∧ Mp (.int .u32) keyU (fun _ v x => v = encKv x) W km KNo) → Below W.heap.size W W2 → (W2.cell? ⟨F, 6, none⟩ = some (.map (some km)) ∧ W2.cell? ⟨gI, 2, none⟩ = some (.int .u32 6) ∧ Mp (.int .u32) keyU (fun _ v x => v = encKv x) W2 km KNo) := fun _ _ h k => ⟨cell_last h.1 (block_lt_of_cell h.1) k, cell_last h.2.1 (block_lt_of_cell h.2.1) k, h.2.2.other (k.block km h.2.2.lt) (fun _ _ e => e)⟩
 replace HO := HO.drew
 have hSw := (⟨HO.cell 3 6 rfl rfl, HO.cell 0 2 rfl rfl, HO.at 2 rfl⟩ : _ ∧ _ ∧ Mp (.int .u32) keyU (fun _ v x => v = encKv x) _ km KNo)
 have hcl := hcl4
 refine wp_region_s (S := fun W => W.cell? ⟨F, 6, none⟩ = some (.map (some km)) ∧ W.cell? ⟨gI, 2, none⟩ = some (.int .u32 6) ∧ Mp (.int .u32) keyU (fun _ v x => v = encKv x) W km KNo) (by kernel_rfl) ?_
 refine wpS_take hcl (i := 0) (v := ?_) (by simp only [List.getElem?_toArray, List.getElem?_cons_succ, List.getElem?_cons_zero]; rfl) (by kernel_rfl) (by kernel_rfl) (by kernel_rfl) (by exact fun _ _ _ h => h) ⟨by rfl, .inl ?_⟩ hSw ?_
 rotate_left
 ·(intro w hw; go_simp; first | done | with_reducible rfl)
 try simp only [Act.put, zTa, zTz, zTs]
 refine wpS_take hcl (i := 1) (v := ?_) (by simp only [List.getElem?_toArray, List.getElem?_cons_succ, List.getElem?_cons_zero]; rfl) (by kernel_rfl) (by kernel_rfl) (by kernel_rfl) (by exact fun _ _ _ h => h) ⟨by rfl, .inl ?_⟩ hSw ?_
 rotate_left
 ·(intro w hw; go_simp; first | done | with_reducible rfl)
 try simp only [Act.put, zTa, zTz, zTs]
 refine wpS_take hcl (i := 2) (v := ?_) (by simp only [List.getElem?_toArray, List.getElem?_cons_succ, List.getElem?_cons_zero]; rfl) (by kernel_rfl) (by kernel_rfl) (by kernel_rfl) (by exact fun _ _ _ h => h) ⟨by rfl, .inl ?_⟩ hSw ?_
 rotate_left
 ·(intro w hw; go_simp; first | done | with_reducible rfl)
 try simp only [Act.put, zTa, zTz, zTs]
 refine wpS_take hcl (i := 3) (v := ?_) (by simp only [List.getElem?_toArray, List.getElem?_cons_succ, List.getElem?_cons_zero]; rfl) (by kernel_rfl) (by kernel_rfl) (by kernel_rfl) (by exact fun _ _ _ h => h) ⟨by rfl, .inl ?_⟩ hSw ?_
 rotate_left
 ·(intro w hw; have q1 := hw.1; go_simp; first | done | with_reducible rfl)
 try simp only [Act.put, zTa, zTz, zTs]
 refine wpS_take hcl (i := 4) (v := ?_) (by simp only [List.getElem?_toArray, List.getElem?_cons_succ, List.getElem?_cons_zero]; rfl) (by kernel_rfl) (by kernel_rfl) (by kernel_rfl) (by exact fun _ _ _ h => h) ⟨by rfl, .inl ?_⟩ hSw ?_
 rotate_left
 ·(intro w hw; go_simp; first | done | with_reducible rfl)
 try simp only [Act.put, zTa, zTz, zTs]
 refine wpS_take hcl (i := 5) (v := ?_) (by simp only [List.getElem?_toArray, List.getElem?_cons_succ, List.getElem?_cons_zero]; rfl) (by kernel_rfl) (by kernel_rfl) (by kernel_rfl) (by exact fun _ _ _ h => h) ⟨by rfl, .inl ?_⟩ hSw ?_
 rotate_left
 ·(intro w hw; have q1 := hw.2.1; go_simp; first | done | with_reducible rfl)
 try simp only [Act.put, zTa, zTz, zTs]
 refine wpS_take hcl (i := 6) (v := ?_) (by simp only [List.getElem?_toArray, List.getElem?_cons_succ, List.getElem?_cons_zero]; rfl) (by kernel_rfl) (by kernel_rfl) (by kernel_rfl) (by exact fun _ _ _ h => h) ⟨by rfl, .inl ?_⟩ hSw ?_
 rotate_left
 ·(intro w hw; have q1 := hmis _ hw.2.2; go_simp; first | done | with_reducible rfl)
 try simp only [Act.put, zTa, zTz, zTs]
 refine wpS_take hcl (i := 7) (v := ?_) (by simp only [List.getElem?_toArray, List.getElem?_cons_succ, List.getElem?_cons_zero]; rfl) (by kernel_rfl) (by kernel_rfl) (by kernel_rfl) (by exact fun _ _ _ h => h) ⟨by rfl, .inl ?_⟩ hSw ?_
 rotate_left
 ·(intro w hw; go_simp; first | done | with_reducible rfl)
 try simp only [Act.put, zTa, zTz, zTs]
 refine wpS_take hcl (i := 8) (v := ?_) (by simp only [List.getElem?_toArray, List.getElem?_cons_succ, List.getElem?_cons_zero]; rfl) (by kernel_rfl) (by kernel_rfl) (by kernel_rfl) (by exact fun _ _ _ h => h) ⟨by rfl, .inl ?_⟩ hSw ?_
 rotate_left
 ·(intro w hw; go_simp; first | done | with_reducible rfl)
 try simp only [Act.put, zTa, zTz, zTs]
 refine wpS_take hcl (i := 9) (v := ?_) (by simp only [List.getElem?_toArray, List.getElem?_cons_succ, List.getElem?_cons_zero]; rfl) (by kernel_rfl) (by kernel_rfl) (by kernel_rfl) (by exact fun _ _ _ h => h) ⟨by rfl, .inl ?_⟩ hSw ?_
 rotate_left
 ·(intro w hw; go_simp; first | done | with_reducible rfl)
 try simp only [Act.put, zTa, zTz, zTs]
 refine wpS_ready (rs := [10]) (by kernel_rfl) (by simp) (fun W2 hW2 => ?_)
 replace HO := HO.then hW2
 clear hW2 hSw
 refine AllReadyS.cons (by simp only [List.getElem?_toArray, List.getElem?_cons_succ, List.getElem?_cons_zero]; rfl) (fun K hK => ?_) AllReadyS.nil
 go_simp
 have H := HO.alloc (.cells #[.int .u32 0, .slice none 0 0] 61 (0, 0))
 refine hK.out _ _ ⟨H.cell 4 6 rfl rfl, H.cell 1 2 rfl rfl, H.at 3 rfl⟩ ?_
 clear hK K HO
 try simp only [Act.put, zTa, zTz, zTs]
 obtain ⟨gE, hE⟩ : ∃ gE, Hid (gE = W2.heap.size) := ⟨_, hid rfl⟩
 rw [← hE.out] at H ⊢
 refine wpS_ready (rs := [11]) (by kernel_rfl) (by simp) (fun W3 hW3 => ?_)
 have HO := H.then hW3
 clear hW3 H
 have k0 := HO.cells 0 rfl
 have m0 := HO.melt 0 rfl
 refine AllReadyS.cons (by simp only [List.getElem?_toArray, List.getElem?_cons_succ, List.getElem?_cons_zero]; rfl) (fun K hK => ?_) AllReadyS.nil
 go_simp
 have H := (HO.set 0 0 (.int .u32 0) rfl).set 0 1 (.slice none 0 0) rfl
 have hSw := (⟨H.cell 4 6 rfl rfl, H.cell 1 2 rfl rfl, H.at 3 rfl⟩ : _ ∧ _ ∧ Mp (.int .u32) keyU (fun _ v x => v = encKv x) _ km KNo)
 refine hK.out _ _ hSw ?_
 clear hK K k0 m0 HO
 try simp only [Act.put, zTa, zTz, zTs]
 refine wpS_take hcl (i := 12) (v := ?_) (by simp only [List.getElem?_toArray, List.getElem?_cons_succ, List.getElem?_cons_zero]; rfl) (by kernel_rfl) (by kernel_rfl) (by kernel_rfl) (by exact fun _ _ _ h => h) ⟨by rfl, .inl ?_⟩ hSw ?_
 rotate_left
 ·(intro w hw; go_simp; first | done | with_reducible rfl)
 try simp only [Act.put, zTa, zTz, zTs]
 refine wpS_done (by kernel_rfl) (fun W8 hW8 => ?_) _
 have HO := H.then hW8
 clear H hW8 hE hSw hcl hcl4
 simp only [List.set_cons_zero, List.setIfInBounds_toArray, List.set_cons_succ] at HO
 (try simp only [zTz, zTs, zTa, zDs, zDz] at HO); (try have kk := HO.kk)
 have mN := fun W => mkNil W
 have mF := fun n xs ys W => mkFn n xs ys W
 go_wp2_with fail
 replace HO := HO.drop 2
 rw [rounds_succ]
 obtain ⟨e0, e1, e2, e3⟩ := q7 _ HO.below
 (try simp only [zTz, zTs, zTa, zDs, zDz] at HO); (try have kk := HO.kk)
 go_wp2_with (first | ((first | ((with_reducible first | refine sp_al HO ?_ | refine sp_alc HO ?_); intro g hg; rw [← hg.out]; clear hg) | (with_reducible first | refine sp_sk HO ?_ | refine sp_skc HO ?_) | (refine sp_wk HO rfl 43 _ _ rfl rfl rfl (by kernel_rfl) (by rfl) (by simp [Value.oneCell']) ?_)); clear HO; (try clear kk); intro W' HO; (try simp only [zTz, zTs, zTa] at HO); (try have kk := HO.kk)) | (go_at_call 77; (with_reducible refine (m7 _).mono ?_); rintro e w1 ⟨rfl, hn1⟩; replace HO := HO.then hn1; clear hn1; (try clear kk); (try simp only [zTz, zTs, zTa, zDs, zDz] at HO); (try have kk := HO.kk)))
 obtain ⟨gI, rfl⟩ : ∃ q, q = g := ⟨_, rfl⟩
 (try clear kk)
 have hmis : ∀ W, Mp (.int .u32) keyU (fun _ v x => v = encKv x) W km KNo → (Instr.lookup 59 (.map (some km)) (.int .u32 7) true).run Tryz.prog W = .ok (.tuple #[.agg #[.int .u32 0, .slice none 0 0], .bool false]) W := fun W h => h.miss keysU Tryz.underlying59 Tryz.underlying23 (k := 7) rfl (zeroKv W) true
 unfold liftV
 have hcl4 : ∀ (W W2 : World), (W.cell? ⟨F, 6, none⟩ = some (.map (some km)) ∧ W.cell? ⟨gI, 2, none⟩ = some (.int .u32 7) ∧ Mp (.int .u32) keyU (fun _ v x => v = encKv x) W km KNo) → Below W.heap.size W W2 → (W2.cell? ⟨F, 6, none⟩ = some (.map (some km)) ∧ W2.cell? ⟨gI, 2, none⟩ = some (.int .u32 7) ∧ Mp (.int .u32) keyU (fun _ v x => v = encKv x) W2 km KNo) := fun _ _ h k => ⟨cell_last h.1 (block_lt_of_cell h.1) k, cell_last h.2.1 (block_lt_of_cell h.2.1) k, h.2.2.other (k.block km h.2.2.lt) (fun _ _ e => e)⟩
 replace HO := HO.drew
 have hSw := (⟨HO.cell 3 6 rfl rfl, HO.cell 0 2 rfl rfl, HO.at 2 rfl⟩ : _ ∧ _ ∧ Mp (.int .u32) keyU (fun _ v x => v = encKv x) _ km KNo)
 have hcl := hcl4
 refine wp_region_s (S := fun W => W.cell? ⟨F, 6, none⟩ = some (.map (some km)) ∧ W.cell? ⟨gI, 2, none⟩ = some (.int .u32 7) ∧ Mp (.int .u32) keyU (fun _ v x => v = encKv x) W km KNo) (by kernel_rfl) ?_
 refine wpS_take hcl (i := 0) (v := ?_) (by simp only [List.getElem?_toArray, List.getElem?_cons_succ, List.getElem?_cons_zero]; rfl) (by kernel_rfl) (by kernel_rfl) (by kernel_rfl) (by exact fun _ _ _ h => h) ⟨by rfl, .inl ?_⟩ hSw ?_
 rotate_left
 ·(intro w hw; go_simp; first | done | with_reducible rfl)
 try simp only [Act.put, zTa, zTz, zTs]
 refine wpS_take hcl (i := 1) (v := ?_) (by simp only [List.getElem?_toArray, List.getElem?_cons_succ, List.getElem?_cons_zero]; rfl) (by kernel_rfl) (by kernel_rfl) (by kernel_rfl) (by exact fun _ _ _ h => h) ⟨by rfl, .inl ?_⟩ hSw ?_
 rotate_left
 ·(intro w hw; go_simp; first | done | with_reducible rfl)
 try simp only [Act.put, zTa, zTz, zTs]
 refine wpS_take hcl (i := 2) (v := ?_) (by simp only [List.getElem?_toArray, List.getElem?_cons_succ, List.getElem?_cons_zero]; rfl) (by kernel_rfl) (by kernel_rfl) (by kernel_rfl) (by exact fun _ _ _ h => h) ⟨by rfl, .inl ?_⟩ hSw ?_
 rotate_left
 ·(intro w hw; go_simp; first | done | with_reducible rfl)
 try simp only [Act.put, zTa, zTz, zTs]
 refine wpS_take hcl (i := 3) (v := ?_) (by simp only [List.getElem?_toArray, List.getElem?_cons_succ, List.getElem?_cons_zero]; rfl) (by kernel_rfl) (by kernel_rfl) (by kernel_rfl) (by exact fun _ _ _ h => h) ⟨by rfl, .inl ?_⟩ hSw ?_
 rotate_left
 ·(intro w hw; have q1 := hw.1; go_simp; first | done | with_reducible rfl)
 try simp only [Act.put, zTa, zTz, zTs]
 refine wpS_take hcl (i := 4) (v := ?_) (by simp only [List.getElem?_toArray, List.getElem?_cons_succ, List.getElem?_cons_zero]; rfl) (by kernel_rfl) (by kernel_rfl) (by kernel_rfl) (by exact fun _ _ _ h => h) ⟨by rfl, .inl ?_⟩ hSw ?_
 rotate_left
 ·(intro w hw; go_simp; first | done | with_reducible rfl)
 try simp only [Act.put, zTa, zTz, zTs]
 refine wpS_take hcl (i := 5) (v := ?_) (by simp only [List.getElem?_toArray, List.getElem?_cons_succ, List.getElem?_cons_zero]; rfl) (by kernel_rfl) (by kernel_rfl) (by kernel_rfl) (by exact fun _ _ _ h => h) ⟨by rfl, .inl ?_⟩ hSw ?_
 rotate_left
 ·(intro w hw; have q1 := hw.2.1; go_simp; first | done | with_reducible rfl)
 try simp only [Act.put, zTa, zTz, zTs]
 refine wpS_take hcl (i := 6) (v := ?_) (by simp only [List.getElem?_toArray, List.getElem?_cons_succ, List.getElem?_cons_zero]; rfl) (by kernel_rfl) (by kernel_rfl) (by kernel_rfl) (by exact fun _ _ _ h => h) ⟨by rfl, .inl ?_⟩ hSw ?_
 rotate_left
 ·(intro w hw; have q1 := hmis _ hw.2.2; go_simp; first | done | with_reducible rfl)
 try simp only [Act.put, zTa, zTz, zTs]
 refine wpS_take hcl (i := 7) (v := ?_) (by simp only [List.getElem?_toArray, List.getElem?_cons_succ, List.getElem?_cons_zero]; rfl) (by kernel_rfl) (by kernel_rfl) (by kernel_rfl) (by exact fun _ _ _ h => h) ⟨by rfl, .inl ?_⟩ hSw ?_
 rotate_left
 ·(intro w hw; go_simp; first | done | with_reducible rfl)
 try simp only [Act.put, zTa, zTz, zTs]
 refine wpS_take hcl (i := 8) (v := ?_) (by simp only [List.getElem?_toArray, List.getElem?_cons_succ, List.getElem?_cons_zero]; rfl) (by kernel_rfl) (by kernel_rfl) (by kernel_rfl) (by exact fun _ _ _ h => h) ⟨by rfl, .inl ?_⟩ hSw ?_
 rotate_left
 ·(intro w hw; go_simp; first | done | with_reducible rfl)
 try simp only [Act.put, zTa, zTz, zTs]
 refine wpS_take hcl (i := 9) (v := ?_) (by simp only [List.getElem?_toArray, List.getElem?_cons_succ, List.getElem?_cons_zero]; rfl) (by kernel_rfl) (by kernel_rfl) (by kernel_rfl) (by exact fun _ _ _ h => h) ⟨by rfl, .inl ?_⟩ hSw ?_
 rotate_left
 ·(intro w hw; go_simp; first | done | with_reducible rfl)
 try simp only [Act.put, zTa, zTz, zTs]
 refine wpS_ready (rs := [10]) (by kernel_rfl) (by simp) (fun W2 hW2 => ?_)
 replace HO := HO.then hW2
 clear hW2 hSw
 refine AllReadyS.cons (by simp only [List.getElem?_toArray, List.getElem?_cons_succ, List.getElem?_cons_zero]; rfl) (fun K hK => ?_) AllReadyS.nil
 go_simp
 have H := HO.alloc (.cells #[.int .u32 0, .slice none 0 0] 61 (0, 0))
 refine hK.out _ _ ⟨H.cell 4 6 rfl rfl, H.cell 1 2 rfl rfl, H.at 3 rfl⟩ ?_
 clear hK K HO
 try simp only [Act.put, zTa, zTz, zTs]
 obtain ⟨gE, hE⟩ : ∃ gE, Hid (gE = W2.heap.size) := ⟨_, hid rfl⟩
 rw [← hE.out] at H ⊢
 refine wpS_ready (rs := [11]) (by kernel_rfl) (by simp) (fun W3 hW3 => ?_)
 have HO := H.then hW3
 clear hW3 H
 have k0 := HO.cells 0 rfl
 have m0 := HO.melt 0 rfl
 refine AllReadyS.cons (by simp only [List.getElem?_toArray, List.getElem?_cons_succ, List.getElem?_cons_zero]; rfl) (fun K hK => ?_) AllReadyS.nil
 go_simp
 have H := (HO.set 0 0 (.int .u32 0) rfl).set 0 1 (.slice none 0 0) rfl
 have hSw := (⟨H.cell 4 6 rfl rfl, H.cell 1 2 rfl rfl, H.at 3 rfl⟩ : _ ∧ _ ∧ Mp (.int .u32) keyU (fun _ v x => v = encKv x) _ km KNo)
 refine hK.out _ _ hSw ?_
 clear hK K k0 m0 HO
 try simp only [Act.put, zTa, zTz, zTs]
 refine wpS_take hcl (i := 12) (v := ?_) (by simp only [List.getElem?_toArray, List.getElem?_cons_succ, List.getElem?_cons_zero]; rfl) (by kernel_rfl) (by kernel_rfl) (by kernel_rfl) (by exact fun _ _ _ h => h) ⟨by rfl, .inl ?_⟩ hSw ?_
 rotate_left
 ·(intro w hw; go_simp; first | done | with_reducible rfl)
 try simp only [Act.put, zTa, zTz, zTs]
 refine wpS_done (by kernel_rfl) (fun W8 hW8 => ?_) _
 have HO := H.then hW8
 clear H hW8 hE hSw hcl hcl4
 simp only [List.set_cons_zero, List.setIfInBounds_toArray, List.set_cons_succ] at HO
 (try simp only [zTz, zTs, zTa, zDs, zDz] at HO); (try have kk := HO.kk)
 have cA := fun W (hb : Below w0.heap.size w0 W) (h : PnIn lo P T tab cv ids W) (hF : W.cell? ⟨F, 3, none⟩ = some (.pointer (some ⟨P, 0, none⟩))) => (show Calls Tryz.prog 78 #[.pointer (some ⟨F, 0, none⟩), .agg #[.int .u16 op, .int .u32 ty, .int .u32 7, .slice (some ⟨ab, ao, none⟩) 2 cm]] W _ from args_own F h hF op ty 7 ab ao cm x0 x1 t0 t1 y0 y1 (hT.below hb) f0 f1)
 go_wp2_with (first | (go_at_call 78; with_reducible refine (cA _ HO.below ((HO.at 6 rfl : DeepAt _ _ _ _).out (PnIn.keeps P T tab cv ids)) (HO.cell 4 3 rfl rfl)).mono ?_; rintro e w1 ⟨⟨R, cR, g0, g1, rfl, hv⟩, hn1⟩; replace HO := HO.then hn1; clear hn1; (try clear kk); (try simp only [zTz, zTs, zTa, zDs, zDz] at HO); (try have kk := HO.kk)))
 have hcl : ∀ (W W2 : World), (W.cell? ⟨F, 6, none⟩ = some (.map (some km)) ∧ InC W gI 0 op ty 7 (.slice (some ⟨ab, ao, none⟩) 2 cm)) → Below W.heap.size W W2 → (W2.cell? ⟨F, 6, none⟩ = some (.map (some km)) ∧ InC W2 gI 0 op ty 7 (.slice (some ⟨ab, ao, none⟩) 2 cm)) := fun _ _ h k => ⟨cell_last h.1 (block_lt_of_cell h.1) k, h.2.below k⟩
 replace HO := HO.drew
 have hSw : _ ∧ InC _ gI 0 op ty 7 (.slice (some ⟨ab, ao, none⟩) 2 cm) := ⟨HO.cell 4 6 rfl rfl, HO.cell 1 0 rfl rfl, HO.cell 1 1 rfl rfl, HO.cell 1 2 rfl rfl, HO.cell 1 3 rfl rfl⟩
 have hv2 : Vals2 R t0 t1 g0 g1 y0 y1 _ w1.drew := hv.below (below_drw (Own.nil w1).below)
 clear hv
 refine wp_region_s (S := fun W => W.cell? ⟨F, 6, none⟩ = some (.map (some km)) ∧ InC W gI 0 op ty 7 (.slice (some ⟨ab, ao, none⟩) 2 cm)) (by kernel_rfl) ?_
 refine wpS_take hcl (i := 0) (v := ?_) (by simp only [List.getElem?_toArray, List.getElem?_cons_succ, List.getElem?_cons_zero]; rfl) (by kernel_rfl) (by kernel_rfl) (by kernel_rfl) (by exact fun _ _ _ h => h) ⟨by rfl, .inl ?_⟩ hSw ?_
 rotate_left
 ·(intro w hw; go_simp; first | done | with_reducible rfl)
 try simp only [Act.put, zTa, zTz, zTs]
 refine wpS_take hcl (i := 1) (v := ?_) (by simp only [List.getElem?_toArray, List.getElem?_cons_succ, List.getElem?_cons_zero]; rfl) (by kernel_rfl) (by kernel_rfl) (by kernel_rfl) (by exact fun _ _ _ h => h) ⟨by rfl, .inl ?_⟩ hSw ?_
 rotate_left
 ·(intro w hw; go_simp; first | done | with_reducible rfl)
 try simp only [Act.put, zTa, zTz, zTs]
 refine wpS_take hcl (i := 2) (v := ?_) (by simp only [List.getElem?_toArray, List.getElem?_cons_succ, List.getElem?_cons_zero]; rfl) (by kernel_rfl) (by kernel_rfl) (by kernel_rfl) (by exact fun _ _ _ h => h) ⟨by rfl, .inl ?_⟩ hSw ?_
 rotate_left
 ·(intro w hw; go_simp; first | done | with_reducible rfl)
 try simp only [Act.put, zTa, zTz, zTs]
 refine wpS_take hcl (i := 3) (v := ?_) (by simp only [List.getElem?_toArray, List.getElem?_cons_succ, List.getElem?_cons_zero]; rfl) (by kernel_rfl) (by kernel_rfl) (by kernel_rfl) (by exact fun _ _ _ h => h) ⟨by rfl, .inl ?_⟩ hSw ?_
 rotate_left
 ·(intro w hw; have q1 := hw.1; go_simp; first | done | with_reducible rfl)
 try simp only [Act.put, zTa, zTz, zTs]
 refine wpS_take hcl (i := 4) (v := ?_) (by simp only [List.getElem?_toArray, List.getElem?_cons_succ, List.getElem?_cons_zero]; rfl) (by kernel_rfl) (by kernel_rfl) (by kernel_rfl) (by exact fun _ _ _ h => h) ⟨by rfl, .inl ?_⟩ hSw ?_
 rotate_left
 ·(intro w hw; go_simp; first | done | with_reducible rfl)
 try simp only [Act.put, zTa, zTz, zTs]
 refine wpS_take hcl (i := 5) (v := ?_) (by simp only [List.getElem?_toArray, List.getElem?_cons_succ, List.getElem?_cons_zero]; rfl) (by kernel_rfl) (by kernel_rfl) (by kernel_rfl) (by exact fun _ _ _ h => h) ⟨by rfl, .inl ?_⟩ hSw ?_
 rotate_left
 ·(intro w hw; have q1 := hw.2.res; go_simp; first | done | with_reducible rfl)
 try simp only [Act.put, zTa, zTz, zTs]
 refine wpS_take hcl (i := 6) (v := ?_) (by simp only [List.getElem?_toArray, List.getElem?_cons_succ, List.getElem?_cons_zero]; rfl) (by kernel_rfl) (by kernel_rfl) (by kernel_rfl) (by exact fun _ _ _ h => h) ⟨by rfl, .inl ?_⟩ hSw ?_
 rotate_left
 ·(intro w hw; go_simp; first | done | with_reducible rfl)
 try simp only [Act.put, zTa, zTz, zTs]
 refine wpS_take hcl (i := 7) (v := ?_) (by simp only [List.getElem?_toArray, List.getElem?_cons_succ, List.getElem?_cons_zero]; rfl) (by kernel_rfl) (by kernel_rfl) (by kernel_rfl) (by exact fun _ _ _ h => h) ⟨by rfl, .inl ?_⟩ hSw ?_
 rotate_left
 ·(intro w hw; have q1 := hw.2.ty; go_simp; first | done | with_reducible rfl)
 try simp only [Act.put, zTa, zTz, zTs]
 refine wpS_take hcl (i := 8) (v := ?_) (by simp only [List.getElem?_toArray, List.getElem?_cons_succ, List.getElem?_cons_zero]; rfl) (by kernel_rfl) (by kernel_rfl) (by kernel_rfl) (by exact fun _ _ _ h => h) ⟨by rfl, .inl ?_⟩ hSw ?_
 rotate_left
 ·(intro w hw; go_simp; first | done | with_reducible rfl)
 try simp only [Act.put, zTa, zTz, zTs]
 refine wpS_take hcl (i := 9) (v := ?_) (by simp only [List.getElem?_toArray, List.getElem?_cons_succ, List.getElem?_cons_zero]; rfl) (by kernel_rfl) (by kernel_rfl) (by kernel_rfl) (by exact fun _ _ _ h => h) ⟨by rfl, .inl ?_⟩ hSw ?_
 rotate_left
 ·(intro w hw; obtain ⟨q1, q2, q3, q4⟩ := hw.2; go_simp; first | done | with_reducible rfl)
 try simp only [Act.put, zTa, zTz, zTs]
 refine wpS_take hcl (i := 10) (v := ?_) (by simp only [List.getElem?_toArray, List.getElem?_cons_succ, List.getElem?_cons_zero]; rfl) (by kernel_rfl) (by kernel_rfl) (by kernel_rfl) (by exact fun _ _ _ h => h) ⟨by rfl, .inl ?_⟩ hSw ?_
 rotate_left
 ·(intro w hw; go_simp; first | done | with_reducible rfl)
 try simp only [Act.put, zTa, zTz, zTs]
 refine wpS_ready (rs := [11]) (by kernel_rfl) (by simp) (fun W2 hW2 => ?_)
 replace HO := HO.then hW2
 have hv3 := hv2.below hW2
 clear hv2 hW2 hSw
 refine AllReadyS.cons (by simp only [List.getElem?_toArray, List.getElem?_cons_succ, List.getElem?_cons_zero]; rfl) (fun K hK => ?_) AllReadyS.nil
 go_simp
 go_at_call 104
 have cc : Calls Tryz.prog 104 #[.pointer (some ⟨F, 0, none⟩), .agg #[.int .u16 op, .int .u32 ty, .int .u32 7, .slice (some ⟨ab, ao, none⟩) 2 cm], .slice (some ⟨R, 0, none⟩) 2 cR] W2 _ := flift_own F op ty 7 R cR t0 t1 g0 g1 y0 y1 _ (.slice (some ⟨ab, ao, none⟩) 2 cm) h2 hy0 hy1 W2 hv3
 refine cc.mono ?_
 clear cc hv3
 rintro e W5 ⟨⟨gR, cG, rfl, hx⟩, hn1⟩
 have HZ := hid HO.below.size
 have H := HO.deep (P := w1P gR (bin2 op y0 y1)) hn1 hx
 have HX := hid hx
 clear HO hn1 hx
 have hSw : _ ∧ InC _ gI 0 op ty 7 (.slice (some ⟨ab, ao, none⟩) 2 cm) := ⟨H.cell 5 6 rfl rfl, H.cell 2 0 rfl rfl, H.cell 2 1 rfl rfl, H.cell 2 2 rfl rfl, H.cell 2 3 rfl rfl⟩
 refine hK.out _ _ hSw ?_
 clear hK K
 try simp only [Act.put, zTa, zTz, zTs]
 refine wpS_take hcl (i := 12) (v := ?_) (by simp only [List.getElem?_toArray, List.getElem?_cons_succ, List.getElem?_cons_zero]; rfl) (by kernel_rfl) (by kernel_rfl) (by kernel_rfl) (by exact fun _ _ _ h => h) ⟨by rfl, .inl ?_⟩ hSw ?_
 rotate_left
 ·(intro w hw; go_simp; first | done | with_reducible rfl)
 try simp only [Act.put, zTa, zTz, zTs]
 refine wpS_ready (rs := [13]) (by kernel_rfl) (by simp) (fun W6 hW6 => ?_)
 have HO := H.then hW6
 clear H hW6 hSw
 obtain ⟨o2, hup, hm2⟩ := Mp.put (HO.at 4 rfl) keysU Tryz.underlying59 Tryz.underlying23 7 (encKv ⟨ty, gR, cG⟩) ⟨ty, gR, cG⟩ (fun _ _ _ h => h) (fun _ => rfl)
 have hup2 : (Instr.mapUpdate 59 (.map (some km)) (.int .u32 7) (.agg #[.int .u32 ty, .slice (some ⟨gR, 0, none⟩) 1 cG])).run Tryz.prog W6 = .ok () (putMap W6 km o2) := hup
 have H := HO.map 4 o2 rfl hm2
 simp only [List.set_cons_zero, List.set_cons_succ] at H
 refine AllReadyS.cons (by simp only [List.getElem?_toArray, List.getElem?_cons_succ, List.getElem?_cons_zero]; rfl) (fun K hK => ?_) AllReadyS.nil
 go_simp
 have hSw : _ ∧ InC _ gI 0 op ty 7 (.slice (some ⟨ab, ao, none⟩) 2 cm) := ⟨H.cell 5 6 rfl rfl, H.cell 2 0 rfl rfl, H.cell 2 1 rfl rfl, H.cell 2 2 rfl rfl, H.cell 2 3 rfl rfl⟩
 refine hK.out _ _ hSw ?_
 clear hK K hup hup2 hm2 HO
 try simp only [Act.put, zTa, zTz, zTs]
 refine wpS_done (by kernel_rfl) (fun W8 hW8 => ?_) _
 have HO := H.then hW8
 clear H hW8 hSw hcl
 (try simp only [zTz, zTs, zTa, zDs, zDz] at HO); (try have kk := HO.kk)
 go_wp2_with fail
 replace HO := HO.sub (.cons_cons _ (.cons _ (.cons _ (.cons _ (List.Sublist.refl _)))))
 replace HO := HO.pull 4 rfl
 simp only [List.eraseIdx_cons_zero, List.eraseIdx_cons_succ] at HO
 replace HO := HO.pull 4 rfl
 simp only [List.eraseIdx_cons_zero, List.eraseIdx_cons_succ] at HO
 replace HO := HO.pull 4 rfl
 simp only [List.eraseIdx_cons_zero, List.eraseIdx_cons_succ] at HO
 replace HO := HO.pull 4 rfl
 simp only [List.eraseIdx_cons_zero, List.eraseIdx_cons_succ] at HO
 rw [rounds_succ]
 clear sp0 sp1
 have sp0 := HO.rowcell 2 0 rfl rfl
 have sp1 := HO.rowcell 2 1 rfl rfl
 (try simp only [zTz, zTs, zTa, zDs, zDz] at HO); (try have kk := HO.kk)
 go_wp2_with fail
 refine wp_loop_rounds 2 ?_
 rw [rounds_succ]
 go_wp2_with (first | ((first | ((with_reducible first | refine sp_al HO ?_ | refine sp_alc HO ?_); intro g hg; rw [← hg.out]; clear hg) | (with_reducible first | refine sp_sk HO ?_ | refine sp_skc HO ?_) | (refine sp_wk HO rfl 75 _ _ rfl rfl rfl (by kernel_rfl) (by rfl) (by simp [Value.oneCell']) ?_)); clear HO; (try clear kk); intro W' HO; (try simp only [zTz, zTs, zTa] at HO); (try have kk := HO.kk)))
 obtain ⟨gS, rfl⟩ : ∃ q, q = g := ⟨_, rfl⟩
 (try clear kk)
 have hcl3 : ∀ (gS : Nat) (W W2 : World), (W.cell? ⟨F, 2, none⟩ = some (.slice (some ⟨b, o, none⟩) n cap) ∧ W.cell? ⟨gS, 0, none⟩ = some (.int .i64 6) ∧ W.cell? ⟨gS, 1, none⟩ = some (.int .i64 9)) → Below W.heap.size W W2 → (W2.cell? ⟨F, 2, none⟩ = some (.slice (some ⟨b, o, none⟩) n cap) ∧ W2.cell? ⟨gS, 0, none⟩ = some (.int .i64 6) ∧ W2.cell? ⟨gS, 1, none⟩ = some (.int .i64 9)) := fun _ _ _ h k => ⟨cell_last h.1 (block_lt_of_cell h.1) k, cell_last h.2.1 (block_lt_of_cell h.2.1) k, cell_last h.2.2 (block_lt_of_cell h.2.2) k⟩
 have hSw : W'.drew.cell? ⟨F, 2, none⟩ = some (.slice (some ⟨b, o, none⟩) n cap) ∧ W'.drew.cell? ⟨gS, 0, none⟩ = some (.int .i64 6) ∧ W'.drew.cell? ⟨gS, 1, none⟩ = some (.int .i64 9) := ⟨HO.drew.cell 2 2 rfl rfl, HO.drew.cell 0 0 rfl rfl, HO.drew.cell 0 1 rfl rfl⟩
 have hcl := hcl3 gS
 refine wp_region_s (S := fun W => W.cell? ⟨F, 2, none⟩ = some (.slice (some ⟨b, o, none⟩) n cap) ∧ W.cell? ⟨gS, 0, none⟩ = some (.int .i64 6) ∧ W.cell? ⟨gS, 1, none⟩ = some (.int .i64 9)) (by kernel_rfl) ?_
 refine wpS_take hcl (i := 0) (v := ?_) (by simp only [List.getElem?_toArray, List.getElem?_cons_succ, List.getElem?_cons_zero]; rfl) (by kernel_rfl) (by kernel_rfl) (by kernel_rfl) (by exact fun _ _ _ h => h) ⟨by rfl, .inl ?_⟩ hSw ?_
 rotate_left
 ·(intro w hw; go_simp; first | done | with_reducible rfl)
 try simp only [Act.put, zTa, zTz, zTs]
 refine wpS_take hcl (i := 1) (v := ?_) (by simp only [List.getElem?_toArray, List.getElem?_cons_succ, List.getElem?_cons_zero]; rfl) (by kernel_rfl) (by kernel_rfl) (by kernel_rfl) (by exact fun _ _ _ h => h) ⟨by rfl, .inl ?_⟩ hSw ?_
 rotate_left
 ·(intro w hw; go_simp; first | done | with_reducible rfl)
 try simp only [Act.put, zTa, zTz, zTs]
 refine wpS_take hcl (i := 2) (v := ?_) (by simp only [List.getElem?_toArray, List.getElem?_cons_succ, List.getElem?_cons_zero]; rfl) (by kernel_rfl) (by kernel_rfl) (by kernel_rfl) (by exact fun _ _ _ h => h) ⟨by rfl, .inl ?_⟩ hSw ?_
 rotate_left
 ·(intro w hw; go_simp; first | done | with_reducible rfl)
 try simp only [Act.put, zTa, zTz, zTs]
 refine wpS_take hcl (i := 3) (v := ?_) (by simp only [List.getElem?_toArray, List.getElem?_cons_succ, List.getElem?_cons_zero]; rfl) (by kernel_rfl) (by kernel_rfl) (by kernel_rfl) (by exact fun _ _ _ h => h) ⟨by rfl, .inl ?_⟩ hSw ?_
 rotate_left
 ·(intro w hw; go_simp; first | done | with_reducible rfl)
 try simp only [Act.put, zTa, zTz, zTs]
 refine wpS_take hcl (i := 4) (v := ?_) (by simp only [List.getElem?_toArray, List.getElem?_cons_succ, List.getElem?_cons_zero]; rfl) (by kernel_rfl) (by kernel_rfl) (by kernel_rfl) (by exact fun _ _ _ h => h) ⟨by rfl, .inl ?_⟩ hSw ?_
 rotate_left
 ·(intro w hw; have q1 := hw.1; go_simp; first | done | with_reducible rfl)
 try simp only [Act.put, zTa, zTz, zTs]
 refine wpS_take hcl (i := 5) (v := ?_) (by simp only [List.getElem?_toArray, List.getElem?_cons_succ, List.getElem?_cons_zero]; rfl) (by kernel_rfl) (by kernel_rfl) (by kernel_rfl) (by exact fun _ _ _ h => h) ⟨by rfl, .inl ?_⟩ hSw ?_
 rotate_left
 ·(intro w hw; go_simp; first | done | with_reducible rfl)
 try simp only [Act.put, zTa, zTz, zTs]
 refine wpS_take hcl (i := 6) (v := ?_) (by simp only [List.getElem?_toArray, List.getElem?_cons_succ, List.getElem?_cons_zero]; rfl) (by kernel_rfl) (by kernel_rfl) (by kernel_rfl) (by exact fun _ _ _ h => h) ⟨by rfl, .inl ?_⟩ hSw ?_
 rotate_left
 ·(intro w hw; have q1 := hw.2.1; go_simp; first | done | with_reducible rfl)
 try simp only [Act.put, zTa, zTz, zTs]
 refine wpS_take hcl (i := 7) (v := ?_) (by simp only [List.getElem?_toArray, List.getElem?_cons_succ, List.getElem?_cons_zero]; rfl) (by kernel_rfl) (by kernel_rfl) (by kernel_rfl) (by exact fun _ _ _ h => h) ⟨by rfl, .inl ?_⟩ hSw ?_
 rotate_left
 ·(intro w hw; go_simp; first | done | with_reducible rfl)
 try simp only [Act.put, zTa, zTz, zTs]
 refine wpS_take hcl (i := 8) (v := ?_) (by simp only [List.getElem?_toArray, List.getElem?_cons_succ, List.getElem?_cons_zero]; rfl) (by kernel_rfl) (by kernel_rfl) (by kernel_rfl) (by exact fun _ _ _ h => h) ⟨by rfl, .inl ?_⟩ hSw ?_
 rotate_left
 ·(intro w hw; have q1 := hw.2.2; go_simp; first | done | with_reducible rfl)
 try simp only [Act.put, zTa, zTz, zTs]
 refine wpS_take hcl (i := 9) (v := ?_) (by simp only [List.getElem?_toArray, List.getElem?_cons_succ, List.getElem?_cons_zero]; rfl) (by kernel_rfl) (by kernel_rfl) (by kernel_rfl) (by exact fun _ _ _ h => h) ⟨by rfl, .inl ?_⟩ hSw ?_
 rotate_left
 ·(intro w hw; go_simp; first | done | with_reducible rfl)
 try simp only [Act.put, zTa, zTz, zTs]
 refine wpS_take hcl (i := 10) (v := ?_) (by simp only [List.getElem?_toArray, List.getElem?_cons_succ, List.getElem?_cons_zero]; rfl) (by kernel_rfl) (by kernel_rfl) (by kernel_rfl) (by exact fun _ _ _ h => h) ⟨by rfl, .inl ?_⟩ hSw ?_
 rotate_left
 ·(intro w hw; go_simp; first | done | with_reducible rfl)
 try simp only [Act.put, zTa, zTz, zTs]
 refine wpS_take hcl (i := 11) (v := ?_) (by simp only [List.getElem?_toArray, List.getElem?_cons_succ, List.getElem?_cons_zero]; rfl) (by kernel_rfl) (by kernel_rfl) (by kernel_rfl) (by exact fun _ _ _ h => h) ⟨by rfl, .inl ?_⟩ hSw ?_
 rotate_left
 ·(intro w hw; go_simp; first | done | with_reducible rfl)
 try simp only [Act.put, zTa, zTz, zTs]
 refine wpS_done (by kernel_rfl) (fun W2 hW2 => ?_) _
 replace HO := HO.drew.then hW2
 clear hSw hW2 hcl
 go_wp2_with fail
 refine wp_loop_rounds 4 ?_
 rw [rounds_succ]
 obtain ⟨e0, e1, e2, e3⟩ := q6 _ HO.below
 (try simp only [zTz, zTs, zTa, zDs, zDz] at HO); (try have kk := HO.kk)
 go_wp2_with (first | ((first | ((with_reducible first | refine sp_al HO ?_ | refine sp_alc HO ?_); intro g hg; rw [← hg.out]; clear hg) | (with_reducible first | refine sp_sk HO ?_ | refine sp_skc HO ?_) | (refine sp_wk HO rfl 43 _ _ rfl rfl rfl (by kernel_rfl) (by rfl) (by simp [Value.oneCell']) ?_)); clear HO; (try clear kk); intro W' HO; (try simp only [zTz, zTs, zTa] at HO); (try have kk := HO.kk)) | (go_at_call 77; (with_reducible refine (m6 _).mono ?_); rintro e w1 ⟨rfl, hn1⟩; replace HO := HO.then hn1; clear hn1; (try clear kk); (try simp only [zTz, zTs, zTa, zDs, zDz] at HO); (try have kk := HO.kk)))
 obtain ⟨gI, rfl⟩ : ∃ q, q = g := ⟨_, rfl⟩
 (try clear kk)
 have hmis : ∀ W, Mp (.int .u32) keyU (fun _ v x => v = encKv x) W km (kup KNo 7 ⟨ty, gR, cG⟩) → (Instr.lookup 59 (.map (some km)) (.int .u32 6) true).run Tryz.prog W = .ok (.tuple #[.agg #[.int .u32 0, .slice none 0 0], .bool false]) W := fun W h => h.miss keysU Tryz.underlying59 Tryz.underlying23 (k := 6) rfl (zeroKv W) true
 have hcl4 : ∀ (W W2 : World), (W.cell? ⟨F, 6, none⟩ = some (.map (some km)) ∧ W.cell? ⟨gI, 2, none⟩ = some (.int .u32 6) ∧ Mp (.int .u32) keyU (fun _ v x => v = encKv x) W km (kup KNo 7 ⟨ty,gR,cG⟩)) → Below W.heap.size W W2 → (W2.cell? ⟨F, 6, none⟩ = some (.map (some km)) ∧ W2.cell? ⟨gI, 2, none⟩ = some (.int .u32 6) ∧ Mp (.int .u32) keyU (fun _ v x => v = encKv x) W2 km (kup KNo 7 ⟨ty,gR,cG⟩)) := fun _ _ h k => ⟨cell_last h.1 (block_lt_of_cell h.1) k, cell_last h.2.1 (block_lt_of_cell h.2.1) k, h.2.2.other (k.block km h.2.2.lt) (fun _ _ e => e)⟩
 replace HO := HO.drew
 have hSw := (⟨HO.cell 3 6 rfl rfl, HO.cell 0 2 rfl rfl, HO.at 2 rfl⟩ : _ ∧ _ ∧ Mp (.int .u32) keyU (fun _ v x => v = encKv x) _ km (kup KNo 7 ⟨ty,gR,cG⟩))
 have hcl := hcl4
 refine wp_region_s (S := fun W => W.cell? ⟨F, 6, none⟩ = some (.map (some km)) ∧ W.cell? ⟨gI, 2, none⟩ = some (.int .u32 6) ∧ Mp (.int .u32) keyU (fun _ v x => v = encKv x) W km (kup KNo 7 ⟨ty,gR,cG⟩)) (by kernel_rfl) ?_
 refine wpS_take hcl (i := 0) (v := ?_) (by simp only [List.getElem?_toArray, List.getElem?_cons_succ, List.getElem?_cons_zero]; rfl) (by kernel_rfl) (by kernel_rfl) (by kernel_rfl) (by exact fun _ _ _ h => h) ⟨by rfl, .inl ?_⟩ hSw ?_
 rotate_left
 ·(intro w hw; go_simp; first | done | with_reducible rfl)
 try simp only [Act.put, zTa, zTz, zTs]
 refine wpS_take hcl (i := 1) (v := ?_) (by simp only [List.getElem?_toArray, List.getElem?_cons_succ, List.getElem?_cons_zero]; rfl) (by kernel_rfl) (by kernel_rfl) (by kernel_rfl) (by exact fun _ _ _ h => h) ⟨by rfl, .inl ?_⟩ hSw ?_
 rotate_left
 ·(intro w hw; go_simp; first | done | with_reducible rfl)
 try simp only [Act.put, zTa, zTz, zTs]
 refine wpS_take hcl (i := 2) (v := ?_) (by simp only [List.getElem?_toArray, List.getElem?_cons_succ, List.getElem?_cons_zero]; rfl) (by kernel_rfl) (by kernel_rfl) (by kernel_rfl) (by exact fun _ _ _ h => h) ⟨by rfl, .inl ?_⟩ hSw ?_
 rotate_left
 ·(intro w hw; go_simp; first | done | with_reducible rfl)
 try simp only [Act.put, zTa, zTz, zTs]
 refine wpS_take hcl (i := 3) (v := ?_) (by simp only [List.getElem?_toArray, List.getElem?_cons_succ, List.getElem?_cons_zero]; rfl) (by kernel_rfl) (by kernel_rfl) (by kernel_rfl) (by exact fun _ _ _ h => h) ⟨by rfl, .inl ?_⟩ hSw ?_
 rotate_left
 ·(intro w hw; have q1 := hw.1; go_simp; first | done | with_reducible rfl)
 try simp only [Act.put, zTa, zTz, zTs]
 refine wpS_take hcl (i := 4) (v := ?_) (by simp only [List.getElem?_toArray, List.getElem?_cons_succ, List.getElem?_cons_zero]; rfl) (by kernel_rfl) (by kernel_rfl) (by kernel_rfl) (by exact fun _ _ _ h => h) ⟨by rfl, .inl ?_⟩ hSw ?_
 rotate_left
 ·(intro w hw; go_simp; first | done | with_reducible rfl)
 try simp only [Act.put, zTa, zTz, zTs]
 refine wpS_take hcl (i := 5) (v := ?_) (by simp only [List.getElem?_toArray, List.getElem?_cons_succ, List.getElem?_cons_zero]; rfl) (by kernel_rfl) (by kernel_rfl) (by kernel_rfl) (by exact fun _ _ _ h => h) ⟨by rfl, .inl ?_⟩ hSw ?_
 rotate_left
 ·(intro w hw; have q1 := hw.2.1; go_simp; first | done | with_reducible rfl)
 try simp only [Act.put, zTa, zTz, zTs]
 refine wpS_take hcl (i := 6) (v := ?_) (by simp only [List.getElem?_toArray, List.getElem?_cons_succ, List.getElem?_cons_zero]; rfl) (by kernel_rfl) (by kernel_rfl) (by kernel_rfl) (by exact fun _ _ _ h => h) ⟨by rfl, .inl ?_⟩ hSw ?_
 rotate_left
 ·(intro w hw; have q1 := hmis _ hw.2.2; go_simp; first | done | with_reducible rfl)
 try simp only [Act.put, zTa, zTz, zTs]
 refine wpS_take hcl (i := 7) (v := ?_) (by simp only [List.getElem?_toArray, List.getElem?_cons_succ, List.getElem?_cons_zero]; rfl) (by kernel_rfl) (by kernel_rfl) (by kernel_rfl) (by exact fun _ _ _ h => h) ⟨by rfl, .inl ?_⟩ hSw ?_
 rotate_left
 ·(intro w hw; go_simp; first | done | with_reducible rfl)
 try simp only [Act.put, zTa, zTz, zTs]
 refine wpS_take hcl (i := 8) (v := ?_) (by simp only [List.getElem?_toArray, List.getElem?_cons_succ, List.getElem?_cons_zero]; rfl) (by kernel_rfl) (by kernel_rfl) (by kernel_rfl) (by exact fun _ _ _ h => h) ⟨by rfl, .inl ?_⟩ hSw ?_
 rotate_left
 ·(intro w hw; go_simp; first | done | with_reducible rfl)
 try simp only [Act.put, zTa, zTz, zTs]
 refine wpS_take hcl (i := 9) (v := ?_) (by simp only [List.getElem?_toArray, List.getElem?_cons_succ, List.getElem?_cons_zero]; rfl) (by kernel_rfl) (by kernel_rfl) (by kernel_rfl) (by exact fun _ _ _ h => h) ⟨by rfl, .inl ?_⟩ hSw ?_
 rotate_left
 ·(intro w hw; go_simp; first | done | with_reducible rfl)
 try simp only [Act.put, zTa, zTz, zTs]
 refine wpS_ready (rs := [10]) (by kernel_rfl) (by simp) (fun W2 hW2 => ?_)
 replace HO := HO.then hW2
 clear hW2 hSw
 refine AllReadyS.cons (by simp only [List.getElem?_toArray, List.getElem?_cons_succ, List.getElem?_cons_zero]; rfl) (fun K hK => ?_) AllReadyS.nil
 go_simp
 have H := HO.alloc (.cells #[.int .u32 0, .slice none 0 0] 61 (0, 0))
 refine hK.out _ _ ⟨H.cell 4 6 rfl rfl, H.cell 1 2 rfl rfl, H.at 3 rfl⟩ ?_
 clear hK K HO
 try simp only [Act.put, zTa, zTz, zTs]
 obtain ⟨gE, hE⟩ : ∃ gE, Hid (gE = W2.heap.size) := ⟨_, hid rfl⟩
 rw [← hE.out] at H ⊢
 refine wpS_ready (rs := [11]) (by kernel_rfl) (by simp) (fun W3 hW3 => ?_)
 have HO := H.then hW3
 clear hW3 H
 have k0 := HO.cells 0 rfl
 have m0 := HO.melt 0 rfl
 refine AllReadyS.cons (by simp only [List.getElem?_toArray, List.getElem?_cons_succ, List.getElem?_cons_zero]; rfl) (fun K hK => ?_) AllReadyS.nil
 go_simp
 have H := (HO.set 0 0 (.int .u32 0) rfl).set 0 1 (.slice none 0 0) rfl
 have hSw := (⟨H.cell 4 6 rfl rfl, H.cell 1 2 rfl rfl, H.at 3 rfl⟩ : _ ∧ _ ∧ Mp (.int .u32) keyU (fun _ v x => v = encKv x) _ km (kup KNo 7 ⟨ty,gR,cG⟩))
 refine hK.out _ _ hSw ?_
 clear hK K k0 m0 HO
 try simp only [Act.put, zTa, zTz, zTs]
 refine wpS_take hcl (i := 12) (v := ?_) (by simp only [List.getElem?_toArray, List.getElem?_cons_succ, List.getElem?_cons_zero]; rfl) (by kernel_rfl) (by kernel_rfl) (by kernel_rfl) (by exact fun _ _ _ h => h) ⟨by rfl, .inl ?_⟩ hSw ?_
 rotate_left
 ·(intro w hw; go_simp; first | done | with_reducible rfl)
 try simp only [Act.put, zTa, zTz, zTs]
 refine wpS_done (by kernel_rfl) (fun W8 hW8 => ?_) _
 have HO := H.then hW8
 clear H hW8 hE hSw hcl hcl4
 simp only [List.set_cons_zero, List.setIfInBounds_toArray, List.set_cons_succ] at HO
 (try simp only [zTz, zTs, zTa, zDs, zDz] at HO); (try have kk := HO.kk)
 have mN := fun W => mkNil W
 go_wp2_with fail
 replace HO := HO.drop 2
 rw [rounds_succ]
 obtain ⟨e0, e1, e2, e3⟩ := q7 _ HO.below
 (try simp only [zTz, zTs, zTa, zDs, zDz] at HO); (try have kk := HO.kk)
 go_wp2_with (first | ((first | ((with_reducible first | refine sp_al HO ?_ | refine sp_alc HO ?_); intro g hg; rw [← hg.out]; clear hg) | (with_reducible first | refine sp_sk HO ?_ | refine sp_skc HO ?_) | (refine sp_wk HO rfl 43 _ _ rfl rfl rfl (by kernel_rfl) (by rfl) (by simp [Value.oneCell']) ?_)); clear HO; (try clear kk); intro W' HO; (try simp only [zTz, zTs, zTa] at HO); (try have kk := HO.kk)) | (go_at_call 77; (with_reducible refine (m7 _).mono ?_); rintro e w1 ⟨rfl, hn1⟩; replace HO := HO.then hn1; clear hn1; (try clear kk); (try simp only [zTz, zTs, zTa, zDs, zDz] at HO); (try have kk := HO.kk)))
 obtain ⟨gI, rfl⟩ : ∃ q, q = g := ⟨_, rfl⟩
 (try clear kk)
 have hhit : ∀ W, Mp (.int .u32) keyU (fun _ v x => v = encKv x) W km (kup KNo 7 ⟨ty, gR, cG⟩) → (Instr.lookup 59 (.map (some km)) (.int .u32 7) true).run Tryz.prog W = .ok (.tuple #[.agg #[.int .u32 ty, .slice (some ⟨gR, 0, none⟩) 1 cG], .bool true]) W := fun W h => by
  obtain ⟨v, hv, hq⟩ := h.hit keysU Tryz.underlying59 Tryz.underlying23 (k := 7) (x := ⟨ty, gR, cG⟩) rfl
  have hq := hq true
  rw [hv] at hq
  exact hq
 unfold liftV
 have hcl4 : ∀ (W W2 : World), (W.cell? ⟨F, 6, none⟩ = some (.map (some km)) ∧ W.cell? ⟨gI, 2, none⟩ = some (.int .u32 7) ∧ Mp (.int .u32) keyU (fun _ v x => v = encKv x) W km (kup KNo 7 ⟨ty,gR,cG⟩)) → Below W.heap.size W W2 → (W2.cell? ⟨F, 6, none⟩ = some (.map (some km)) ∧ W2.cell? ⟨gI, 2, none⟩ = some (.int .u32 7) ∧ Mp (.int .u32) keyU (fun _ v x => v = encKv x) W2 km (kup KNo 7 ⟨ty,gR,cG⟩)) := fun _ _ h k => ⟨cell_last h.1 (block_lt_of_cell h.1) k, cell_last h.2.1 (block_lt_of_cell h.2.1) k, h.2.2.other (k.block km h.2.2.lt) (fun _ _ e => e)⟩
 replace HO := HO.drew
 have hSw := (⟨HO.cell 3 6 rfl rfl, HO.cell 0 2 rfl rfl, HO.at 2 rfl⟩ : _ ∧ _ ∧ Mp (.int .u32) keyU (fun _ v x => v = encKv x) _ km (kup KNo 7 ⟨ty,gR,cG⟩))
 have hcl := hcl4
 refine wp_region_s (S := fun W => W.cell? ⟨F, 6, none⟩ = some (.map (some km)) ∧ W.cell? ⟨gI, 2, none⟩ = some (.int .u32 7) ∧ Mp (.int .u32) keyU (fun _ v x => v = encKv x) W km (kup KNo 7 ⟨ty,gR,cG⟩)) (by kernel_rfl) ?_
 refine wpS_take hcl (i := 0) (v := ?_) (by simp only [List.getElem?_toArray, List.getElem?_cons_succ, List.getElem?_cons_zero]; rfl) (by kernel_rfl) (by kernel_rfl) (by kernel_rfl) (by exact fun _ _ _ h => h) ⟨by rfl, .inl ?_⟩ hSw ?_
 rotate_left
 ·(intro w hw; go_simp; first | done | with_reducible rfl)
 try simp only [Act.put, zTa, zTz, zTs]
 refine wpS_take hcl (i := 1) (v := ?_) (by simp only [List.getElem?_toArray, List.getElem?_cons_succ, List.getElem?_cons_zero]; rfl) (by kernel_rfl) (by kernel_rfl) (by kernel_rfl) (by exact fun _ _ _ h => h) ⟨by rfl, .inl ?_⟩ hSw ?_
 rotate_left
 ·(intro w hw; go_simp; first | done | with_reducible rfl)
 try simp only [Act.put, zTa, zTz, zTs]
 refine wpS_take hcl (i := 2) (v := ?_) (by simp only [List.getElem?_toArray, List.getElem?_cons_succ, List.getElem?_cons_zero]; rfl) (by kernel_rfl) (by kernel_rfl) (by kernel_rfl) (by exact fun _ _ _ h => h) ⟨by rfl, .inl ?_⟩ hSw ?_
 rotate_left
 ·(intro w hw; go_simp; first | done | with_reducible rfl)
 try simp only [Act.put, zTa, zTz, zTs]
 refine wpS_take hcl (i := 3) (v := ?_) (by simp only [List.getElem?_toArray, List.getElem?_cons_succ, List.getElem?_cons_zero]; rfl) (by kernel_rfl) (by kernel_rfl) (by kernel_rfl) (by exact fun _ _ _ h => h) ⟨by rfl, .inl ?_⟩ hSw ?_
 rotate_left
 ·(intro w hw; have q1 := hw.1; go_simp; first | done | with_reducible rfl)
 try simp only [Act.put, zTa, zTz, zTs]
 refine wpS_take hcl (i := 4) (v := ?_) (by simp only [List.getElem?_toArray, List.getElem?_cons_succ, List.getElem?_cons_zero]; rfl) (by kernel_rfl) (by kernel_rfl) (by kernel_rfl) (by exact fun _ _ _ h => h) ⟨by rfl, .inl ?_⟩ hSw ?_
 rotate_left
 ·(intro w hw; go_simp; first | done | with_reducible rfl)
 try simp only [Act.put, zTa, zTz, zTs]
 refine wpS_take hcl (i := 5) (v := ?_) (by simp only [List.getElem?_toArray, List.getElem?_cons_succ, List.getElem?_cons_zero]; rfl) (by kernel_rfl) (by kernel_rfl) (by kernel_rfl) (by exact fun _ _ _ h => h) ⟨by rfl, .inl ?_⟩ hSw ?_
 rotate_left
 ·(intro w hw; have q1 := hw.2.1; go_simp; first | done | with_reducible rfl)
 try simp only [Act.put, zTa, zTz, zTs]
 refine wpS_take hcl (i := 6) (v := ?_) (by simp only [List.getElem?_toArray, List.getElem?_cons_succ, List.getElem?_cons_zero]; rfl) (by kernel_rfl) (by kernel_rfl) (by kernel_rfl) (by exact fun _ _ _ h => h) ⟨by rfl, .inl ?_⟩ hSw ?_
 rotate_left
 ·(intro w hw; have q1 := hhit _ hw.2.2; go_simp; first | done | with_reducible rfl)
 try simp only [Act.put, zTa, zTz, zTs]
 refine wpS_take hcl (i := 7) (v := ?_) (by simp only [List.getElem?_toArray, List.getElem?_cons_succ, List.getElem?_cons_zero]; rfl) (by kernel_rfl) (by kernel_rfl) (by kernel_rfl) (by exact fun _ _ _ h => h) ⟨by rfl, .inl ?_⟩ hSw ?_
 rotate_left
 ·(intro w hw; go_simp; first | done | with_reducible rfl)
 try simp only [Act.put, zTa, zTz, zTs]
 refine wpS_take hcl (i := 8) (v := ?_) (by simp only [List.getElem?_toArray, List.getElem?_cons_succ, List.getElem?_cons_zero]; rfl) (by kernel_rfl) (by kernel_rfl) (by kernel_rfl) (by exact fun _ _ _ h => h) ⟨by rfl, .inl ?_⟩ hSw ?_
 rotate_left
 ·(intro w hw; go_simp; first | done | with_reducible rfl)
 try simp only [Act.put, zTa, zTz, zTs]
 refine wpS_take hcl (i := 9) (v := ?_) (by simp only [List.getElem?_toArray, List.getElem?_cons_succ, List.getElem?_cons_zero]; rfl) (by kernel_rfl) (by kernel_rfl) (by kernel_rfl) (by exact fun _ _ _ h => h) ⟨by rfl, .inl ?_⟩ hSw ?_
 rotate_left
 ·(intro w hw; go_simp; first | done | with_reducible rfl)
 try simp only [Act.put, zTa, zTz, zTs]
 refine wpS_ready (rs := [10]) (by kernel_rfl) (by simp) (fun W2 hW2 => ?_)
 replace HO := HO.then hW2
 clear hW2 hSw
 refine AllReadyS.cons (by simp only [List.getElem?_toArray, List.getElem?_cons_succ, List.getElem?_cons_zero]; rfl) (fun K hK => ?_) AllReadyS.nil
 go_simp
 have H := HO.alloc (.cells #[.int .u32 0, .slice none 0 0] 61 (0, 0))
 refine hK.out _ _ ⟨H.cell 4 6 rfl rfl, H.cell 1 2 rfl rfl, H.at 3 rfl⟩ ?_
 clear hK K HO
 try simp only [Act.put, zTa, zTz, zTs]
 obtain ⟨gE, hE⟩ : ∃ gE, Hid (gE = W2.heap.size) := ⟨_, hid rfl⟩
 rw [← hE.out] at H ⊢
 refine wpS_ready (rs := [11]) (by kernel_rfl) (by simp) (fun W3 hW3 => ?_)
 have HO := H.then hW3
 clear hW3 H
 have k0 := HO.cells 0 rfl
 have m0 := HO.melt 0 rfl
 refine AllReadyS.cons (by simp only [List.getElem?_toArray, List.getElem?_cons_succ, List.getElem?_cons_zero]; rfl) (fun K hK => ?_) AllReadyS.nil
 go_simp
 have H := (HO.set 0 0 (.int .u32 ty) rfl).set 0 1 ((.slice (some ⟨gR,0,none⟩) 1 cG)) rfl
 have hSw := (⟨H.cell 4 6 rfl rfl, H.cell 1 2 rfl rfl, H.at 3 rfl⟩ : _ ∧ _ ∧ Mp (.int .u32) keyU (fun _ v x => v = encKv x) _ km (kup KNo 7 ⟨ty,gR,cG⟩))
 refine hK.out _ _ hSw ?_
 clear hK K k0 m0 HO
 try simp only [Act.put, zTa, zTz, zTs]
 refine wpS_take hcl (i := 12) (v := ?_) (by simp only [List.getElem?_toArray, List.getElem?_cons_succ, List.getElem?_cons_zero]; rfl) (by kernel_rfl) (by kernel_rfl) (by kernel_rfl) (by exact fun _ _ _ h => h) ⟨by rfl, .inl ?_⟩ hSw ?_
 rotate_left
 ·(intro w hw; go_simp; first | done | with_reducible rfl)
 try simp only [Act.put, zTa, zTz, zTs]
 refine wpS_done (by kernel_rfl) (fun W8 hW8 => ?_) _
 have HO := H.then hW8
 clear H hW8 hE hSw hcl hcl4
 simp only [List.set_cons_zero, List.setIfInBounds_toArray, List.set_cons_succ] at HO
 (try simp only [zTz, zTs, zTa, zDs, zDz] at HO); (try have kk := HO.kk)
 have mF := fun n xs ys W => mkFn n xs ys W
 go_wp2_with fail
 replace HO := HO.drop 2
 rw [rounds_succ]
 obtain ⟨e0, e1, e2, e3⟩ := q8 _ HO.below
 (try simp only [zTz, zTs, zTa, zDs, zDz] at HO); (try have kk := HO.kk)
 go_wp2_with (first | ((first | ((with_reducible first | refine sp_al HO ?_ | refine sp_alc HO ?_); intro g hg; rw [← hg.out]; clear hg) | (with_reducible first | refine sp_sk HO ?_ | refine sp_skc HO ?_) | (refine sp_wk HO rfl 43 _ _ rfl rfl rfl (by kernel_rfl) (by rfl) (by simp [Value.oneCell']) ?_)); clear HO; (try clear kk); intro W' HO; (try simp only [zTz, zTs, zTa] at HO); (try have kk := HO.kk)) | (go_at_call 77; (with_reducible refine (m8 _).mono ?_); rintro e w1 ⟨rfl, hn1⟩; replace HO := HO.then hn1; clear hn1; (try clear kk); (try simp only [zTz, zTs, zTa, zDs, zDz] at HO); (try have kk := HO.kk)))
 obtain ⟨gI, rfl⟩ : ∃ q, q = g := ⟨_, rfl⟩
 (try clear kk)
 have hmis : ∀ W, Mp (.int .u32) keyU (fun _ v x => v = encKv x) W km (kup KNo 7 ⟨ty, gR, cG⟩) → (Instr.lookup 59 (.map (some km)) (.int .u32 0) true).run Tryz.prog W = .ok (.tuple #[.agg #[.int .u32 0, .slice none 0 0], .bool false]) W := fun W h => h.miss keysU Tryz.underlying59 Tryz.underlying23 (k := 0) rfl (zeroKv W) true
 have hcl4 : ∀ (W W2 : World), (W.cell? ⟨F, 6, none⟩ = some (.map (some km)) ∧ W.cell? ⟨gI, 2, none⟩ = some (.int .u32 0) ∧ Mp (.int .u32) keyU (fun _ v x => v = encKv x) W km (kup KNo 7 ⟨ty,gR,cG⟩)) → Below W.heap.size W W2 → (W2.cell? ⟨F, 6, none⟩ = some (.map (some km)) ∧ W2.cell? ⟨gI, 2, none⟩ = some (.int .u32 0) ∧ Mp (.int .u32) keyU (fun _ v x => v = encKv x) W2 km (kup KNo 7 ⟨ty,gR,cG⟩)) := fun _ _ h k => ⟨cell_last h.1 (block_lt_of_cell h.1) k, cell_last h.2.1 (block_lt_of_cell h.2.1) k, h.2.2.other (k.block km h.2.2.lt) (fun _ _ e => e)⟩
 replace HO := HO.drew
 have hSw := (⟨HO.cell 3 6 rfl rfl, HO.cell 0 2 rfl rfl, HO.at 2 rfl⟩ : _ ∧ _ ∧ Mp (.int .u32) keyU (fun _ v x => v = encKv x) _ km (kup KNo 7 ⟨ty,gR,cG⟩))
 have hcl := hcl4
 refine wp_region_s (S := fun W => W.cell? ⟨F, 6, none⟩ = some (.map (some km)) ∧ W.cell? ⟨gI, 2, none⟩ = some (.int .u32 0) ∧ Mp (.int .u32) keyU (fun _ v x => v = encKv x) W km (kup KNo 7 ⟨ty,gR,cG⟩)) (by kernel_rfl) ?_
 refine wpS_take hcl (i := 0) (v := ?_) (by simp only [List.getElem?_toArray, List.getElem?_cons_succ, List.getElem?_cons_zero]; rfl) (by kernel_rfl) (by kernel_rfl) (by kernel_rfl) (by exact fun _ _ _ h => h) ⟨by rfl, .inl ?_⟩ hSw ?_
 rotate_left
 ·(intro w hw; go_simp; first | done | with_reducible rfl)
 try simp only [Act.put, zTa, zTz, zTs]
 refine wpS_take hcl (i := 1) (v := ?_) (by simp only [List.getElem?_toArray, List.getElem?_cons_succ, List.getElem?_cons_zero]; rfl) (by kernel_rfl) (by kernel_rfl) (by kernel_rfl) (by exact fun _ _ _ h => h) ⟨by rfl, .inl ?_⟩ hSw ?_
 rotate_left
 ·(intro w hw; go_simp; first | done | with_reducible rfl)
 try simp only [Act.put, zTa, zTz, zTs]
 refine wpS_take hcl (i := 2) (v := ?_) (by simp only [List.getElem?_toArray, List.getElem?_cons_succ, List.getElem?_cons_zero]; rfl) (by kernel_rfl) (by kernel_rfl) (by kernel_rfl) (by exact fun _ _ _ h => h) ⟨by rfl, .inl ?_⟩ hSw ?_
 rotate_left
 ·(intro w hw; go_simp; first | done | with_reducible rfl)
 try simp only [Act.put, zTa, zTz, zTs]
 refine wpS_take hcl (i := 3) (v := ?_) (by simp only [List.getElem?_toArray, List.getElem?_cons_succ, List.getElem?_cons_zero]; rfl) (by kernel_rfl) (by kernel_rfl) (by kernel_rfl) (by exact fun _ _ _ h => h) ⟨by rfl, .inl ?_⟩ hSw ?_
 rotate_left
 ·(intro w hw; have q1 := hw.1; go_simp; first | done | with_reducible rfl)
 try simp only [Act.put, zTa, zTz, zTs]
 refine wpS_take hcl (i := 4) (v := ?_) (by simp only [List.getElem?_toArray, List.getElem?_cons_succ, List.getElem?_cons_zero]; rfl) (by kernel_rfl) (by kernel_rfl) (by kernel_rfl) (by exact fun _ _ _ h => h) ⟨by rfl, .inl ?_⟩ hSw ?_
 rotate_left
 ·(intro w hw; go_simp; first | done | with_reducible rfl)
 try simp only [Act.put, zTa, zTz, zTs]
 refine wpS_take hcl (i := 5) (v := ?_) (by simp only [List.getElem?_toArray, List.getElem?_cons_succ, List.getElem?_cons_zero]; rfl) (by kernel_rfl) (by kernel_rfl) (by kernel_rfl) (by exact fun _ _ _ h => h) ⟨by rfl, .inl ?_⟩ hSw ?_
 rotate_left
 ·(intro w hw; have q1 := hw.2.1; go_simp; first | done | with_reducible rfl)
 try simp only [Act.put, zTa, zTz, zTs]
 refine wpS_take hcl (i := 6) (v := ?_) (by simp only [List.getElem?_toArray, List.getElem?_cons_succ, List.getElem?_cons_zero]; rfl) (by kernel_rfl) (by kernel_rfl) (by kernel_rfl) (by exact fun _ _ _ h => h) ⟨by rfl, .inl ?_⟩ hSw ?_
 rotate_left
 ·(intro w hw; have q1 := hmis _ hw.2.2; go_simp; first | done | with_reducible rfl)
 try simp only [Act.put, zTa, zTz, zTs]
 refine wpS_take hcl (i := 7) (v := ?_) (by simp only [List.getElem?_toArray, List.getElem?_cons_succ, List.getElem?_cons_zero]; rfl) (by kernel_rfl) (by kernel_rfl) (by kernel_rfl) (by exact fun _ _ _ h => h) ⟨by rfl, .inl ?_⟩ hSw ?_
 rotate_left
 ·(intro w hw; go_simp; first | done | with_reducible rfl)
 try simp only [Act.put, zTa, zTz, zTs]
 refine wpS_take hcl (i := 8) (v := ?_) (by simp only [List.getElem?_toArray, List.getElem?_cons_succ, List.getElem?_cons_zero]; rfl) (by kernel_rfl) (by kernel_rfl) (by kernel_rfl) (by exact fun _ _ _ h => h) ⟨by rfl, .inl ?_⟩ hSw ?_
 rotate_left
 ·(intro w hw; go_simp; first | done | with_reducible rfl)
 try simp only [Act.put, zTa, zTz, zTs]
 refine wpS_take hcl (i := 9) (v := ?_) (by simp only [List.getElem?_toArray, List.getElem?_cons_succ, List.getElem?_cons_zero]; rfl) (by kernel_rfl) (by kernel_rfl) (by kernel_rfl) (by exact fun _ _ _ h => h) ⟨by rfl, .inl ?_⟩ hSw ?_
 rotate_left
 ·(intro w hw; go_simp; first | done | with_reducible rfl)
 try simp only [Act.put, zTa, zTz, zTs]
 refine wpS_ready (rs := [10]) (by kernel_rfl) (by simp) (fun W2 hW2 => ?_)
 replace HO := HO.then hW2
 clear hW2 hSw
 refine AllReadyS.cons (by simp only [List.getElem?_toArray, List.getElem?_cons_succ, List.getElem?_cons_zero]; rfl) (fun K hK => ?_) AllReadyS.nil
 go_simp
 have H := HO.alloc (.cells #[.int .u32 0, .slice none 0 0] 61 (0, 0))
 refine hK.out _ _ ⟨H.cell 4 6 rfl rfl, H.cell 1 2 rfl rfl, H.at 3 rfl⟩ ?_
 clear hK K HO
 try simp only [Act.put, zTa, zTz, zTs]
 obtain ⟨gE, hE⟩ : ∃ gE, Hid (gE = W2.heap.size) := ⟨_, hid rfl⟩
 rw [← hE.out] at H ⊢
 refine wpS_ready (rs := [11]) (by kernel_rfl) (by simp) (fun W3 hW3 => ?_)
 have HO := H.then hW3
 clear hW3 H
 have k0 := HO.cells 0 rfl
 have m0 := HO.melt 0 rfl
 refine AllReadyS.cons (by simp only [List.getElem?_toArray, List.getElem?_cons_succ, List.getElem?_cons_zero]; rfl) (fun K hK => ?_) AllReadyS.nil
 go_simp
 have H := (HO.set 0 0 (.int .u32 0) rfl).set 0 1 (.slice none 0 0) rfl
 have hSw := (⟨H.cell 4 6 rfl rfl, H.cell 1 2 rfl rfl, H.at 3 rfl⟩ : _ ∧ _ ∧ Mp (.int .u32) keyU (fun _ v x => v = encKv x) _ km (kup KNo 7 ⟨ty,gR,cG⟩))
 refine hK.out _ _ hSw ?_
 clear hK K k0 m0 HO
 try simp only [Act.put, zTa, zTz, zTs]
 refine wpS_take hcl (i := 12) (v := ?_) (by simp only [List.getElem?_toArray, List.getElem?_cons_succ, List.getElem?_cons_zero]; rfl) (by kernel_rfl) (by kernel_rfl) (by kernel_rfl) (by exact fun _ _ _ h => h) ⟨by rfl, .inl ?_⟩ hSw ?_
 rotate_left
 ·(intro w hw; go_simp; first | done | with_reducible rfl)
 try simp only [Act.put, zTa, zTz, zTs]
 refine wpS_done (by kernel_rfl) (fun W8 hW8 => ?_) _
 have HO := H.then hW8
 clear H hW8 hE hSw hcl hcl4
 simp only [List.set_cons_zero, List.setIfInBounds_toArray, List.set_cons_succ] at HO
 (try simp only [zTz, zTs, zTa, zDs, zDz] at HO); (try have kk := HO.kk)
 have mN := fun W => mkNil W
 go_wp2_with fail
 replace HO := HO.drop 3
 rw [rounds_succ]
 (try simp only [zTz, zTs, zTa, zDs, zDz] at HO); (try have kk := HO.kk)
 go_wp2_with fail
 rw [rounds_succ]
 go_wp2_with fail
 rw [Exit.noGoto_ret]
 refine bodyPost_ret_by (results_none rfl _ _ _) rfl ?_
 obtain ⟨U, u1, u2, u3⟩ := (HO.at 4 rfl : DeepAt _ _ _ _).at_
 have hb := block_lt_of_cell u2.2
 exact ⟨rfl, gR, cG, _, _, HO, Nat.le_trans HZ.out HX.out.1, (World.cell?_of_block (a := ⟨gR, 0, none⟩) (u3 gR u2.1 (by rw [← u1]; exact hb))).trans u2.2⟩
end Go.Proofs.YtindnnbopaeklaaGreatDoor
