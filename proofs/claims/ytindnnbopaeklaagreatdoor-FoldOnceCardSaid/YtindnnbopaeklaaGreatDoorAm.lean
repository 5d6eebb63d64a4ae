/- Trees of graphs of one node: New. -/
import Derived.Test.YtindnnbopaeklaaGreatDoorAl
import Derived.Deep.DeepCutAuto
import Derived.Laws.EntriesVeiled
namespace Go.Proofs.YtindnnbopaeklaaGreatDoor
set_option linter.unusedVariables false
set_option linter.unusedSimpArgs false
set_option maxRecDepth 100000
set_option maxHeartbeats 2000000
open Go.RowKit
theorem order_own (G lo : Nat) (w : World) (h : GrIn G lo w) : Calls Tryz.prog 301 #[.pointer (some ⟨G, 0, none⟩)] w fun e w' => ∃ g c, e = .returned (.slice (some ⟨g, 0, none⟩) 1 c) ∧ w'.ownsRow w.heap.size 3 1 (.slice (some ⟨g, 0, none⟩) 1 c) 1 [.int .i64 0] ∧ Below w.heap.size w w' := by
 obtain ⟨n1, n2, od, c1', c2', c4, g0, g1, g3, g4, e1, e2, e3⟩ := h.facts
 have hc := clone_one od 0 c4 0 w e3
 clear h
 go_enter Tryz.func301, Tryz.ntmps301
 go_wp2_with (go_at_call 251; (with_reducible refine hc.mono ?_); rintro e w1 ⟨g, c, rfl, ho, hb⟩; have HO := hid ho; have HB := hid hb; clear ho hb hc)
 go_ret
 exact ⟨g, c, rfl, HO.out, HB.out⟩
theorem rep_in (W : World) (b : Nat) (hc : W.cell? ⟨b, 0, none⟩ = some (.int .i64 (-1))) : Calls Tryz.prog 255 #[.slice (some ⟨b, 0, none⟩) 1 1, .int .i64 1] W fun e w' => ∃ g, e = .returned (.slice (some ⟨g, 0, none⟩) 1 1) ∧ w'.heap[g]? = some (.cells #[.int .i64 (-1)] 3 (0, 0)) ∧ W.heap.size ≤ g ∧ g < w'.heap.size ∧ (∀ k, k < W.heap.size → w'.heap[k]? = W.heap[k]?) ∧ W.heap.size ≤ w'.heap.size ∧ Hid (Below W.heap.size W w') :=
 (repeat_one b (-1) W hc).mono fun e w' h => by
  obtain ⟨g, h1, h2, h3, h4⟩ := h
  exact ⟨g, h1, h2, h3, (Array.getElem?_eq_some_iff.1 h2).1, h4.block, h4.size, h4⟩
structure TrIn (T lo : Nat) (G : Nat) (W : World) : Prop where
 low : lo ≤ T
 at_ : ∃ ov dp rk c1 c2 c3 : Nat, W.heap[T]? = some (.cells #[.pointer (some ⟨G, 0, none⟩), .slice (some ⟨ov, 0, none⟩) 1 c1, .slice (some ⟨dp, 0, none⟩) 1 c2, .slice (some ⟨rk, 0, none⟩) 1 c3] 394 (0, 0)) ∧ lo ≤ ov ∧ lo ≤ dp ∧ W.cell? ⟨ov, 0, none⟩ = some (.int .i64 (-1)) ∧ W.cell? ⟨dp, 0, none⟩ = some (.int .i64 0)
theorem settle_own (T o c : Nat) (w : World) (hc : w.cell? ⟨o, 0, none⟩ = some (.int .i64 0)) : Calls Tryz.prog 302 #[.pointer (some ⟨T, 0, none⟩), .slice (some ⟨o, 0, none⟩) 1 c] w fun e w' => e = .returned (.tuple #[]) ∧ w' = w := by
 go_enter Tryz.func302, Tryz.ntmps302
 go_wp2_with fail
 go_step3
 go_wp2_with fail
 go_step3
 go_wp2_with fail
 refine wp_loop_rounds 1 ?_
 rw [rounds_succ]
 go_wp2_with fail
 refine wp_loop_rounds 2 ?_
 rw [rounds_succ]
 go_wp2_with fail
 rw [rounds_succ]
 go_wp2_with fail
 rw [Exit.noGoto_ret]
 refine bodyPost_ret (results_none rfl _ _ _) rfl ?_
 exact ⟨rfl, rfl⟩
theorem own_alloc_at {X : Nat → Prop} {w W : World} {L : List As} {T : Nat} {o : Obj} (h : Own X w L W) (e : T = W.heap.size) : Own X w (blk T o :: L) (W.alloc o) := by subst e; exact h.alloc o
theorem dnew_own (G lo : Nat) (w : World) (h : GrIn G lo w) : Calls Tryz.prog 261 #[.pointer (some ⟨G, 0, none⟩)] w fun e w' => (∃ T, e = .returned (.tuple #[.pointer (some ⟨T, 0, none⟩), .int .i64 0]) ∧ TrIn T w.heap.size G w') ∧ Below w.heap.size w w' := by
 have c1 := glen_own G lo w h
 have HG := hid h
 have hmk : ∀ W : World, (Instr.makeSlice 91 (.int .i64 1) (.int .i64 1)).run Tryz.prog W = .ok (.slice (some ⟨W.heap.size, 0, none⟩) 1 1) (W.alloc (.cells #[.int .i64 0] 3)) := fun W => by kernel_rfl
 clear h
 go_enter Tryz.func261, Tryz.ntmps261
 go_wp2_with (go_at_call 300; (with_reducible refine c1.mono ?_); rintro e w1 ⟨rfl, rfl⟩)
 go_cut [5] (fun s5 wx => ∃ T ov dp rk, s5 = .pointer (some ⟨T, 0, none⟩) ∧ Own noX w1 [cls T #[.pointer (some ⟨G, 0, none⟩), .slice (some ⟨ov, 0, none⟩) 1 1, .slice (some ⟨dp, 0, none⟩) 1 1, .slice (some ⟨rk, 0, none⟩) 1 1] 394, cls ov #[.int .i64 (-1)] 3, cls dp #[.int .i64 (-1)] 3, cls rk #[.int .i64 0] 3] wx)
 case first =>
  go_region_with (go_at_call 255; (first | (have hB0 := hA4; ((with_reducible refine (rep_in _ _ (by refine (cell_of_row _ _ 0 #[.int .i64 (-1)] 3 (0, 0) ?_).trans rfl; simp (disch := first | omega | (simp only [World.size_alloc, size_drw] <;> omega) | fail) only [heap_old, heap_new, heap_drw, hA4])).mono ?_); rintro e w3 ⟨gB, rfl, hB1, hB2, hB3, hB4, hB5, hB6⟩; (try simp only [World.size_alloc, size_drw] at hB2 hB4 hB5); clear hB0)) | ((with_reducible refine (rep_in _ _ (by refine (cell_of_row _ _ 0 #[.int .i64 (-1)] 3 (0, 0) ?_).trans rfl; simp (disch := first | omega | (simp only [World.size_alloc, size_drw] <;> omega) | fail) only [heap_old, heap_new, heap_drw])).mono ?_); rintro e w2 ⟨gA, rfl, hA1, hA2, hA3, hA4, hA5, hA6⟩; (try simp only [World.size_alloc, size_drw] at hA2 hA4 hA5))))
  all_goals
   go_wp2_with fail
   go_meet
   first
    | refine ⟨_, _, _, _, rfl, own_alloc_at (Own.of_blocks (L := [(_, _), (_, _), (_, _)]) ?_ ?_ ?_) ?_⟩
    | refine ⟨_, _, _, _, rfl, Own.drew (own_alloc_at (Own.of_blocks (L := [(_, _), (_, _), (_, _)]) ?_ ?_ ?_) ?_)⟩
   ·repeat (first | exact Below.refl _ _ | refine below_drw ?_ | refine bal ?_ _ | refine bcall ?_ hA6.out | refine bcall ?_ hB6.out)
   ·intro p hp
    simp only [List.mem_cons, List.not_mem_nil, or_false] at hp
    rcases hp with rfl | rfl | rfl <;> refine ⟨by simp only [World.size_alloc, size_drw, Array.length_toList]; omega, ?_⟩ <;> simp (disch := first | omega | (simp only [World.size_alloc, size_drw, Array.length_toList] <;> omega) | fail) only [heap_old, heap_new, heap_drw, hA1, hB1, hA4, hB4, Array.length_toList]
   ·simp only [List.map_cons, List.map_nil, List.pairwise_cons, List.mem_cons, List.not_mem_nil, or_false, World.size_alloc, size_drw, Array.length_toList, forall_eq_or_imp, forall_eq, false_implies, implies_true, and_true, List.Pairwise.nil]
    omega
   ·simp only [World.size_alloc, size_drw, Array.length_toList]
 case rest =>
 obtain ⟨T, ov, dp, rk, rfl, HO⟩ := hcut
 clear hmk c1
 have cO := order_own G lo wc (HG.out.below HO.below)
 go_wp2_with (go_at_call 301; (with_reducible refine cO.mono ?_); rintro e w2 ⟨g, c, rfl, hg, hb⟩; replace HO := Own.cons (A := rw_ 0 3 1 (.slice (some ⟨g, 0, none⟩) 1 c) 1 [.int .i64 0]) HO hb (fun k hk => by rw [dom_row hk]; exact hg.lt g rfl) (own_wider hg (Nat.zero_le _)); clear hb cO hg; have q0 := HO.rowcell 0 0 rfl rfl; (try simp only [zTz, zTs, zTa, zDs, zDz] at HO); (try have kk := HO.kk))
 refine wp_loop_rounds 2 ?_
 rw [rounds_succ]
 go_wp2_with (first | ((with_reducible first | refine sp_sk HO ?_ | refine sp_skc HO ?_); clear HO; (try clear kk); intro W' HO; (try simp only [zTz, zTs, zTa] at HO); (try have kk := HO.kk)))
 have q0 := HO.rowcell 0 0 rfl rfl
 rw [rounds_succ]
 go_wp2_with (go_at_call 302; (with_reducible refine (settle_own _ _ _ _ q0).mono ?_); rintro e w3 ⟨rfl, rfl⟩)
 refine wp_loop_rounds 2 ?_
 rw [rounds_succ]
 go_wp2_with (first | ((with_reducible first | refine sp_sk HO ?_ | refine sp_skc HO ?_); clear HO; (try clear kk); intro W' HO; (try simp only [zTz, zTs, zTa] at HO); (try have kk := HO.kk)))
 rw [rounds_succ]
 go_wp2_with fail
 go_ret2
 exact ⟨⟨T, rfl, HO.le 1 rfl, ov, dp, rk, 1, 1, 1, HO.blk 1 rfl, HO.le 2 rfl, HO.le 3 rfl, HO.cell 2 0 rfl rfl, HO.cell 3 0 rfl rfl⟩, HO.below⟩
end Go.Proofs.YtindnnbopaeklaaGreatDoor
namespace Go.Proofs.YtindnnbopaeklaaGreatDoor
set_option linter.unusedVariables false
set_option linter.unusedSimpArgs false
set_option maxRecDepth 100000
set_option maxHeartbeats 1000000
open Go.RowKit
theorem sort_nil (w : World) : Calls Tryz.prog 252 #[.slice none 0 0] w fun e w' => e = .returned (.tuple #[]) ∧ w' = w := by
 go_enter Tryz.func252, Tryz.ntmps252
 go_wp2
 refine wp_loop_rounds 1 ?_
 rw [rounds_succ]
 go_wp2
 refine wp_loop_rounds 1 ?_
 rw [rounds_succ]
 go_wp2
 go_end0
 go_wp2
 refine bodyPost_ret (results_none rfl _ _ _) rfl ?_
 go_wp2
 go_end0
 exact ⟨rfl, rfl⟩
theorem compact_nil (w : World) : Calls Tryz.prog 253 #[.slice none 0 0] w fun e w' => e = .returned (.slice none 0 0) ∧ w' = w := by
 go_enter Tryz.func253, Tryz.ntmps253
 go_wp2
 go_ret
 exact ⟨rfl, rfl⟩
theorem sorted_one (b o cap : Nat) (w : World) (hc : w.cell? ⟨b, o, none⟩ = some (.slice none 0 0)) : Calls Tryz.prog 220 #[.slice (some ⟨b, o, none⟩) 1 cap] w fun e w' => ∃ g c, e = .returned (.slice (some ⟨g, 0, none⟩) 1 c) ∧ w'.cell? ⟨g, 0, none⟩ = some (.slice none 0 0) ∧ w.heap.size ≤ g ∧ Below w.heap.size w w' := by
 have HO := Own.nil w
 have zb := block_lt_of_cell hc
 have hmk : ∀ W : World, (Instr.makeSlice 288 (.int .i64 0) (.int .i64 1)).run Tryz.prog W = .ok (.slice (some ⟨W.heap.size, 0, none⟩) 0 1) (W.alloc (.cells #[.slice none 0 0] 91)) := fun W => by kernel_rfl
 have h1 := (World.ownsRow_made (base := 0) (e := 91) (size := 1) w #[.slice none 0 0] 1 (Nat.zero_le _) (by unfold maxLen; omega) rfl)
 have HM := hid h1
 go_enter Tryz.func220, Tryz.ntmps220
 go_wp2_with (((with_reducible refine sp_alloc HO ?_); clear HO; (try clear kk); intro g W' hg HO; rw [← hg.out]; clear hg; (try simp only [zTz, zTs, zTa] at HO); (try have kk := HO.kk)))
 refine wp_loop_rounds 2 ?_
 rw [rounds_succ]
 have hold := (HO.old b o zb).trans hc
 go_wp2_with (first | ((first | (with_reducible refine sp_al HO ?_; intro g hg; rw [← hg.out]; clear hg) | (with_reducible first | refine sp_sk HO ?_ | refine sp_skc HO ?_)); clear HO; (try clear kk); intro W' HO; (try simp only [zTz, zTs, zTa] at HO); (try have kk := HO.kk)) | (go_at_call 251; (with_reducible refine (clone_nil _ 0).mono ?_); rintro e w1 ⟨rfl, rfl⟩) | (go_at_call 252; (with_reducible refine (sort_nil _).mono ?_); rintro e w1 ⟨rfl, rfl⟩) | (go_at_call 253; (with_reducible refine (compact_nil _).mono ?_); rintro e w1 ⟨rfl, rfl⟩))
 rw [rounds_succ]
 go_wp2_with fail
 go_ret
 exact ⟨_, 1, rfl, HO.cell 1 0 rfl rfl, HO.le 1 rfl, HO.below⟩
theorem cwalk_own (s B1 B2 B3 n cn o c : Nat) (w : World) (hs : w.heap[s]? = some (.cells #[.bool false] 4 (0, 0))) (h1 : w.cell? ⟨B1, 0, none⟩ = some (.slice (some ⟨s, 0, none⟩) 1 c)) (h2 : w.cell? ⟨B2, 0, none⟩ = some (.slice (some ⟨n, o, none⟩) 1 cn)) (h3 : w.cell? ⟨n, o, none⟩ = some (.slice none 0 0)) (e1 : B1 ≠ s) (e2 : B2 ≠ s) (e3 : n ≠ s) :
  Calls Tryz.prog 254 #[.int .i64 0, .pointer (some ⟨B1, 0, none⟩), .pointer (some ⟨B2, 0, none⟩), .pointer (some ⟨B3, 0, none⟩)] w fun e w' => e = .returned (.tuple #[]) ∧ Step (cls s #[.bool false] 4) (cls s #[.bool true] 4) w w' := by
 have HO := Own.start (A := cls s #[.bool false] 4) hs (fun k hk => by cases hk; exact (Array.getElem?_eq_some_iff.1 hs).1)
 (try simp only [zTz, zTs, zTa, zDs, zDz] at HO); (try have kk := HO.kk)
 clear hs
 go_enter Tryz.func254, Tryz.ntmps254
 go_wp2_with ((with_reducible refine sp_set 0 HO rfl ?_); intro W2 HO2; clear HO; (try clear kk); have HO := hid HO2; clear HO2; have b1 := HO.out.oldX h1 (show ¬ B1 = s from e1); have b2 := HO.out.oldX h2 (show ¬ B2 = s from e2); have b3 := HO.out.oldX h3 (show ¬ n = s from e3))
 refine wp_loop_rounds 1 ?_
 rw [rounds_succ]
 go_wp2_with fail
 go_end0
 exact ⟨rfl, HO.out.done⟩
theorem closed_own (n cn : Nat) (w : World) (h3 : w.cell? ⟨n, 0, none⟩ = some (.slice none 0 0)) :
  Calls Tryz.prog 221 #[.slice (some ⟨n, 0, none⟩) 1 cn] w fun e w' => ∃ g s, e = .returned (.slice (some ⟨g, 0, none⟩) 1 1) ∧ w.heap.size ≤ g ∧ w.heap.size ≤ s ∧ w'.cell? ⟨g, 0, none⟩ = some (.slice (some ⟨s, 0, none⟩) 1 1) ∧ w'.cell? ⟨s, 0, none⟩ = some (.bool true) ∧ Below w.heap.size w w' := by
 have HO := Own.nil w
 have zn := block_lt_of_cell h3
 have hmk : ∀ W : World, (Instr.makeSlice 291 (.int .i64 1) (.int .i64 1)).run Tryz.prog W = .ok (.slice (some ⟨W.heap.size, 0, none⟩) 1 1) (W.alloc (.cells #[.slice none 0 0] 293)) := fun W => by kernel_rfl
 have hmk2 : ∀ W : World, (Instr.makeSlice 293 (.int .i64 1) (.int .i64 1)).run Tryz.prog W = .ok (.slice (some ⟨W.heap.size, 0, none⟩) 1 1) (W.alloc (.cells #[.bool false] 4)) := fun W => by kernel_rfl
 go_enter Tryz.func221, Tryz.ntmps221
 go_wp2_with (first | ((first | (with_reducible refine sp_al HO ?_; intro g hg; rw [← hg.out]; clear hg) | (with_reducible first | refine sp_sk HO ?_ | refine sp_skc HO ?_)); clear HO; (try clear kk); intro W' HO; (try simp only [zTz, zTs, zTa] at HO); (try have kk := HO.kk)))
 refine wp_loop_rounds 2 ?_
 rw [rounds_succ]
 go_wp2_with (first | ((first | (with_reducible refine sp_al HO ?_; intro g hg; rw [← hg.out]; clear hg) | (with_reducible first | refine sp_sk HO ?_ | refine sp_skc HO ?_)); clear HO; (try clear kk); intro W' HO; (try simp only [zTz, zTs, zTa] at HO); (try have kk := HO.kk)))
 have hcc := fun B3 => cwalk_own _ _ _ B3 n cn 0 1 _ (HO.blk 2 rfl) (HO.cell 1 0 rfl rfl) (HO.cell 4 0 rfl rfl) ((HO.old n 0 zn).trans h3) (HO.ne 1 2 rfl rfl (by omega)) (Ne.symm (HO.ne 2 4 rfl rfl (by omega))) (by have := HO.le 2 rfl; omega)
 refine (hcc _).mono ?_
 rintro e w1 ⟨rfl, hs⟩
 replace HO := HO.step 2 rfl hs
 clear hs hcc hmk hmk2
 (try clear kk)
 (try simp only [zTz, zTs, zTa, zDs, zDz] at HO); (try have kk := HO.kk)
 go_wp2_with (first | ((with_reducible first | refine sp_sk HO ?_ | refine sp_skc HO ?_); clear HO; (try clear kk); intro W' HO; (try simp only [zTz, zTs, zTa] at HO); (try have kk := HO.kk)))
 rw [rounds_succ]
 go_wp2_with fail
 go_ret
 exact ⟨_, _, rfl, HO.le 3 rfl, HO.le 2 rfl, HO.cell 3 0 rfl rfl, HO.cell 2 0 rfl rfl, HO.below⟩
end Go.Proofs.YtindnnbopaeklaaGreatDoor
