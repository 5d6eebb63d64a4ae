/- Trees of graphs of one node: New. -/
import Derived.Test.YtbhijdmlonplgaaGreatDoorAl
namespace Go.Proofs.YtbhijdmlonplgaaGreatDoor
set_option linter.unusedVariables false
set_option linter.unusedSimpArgs false
set_option maxRecDepth 100000
set_option maxHeartbeats 2000000
open Go.RowKit
theorem order_own (G lo : Nat) (w : World) (h : GrIn G lo w) : Calls Tryz.prog 140 #[.pointer (some ⟨G, 0, none⟩)] w fun e w' => ∃ g c, e = .returned (.slice (some ⟨g, 0, none⟩) 1 c) ∧ w'.ownsRow w.heap.size 3 1 (.slice (some ⟨g, 0, none⟩) 1 c) 1 [.int .i64 0] ∧ Below w.heap.size w w' := by
 obtain ⟨n1, n2, od, c1', c2', c4, g0, g1, g3, g4, e1, e2, e3⟩ := h.facts
 have hc := clone_one od 0 c4 0 w e3
 clear h
 go_enter Tryz.func140, Tryz.ntmps140
 go_wp2_with (go_at_call 77; (with_reducible refine hc.mono ?_); rintro e w1 ⟨g, c, rfl, ho, hb⟩; have HO := hid ho; have HB := hid hb; clear ho hb hc)
 go_ret
 exact ⟨g, c, rfl, HO.out, HB.out⟩
theorem rep_in (W : World) (b : Nat) (hc : W.cell? ⟨b, 0, none⟩ = some (.int .i64 (-1))) : Calls Tryz.prog 81 #[.slice (some ⟨b, 0, none⟩) 1 1, .int .i64 1] W fun e w' => ∃ g, e = .returned (.slice (some ⟨g, 0, none⟩) 1 1) ∧ w'.heap[g]? = some (.cells #[.int .i64 (-1)] 3 (0, 0)) ∧ W.heap.size ≤ g ∧ g < w'.heap.size ∧ (∀ k, k < W.heap.size → w'.heap[k]? = W.heap[k]?) ∧ W.heap.size ≤ w'.heap.size ∧ Hid (Below W.heap.size W w') :=
 (repeat_one b (-1) W hc).mono fun e w' h => by
  obtain ⟨g, h1, h2, h3, h4⟩ := h
  exact ⟨g, h1, h2, h3, (Array.getElem?_eq_some_iff.1 h2).1, h4.block, h4.size, h4⟩
structure TrIn (T lo : Nat) (G : Nat) (W : World) : Prop where
 low : lo ≤ T
 at_ : ∃ ov dp rk c1 c2 c3 : Nat, W.heap[T]? = some (.cells #[.pointer (some ⟨G, 0, none⟩), .slice (some ⟨ov, 0, none⟩) 1 c1, .slice (some ⟨dp, 0, none⟩) 1 c2, .slice (some ⟨rk, 0, none⟩) 1 c3] 261 (0, 0)) ∧ lo ≤ ov ∧ lo ≤ dp ∧ W.cell? ⟨ov, 0, none⟩ = some (.int .i64 (-1)) ∧ W.cell? ⟨dp, 0, none⟩ = some (.int .i64 0)
theorem settle_own (T o c : Nat) (w : World) (hc : w.cell? ⟨o, 0, none⟩ = some (.int .i64 0)) : Calls Tryz.prog 141 #[.pointer (some ⟨T, 0, none⟩), .slice (some ⟨o, 0, none⟩) 1 c] w fun e w' => e = .returned (.tuple #[]) ∧ w' = w := by
 go_enter Tryz.func141, Tryz.ntmps141
 go_wp2_with fail
 go_step3
 go_wp2_with fail
 go_step3
 go_wp2_with fail
 refine wp_loop_rounds 1 ?_
 rw [rounds_succ]
 go_wp2_with fail
 refine wp_loop_rounds 2 ?_
 rw [rounds_succ]
 go_wp2_with fail
 rw [rounds_succ]
 go_wp2_with fail
 rw [Exit.noGoto_ret]
 refine bodyPost_ret (results_none rfl _ _ _) rfl ?_
 exact ⟨rfl, rfl⟩
theorem own_alloc_at {X : Nat → Prop} {w W : World} {L : List As} {T : Nat} {o : Obj} (h : Own X w L W) (e : T = W.heap.size) : Own X w (blk T o :: L) (W.alloc o) := by subst e; exact h.alloc o
theorem dnew_own (G lo : Nat) (w : World) (h : GrIn G lo w) : Calls Tryz.prog 88 #[.pointer (some ⟨G, 0, none⟩)] w fun e w' => (∃ T, e = .returned (.tuple #[.pointer (some ⟨T, 0, none⟩), .int .i64 0]) ∧ TrIn T w.heap.size G w') ∧ Below w.heap.size w w' := by
 have c1 := glen_own G lo w h
 have HG := hid h
 have hmk : ∀ W : World, (Instr.makeSlice 114 (.int .i64 1) (.int .i64 1)).run Tryz.prog W = .ok (.slice (some ⟨W.heap.size, 0, none⟩) 1 1) (W.alloc (.cells #[.int .i64 0] 3)) := fun W => by kernel_rfl
 clear h
 go_enter Tryz.func88, Tryz.ntmps88
 go_wp2_with (go_at_call 139; (with_reducible refine c1.mono ?_); rintro e w1 ⟨rfl, rfl⟩)
 go_cut [5] (fun s5 wx => ∃ T ov dp rk, s5 = .pointer (some ⟨T, 0, none⟩) ∧ Own noX w1 [cls T #[.pointer (some ⟨G, 0, none⟩), .slice (some ⟨ov, 0, none⟩) 1 1, .slice (some ⟨dp, 0, none⟩) 1 1, .slice (some ⟨rk, 0, none⟩) 1 1] 261, cls ov #[.int .i64 (-1)] 3, cls dp #[.int .i64 (-1)] 3, cls rk #[.int .i64 0] 3] wx)
 case first =>
  go_region_with (go_at_call 81; (first | (have hB0 := hA4; ((with_reducible refine (rep_in _ _ (by refine (cell_of_row _ _ 0 #[.int .i64 (-1)] 3 (0, 0) ?_).trans rfl; simp (disch := first | omega | (simp only [World.size_alloc, size_drw] <;> omega) | fail) only [heap_old, heap_new, heap_drw, hA4])).mono ?_); rintro e w3 ⟨gB, rfl, hB1, hB2, hB3, hB4, hB5, hB6⟩; (try simp only [World.size_alloc, size_drw] at hB2 hB4 hB5); clear hB0)) | ((with_reducible refine (rep_in _ _ (by refine (cell_of_row _ _ 0 #[.int .i64 (-1)] 3 (0, 0) ?_).trans rfl; simp (disch := first | omega | (simp only [World.size_alloc, size_drw] <;> omega) | fail) only [heap_old, heap_new, heap_drw])).mono ?_); rintro e w2 ⟨gA, rfl, hA1, hA2, hA3, hA4, hA5, hA6⟩; (try simp only [World.size_alloc, size_drw] at hA2 hA4 hA5))))
  all_goals
   go_wp2_with fail
   go_meet
   first
    | refine ⟨_, _, _, _, rfl, own_alloc_at (Own.of_blocks (L := [(_, _), (_, _), (_, _)]) ?_ ?_ ?_) ?_⟩
    | refine ⟨_, _, _, _, rfl, Own.drew (own_alloc_at (Own.of_blocks (L := [(_, _), (_, _), (_, _)]) ?_ ?_ ?_) ?_)⟩
   ·repeat (first | exact Below.refl _ _ | refine below_drw ?_ | refine bal ?_ _ | refine bcall ?_ hA6.out | refine bcall ?_ hB6.out)
   ·intro p hp
    simp only [List.mem_cons, List.not_mem_nil, or_false] at hp
    rcases hp with rfl | rfl | rfl <;> refine ⟨by simp only [World.size_alloc, size_drw, Array.length_toList]; omega, ?_⟩ <;> simp (disch := first | omega | (simp only [World.size_alloc, size_drw, Array.length_toList] <;> omega) | fail) only [heap_old, heap_new, heap_drw, hA1, hB1, hA4, hB4, Array.length_toList]
   ·simp only [List.map_cons, List.map_nil, List.pairwise_cons, List.mem_cons, List.not_mem_nil, or_false, World.size_alloc, size_drw, Array.length_toList, forall_eq_or_imp, forall_eq, false_implies, implies_true, and_true, List.Pairwise.nil]
    omega
   ·simp only [World.size_alloc, size_drw, Array.length_toList]
 case rest =>
 obtain ⟨T, ov, dp, rk, rfl, HO⟩ := hcut
 clear hmk c1
 have cO := order_own G lo wc (HG.out.below HO.below)
 go_wp2_with (go_at_call 140; (with_reducible refine cO.mono ?_); rintro e w2 ⟨g, c, rfl, hg, hb⟩; replace HO := Own.cons (A := rw_ 0 3 1 (.slice (some ⟨g, 0, none⟩) 1 c) 1 [.int .i64 0]) HO hb (fun k hk => by rw [dom_row hk]; exact hg.lt g rfl) (own_wider hg (Nat.zero_le _)); clear hb cO hg; have q0 := HO.rowcell 0 0 rfl rfl; (try simp only [zTz, zTs, zTa, zDs, zDz] at HO); (try have kk := HO.kk); skip)
 refine wp_loop_rounds 2 ?_
 rw [rounds_succ]
 go_wp2_with (first | ((first | (with_reducible refine sp_sk HO ?_) | (with_reducible refine sp_skc HO ?_)); intro W' HO'; clear HO; (try clear kk); have HO := HO'; clear HO'; (try simp only [zTz, zTs, zTa] at HO); (try have kk := HO.kk); skip))
 have q0 := HO.rowcell 0 0 rfl rfl
 rw [rounds_succ]
 go_wp2_with (go_at_call 141; (with_reducible refine (settle_own _ _ _ _ q0).mono ?_); rintro e w3 ⟨rfl, rfl⟩)
 refine wp_loop_rounds 2 ?_
 rw [rounds_succ]
 go_wp2_with (first | ((first | (with_reducible refine sp_sk HO ?_) | (with_reducible refine sp_skc HO ?_)); intro W' HO'; clear HO; (try clear kk); have HO := HO'; clear HO'; (try simp only [zTz, zTs, zTa] at HO); (try have kk := HO.kk); skip))
 rw [rounds_succ]
 go_wp2_with fail
 go_ret2
 exact ⟨⟨T, rfl, HO.le 1 rfl, ov, dp, rk, 1, 1, 1, HO.blk 1 rfl, HO.le 2 rfl, HO.le 3 rfl, HO.cell 2 0 rfl rfl, HO.cell 3 0 rfl rfl⟩, HO.below⟩
end Go.Proofs.YtbhijdmlonplgaaGreatDoor
