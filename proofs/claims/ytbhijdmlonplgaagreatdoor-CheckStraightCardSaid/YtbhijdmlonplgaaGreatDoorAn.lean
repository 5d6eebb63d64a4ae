/- Calls of one function that calls none. -/
import Derived.Test.YtbhijdmlonplgaaGreatDoorAl
import Derived.Deep.DeepCutAuto
import Derived.Laws.EntriesVeiled
namespace Go.Proofs.YtbhijdmlonplgaaGreatDoor
set_option linter.unusedVariables false
set_option linter.unusedSimpArgs false
set_option maxRecDepth 100000
set_option maxHeartbeats 1000000
open Go.RowKit
theorem sort_nil (w : World) : Calls Tryz.prog 78 #[.slice none 0 0] w fun e w' => e = .returned (.tuple #[]) ∧ w' = w := by
 go_enter Tryz.func78, Tryz.ntmps78
 go_wp2
 refine wp_loop_rounds 1 ?_
 rw [rounds_succ]
 go_wp2
 refine wp_loop_rounds 1 ?_
 rw [rounds_succ]
 go_wp2
 go_end0
 go_wp2
 refine bodyPost_ret (results_none rfl _ _ _) rfl ?_
 go_wp2
 go_end0
 exact ⟨rfl, rfl⟩
theorem compact_nil (w : World) : Calls Tryz.prog 79 #[.slice none 0 0] w fun e w' => e = .returned (.slice none 0 0) ∧ w' = w := by
 go_enter Tryz.func79, Tryz.ntmps79
 go_wp2
 go_ret
 exact ⟨rfl, rfl⟩
theorem sorted_one (b o cap : Nat) (w : World) (hc : w.cell? ⟨b, o, none⟩ = some (.slice none 0 0)) : Calls Tryz.prog 47 #[.slice (some ⟨b, o, none⟩) 1 cap] w fun e w' => ∃ g c, e = .returned (.slice (some ⟨g, 0, none⟩) 1 c) ∧ w'.cell? ⟨g, 0, none⟩ = some (.slice none 0 0) ∧ w.heap.size ≤ g ∧ Below w.heap.size w w' := by
 have HO := Own.nil w
 have zb := block_lt_of_cell hc
 have hmk : ∀ W : World, (Instr.makeSlice 125 (.int .i64 0) (.int .i64 1)).run Tryz.prog W = .ok (.slice (some ⟨W.heap.size, 0, none⟩) 0 1) (W.alloc (.cells #[.slice none 0 0] 114)) := fun W => by kernel_rfl
 have h1 := (World.ownsRow_made (base := 0) (e := 114) (size := 1) w #[.slice none 0 0] 1 (Nat.zero_le _) (by unfold maxLen; omega) rfl)
 have HM := hid h1
 go_enter Tryz.func47, Tryz.ntmps47
 go_wp2_with (((with_reducible refine sp_alloc HO ?_); intro g W' hg HO'; rw [← hg.out]; clear hg; clear HO; (try clear kk); have HO := HO'; clear HO'; (try simp only [zTz, zTs, zTa] at HO); (try have kk := HO.kk); skip))
 refine wp_loop_rounds 2 ?_
 rw [rounds_succ]
 have hold := (HO.old b o zb).trans hc
 go_wp2_with (first | ((first | (with_reducible refine sp_al HO ?_; intro g hg; rw [← hg.out]; clear hg) | (with_reducible refine sp_sk HO ?_) | (with_reducible refine sp_skc HO ?_)); intro W' HO'; clear HO; (try clear kk); have HO := HO'; clear HO'; (try simp only [zTz, zTs, zTa] at HO); (try have kk := HO.kk); skip) | (go_at_call 77; (with_reducible refine (clone_nil _ 0).mono ?_); rintro e w1 ⟨rfl, rfl⟩) | (go_at_call 78; (with_reducible refine (sort_nil _).mono ?_); rintro e w1 ⟨rfl, rfl⟩) | (go_at_call 79; (with_reducible refine (compact_nil _).mono ?_); rintro e w1 ⟨rfl, rfl⟩))
 rw [rounds_succ]
 go_wp2_with fail
 go_ret
 exact ⟨_, 1, rfl, HO.cell 1 0 rfl rfl, HO.le 1 rfl, HO.below⟩
theorem cwalk_own (s B1 B2 B3 n cn o c : Nat) (w : World) (hs : w.heap[s]? = some (.cells #[.bool false] 4 (0, 0))) (h1 : w.cell? ⟨B1, 0, none⟩ = some (.slice (some ⟨s, 0, none⟩) 1 c)) (h2 : w.cell? ⟨B2, 0, none⟩ = some (.slice (some ⟨n, o, none⟩) 1 cn)) (h3 : w.cell? ⟨n, o, none⟩ = some (.slice none 0 0)) (e1 : B1 ≠ s) (e2 : B2 ≠ s) (e3 : n ≠ s) :
  Calls Tryz.prog 80 #[.int .i64 0, .pointer (some ⟨B1, 0, none⟩), .pointer (some ⟨B2, 0, none⟩), .pointer (some ⟨B3, 0, none⟩)] w fun e w' => e = .returned (.tuple #[]) ∧ Step (cls s #[.bool false] 4) (cls s #[.bool true] 4) w w' := by
 have HO := Own.start (A := cls s #[.bool false] 4) hs (fun k hk => by cases hk; exact (Array.getElem?_eq_some_iff.1 hs).1)
 (try simp only [zTz, zTs, zTa, zDs, zDz] at HO); (try have kk := HO.kk); skip
 clear hs
 go_enter Tryz.func80, Tryz.ntmps80
 go_wp2_with ((with_reducible refine sp_set 0 HO rfl ?_); intro W2 HO2; clear HO; (try clear kk); have HO := hid HO2; clear HO2; have b1 := HO.out.oldX h1 (show ¬ B1 = s from e1); have b2 := HO.out.oldX h2 (show ¬ B2 = s from e2); have b3 := HO.out.oldX h3 (show ¬ n = s from e3))
 refine wp_loop_rounds 1 ?_
 rw [rounds_succ]
 go_wp2_with fail
 go_end0
 exact ⟨rfl, HO.out.done⟩
theorem closed_own (n cn : Nat) (w : World) (h3 : w.cell? ⟨n, 0, none⟩ = some (.slice none 0 0)) :
  Calls Tryz.prog 48 #[.slice (some ⟨n, 0, none⟩) 1 cn] w fun e w' => ∃ g s, e = .returned (.slice (some ⟨g, 0, none⟩) 1 1) ∧ w.heap.size ≤ g ∧ w.heap.size ≤ s ∧ w'.cell? ⟨g, 0, none⟩ = some (.slice (some ⟨s, 0, none⟩) 1 1) ∧ w'.cell? ⟨s, 0, none⟩ = some (.bool true) ∧ Below w.heap.size w w' := by
 have HO := Own.nil w
 have zn := block_lt_of_cell h3
 have hmk : ∀ W : World, (Instr.makeSlice 128 (.int .i64 1) (.int .i64 1)).run Tryz.prog W = .ok (.slice (some ⟨W.heap.size, 0, none⟩) 1 1) (W.alloc (.cells #[.slice none 0 0] 130)) := fun W => by kernel_rfl
 have hmk2 : ∀ W : World, (Instr.makeSlice 130 (.int .i64 1) (.int .i64 1)).run Tryz.prog W = .ok (.slice (some ⟨W.heap.size, 0, none⟩) 1 1) (W.alloc (.cells #[.bool false] 4)) := fun W => by kernel_rfl
 go_enter Tryz.func48, Tryz.ntmps48
 go_wp2_with (first | ((first | (with_reducible refine sp_al HO ?_; intro g hg; rw [← hg.out]; clear hg) | (with_reducible refine sp_sk HO ?_) | (with_reducible refine sp_skc HO ?_)); intro W' HO'; clear HO; (try clear kk); have HO := HO'; clear HO'; (try simp only [zTz, zTs, zTa] at HO); (try have kk := HO.kk); skip))
 refine wp_loop_rounds 2 ?_
 rw [rounds_succ]
 go_wp2_with (first | ((first | (with_reducible refine sp_al HO ?_; intro g hg; rw [← hg.out]; clear hg) | (with_reducible refine sp_sk HO ?_) | (with_reducible refine sp_skc HO ?_)); intro W' HO'; clear HO; (try clear kk); have HO := HO'; clear HO'; (try simp only [zTz, zTs, zTa] at HO); (try have kk := HO.kk); skip))
 have hcc := fun B3 => cwalk_own _ _ _ B3 n cn 0 1 _ (HO.blk 2 rfl) (HO.cell 1 0 rfl rfl) (HO.cell 4 0 rfl rfl) ((HO.old n 0 zn).trans h3) (HO.ne 1 2 rfl rfl (by omega)) (Ne.symm (HO.ne 2 4 rfl rfl (by omega))) (by have := HO.le 2 rfl; omega)
 refine (hcc _).mono ?_
 rintro e w1 ⟨rfl, hs⟩
 replace HO := HO.step 2 rfl hs
 clear hs hcc hmk hmk2
 (try clear kk); skip
 (try simp only [zTz, zTs, zTa, zDs, zDz] at HO); (try have kk := HO.kk); skip
 go_wp2_with (first | ((first | (with_reducible refine sp_sk HO ?_) | (with_reducible refine sp_skc HO ?_)); intro W' HO'; clear HO; (try clear kk); have HO := HO'; clear HO'; (try simp only [zTz, zTs, zTa] at HO); (try have kk := HO.kk); skip))
 rw [rounds_succ]
 go_wp2_with fail
 go_ret
 exact ⟨_, _, rfl, HO.le 3 rfl, HO.le 2 rfl, HO.cell 3 0 rfl rfl, HO.cell 2 0 rfl rfl, HO.below⟩
end Go.Proofs.YtbhijdmlonplgaaGreatDoor
