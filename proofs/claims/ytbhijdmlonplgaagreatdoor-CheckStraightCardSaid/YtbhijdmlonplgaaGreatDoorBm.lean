/- Face: the closures of faced, decorated, decoration. -/
import Derived.Test.YtbhijdmlonplgaaGreatDoorBj
import Derived.Test.YtbhijdmlonplgaaGreatDoorBi
namespace Go.Proofs.YtbhijdmlonplgaaGreatDoor
set_option linter.unusedVariables false
set_option linter.unusedSimpArgs false
set_option maxRecDepth 100000
set_option maxHeartbeats 2000000
open Go.RowKit Go.MapKept
theorem fface1_own (x : PtD) (w : World) : Calls Tryz.prog 275 #[encPt x] w fun e w' => e = .returned (.bool (x.bi == 0)) ∧ Below w.heap.size w w' := by
 have HO := Own.nil w
 obtain ⟨v, loc, bi, ty, sz, sg⟩ := x
 unfold encPt ptCells
 simp only
 obtain ⟨b, hb⟩ : ∃ b : Bool, Hid ((bi == 0) = b) := ⟨_, hid rfl⟩
 rw [hb.out]
 have h1 := hb.out
 go_enter Tryz.func275, Tryz.ntmps275
 go_wp2_with (first | ((first | (with_reducible refine sp_al HO ?_; intro g hg; rw [← hg.out]; clear hg) | (with_reducible refine sp_alc HO ?_; intro g hg; rw [← hg.out]; clear hg) | (with_reducible refine sp_sk HO ?_) | (with_reducible refine sp_skc HO ?_)); intro W' HO'; clear HO; (try clear kk); have HO := HO'; clear HO'; (try simp only [zTz, zTs, zTa] at HO); (try have kk := HO.kk); skip))
 go_ret
 exact ⟨rfl, HO.below⟩
theorem fport2_own (g cap : Nat) (x y : PtD) (w : World) (h0 : PtAt w g 0 x) (h1 : PtAt w g 6 y) (hx : x.bi ≠ 0) (hy : y.bi = 0) :
  Calls Tryz.prog 274 #[.slice (some ⟨g, 0, none⟩) 2 cap, .func (.func 275) #[] #[]] w fun e w' => e = .returned (.bool true) ∧ Below w.heap.size w w' := by
 have cI : Calls Tryz.prog 306 #[.slice (some ⟨g, 0, none⟩) 2 cap, .func (.func 275) #[] #[]] w fun e w' => e = .returned (.int .i64 1) ∧ Below w.heap.size w w' := by
  have cx := fface1_own x
  have cy := fface1_own y
  obtain ⟨xv, xl, xb, xt, xs, xg⟩ := x
  obtain ⟨yv, yl, yb, yt, ys, yg⟩ := y
  simp only at hx hy
  subst hy
  rw [show (xb == 0) = false by rw [beq_eq_false_iff_ne]; exact hx] at cx
  simp only [beq_self_eq_true] at cy
  unfold encPt ptCells at cx cy
  simp only at cx cy
  obtain ⟨p0, p1, p2, p3, p4, p5⟩ := h0
  obtain ⟨q0, q1, q2, q3, q4, q5⟩ := h1
  simp only [Nat.zero_add, Nat.reduceAdd] at p0 p1 p2 p3 p4 p5 q0 q1 q2 q3 q4 q5
  have zg := block_lt_of_cell p0
  have HO := Own.nil w
  go_enter Tryz.func306, Tryz.ntmps306
  go_wp2_with fail
  refine wp_loop_rounds 3 ?_
  rw [rounds_succ]
  go_wp2_with (first | (go_at_call 275; (with_reducible refine (cx _).mono ?_); rintro e w1 ⟨rfl, hn⟩; replace HO := HO.then hn; clear hn; have ho := Own.old HO))
  rw [rounds_succ]
  go_wp2_with (first | (go_at_call 275; (with_reducible refine (cy _).mono ?_); rintro e w2 ⟨rfl, hn⟩; replace HO := HO.then hn; clear hn))
  go_ret
  exact ⟨rfl, HO.below⟩
 clear h0 h1
 have HO := Own.nil w
 go_enter Tryz.func274, Tryz.ntmps274
 go_wp2_with (first | (go_at_call 306; (with_reducible refine cI.mono ?_); rintro e w1 ⟨rfl, hn⟩; replace HO := HO.then hn; clear hn))
 go_ret
 exact ⟨rfl, HO.below⟩
theorem fdecor1_own (B E K v ml : Nat) (x : PtD) (w : World) (hB : w.cell? ⟨B, 0, none⟩ = some (.pointer (some ⟨K, 0, none⟩))) (hE : w.cell? ⟨E, 0, none⟩ = some (.int .u32 0)) (hx : 0 ≤ x.loc ∨ 0 ≤ x.bi)
  (cP : ∀ W, Below w.heap.size w W → Calls Tryz.prog 145 #[.pointer (some ⟨K, 0, none⟩), .int .u32 v] W fun e w' => e = .returned (encPt x) ∧ Below W.heap.size W w') :
  Calls Tryz.prog 277 #[.int .u32 v, .pointer (some ⟨B, 0, none⟩), .pointer (some ⟨E, 0, none⟩)] w fun e w' => e = .returned (.bool false) ∧ Below w.heap.size w w' := by
 obtain ⟨xv, xl, xb, xt, xs, xg⟩ := x
 unfold encPt ptCells at cP
 simp only at cP hx
 have zB := block_lt_of_cell hB
 have zE := block_lt_of_cell hE
 have HO := Own.nil w
 rcases Int.lt_or_le xl 0 with hl | hl
 ·have hb : 0 ≤ xb := by omega
  clear hx
  go_enter Tryz.func277, Tryz.ntmps277
  go_wp2_with (first | ((first | (with_reducible refine sp_al HO ?_; intro g hg; rw [← hg.out]; clear hg) | (with_reducible refine sp_alc HO ?_; intro g hg; rw [← hg.out]; clear hg) | (with_reducible refine sp_sk HO ?_) | (with_reducible refine sp_skc HO ?_) | (refine sp_wk HO rfl 275 _ _ rfl rfl rfl (by kernel_rfl) (by rfl) (by simp [Value.oneCell']) ?_)); intro W' HO'; clear HO; (try clear kk); have HO := HO'; clear HO'; (try simp only [zTz, zTs, zTa] at HO); (try have kk := HO.kk); skip) | (go_at_call 145; (with_reducible refine (cP _ HO.below).mono ?_); rintro e w1 ⟨rfl, hn⟩; replace HO := HO.then hn; clear hn; (try clear kk); skip; (try simp only [zTz, zTs, zTa, zDs, zDz] at HO); (try have kk := HO.kk); skip))
  go_ret
  exact ⟨congrArg (fun b => Ending.returned (.bool b)) (decide_eq_false (by omega)), HO.below⟩
 ·clear hx
  go_enter Tryz.func277, Tryz.ntmps277
  go_wp2_with (first | ((first | (with_reducible refine sp_al HO ?_; intro g hg; rw [← hg.out]; clear hg) | (with_reducible refine sp_alc HO ?_; intro g hg; rw [← hg.out]; clear hg) | (with_reducible refine sp_sk HO ?_) | (with_reducible refine sp_skc HO ?_) | (refine sp_wk HO rfl 275 _ _ rfl rfl rfl (by kernel_rfl) (by rfl) (by simp [Value.oneCell']) ?_)); intro W' HO'; clear HO; (try clear kk); have HO := HO'; clear HO'; (try simp only [zTz, zTs, zTa] at HO); (try have kk := HO.kk); skip) | (go_at_call 145; (with_reducible refine (cP _ HO.below).mono ?_); rintro e w1 ⟨rfl, hn⟩; replace HO := HO.then hn; clear hn; (try clear kk); skip; (try simp only [zTz, zTs, zTa, zDs, zDz] at HO); (try have kk := HO.kk); skip))
  go_ret
  exact ⟨rfl, HO.below⟩
theorem fdecorf_own (B E ge ec n : Nat) (v : Nat → Nat) (w : World) (hc : ∀ j, j < n → w.cell? ⟨ge, 0 + j, none⟩ = some (.int .u32 (v j))) (hn : n ≤ 1000)
  (cD : ∀ j, j < n → ∀ W, Below w.heap.size w W → Calls Tryz.prog 277 #[.int .u32 (v j), .pointer (some ⟨B, 0, none⟩), .pointer (some ⟨E, 0, none⟩)] W fun e w' => e = .returned (.bool false) ∧ Below W.heap.size W w') :
  Calls Tryz.prog 276 #[.slice (some ⟨ge, 0, none⟩) n ec, .func (.func 277) #[] #[.pointer (some ⟨B, 0, none⟩), .pointer (some ⟨E, 0, none⟩)]] w fun e w' => e = .returned (.bool false) ∧ Below w.heap.size w w' := by
 have cI : Calls Tryz.prog 307 #[.slice (some ⟨ge, 0, none⟩) n ec, .func (.func 277) #[] #[.pointer (some ⟨B, 0, none⟩), .pointer (some ⟨E, 0, none⟩)]] w fun e w' => e = .returned (.int .i64 (-1)) ∧ Below w.heap.size w w' := by
  have HC := hid hc
  have HD := hid cD
  clear hc cD
  go_enter Tryz.func307, Tryz.ntmps307
  go_wp2_with fail
  go_loopw [5, 8] (fun _ x8 wv => ∃ j : Nat, j ≤ n ∧ x8 = .int .i64 j ∧ Below w.heap.size w wv) (fun _ x _ => n - (intOf x).toNat)
  case atStart => exact ⟨0, by omega, rfl, Below.refl _ _⟩
  case round =>
   obtain ⟨j, hj, rfl, hw⟩ := hrel
   by_cases hjl : j < n
   ·have q1 := HC.out j hjl
    have zg := block_lt_of_cell q1
    have q2 := cell_last q1 zg hw
    rw [Nat.zero_add] at q2
    have i7 : (j : Int) < n := by omega
    have cD := HD.out j hjl _ hw
    have HW := hid hw
    have HJ := hid hjl
    clear hw hjl q1
    go_wp2_with (first | (go_at_call 277; (with_reducible refine cD.mono ?_); rintro e w1 ⟨rfl, hn1⟩; replace HW := hid (HW.out.trans (hn1.mono HW.out.size)); clear hn1))
    exact ⟨⟨j + 1, HJ.out, by go_num, HW.out⟩, by have := HJ.out; simp [intOf]; omega⟩
   ·obtain rfl : j = n := by omega
    have i7 : ¬ ((j : Int) < j) := by omega
    go_wp2_with fail
    go_ret
    exact ⟨rfl, hw⟩
 clear hc cD
 have HO := Own.nil w
 go_enter Tryz.func276, Tryz.ntmps276
 go_wp2_with (first | (go_at_call 307; (with_reducible refine cI.mono ?_); rintro e w1 ⟨rfl, hn⟩; replace HO := HO.then hn; clear hn))
 go_ret
 exact ⟨rfl, HO.below⟩
theorem fplaced_own (v : Nat) (hv : v = 30 ∨ v = 11) (w : World) : Calls Tryz.prog 280 #[.int .u32 v] w fun e w' => e = .returned (.bool true) ∧ w' = w := by
 rcases hv with rfl | rfl
 all_goals
  go_enter Tryz.func280, Tryz.ntmps280
  go_wp2_with fail
  go_ret
  exact ⟨rfl, rfl⟩
end Go.Proofs.YtbhijdmlonplgaaGreatDoor
