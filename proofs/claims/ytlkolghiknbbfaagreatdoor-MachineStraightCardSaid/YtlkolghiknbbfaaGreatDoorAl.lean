/- A graph of one node, as it lies; small readers of it. -/
import Derived.Test.YtlkolghiknbbfaaGreatDoorAf
import Derived.Test.YtlkolghiknbbfaaGreatDoorAh
set_option linter.unusedVariables false
set_option linter.unusedSimpArgs false
set_option maxRecDepth 100000
set_option maxHeartbeats 4000000
namespace Go.Proofs.YtlkolghiknbbfaaGreatDoor
open Go.RowKit
structure eZ (G lo : Nat) (W : World) : Prop where
 low : lo ≤ G
 at_ : ∃ (cs : Array Value) (n1 n2 wk od c1 c2 c3 c4 : Nat), W.heap[G]? = some (.cells cs 453 (0, 0)) ∧
  cs[0]? = some (.slice (some ⟨n1, 0, none⟩) 1 c1) ∧ cs[1]? = some (.slice (some ⟨n2, 0, none⟩) 1 c2) ∧ cs[2]? = some (.slice (some ⟨wk, 0, none⟩) 1 c3) ∧ cs[3]? = some (.slice (some ⟨od, 0, none⟩) 1 c4) ∧ cs[4]? = some (.int .u64 1) ∧
  lo ≤ n1 ∧ lo ≤ n2 ∧ lo ≤ od ∧ W.cell? ⟨n1, 0, none⟩ = some (.slice none 0 0) ∧ W.cell? ⟨n2, 0, none⟩ = some (.slice none 0 0) ∧ W.cell? ⟨od, 0, none⟩ = some (.int .i64 0)
theorem eZ.keep {G lo : Nat} {W W' : World} (h : eZ G lo W) (hk : ∀ k, lo ≤ k → k < W.heap.size → W'.heap[k]? = W.heap[k]?) : eZ G lo W' := by
 obtain ⟨cs, n1, n2, wk, od, c1, c2, c3, c4, h1, h2, h3, h4, h5, h6, l1, l2, l3, e1, e2, e3⟩ := h.at_;have hc : ∀ b j v, lo ≤ b → W.cell? ⟨b, j, none⟩ = some v → W'.cell? ⟨b, j, none⟩ = some v := fun b j v hb hv => (World.cell?_of_block (a := ⟨b, j, none⟩) (hk b hb (block_lt_of_cell hv))).trans hv
 exact ⟨h.low, cs, n1, n2, wk, od, c1, c2, c3, c4, (hk G h.low (Array.getElem?_eq_some_iff.1 h1).1).trans h1, h2, h3, h4, h5, h6, l1, l2, l3, hc _ _ _ l1 e1, hc _ _ _ l2 e2, hc _ _ _ l3 e3⟩
theorem eZ.below {G lo : Nat} {W W' : World} (h : eZ G lo W) (hb : Bl W W') : eZ G lo W' := h.keep (fun k _ hk => hb.block k hk)
theorem eZ.keeps (G : Nat) : jo (eZ G) := fun _ _ _ h hk => h.keep hk
theorem eZ.facts {G lo : Nat} {W : World} (h : eZ G lo W) : ∃ n1 n2 od c1 c2 c4 : Nat, W.cell? ⟨G, 0, none⟩ = some (.slice (some ⟨n1, 0, none⟩) 1 c1) ∧ W.cell? ⟨G, 1, none⟩ = some (.slice (some ⟨n2, 0, none⟩) 1 c2) ∧ W.cell? ⟨G, 3, none⟩ = some (.slice (some ⟨od, 0, none⟩) 1 c4) ∧ W.cell? ⟨G, 4, none⟩ = some (.int .u64 1) ∧ W.cell? ⟨n1, 0, none⟩ = some (.slice none 0 0) ∧ W.cell? ⟨n2, 0, none⟩ = some (.slice none 0 0) ∧ W.cell? ⟨od, 0, none⟩ = some (.int .i64 0) := by
 obtain ⟨cs, n1, n2, wk, od, c1, c2, c3, c4, h1, h2, h3, h4, h5, h6, l1, l2, l3, e1, e2, e3⟩ := h.at_;exact ⟨n1, n2, od, c1, c2, c4, (cell_of_row _ _ _ _ _ _ h1).trans h2, (cell_of_row _ _ _ _ _ _ h1).trans h3, (cell_of_row _ _ _ _ _ _ h1).trans h5, (cell_of_row _ _ _ _ _ _ h1).trans h6, e1, e2, e3⟩
theorem oL (G lo : Nat) (w : World) (h : eZ G lo w) : Calls Tryz.prog 367 #[.pointer (some ⟨G, 0, none⟩)] w fun e w' => e = .returned (.int .i64 1) ∧ w' = w := by
 obtain ⟨n1, n2, od, c1, c2, c4, g0, g1, g3, g4, e1, e2, e3⟩ := h.facts;go_enter Tryz.func367, Tryz.ntmps367;go_wp2;go_ret;exact ⟨rfl, rfl⟩
theorem xE (G lo : Nat) (w : World) (h : eZ G lo w) : Calls Tryz.prog 423 #[.pointer (some ⟨G, 0, none⟩), .int .i64 0] w fun e w' => e = .returned (.bool true) ∧ w' = w := by
 have c1 := oL G lo w h;clear h;go_enter Tryz.func423, Tryz.ntmps423;go_wp2_with (go_at_call 367; (with_reducible refine c1.mono ?_); rintro e w1 ⟨rfl, rfl⟩);go_ret;exact ⟨rfl, rfl⟩
theorem nil_eq (W : World) : (binOp .eql 128 (.slice none 0 0) (.slice none 0 0)).run Tryz.prog W = .ok (.bool true) W := by kernel_rfl
theorem Oe (a : Addr) (n c : Nat) (W : World) : (binOp .eql 128 (.slice (some a) n c) (.slice none 0 0)).run Tryz.prog W = .ok (.bool false) W := by kernel_rfl
theorem qh (w : World) (cap : Nat) : Calls Tryz.prog 133 #[.slice none 0 0] w fun e w' => e = .returned (.slice none 0 0) ∧ w' = w := by
 have hq := nil_eq w;go_enter Tryz.func133, Tryz.ntmps133;go_wp2;go_ret;exact ⟨rfl, rfl⟩
theorem mQ (G lo : Nat) (w : World) (h : eZ G lo w) : Calls Tryz.prog 383 #[.pointer (some ⟨G, 0, none⟩), .int .i64 0] w fun e w' => e = .returned (.slice none 0 0) ∧ w' = w := by
 have c1 := xE G lo w h;have c2 := qh w 0;obtain ⟨n1, n2, od, c1', c2', c4, g0, g1, g3, g4, e1, e2, e3⟩ := h.facts;clear h;go_enter Tryz.func383, Tryz.ntmps383;go_wp2_with (first | (go_at_call 423; (with_reducible refine c1.mono ?_); rintro e w1 ⟨rfl, rfl⟩) | (go_at_call 133; (with_reducible refine c2.mono ?_); rintro e w1 ⟨rfl, rfl⟩));go_ret;exact ⟨rfl, rfl⟩
theorem DC (G lo : Nat) (w : World) (h : eZ G lo w) : Calls Tryz.prog 410 #[.pointer (some ⟨G, 0, none⟩), .int .i64 0] w fun e w' => e = .returned (.slice none 0 0) ∧ w' = w := by
 have c1 := xE G lo w h;have c2 := qh w 0;obtain ⟨n1, n2, od, c1', c2', c4, g0, g1, g3, g4, e1, e2, e3⟩ := h.facts;clear h;go_enter Tryz.func410, Tryz.ntmps410;go_wp2_with (first | (go_at_call 423; (with_reducible refine c1.mono ?_); rintro e w1 ⟨rfl, rfl⟩) | (go_at_call 133; (with_reducible refine c2.mono ?_); rintro e w1 ⟨rfl, rfl⟩));go_ret;exact ⟨rfl, rfl⟩
theorem GJ (G : Nat) (w : World) (h4 : w.cell? ⟨G, 4, none⟩ = some (.int .u64 1)) :
  Calls Tryz.prog 348 #[.pointer (some ⟨G, 4, none⟩), .int .i64 0] w fun e w' => e = .returned (.bool true) ∧ w' = w := by
 go_enter Tryz.func348, Tryz.ntmps348;go_wp2;go_ret;exact ⟨rfl, rfl⟩
theorem lc (G lo : Nat) (w : World) (h : eZ G lo w) : Calls Tryz.prog 390 #[.pointer (some ⟨G, 0, none⟩), .int .i64 0] w fun e w' => e = .returned (.bool true) ∧ w' = w := by
 have c1 := xE G lo w h;obtain ⟨n1, n2, od, c1', c2', c4, g0, g1, g3, g4, e1, e2, e3⟩ := h.facts;have c2 := GJ G w g4;clear h;go_enter Tryz.func390, Tryz.ntmps390;go_wp2_with (first | (go_at_call 423; (with_reducible refine c1.mono ?_); rintro e w1 ⟨rfl, rfl⟩) | (go_at_call 348; (with_reducible refine c2.mono ?_); rintro e w1 ⟨rfl, rfl⟩));go_ret;exact ⟨rfl, rfl⟩
theorem JB : ∃ i, Tryz.prog.info? 3 = some i ∧ i.zero = some (.int .i64 0) ∧ i.size = 1 ∧ i.bytes = 8 := info_parts (by kernel_rfl)
theorem Gw (b o cap : Nat) (x : Int) (w : World) (hc : w.cell? ⟨b, o, none⟩ = some (.int .i64 x)) : Calls Tryz.prog 133 #[.slice (some ⟨b, o, none⟩) 1 cap] w fun e w' => ∃ g c, e = .returned (.slice (some ⟨g, 0, none⟩) 1 c) ∧ w'.ownsRow w.heap.size 3 1 (.slice (some ⟨g, 0, none⟩) 1 c) 1 [.int .i64 x] ∧ Bl w w' := by
 have zb := block_lt_of_cell hc;obtain ⟨i, hi1, hi2, hi3, hi4⟩ := JB;have hq := Oe ⟨b, o, none⟩ 1 cap w;have hc2 : (w.alloc (.cells #[] 3)).cell? ⟨b, o, none⟩ = some (.int .i64 x) := ae hc zb (bP (Below.refl _ w) _);go_enter Tryz.func133, Tryz.ntmps133;go_wp2_with ((with_reducible refine aA ?_); refine wpList_append_lies (w.alloc (.cells #[] 3)) rfl (.tmp 5) (.tmp 6) 128 rfl w.heap.size 3 _ _ 1 8 Tryz.underlying128 hi1 hi2 hi3 hi4 rfl (by omega) (.slice (some ⟨w.heap.size, 0, none⟩) 0 0) 0 [] rfl (World.ownsRow_made w #[] 0 (Nat.le_refl _) (by unfold maxLen; omega) rfl) ⟨b, o, none⟩ 1 cap [.int .i64 x] rfl rfl ?_ (by simp [Value.oneCell']) (by omega) (by unfold maxLen; omega) (by omega) (by simp) _ rfl ?_; (intro j u hu; rcases j with _ | j; (cases hu; rw [bH]; exact hc2); (simp at hu)); intro g c w2 q1 q2 q3 q4; have Q1 := hid q1; have Q2 := hid ((bP (Below.refl _ w) (.cells #[] 3)).grown q2 (by simp) (fun k e => by cases e; exact Nat.le_refl _)); clear q1 q2 q3 q4);go_ret;exact ⟨g, c, rfl, Q1.out, Q2.out⟩
end Go.Proofs.YtlkolghiknbbfaaGreatDoor
namespace Go.Proofs.YtlkolghiknbbfaaGreatDoor
open Go.RowKit
theorem Fx (G : Nat) (cs : Array Value) (w : World) (h : w.heap[G]? = some (.cells cs 453 (0, 0))) (h4 : cs[4]? = some (.int .u64 0)) :
  Calls Tryz.prog 349 #[.pointer (some ⟨G, 4, none⟩), .int .i64 0] w fun e w' => e = .returned (.tuple #[]) ∧ Step (aP G cs 453) (aP G (cs.setIfInBounds 4 (.int .u64 1)) 453) w w' := by
 have HO := Own.start (A := aP G cs 453) h (fun k hk => by cases hk; exact (Array.getElem?_eq_some_iff.1 h).1);(try simp only [yD] at HO); have kk := HO.kk;clear h;go_enter Tryz.func349, Tryz.ntmps349;go_region;go_end0;exact ⟨rfl, ((HO.set 0 4 _ rfl).drew).done⟩
abbrev DX (base g c : Nat) (x : Int) : As := bM base 3 1 (.slice (some ⟨g, 0, none⟩) 1 c) 1 [.int .i64 x]
set_option maxRecDepth 100000 in
set_option maxHeartbeats 1000000 in
theorem IG (G n1 B1 B2 c1 cx : Nat) (x : Option Addr) (cs : Array Value) (w : World) (h : w.heap[G]? = some (.cells cs 453 (0, 0))) (h0 : cs[0]? = some (.slice (some ⟨n1, 0, none⟩) 1 c1)) (h2 : cs[2]? = some (.slice none 0 0)) (h3 : cs[3]? = some (.slice none 0 0)) (h4 : cs[4]? = some (.int .u64 0))
  (hn : w.cell? ⟨n1, 0, none⟩ = some (.slice x 0 cx)) (hnG : n1 ≠ G) (hB : w.cell? ⟨B1, 0, none⟩ = some (.pointer (some ⟨G, 0, none⟩))) (hBG : B1 ≠ G) :
  Calls Tryz.prog 380 #[.int .i64 0, .pointer (some ⟨B1, 0, none⟩), .pointer (some ⟨B2, 0, none⟩)] w fun e w' => e = .returned (.tuple #[]) ∧
   ∃ g c g' c', Step (aP G cs 453) (((aP G (((cs.setIfInBounds 4 (.int .u64 1)).setIfInBounds 2 (.slice (some ⟨g, 0, none⟩) 1 c)).setIfInBounds 3 (.slice (some ⟨g', 0, none⟩) 1 c')) 453).and (DX 0 g c 0)).and (DX 0 g' c' 0)) w w' := by
 have HO := Own.start (A := aP G cs 453) h (fun k hk => by cases hk; exact (Array.getElem?_eq_some_iff.1 h).1);(try simp only [yD] at HO); have kk := HO.kk;have cA := Fx G cs w h h4;clear h;go_enter Tryz.func380, Tryz.ntmps380;go_wp2_with (go_at_call 349; (with_reducible refine cA.mono ?_); rintro e w1 ⟨rfl, hs⟩; replace HO := HO.step 0 rfl hs);clear cA;(try clear kk);have b1 := HO.oldX hB (show ¬ B1 = G from hBG);have n0 := HO.oldX hn (show ¬ n1 = G from hnG);have g2 := HO.cell 0 2 rfl (show (cs.setIfInBounds 4 (.int .u64 1))[2]? = some (.slice none 0 0) by simpa using h2);have f2 := HO.melt 0 rfl 2;have HS := hid HO;have zG := HO.lt 0 rfl;have zB : B1 < w1.heap.size := block_lt_of_cell b1;clear hs HO;go_cut [11] (fun _ wx => ∃ g c, Own (aP G cs 453).dom w [DX 0 g c 0, aP G ((cs.setIfInBounds 4 (.int .u64 1)).setIfInBounds 2 (.slice (some ⟨g, 0, none⟩) 1 c)) 453] wx)
 case first =>
  go_region_law (refine mI (w := (w1.alloc (.cells #[.int .i64 0] 3)).drew) pI rfl (.tmp 15) (.tmp 17) rfl ?_ #[.int .i64 0] w1.heap.size ?_ ?_ rfl ?_ ?_ ?_; (first | rfl | simp [Act.eval, Act.put]); (first | rfl | simp [Act.eval, Act.put]); exact alloc_at w1 _; simp [Value.oneCell']; omega; intro g5 p5 w5 q1 q2 q3 q4; have HO := Own.cons (A := DX 0 g5 p5 0) ((HS.out.alloc (.cells #[.int .i64 0] 3)).drew) q2 (fun k hk => by rw [xL hk]; exact ⟨Nat.le_of_eq q3.symm, q4⟩) (kC q1 (Nat.zero_le _)); replace HO := HO.sub (List.Sublist.cons_cons _ (List.Sublist.cons _ (List.Sublist.refl _))); have g2' := HO.cell 1 2 rfl (show (cs.setIfInBounds 4 (.int .u64 1))[2]? = some (.slice none 0 0) by simpa using h2); have f2' := HO.melt 1 rfl 2; have b1' := HO.oldX hB (show ¬ B1 = G from hBG); clear q1 q2 q3 q4)
  all_goals
   go_wp2_with fail;go_meet;exact ⟨g5, p5, HO.set 1 2 _ rfl⟩
 case rest =>
 obtain ⟨g, c, HO⟩ := hcut;clear b1 n0 g2 f2 zG zB HS;have b1 := HO.oldX hB (show ¬ B1 = G from hBG);have n0 := HO.oldX hn (show ¬ n1 = G from hnG);have g0 := HO.cell 1 0 rfl (show ((cs.setIfInBounds 4 (.int .u64 1)).setIfInBounds 2 (.slice (some ⟨g, 0, none⟩) 1 c))[0]? = some (.slice (some ⟨n1, 0, none⟩) 1 c1) by simpa using h0);have HS := hid HO;clear HO;go_wp2;refine wp_loop_rounds 1 ?_;rw [rounds_succ];go_wp2;have HO := HS.out;have g3 := HO.cell 1 3 rfl (show ((cs.setIfInBounds 4 (.int .u64 1)).setIfInBounds 2 (.slice (some ⟨g, 0, none⟩) 1 c))[3]? = some (.slice none 0 0) by simpa using h3);have f3 := HO.melt 1 rfl 3;have zG := HO.lt 1 rfl;have zB : B1 < wc.heap.size := block_lt_of_cell b1;clear HO g0 n0;go_region_law (refine mI (w := (wc.alloc (.cells #[.int .i64 0] 3)).drew) pI rfl (.tmp 47) (.tmp 49) rfl ?_ #[.int .i64 0] wc.heap.size ?_ ?_ rfl ?_ ?_ ?_; (first | rfl | simp [Act.eval, Act.put]); (first | rfl | simp [Act.eval, Act.put]); exact alloc_at wc _; simp [Value.oneCell']; omega; intro g5 p5 w5 q1 q2 q3 q4; have HO := Own.cons (A := DX 0 g5 p5 0) ((HS.out.alloc (.cells #[.int .i64 0] 3)).drew) q2 (fun k hk => by rw [xL hk]; exact ⟨Nat.le_of_eq q3.symm, q4⟩) (kC q1 (Nat.zero_le _)); replace HO := HO.sub (List.Sublist.cons_cons _ (List.Sublist.cons _ (List.Sublist.refl _))); have g3' := HO.cell 2 3 rfl (show ((cs.setIfInBounds 4 (.int .u64 1)).setIfInBounds 2 (.slice (some ⟨g, 0, none⟩) 1 c))[3]? = some (.slice none 0 0) by simpa using h3); have f3' := HO.melt 2 rfl 3; have b1' := HO.oldX hB (show ¬ B1 = G from hBG); clear q1 q2 q3 q4)
 all_goals
  go_wp2_with fail;go_end0;exact ⟨rfl, g, c, g5, p5, (((HO.set 2 3 _ rfl).perm (L' := [_, _, _]) (List.reverse_perm [_, _, _]).symm).join.join).done⟩
end Go.Proofs.YtlkolghiknbbfaaGreatDoor
namespace Go.Proofs.YtlkolghiknbbfaaGreatDoor
open Go.RowKit
theorem yN (a : Option Addr) (c : Nat) (w : World) : Calls Tryz.prog 381 #[.slice a 1 c] w fun e w' => e = .returned (.tuple #[]) ∧ w' = w := by
 go_enter Tryz.func381, Tryz.ntmps381;go_wp2;refine wp_loop_rounds 1 ?_;rw [rounds_succ];go_wp2;go_end0;exact ⟨rfl, rfl⟩
theorem CX (G n1 c1 cx : Nat) (x : Option Addr) (cs : Array Value) (w : World) (h : w.heap[G]? = some (.cells cs 453 (0, 0))) (h0 : cs[0]? = some (.slice (some ⟨n1, 0, none⟩) 1 c1)) (h2 : cs[2]? = some (.slice none 0 0)) (h3 : cs[3]? = some (.slice none 0 0)) (h4 : cs[4]? = some (.int .u64 0)) (hz : 4 < cs.size)
  (hn : w.cell? ⟨n1, 0, none⟩ = some (.slice x 0 cx)) (hnG : n1 ≠ G) :
  Calls Tryz.prog 350 #[.pointer (some ⟨G, 0, none⟩)] w fun e w' => e = .returned (.tuple #[]) ∧
   ∃ g c g' c', Step (aP G cs 453) (((aP G (((cs.setIfInBounds 4 (.int .u64 1)).setIfInBounds 2 (.slice (some ⟨g, 0, none⟩) 1 c)).setIfInBounds 3 (.slice (some ⟨g', 0, none⟩) 1 c')) 453).and (DX 0 g c 0)).and (DX 0 g' c' 0)) w w' := by
 have HO := Own.start (A := aP G cs 453) h (fun k hk => by cases hk; exact (Array.getElem?_eq_some_iff.1 h).1);have zG := HO.lt 0 rfl;have zn := block_lt_of_cell hn;clear h;go_enter Tryz.func350, Tryz.ntmps350;go_wp2_with (first | ((first | (with_reducible refine bf HO ?_; intro g hg; rw [← hg.out]; clear hg) | (with_reducible refine ah HO ?_)); clear HO; (try clear kk); intro W' HO kk));have hcc := fun B2 => IG G n1 _ B2 c1 cx x cs _ (HO.blk 2 rfl) h0 h2 h3 h4 (HO.oldX hn (show ¬ n1 = G from hnG)) hnG (HO.cells 1 rfl 0) (HO.ne 1 2 rfl rfl (by omega))
 refine (hcc _).mono ?_;rintro e w1 ⟨rfl, r1, s1, r2, s2, hs⟩;replace HO := HO.step 2 rfl hs;clear hs hcc;(try clear kk);have b1 := HO.cell 1 0 rfl rfl;replace HO := (HO.drop 2).split.split;have g3 := HO.cell 0 3 rfl (Array.getElem?_setIfInBounds_self_of_lt (by simp; omega));clear zn zG;have HS := hid HO;clear HO;go_wp2_with (go_at_call 381; (with_reducible refine (yN _ _ _).mono ?_); rintro e w2 ⟨rfl, rfl⟩);go_end0;exact ⟨rfl, r1, s1, r2, s2, HS.out.join.join.done⟩
end Go.Proofs.YtlkolghiknbbfaaGreatDoor
namespace Go.Proofs.YtlkolghiknbbfaaGreatDoor
open Go.RowKit
theorem lg : Tryz.zeroCells453.size = 68 := by kernel_rfl
theorem zc_2 : Tryz.zeroCells453[2]? = some (.slice none 0 0) := by kernel_rfl
theorem zc_3 : Tryz.zeroCells453[3]? = some (.slice none 0 0) := by kernel_rfl
theorem zc_4 : Tryz.zeroCells453[4]? = some (.int .u64 0) := by kernel_rfl
theorem EB (b o cap cx : Nat) (x : Option Addr) (w : World) (hb : b < w.heap.size) (hc : w.cell? ⟨b, o, none⟩ = some (.slice x 0 cx)) :
  Calls Tryz.prog 309 #[.slice (some ⟨b, o, none⟩) 1 cap] w fun e w' => (∃ G, e = .returned (.tuple #[.pointer (some ⟨G, 0, none⟩), .int .i64 0]) ∧ eZ G w.heap.size w') ∧ Bl w w' := by
 have HO := Own.nil w;have hmk : ∀ W : World, (Instr.makeSlice 166 (.int .i64 1) (.int .i64 1)).run Tryz.prog W = .ok (.slice (some ⟨W.heap.size, 0, none⟩) 1 1) (W.alloc (.cells #[.slice none 0 0] 128)) := fun W => by kernel_rfl
 go_enter Tryz.func309, Tryz.ntmps309;go_wp2_with (first | ((first | (with_reducible refine bf HO ?_; intro g hg; rw [← hg.out]; clear hg) | (with_reducible refine ah HO ?_)); clear HO; (try clear kk); intro W' HO kk) | ((with_reducible first | refine Mm HO ?_ | refine Kv HO ?_ | refine EN HO ?_); clear HO; (try clear kk); intro W' HO; (try simp only [yT] at HO); have kk := HO.kk));go_cut [4] (fun s4 wx => ∃ G n1 n2, s4 = .pointer (some ⟨G, 0, none⟩) ∧ Own aK w [aP G ((Tryz.zeroCells453.setIfInBounds 0 (.slice (some ⟨n1, 0, none⟩) 1 1)).setIfInBounds 1 (.slice (some ⟨n2, 0, none⟩) 1 1)) 453, aP n1 #[.slice none 0 0] 128, aP n2 #[.slice none 0 0] 128] wx)
 case first =>
  go_region
  all_goals
   go_wp2_with fail;go_meet;have H := (((HO.alloc (.cells #[.slice none 0 0] 128)).alloc (.cells #[.slice none 0 0] 128)).alloc (.cells ((Tryz.zeroCells453.setIfInBounds 0 (.slice (some ⟨w.heap.size, 0, none⟩) 1 1)).setIfInBounds 1 (.slice (some ⟨w.heap.size+1, 0, none⟩) 1 1)) 453)).drew;have H2 := (((HO.alloc (.cells #[.slice none 0 0] 128)).alloc (.cells #[.slice none 0 0] 128)).alloc (.cells ((Tryz.zeroCells453.setIfInBounds 0 (.slice (some ⟨w.heap.size+1, 0, none⟩) 1 1)).setIfInBounds 1 (.slice (some ⟨w.heap.size, 0, none⟩) 1 1)) 453)).drew;simp only [World.size_alloc] at H H2
   first
    | exact ⟨_, _, _, rfl, H2⟩
    | exact ⟨_, _, _, rfl, H.perm (List.Perm.cons _ (List.Perm.swap _ _ _))⟩
 case rest =>
 obtain ⟨G, n1, n2, rfl, HO⟩ := hcut;clear hmk;have hold := (HO.old b o hb).trans hc;go_wp2;refine wp_loop_rounds 2 ?_;rw [rounds_succ];go_wp2_with (first | ((with_reducible refine aM HO ?_); clear HO; (try clear kk); intro g W' hg HO; rw [← hg.out]; clear hg; (try simp only [yT] at HO); have kk := HO.kk));refine wp_loop_rounds 1 ?_;rw [rounds_succ];have HS := hid HO;clear HO;(try clear kk);go_wp2_with fail;rw [rounds_succ];go_wp2_with fail;have HO := HS.out;have hcc := CX G n1 1 0 none _ _ (HO.blk 1 rfl) (by simp [lg]) ((Array.getElem?_setIfInBounds_ne (by omega)).trans ((Array.getElem?_setIfInBounds_ne (by omega)).trans zc_2)) ((Array.getElem?_setIfInBounds_ne (by omega)).trans ((Array.getElem?_setIfInBounds_ne (by omega)).trans zc_3)) ((Array.getElem?_setIfInBounds_ne (by omega)).trans ((Array.getElem?_setIfInBounds_ne (by omega)).trans zc_4)) (by simp [lg]) (HO.cell 2 0 rfl rfl) (Ne.symm (HO.ne 1 2 rfl rfl (by omega)));refine hcc.mono ?_;rintro e w1 ⟨rfl, r1, s1, r2, s2, hs⟩;replace HO := HO.step 1 rfl hs;clear hs hcc HS hold;replace HS := hid HO;clear HO;go_wp2_with fail;go_ret2;have H := (HS.out.drop 1).split.split;refine ⟨⟨G, rfl, H.le 0 rfl, _, n1, n2, r1, r2, 1, 1, s1, s2, H.blk 0 rfl, ku (ku (ku (ku (uu (by simp [lg]))))), ku (ku (ku (uu (by simp [lg])))), ku (uu (by simp [lg])), uu (by simp [lg]), ku (ku (uu (by simp [lg]))), H.le 3 rfl, H.le 4 rfl, H.rowle 2 rfl, H.cell 3 0 rfl rfl, H.cell 4 0 rfl rfl, H.rowcell 2 0 rfl rfl⟩, H.below⟩
theorem mul_one (w : World) : Calls Tryz.prog 181 #[.int .u64 1, .int .u64 1] w fun e w' => e = .returned (.tuple #[.int .u64 0, .int .u64 1]) ∧ w' = w := by
 go_enter Tryz.func181, Tryz.ntmps181;go_wp2;go_ret2;exact ⟨rfl, rfl⟩
theorem CW (b : Nat) (x : Int) (w : World) (hc : w.cell? ⟨b, 0, none⟩ = some (.int .i64 x)) : Calls Tryz.prog 137 #[.slice (some ⟨b, 0, none⟩) 1 1, .int .i64 1] w fun e w' => ∃ g, e = .returned (.slice (some ⟨g, 0, none⟩) 1 1) ∧ w'.heap[g]? = some (.cells #[.int .i64 x] 3 (0, 0)) ∧ w.heap.size ≤ g ∧ Bl w w' := by
 have HO := Own.nil w;have zb := block_lt_of_cell hc;have hmk : ∀ W : World, (Instr.makeSlice 128 (.int .i64 1) (.int .i64 1)).run Tryz.prog W = .ok (.slice (some ⟨W.heap.size, 0, none⟩) 1 1) (W.alloc (.cells #[.int .i64 0] 3)) := fun W => by kernel_rfl
 go_enter Tryz.func137, Tryz.ntmps137;go_wp2_with (first | ((first | (with_reducible refine bf HO ?_; intro g hg; rw [← hg.out]; clear hg) | (with_reducible refine ah HO ?_)); clear HO; (try clear kk); intro W' HO kk) | (go_at_call 181; (with_reducible refine (mul_one _).mono ?_); rintro e w1 ⟨rfl, rfl⟩));have hs : ∀ (j : Nat) (v : Value), [Value.int .i64 x][j]? = some v → W'.cell? ((⟨b, 0, none⟩ : Addr).add j) = some v := fun j v hv => by
  rcases j with _ | j
  ·cases hv
   rw [bH];exact (HO.old b _ zb).trans hc
  ·simp at hv
 have hcp : (Builtin.copy_ #[128, 128] 3 #[.slice (some ⟨g, 0, none⟩) 1 1, .slice (some ⟨b, 0, none⟩) 1 1]).run Tryz.prog W' = .ok (.int .i64 1) (W'.setRow g #[.int .i64 x]) := run_copy_row Tryz.prog W' 128 128 3 3 g 0 1 1 ⟨b, 0, none⟩ 1 1 #[.int .i64 0] 3 [.int .i64 x] Tryz.underlying128 (by kernel_rfl) (HO.blk 0 rfl) rfl hs (by simp) (by simp [Value.oneCell']);clear hs hmk;go_simp;go_wp2_with fail;refine wp_loop_rounds 1 ?_;rw [rounds_succ];go_wp2_with fail;go_ret;exact ⟨g, rfl, (HO.put 0 _ rfl).blk 0 rfl, HO.le 0 rfl, (HO.put 0 _ rfl).below⟩
end Go.Proofs.YtlkolghiknbbfaaGreatDoor
