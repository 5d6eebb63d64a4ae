/- Constructs of a graph of one node: the rules. -/
import Derived.Test.YtlkolghiknbbfaaGreatDoorAm
import Derived.Sort.CutIn
set_option linter.unusedVariables false
set_option linter.unusedSimpArgs false
set_option maxRecDepth 100000
set_option maxHeartbeats 4000000
namespace Go.Proofs.YtlkolghiknbbfaaGreatDoor
open Go.RowKit
structure KM (N : Nat) (w : World) : Prop where
 at_ : ∃ G G2 T mg cm l1 l2 l3 : Nat, N < w.heap.size ∧ w.cell? ⟨N, 0, none⟩ = some (.pointer (some ⟨G, 0, none⟩)) ∧ w.cell? ⟨N, 1, none⟩ = some (.slice (some ⟨mg, 0, none⟩) 1 cm) ∧ w.cell? ⟨N, 2, none⟩ = some (.pointer (some ⟨G2, 0, none⟩)) ∧ w.cell? ⟨N, 3, none⟩ = some (.pointer (some ⟨T, 0, none⟩)) ∧
  w.cell? ⟨mg, 0, none⟩ = some (.int .u8 0) ∧ w.cell? ⟨mg, 1, none⟩ = some (.int .i64 (-1)) ∧ w.cell? ⟨mg, 2, none⟩ = some (.int .i64 (-1)) ∧ eZ G l1 w ∧ eZ G2 l2 w ∧ pX T l3 G2 w
theorem pX.keep {T lo G : Nat} {W W' : World} (h : pX T lo G W) (hk : ∀ k, lo ≤ k → k < W.heap.size → W'.heap[k]? = W.heap[k]?) : pX T lo G W' := by
 obtain ⟨ov, dp, rk, c1, c2, c3, h1, l1, l2, e1, e2⟩ := h.at_;have hc : ∀ b j v, lo ≤ b → W.cell? ⟨b, j, none⟩ = some v → W'.cell? ⟨b, j, none⟩ = some v := fun b j v hb hv => (World.cell?_of_block (a := ⟨b, j, none⟩) (hk b hb (block_lt_of_cell hv))).trans hv
 exact ⟨h.low, ov, dp, rk, c1, c2, c3, (hk T h.low (Array.getElem?_eq_some_iff.1 h1).1).trans h1, l1, l2, hc _ _ _ l1 e1, hc _ _ _ l2 e2⟩
theorem KM.below {N : Nat} {w w' : World} (h : KM N w) (hb : Bl w w') : KM N w' := by
 obtain ⟨G, G2, T, mg, cm, l1, l2, l3, z, a1, a2, a3, a4, a5, a6, a7, g1, g2, g3⟩ := h.at_;have hc : ∀ b j v, w.cell? ⟨b, j, none⟩ = some v → w'.cell? ⟨b, j, none⟩ = some v := fun b j v hv => ae hv (block_lt_of_cell hv) hb
 exact ⟨G, G2, T, mg, cm, l1, l2, l3, Nat.lt_of_lt_of_le z hb.size, hc _ _ _ a1, hc _ _ _ a2, hc _ _ _ a3, hc _ _ _ a4, hc _ _ _ a5, hc _ _ _ a6, hc _ _ _ a7, g1.below hb, g2.below hb, g3.keep (fun k _ hk => hb.block k hk)⟩
theorem Ku (N : Nat) (w : World) (h : KM N w) : Calls Tryz.prog 386 #[.pointer (some ⟨N, 0, none⟩), .int .i64 0] w fun e w' => e = .returned (.bool false) ∧ w' = w := by
 obtain ⟨G, G2, T, mg, cm, l1, l2, l3, z, a1, a2, a3, a4, a5, a6, a7, g1, g2, g3⟩ := h.at_;have c1 := mQ G l1 w g1;clear h g1 g2 g3;go_enter Tryz.func386, Tryz.ntmps386;go_wp2_with (go_at_call 383; (with_reducible refine c1.mono ?_); rintro e w1 ⟨rfl, rfl⟩);go_ret;exact ⟨rfl, rfl⟩
theorem Cq (N : Nat) (w : World) (h : KM N w) : Qc 387 #[.pointer (some ⟨N, 0, none⟩), .int .i64 0] w (.bool false) := by
 obtain ⟨G, G2, T, mg, cm, l1, l2, l3, z, a1, a2, a3, a4, a5, a6, a7, g1, g2, g3⟩ := h.at_;clear h g1 g2 g3;have HO := Own.nil w;go_enter Tryz.func387, Tryz.ntmps387;go_wp2_with (first | ((first | (with_reducible refine bf HO ?_; intro g hg; rw [← hg.out]; clear hg) | (with_reducible refine ah HO ?_) | (refine ay 410 HO ?_)); clear HO; (try clear kk); intro W' HO kk));go_ret;exact ⟨rfl, HO.below⟩
theorem ET (N : Nat) (w : World) (h : KM N w) : Calls Tryz.prog 388 #[.pointer (some ⟨N, 0, none⟩), .int .i64 0] w fun e w' => e = .returned (.bool false) ∧ w' = w := by
 obtain ⟨G, G2, T, mg, cm, l1, l2, l3, z, a1, a2, a3, a4, a5, a6, a7, g1, g2, g3⟩ := h.at_;have c1 := mQ G l1 w g1;have c2 := DC G l1 w g1;clear h g1 g2 g3;go_enter Tryz.func388, Tryz.ntmps388;go_wp2_with (go_at_call 383; (with_reducible refine c1.mono ?_); rintro e w1 ⟨rfl, rfl⟩);refine wp_loop_rounds 1 ?_;rw [rounds_succ];go_wp2_with (go_at_call 410; (with_reducible refine c2.mono ?_); rintro e w2 ⟨rfl, rfl⟩);refine wp_loop_rounds 1 ?_;rw [rounds_succ];go_wp2_with fail;go_ret;exact ⟨rfl, rfl⟩
theorem GA (N : Nat) (w : World) (h : KM N w) : Calls Tryz.prog 389 #[.pointer (some ⟨N, 0, none⟩), .int .i64 0] w fun e w' => e = .returned (.bool false) ∧ w' = w := by
 obtain ⟨G, G2, T, mg, cm, l1, l2, l3, z, a1, a2, a3, a4, a5, a6, a7, g1, g2, g3⟩ := h.at_;have c1 := mQ G l1 w g1;clear h g1 g2 g3;go_enter Tryz.func389, Tryz.ntmps389;go_wp2_with fail;go_step3;go_wp2_with fail;go_step3;go_wp2_with (go_at_call 383; (with_reducible refine c1.mono ?_); rintro e w1 ⟨rfl, rfl⟩);refine wp_loop_rounds 1 ?_;rw [rounds_succ];go_wp2_with fail;rw [Exit.noGoto_ret];go_ret;exact ⟨rfl, rfl⟩
end Go.Proofs.YtlkolghiknbbfaaGreatDoor
namespace Go.Proofs.YtlkolghiknbbfaaGreatDoor
open Go.RowKit
theorem Gh (N : Nat) (w : World) (h : KM N w) : Qc 352 #[.pointer (some ⟨N, 0, none⟩)] w (.slice none 0 0) := by
 obtain ⟨G, G2, T, mg, cm, l1, l2, l3, z, a1, a2, a3, a4, a5, a6, a7, g1, g2, g3⟩ := h.at_;have F := hid h;have cR : ∀ W, Bl w W → Calls Tryz.prog 390 #[.pointer (some ⟨G2, 0, none⟩), .int .i64 0] W fun e w' => e = .returned (.bool true) ∧ w' = W := fun W hb => lc G2 l2 W (g2.below hb)
 have c1 : ∀ W, Bl w W → _ := fun W hb => Ku N W (h.below hb)
 have c2 : ∀ W, Bl w W → _ := fun W hb => Cq N W (h.below hb)
 have c3 : ∀ W, Bl w W → _ := fun W hb => ET N W (h.below hb)
 have c4 : ∀ W, Bl w W → _ := fun W hb => GA N W (h.below hb)
 clear h g1 g2 g3;have x0 : ∀ W : World, (Instr.index 482 (.agg #[.func (.func 386) #[.pointer (some ⟨N, 0, none⟩)] #[], .int .i64 163, .func (.func 387) #[.pointer (some ⟨N, 0, none⟩)] #[], .int .i64 160, .func (.func 388) #[.pointer (some ⟨N, 0, none⟩)] #[], .int .i64 162, .func (.func 389) #[.pointer (some ⟨N, 0, none⟩)] #[], .int .i64 161]) (.int .i64 0)).run Tryz.prog W = .ok (.agg #[.func (.func 386) #[.pointer (some ⟨N, 0, none⟩)] #[], .int .i64 163]) W := fun W => by kernel_rfl
 have x1 : ∀ W : World, (Instr.index 482 (.agg #[.func (.func 386) #[.pointer (some ⟨N, 0, none⟩)] #[], .int .i64 163, .func (.func 387) #[.pointer (some ⟨N, 0, none⟩)] #[], .int .i64 160, .func (.func 388) #[.pointer (some ⟨N, 0, none⟩)] #[], .int .i64 162, .func (.func 389) #[.pointer (some ⟨N, 0, none⟩)] #[], .int .i64 161]) (.int .i64 1)).run Tryz.prog W = .ok (.agg #[.func (.func 387) #[.pointer (some ⟨N, 0, none⟩)] #[], .int .i64 160]) W := fun W => by kernel_rfl
 have x2 : ∀ W : World, (Instr.index 482 (.agg #[.func (.func 386) #[.pointer (some ⟨N, 0, none⟩)] #[], .int .i64 163, .func (.func 387) #[.pointer (some ⟨N, 0, none⟩)] #[], .int .i64 160, .func (.func 388) #[.pointer (some ⟨N, 0, none⟩)] #[], .int .i64 162, .func (.func 389) #[.pointer (some ⟨N, 0, none⟩)] #[], .int .i64 161]) (.int .i64 2)).run Tryz.prog W = .ok (.agg #[.func (.func 388) #[.pointer (some ⟨N, 0, none⟩)] #[], .int .i64 162]) W := fun W => by kernel_rfl
 have x3 : ∀ W : World, (Instr.index 482 (.agg #[.func (.func 386) #[.pointer (some ⟨N, 0, none⟩)] #[], .int .i64 163, .func (.func 387) #[.pointer (some ⟨N, 0, none⟩)] #[], .int .i64 160, .func (.func 388) #[.pointer (some ⟨N, 0, none⟩)] #[], .int .i64 162, .func (.func 389) #[.pointer (some ⟨N, 0, none⟩)] #[], .int .i64 161]) (.int .i64 3)).run Tryz.prog W = .ok (.agg #[.func (.func 389) #[.pointer (some ⟨N, 0, none⟩)] #[], .int .i64 161]) W := fun W => by kernel_rfl
 have HO := Own.nil w;have zm := block_lt_of_cell a5;go_enter Tryz.func352, Tryz.ntmps352;go_wp2_with (first | ((first | (with_reducible refine bf HO ?_; intro g hg; rw [← hg.out]; clear hg) | (with_reducible refine ah HO ?_)); clear HO; (try clear kk); intro W' HO kk) | (refine tu 0 HO rfl rfl 482 _ _ rfl rfl rfl (by kernel_rfl) rfl (by simp [Value.oneCell']) ?_; clear HO; (try clear kk); intro W' HO; (try simp only [yT] at HO); have kk := HO.kk; have b1 := (HO.old N 1 z).trans a2; have b2 := (HO.old N 2 z).trans a3));refine wp_loop_rounds 2 ?_;rw [rounds_succ];go_wp2_with (first | (refine bG 482 HO Tryz.underlying482 ?_));refine wp_loop_rounds 5 ?_;rw [rounds_succ];go_wp2_with (first | ((first | (with_reducible refine bf HO ?_; intro g hg; rw [← hg.out]; clear hg) | (refine ay 481 HO ?_)); clear HO; (try clear kk); intro W' HO kk) | (go_at_call 390; (with_reducible refine (cR _ HO.below).mono ?_); rintro e w1 ⟨rfl, rfl⟩) | (go_at_call 386; (with_reducible refine (c1 _ HO.below).mono ?_); rintro e w1 ⟨rfl, rfl⟩) | (go_at_call 388; (with_reducible refine (c3 _ HO.below).mono ?_); rintro e w1 ⟨rfl, rfl⟩) | (go_at_call 389; (with_reducible refine (c4 _ HO.below).mono ?_); rintro e w1 ⟨rfl, rfl⟩) | (go_at_call 387; with_reducible refine bq HO (c2 _ HO.below) ?_; clear HO; (try clear kk); intro w1 HO kk));rw [rounds_succ];go_wp2_with (first | ((first | (with_reducible refine bf HO ?_; intro g hg; rw [← hg.out]; clear hg) | (refine ay 481 HO ?_)); clear HO; (try clear kk); intro W' HO kk) | (go_at_call 390; (with_reducible refine (cR _ HO.below).mono ?_); rintro e w1 ⟨rfl, rfl⟩) | (go_at_call 386; (with_reducible refine (c1 _ HO.below).mono ?_); rintro e w1 ⟨rfl, rfl⟩) | (go_at_call 388; (with_reducible refine (c3 _ HO.below).mono ?_); rintro e w1 ⟨rfl, rfl⟩) | (go_at_call 389; (with_reducible refine (c4 _ HO.below).mono ?_); rintro e w1 ⟨rfl, rfl⟩) | (go_at_call 387; with_reducible refine bq HO (c2 _ HO.below) ?_; clear HO; (try clear kk); intro w1 HO kk));rw [rounds_succ];go_wp2_with (first | ((first | (with_reducible refine bf HO ?_; intro g hg; rw [← hg.out]; clear hg) | (refine ay 481 HO ?_)); clear HO; (try clear kk); intro W' HO kk) | (go_at_call 390; (with_reducible refine (cR _ HO.below).mono ?_); rintro e w1 ⟨rfl, rfl⟩) | (go_at_call 386; (with_reducible refine (c1 _ HO.below).mono ?_); rintro e w1 ⟨rfl, rfl⟩) | (go_at_call 388; (with_reducible refine (c3 _ HO.below).mono ?_); rintro e w1 ⟨rfl, rfl⟩) | (go_at_call 389; (with_reducible refine (c4 _ HO.below).mono ?_); rintro e w1 ⟨rfl, rfl⟩) | (go_at_call 387; with_reducible refine bq HO (c2 _ HO.below) ?_; clear HO; (try clear kk); intro w1 HO kk));rw [rounds_succ];go_wp2_with (first | ((first | (with_reducible refine bf HO ?_; intro g hg; rw [← hg.out]; clear hg) | (refine ay 481 HO ?_)); clear HO; (try clear kk); intro W' HO kk) | (go_at_call 390; (with_reducible refine (cR _ HO.below).mono ?_); rintro e w1 ⟨rfl, rfl⟩) | (go_at_call 386; (with_reducible refine (c1 _ HO.below).mono ?_); rintro e w1 ⟨rfl, rfl⟩) | (go_at_call 388; (with_reducible refine (c3 _ HO.below).mono ?_); rintro e w1 ⟨rfl, rfl⟩) | (go_at_call 389; (with_reducible refine (c4 _ HO.below).mono ?_); rintro e w1 ⟨rfl, rfl⟩) | (go_at_call 387; with_reducible refine bq HO (c2 _ HO.below) ?_; clear HO; (try clear kk); intro w1 HO kk));rw [rounds_succ];go_wp2_with fail;rw [rounds_succ];go_wp2_with fail;go_ret;exact ⟨rfl, HO.below⟩
end Go.Proofs.YtlkolghiknbbfaaGreatDoor
namespace Go.Proofs.YtlkolghiknbbfaaGreatDoor
open Go.RowKit Go.Shelf
attribute [local go_sem] Oper.semAt_some
theorem JC (B : Nat) (w : World) : Qc 421 #[.agg #[.int .u8 0, .int .i64 (-1), .int .i64 (-1)], .pointer (some ⟨B, 0, none⟩)] w (.bool false) := by
 have HO := Own.nil w;go_enter Tryz.func421, Tryz.ntmps421;go_wp2_with (first | ((with_reducible refine aM HO ?_); clear HO; (try clear kk); intro g W' hg HO; rw [← hg.out]; clear hg; (try simp only [yT] at HO); have kk := HO.kk));go_ret;exact ⟨rfl, HO.below⟩
theorem Co (mg o cm B : Nat) (w : World) (h0 : w.cell? ⟨mg, o, none⟩ = some (.int .u8 0)) (h1 : w.cell? ⟨mg, o + 1, none⟩ = some (.int .i64 (-1))) (h2 : w.cell? ⟨mg, o + 2, none⟩ = some (.int .i64 (-1))) :
  Qc 441 #[.slice (some ⟨mg, o, none⟩) 1 cm, .func (.func 421) #[] #[.pointer (some ⟨B, 0, none⟩)]] w (.int .i64 (-1)) := by
 have HO := Own.nil w;have zm := block_lt_of_cell h0;have cF := fun W => JC B W
 go_enter Tryz.func441, Tryz.ntmps441;go_wp2_with fail;refine wp_loop_rounds 2 ?_;rw [rounds_succ];go_wp2_with (first | (go_at_call 421; with_reducible refine fF HO (cF _) ?_; clear HO; intro w1 HO));rw [rounds_succ];go_wp2_with fail;go_ret;exact ⟨rfl, HO.below⟩
theorem uQ (mg o cm B : Nat) (w : World) (h0 : w.cell? ⟨mg, o, none⟩ = some (.int .u8 0)) (h1 : w.cell? ⟨mg, o + 1, none⟩ = some (.int .i64 (-1))) (h2 : w.cell? ⟨mg, o + 2, none⟩ = some (.int .i64 (-1))) :
  Qc 420 #[.slice (some ⟨mg, o, none⟩) 1 cm, .func (.func 421) #[] #[.pointer (some ⟨B, 0, none⟩)]] w (.bool false) := by
 have cF := Co mg o cm B w h0 h1 h2;go_enter Tryz.func420, Tryz.ntmps420;go_wp2_with (first | (go_at_call 441; (with_reducible refine cF.mono ?_); rintro e w1 ⟨rfl, hn⟩));go_ret;exact ⟨rfl, hn⟩
theorem Ld (G lo mg o cm : Nat) (w : World) (hG : eZ G lo w) (h0 : w.cell? ⟨mg, o, none⟩ = some (.int .u8 0)) (h1 : w.cell? ⟨mg, o + 1, none⟩ = some (.int .i64 (-1))) (h2 : w.cell? ⟨mg, o + 2, none⟩ = some (.int .i64 (-1))) :
  Qc 382 #[.pointer (some ⟨G, 0, none⟩), .slice (some ⟨mg, o, none⟩) 1 cm] w (.bool true) := by
 have HO := Own.nil w;have zm := block_lt_of_cell h0;have cL : ∀ W, Bl w W → Calls Tryz.prog 367 #[.pointer (some ⟨G, 0, none⟩)] W fun e w' => e = .returned (.int .i64 1) ∧ w' = W := fun W hb => oL G lo W (hG.below hb)
 have cC : ∀ B W, Bl w W → Qc 420 #[.slice (some ⟨mg, o, none⟩) 1 cm, .func (.func 421) #[] #[.pointer (some ⟨B, 0, none⟩)]] W (.bool false) := fun B W hb => uQ mg o cm B W (ae h0 zm hb) (ae h1 zm hb) (ae h2 zm hb)
 clear hG;go_enter Tryz.func382, Tryz.ntmps382;go_wp2_with (first | ((with_reducible refine aM HO ?_); clear HO; (try clear kk); intro g W' hg HO; rw [← hg.out]; clear hg; (try simp only [yT] at HO); have kk := HO.kk) | (go_at_call 367; (with_reducible refine (cL _ HO.below).mono ?_); rintro e w1 ⟨rfl, rfl⟩) | (go_at_call 420; with_reducible refine fF HO (cC _ _ HO.below) ?_; clear HO; intro w1 HO));go_ret;exact ⟨rfl, HO.below⟩
theorem pX.facts {T lo G : Nat} {w : World} (h : pX T lo G w) : ∃ ov dp c1 c2 : Nat, w.cell? ⟨T, 1, none⟩ = some (.slice (some ⟨ov, 0, none⟩) 1 c1) ∧ w.cell? ⟨T, 2, none⟩ = some (.slice (some ⟨dp, 0, none⟩) 1 c2) ∧ w.cell? ⟨ov, 0, none⟩ = some (.int .i64 (-1)) ∧ w.cell? ⟨dp, 0, none⟩ = some (.int .i64 0) := by
 obtain ⟨ov, dp, rk, c1, c2, c3, h1, l1, l2, e1, e2⟩ := h.at_;exact ⟨ov, dp, c1, c2, (cell_of_row _ _ 1 _ _ _ h1).trans rfl, (cell_of_row _ _ 2 _ _ _ h1).trans rfl, e1, e2⟩
theorem xD (T lo G : Nat) (w : World) (h : pX T lo G w) : Calls Tryz.prog 443 #[.pointer (some ⟨T, 0, none⟩), .int .i64 0] w fun e w' => e = .returned (.bool true) ∧ w' = w := by
 obtain ⟨ov, dp, c1, c2, t1, t2, e1, e2⟩ := h.facts;clear h;go_enter Tryz.func443, Tryz.ntmps443;go_wp2_with fail;go_ret;exact ⟨rfl, rfl⟩
theorem Ov (T : Nat) (w : World) : Calls Tryz.prog 424 #[.pointer (some ⟨T, 0, none⟩), .int .i64 0] w fun e w' => e = .returned (.func (.func 442) #[] #[.pointer (some ⟨w.heap.size, 0, none⟩), .pointer (some ⟨w.heap.size + 1, 0, none⟩)]) ∧ w' = (w.alloc (.cells #[.pointer (some ⟨T, 0, none⟩)] 426)).alloc (.cells #[.int .i64 0] 3) := by
 go_enter Tryz.func424, Tryz.ntmps424;go_wp2_with fail;go_ret;exact ⟨rfl, rfl⟩
theorem Lx (T lo G B1 B2 : Nat) : IY 442 #[.pointer (some ⟨B1, 0, none⟩), .pointer (some ⟨B2, 0, none⟩)] (fun W => W.cell? ⟨B1, 0, none⟩ = some (.pointer (some ⟨T, 0, none⟩)) ∧ W.cell? ⟨B2, 0, none⟩ = some (.int .i64 0) ∧ pX T lo G W) (fun _ => #[.int .i64 0]) 1 := by
 intro lp J Jx W hF hlt hJs hJxs hy hJ0;have HY := hid hy;have HF := hid hF;obtain ⟨hB1, hB2, hT⟩ := hF 0 W hJ0;have cR := xD T lo G W hT;clear hy hF hJs hJxs hT;refine (callsIn_wide (n := 1)).1 ?_;refine callsIn_of_wp Tryz.func442 rfl trivial ?_ rfl;simp only [Tryz.ntmps442, List.size_toArray, List.length_cons, List.length_nil, Nat.reduceAdd, Nat.reduceSub, Array.replicate_succ, Array.replicate_zero, List.push_toArray, List.append_toArray, List.nil_append, List.cons_append]
 gi_wp2_with (refine ⟨trivial, ?_⟩; gi_at_call 443; refine (callsIn_wide.2 cR).mono ?_; rintro e w1 ⟨rfl, rfl⟩)
 gi_loopw [4] (fun v4 wr => ∃ k : Nat, k ≤ 1 ∧ v4 = .int .i64 (if k = 0 then 0 else -1) ∧ J k wr ∧ Aside w1.heap.size w1 wr) (fun v _ => (intOf v + 1).toNat)
 case atStart => exact ⟨0, by omega, rfl, hJ0, Aside.refl _ _⟩
 case round =>
  obtain ⟨k, hk, rfl, hj, hA⟩ := hrel;clear hJ0 hB1 hB2 cR;have hz := hA.1;rcases k with _ | k
  ·obtain ⟨zB, hB, hM⟩ := HF.out 0 wr hj
   obtain ⟨ov, dp, c1, c2, t1, t2, e1, e2⟩ := hM.facts;have hY1 := HY.out 0 wr (by omega) hj hz;obtain ⟨fn, tmps, assign, body, hy, hR⟩ := hY1;have HA := hid hA;have HJ := hid hj;clear hM hj hA hk;gi_wp2;refine hR.mono ?_;rintro e W3 ⟨⟨rfl, hJ3⟩ | ⟨rfl, hJx3⟩, hA3⟩
   ·obtain ⟨zB3, hB3, hM3⟩ := HF.out 1 W3 hJ3
    obtain ⟨ov3, dp3, c13, c23, t13, t23, e13, e23⟩ := hM3.facts;have HJ3 := hid hJ3;have HA3 := hid hA3;clear hJ3 hA3 hR hM3 zB hB t1 t2 e1 e2;gi_wp2;exact ⟨⟨1, by omega, rfl, HJ3.out, HA.out.trans HA3.out⟩, by simp [intOf]⟩
   ·have HJ3 := hid hJx3
    have HA3 := hid hA3;clear hJx3 hA3 hR;gi_wp2;refine bodyPost_ret (results_none rfl _ _ _) rfl ?_;exact ⟨⟨_, rfl⟩, .inr ⟨_, HJ3.out⟩, HA.out.trans HA3.out⟩
  ·obtain rfl : k = 0 := by omega
   have HA := hid hA;have HJ := hid hj;clear hA hj;gi_wp2;go_end0;exact ⟨⟨_, rfl⟩, .inl HJ.out, HA.out⟩
theorem vI {F : Fence} {n : Nat} {P : Program} {Q : Exit → Act → World → Prop} {c : Code} {a : Act} {X : Nat → Prop} {w W : World} {L : List As} {o : Obj} (h : Own X w L W) (k : ∀ g W', Hid (g = W.heap.size) → Own X w (blk g o :: L) W' → c.wpIn F n P Q a W') : c.wpIn F n P Q a (W.alloc o) := k _ _ (hid rfl) (h.alloc o)
def Lm (ops : Array Oper) : Bool := ops.all fun o => match o.op with | .defer _ => false | _ => true
theorem MJ {ops : Array Oper} (h : Lm ops = true) : ∀ (j : Nat) (o : Oper), ops[j]? = some o → ∀ c, o.op ≠ .defer c := fun j o ho c hc => by
 have h2 := (Array.all_eq_true' (p := fun (o : Oper) => match o.op with | .defer _ => false | _ => true)).1 h o (Array.mem_of_getElem? ho);simp [hc] at h2
theorem qN {F : Fence} {n : Nat} {P : Program} {md : Region.Mode} {ops : Array Oper} {Q : Exit → Act → World → Prop} (l : Nat) (hF : F.round = none) (hnd : ∀ (j : Nat) (o : Oper), ops[j]? = some o → ∀ c, o.op ≠ .defer c) :
  ∀ (fuel : Nat) (listed : Array Bool) (a : Act) (w : World), wpAnyIn F n P md ops Q fuel listed a w → wpAnyIn (F.inRound l) n P md ops Q fuel listed a w := by
 intro fuel
 induction fuel with
 | zero => exact fun listed a w h => h
 | succ fuel ih =>
  intro listed a w h;refine ⟨h.1, fun i hi => ?_⟩;have h2 := h.2 i hi;refine wpOpIn_mono (fun a w => ih _ a w) ?_;unfold wpOpIn at *
  cases ho : ops[i]? with
  | none => simpa [ho] using h2
  | some o =>
   simp only [ho] at h2 ⊢
   split
   ·rename_i hw
    simp only [hw, if_true] at h2;unfold Oper.wpIn at *
    refine ⟨h2.1, ?_⟩;have h3 := h2.2;rw [Oper.semAt_plain F _ _ (hnd i o ho)] at h3;rw [Oper.semAt_plain (F.inRound l) _ _ (hnd i o ho)];generalize (execOp a.eval o).run P w = r at *
    cases r with
    | ok x w' => cases x <;> exact h3
    | halt x w' => cases x <;> exact h3
   ·rename_i hw
    simp only [hw] at h2;exact h2
theorem zZ {W W' : World} (h : Below W.drew.heap.size W.drew W') : Bl W W' := ⟨h.os, h.tape, h.output, h.size, h.block⟩
theorem CB {X : Nat → Prop} {w W : World} {L : List As} (h : Own X w L W) : ∃ L0, Hid (L0 = L) ∧ Own X w L0 W := ⟨L, hid rfl, h⟩
theorem reverse_nil (w : World) : Calls Tryz.prog 381 #[.slice none 0 0] w fun e w' => e = .returned (.tuple #[]) ∧ w' = w := by
 go_enter Tryz.func381, Tryz.ntmps381;go_wp2;refine wp_loop_rounds 1 ?_;rw [rounds_succ];go_wp2;go_end0;exact ⟨rfl, rfl⟩
theorem Db (N : Nat) (w : World) (h : KM N w) : Qc 385 #[.pointer (some ⟨N, 0, none⟩), .int .i64 0] w (.slice none 0 0) := by
 obtain ⟨G, G2, T, mg, cm, l1, l2, l3, z, a1, a2, a3, a4, a5, a6, a7, g1, g2, g3⟩ := h.at_;have zm := block_lt_of_cell a5;have cR : ∀ W, Bl w W → Qc 390 #[.pointer (some ⟨G2, 0, none⟩), .int .i64 0] W (.bool true) := fun W hb => (lc G2 l2 W (g2.below hb)).mono fun e w' h => ⟨h.1, by rw [h.2]; exact Below.refl _ _⟩
 have HT := hid g3;have HO := Own.nil w;clear h g1 g2 g3;refine (callsIn_wide (n := 4)).1 ?_;refine callsIn_of_wp_marks Tryz.func385 rfl trivial ?_ rfl;simp only [Tryz.ntmps385, List.size_toArray, List.length_cons, List.length_nil, Nat.reduceAdd, Nat.reduceSub, Array.replicate_succ, Array.replicate_zero, List.push_toArray, List.append_toArray, List.nil_append, List.cons_append]
 gi_wp2_with (first | ((with_reducible refine pu HO ?_); clear HO; (try clear kk); intro g W' hg HO; rw [← hg.out]; clear hg; (try simp only [yT] at HO); have kk := HO.kk) | ((with_reducible refine vI HO ?_); clear HO; (try clear kk); intro g W' hg HO; rw [← hg.out]; clear hg; (try simp only [yT] at HO); have kk := HO.kk) | ((with_reducible first | refine iw 0 HO rfl ?_ | refine iw 1 HO rfl ?_ | refine iw 2 HO rfl ?_ | refine iw 3 HO rfl ?_ | refine iw 4 HO rfl ?_ | refine iw 5 HO rfl ?_ | refine iw 6 HO rfl ?_); clear HO; (try clear kk); intro W' HO; (try simp only [yT] at HO); have kk := HO.kk))
 have b1 := (HO.old N 2 z).trans a3;have zg := HO.lt 0 rfl;have zg1 := HO.lt 1 rfl
 gi_cut [13] from 7 (fun s13 wx => s13 = .bool false ∧ Bl W' wx)
 case first =>
  first | (gi_region_with (refine ⟨trivial, ?_⟩; gi_at_call 390; refine (callsIn_wide.2 (cR _ (by first | exact HO.drew.below | exact HO.below))).mono ?_; rintro e w1 ⟨rfl, hn1⟩; replace hn1 := hid hn1)) | fail
  all_goals
   gi_wp2;go_meet;exact ⟨rfl, zZ hn1.out⟩
 case rest =>
 obtain ⟨rfl, hb⟩ := hcut;replace HO := HO.then hb
 clear hb cR b1;(try clear kk);(try simp only [yD] at HO); have kk := HO.kk
 gi_wp2_with (first | ((with_reducible refine pu HO ?_); clear HO; (try clear kk); intro g W' hg HO; rw [← hg.out]; clear hg; (try simp only [yT] at HO); have kk := HO.kk) | ((with_reducible refine vI HO ?_); clear HO; (try clear kk); intro g W' hg HO; rw [← hg.out]; clear hg; (try simp only [yT] at HO); have kk := HO.kk))
 have hr0 := Own.cell HO 0 0 rfl rfl;have KB := hid (And.intro (Own.blk HO 2 rfl) (And.intro (Own.blk HO 1 rfl) (Own.blk HO 0 rfl)));obtain ⟨L0, hL, HO⟩ := CB HO
 gi_cut [19] from 14 (fun s19 wx => ∃ q q', s19 = .func (.func 442) #[] #[.pointer (some ⟨q, 0, none⟩), .pointer (some ⟨q', 0, none⟩)] ∧ Own aK w (aP q' #[.int .i64 0] 3 :: aP q #[.pointer (some ⟨T, 0, none⟩)] 426 :: L0) wx)
 case first =>
  first | (gi_region_with (refine ⟨trivial, ?_⟩; gi_at_call 424; refine (callsIn_wide.2 (Ov _ _)).mono ?_; rintro e w1 ⟨rfl, rfl⟩)) | fail
  all_goals
   gi_wp2;go_meet;have H := (HO.drew.alloc (.cells #[.pointer (some ⟨T, 0, none⟩)] 426)).alloc (.cells #[.int .i64 0] 3);simp only [World.size_alloc, aN] at H;exact ⟨_, _, rfl, H⟩
 case rest =>
 obtain ⟨q, q', rfl, HO⟩ := hcut;clear KB hr0;(try clear kk)
 gi_wp2_with fail
 refine qC (hit := Lx T l3 G2 q q') rfl (enters_of Tryz.func442 (by kernel_rfl) rfl) (fun _ => rfl)
  (fun k A => Own aK w (aP q' #[.int .i64 0] 3 :: aP q #[.pointer (some ⟨T, 0, none⟩)] 426 :: L0) A) (fun _ _ _ => False)
  (fun k A C h hb => Own.upto h (fun A' hA' j hj => (HO.low A' hA' j hj).2) HO.size hb) (fun k A h => ⟨Own.cell h 1 0 rfl rfl, Own.cell h 0 0 rfl rfl, HT.out.keep (fun j _ hj => (Own.below h).block j hj)⟩) (fun q k A C h hb => h) HO ?round ?done ?stop
 case stop => exact fun c k W h => h.elim
 case round =>
  intro lp k W hk hh hle hlt hz1;have HH := hid hh;clear hh;gi_wp2;refine ⟨Aside.refl _ _, HH.out, fun o' => ?_⟩;have h2 : Own aK w (aP q' #[.int .i64 0] 3 :: aP q #[.pointer (some ⟨T, 0, none⟩)] 426 :: L0) (W.putObj lp o') := Own.upto HH.out (fun A' hA' j hj => (HO.low A' hA' j hj).2) HO.size (aY W o' hle);generalize W.putObj lp o' = W2 at h2 ⊢;have HX := hid h2;clear HO HH;rw [hL.out] at h2;have HO := h2;clear h2;(try simp only [yD] at HO); have kk := HO.kk;have zb := HO.lt 4 rfl
  gi_wp2_with fail
  refine wpIn_region_any (by kernel_rfl) ?_;change wpAnyIn _ _ _ _ _ _ _ _ _ (World.drew _);refine qN _ rfl (MJ (by kernel_rfl)) _ _ _ _ ?_;refine wpAnyIn_take (i := 4) (v := ?_) rfl rfl (by kernel_rfl) (by kernel_rfl) (by kernel_rfl) (fun _ _ _ h => h) ⟨Or.inl ⟨by kernel_rfl, ?_⟩, fun _ => rfl⟩ ?_;rotate_left
  ·intro w; go_simp; with_reducible rfl
  refine wpAnyIn_ready (rs := [0]) (by kernel_rfl) (by simp) ?_;refine AllReadyIn.cons rfl (fun K hK => ?_) AllReadyIn.nil;go_simp;refine hK _ _ ?_;clear hK K;refine wpAnyIn_ready (rs := [1]) (by kernel_rfl) (by simp) ?_;refine AllReadyIn.cons rfl (fun K hK => ?_) AllReadyIn.nil;go_simp;refine hK _ _ ?_;clear hK K;refine wpAnyIn_take (i := 2) (v := ?_) rfl rfl (by kernel_rfl) (by kernel_rfl) (by kernel_rfl) (fun _ _ _ h => h) ⟨Or.inl ⟨by kernel_rfl, ?_⟩, fun _ => rfl⟩ ?_;rotate_left
  ·intro w; go_simp; with_reducible rfl
  refine wpAnyIn_ready (rs := [3]) (by kernel_rfl) (by simp) ?_;refine AllReadyIn.cons rfl (fun K hK => ?_) AllReadyIn.nil;go_simp;refine hK _ _ ?_;clear hK K;refine wpAnyIn_ready (rs := [5]) (by kernel_rfl) (by simp) ?_;refine AllReadyIn.cons rfl (fun K hK => ?_) AllReadyIn.nil;go_simp;refine hK _ _ ?_;clear hK K;refine wpAnyIn_take (i := 6) (v := ?_) rfl rfl (by kernel_rfl) (by kernel_rfl) (by kernel_rfl) (fun _ _ _ h => h) ⟨Or.inl ⟨by kernel_rfl, ?_⟩, fun _ => rfl⟩ ?_;rotate_left
  ·intro w; go_simp; with_reducible rfl
  refine wpAnyIn_ready (rs := [7]) (by kernel_rfl) (by simp) ?_;refine AllReadyIn.cons rfl (fun K hK => ?_) AllReadyIn.nil;go_simp;refine hK _ _ ?_;clear hK K;refine wpAnyIn_take (i := 8) (v := ?_) rfl rfl (by kernel_rfl) (by kernel_rfl) (by kernel_rfl) (fun _ _ _ h => h) ⟨Or.inl ⟨by kernel_rfl, ?_⟩, fun _ => rfl⟩ ?_;rotate_left
  ·intro w; go_simp; with_reducible rfl
  refine wpAnyIn_take (i := 9) (v := ?_) rfl rfl (by kernel_rfl) (by kernel_rfl) (by kernel_rfl) (fun _ _ _ h => h) ⟨Or.inl ⟨by kernel_rfl, ?_⟩, fun _ => rfl⟩ ?_;rotate_left
  ·intro w; go_simp; with_reducible rfl
  refine wpAnyIn_take (i := 10) (v := undef) rfl rfl (by kernel_rfl) (by kernel_rfl) (by kernel_rfl) (fun _ _ _ h => h) ⟨Or.inr ⟨by kernel_rfl, rfl⟩, fun _ => rfl⟩ ?_;refine wpAnyIn_take (i := 11) (v := undef) rfl rfl (by kernel_rfl) (by kernel_rfl) (by kernel_rfl) (fun _ _ _ h => h) ⟨Or.inr ⟨by kernel_rfl, rfl⟩, fun _ => rfl⟩ ?_;refine wpAnyIn_take (i := 12) (v := undef) rfl rfl (by kernel_rfl) (by kernel_rfl) (by kernel_rfl) (fun _ _ _ h => h) ⟨Or.inr ⟨by kernel_rfl, rfl⟩, fun _ => rfl⟩ ?_;refine wpAnyIn_take (i := 13) (v := undef) rfl rfl (by kernel_rfl) (by kernel_rfl) (by kernel_rfl) (fun _ _ _ h => h) ⟨Or.inr ⟨by kernel_rfl, rfl⟩, fun _ => rfl⟩ ?_;refine wpAnyIn_take (i := 14) (v := undef) rfl rfl (by kernel_rfl) (by kernel_rfl) (by kernel_rfl) (fun _ _ _ h => h) ⟨Or.inr ⟨by kernel_rfl, rfl⟩, fun _ => rfl⟩ ?_;refine wpAnyIn_take (i := 15) (v := undef) rfl rfl (by kernel_rfl) (by kernel_rfl) (by kernel_rfl) (fun _ _ _ h => h) ⟨Or.inr ⟨by kernel_rfl, rfl⟩, fun _ => rfl⟩ ?_;refine wpAnyIn_take (i := 16) (v := undef) rfl rfl (by kernel_rfl) (by kernel_rfl) (by kernel_rfl) (fun _ _ _ h => h) ⟨Or.inr ⟨by kernel_rfl, rfl⟩, fun _ => rfl⟩ ?_;refine wpAnyIn_take (i := 17) (v := undef) rfl rfl (by kernel_rfl) (by kernel_rfl) (by kernel_rfl) (fun _ _ _ h => h) ⟨Or.inr ⟨by kernel_rfl, rfl⟩, fun _ => rfl⟩ ?_;refine wpAnyIn_take (i := 18) (v := undef) rfl rfl (by kernel_rfl) (by kernel_rfl) (by kernel_rfl) (fun _ _ _ h => h) ⟨Or.inr ⟨by kernel_rfl, rfl⟩, fun _ => rfl⟩ ?_;refine wpAnyIn_take (i := 19) (v := undef) rfl rfl (by kernel_rfl) (by kernel_rfl) (by kernel_rfl) (fun _ _ _ h => h) ⟨Or.inr ⟨by kernel_rfl, rfl⟩, fun _ => rfl⟩ ?_;refine wpAnyIn_ready (rs := [20]) (by kernel_rfl) (by simp) ?_;refine AllReadyIn.cons rfl (fun K hK => ?_) AllReadyIn.nil;go_simp;refine ⟨trivial, hK _ _ ?_⟩;clear hK K;refine wpAnyIn_take (i := 21) (v := undef) rfl rfl (by kernel_rfl) (by kernel_rfl) (by kernel_rfl) (fun _ _ _ h => h) ⟨Or.inr ⟨by kernel_rfl, rfl⟩, fun _ => rfl⟩ ?_;refine wpAnyIn_take (i := 22) (v := ?_) rfl rfl (by kernel_rfl) (by kernel_rfl) (by kernel_rfl) (fun _ _ _ h => h) ⟨Or.inl ⟨by kernel_rfl, ?_⟩, fun _ => rfl⟩ ?_;rotate_left
  ·intro w; go_simp; with_reducible rfl
  refine wpAnyIn_done (by kernel_rfl) ?_ _;gi_wp2;exact ⟨Aside.below (aQ (Below.refl _ _)), HX.out.drew⟩
 case done =>
  rintro W3 hh hz1 hd;have HX := hid hh;have HR := hid HO;clear HO;have HO := hh;clear hh;rw [hL.out] at HO;(try simp only [yD] at HO); have kk := HO.kk
  gi_wp2_with (refine ⟨trivial, ?_⟩; gi_at_call 381; refine (callsIn_wide.2 (reverse_nil _)).mono ?_; rintro e w1 ⟨rfl, rfl⟩)
  refine ⟨by simp, .inl ⟨_, _, rfl, run_takeDeferred hd, ?_⟩⟩;refine ⟨.slice none 0 0, ?_, rfl, (Own.upto HX.out (fun A' hA' j hj => (HR.out.low A' hA' j hj).2) HR.out.size (aY _ _ (Nat.le_refl _))).below⟩;simp [results, Tryz.f385, go_sem]
end Go.Proofs.YtlkolghiknbbfaaGreatDoor
