/- Machine: block. -/
import Derived.Test.YtlkolghiknbbfaaGreatDoorMc
set_option linter.unusedVariables false
set_option linter.unusedSimpArgs false
set_option maxRecDepth 100000
set_option maxHeartbeats 4000000
namespace Go.Proofs.YtlkolghiknbbfaaGreatDoor
open Go.RowKit Go.MapKept
structure Du (gM gC gfr gf b2 cf cg cb gi n ci lab st_ en op : Nat) (W : World) : Prop where
 m0 : W.cell? ⟨gM, 0, none⟩ = some (.pointer (some ⟨gC, 0, none⟩))
 m2 : W.cell? ⟨gM, 2, none⟩ = some (.slice (some ⟨gfr, 0, none⟩) 1 cf)
 c0 : W.cell? ⟨gC, 0, none⟩ = some (.slice (some ⟨gi, 0, none⟩) n ci)
 c1 : W.cell? ⟨gC, 1, none⟩ = some (.slice (some ⟨gf, 0, none⟩) 1 cg)
 f0 : W.cell? ⟨gfr, 0, none⟩ = some (.int .i64 0)
 g3 : W.cell? ⟨gf, 3, none⟩ = some (.slice (some ⟨b2, 0, none⟩) 1 cb)
 b0 : W.cell? ⟨b2, 0, none⟩ = some (.int .u32 lab)
 b1 : W.cell? ⟨b2, 1, none⟩ = some (.int .i64 st_)
 b2 : W.cell? ⟨b2, 2, none⟩ = some (.int .i64 en)
 i0 : W.cell? ⟨gi, (st_ + 1) * 4, none⟩ = some (.int .u16 op)
theorem Du.below {gM gC gfr gf b2 cf cg cb gi n ci lab st_ en op : Nat} {w W : World} (h : Du gM gC gfr gf b2 cf cg cb gi n ci lab st_ en op w) (hb : Bl w W) : Du gM gC gfr gf b2 cf cg cb gi n ci lab st_ en op W :=
 ⟨ae h.m0 (block_lt_of_cell h.m0) hb, ae h.m2 (block_lt_of_cell h.m2) hb, ae h.c0 (block_lt_of_cell h.c0) hb, ae h.c1 (block_lt_of_cell h.c1) hb, ae h.f0 (block_lt_of_cell h.f0) hb, ae h.g3 (block_lt_of_cell h.g3) hb, ae h.b0 (block_lt_of_cell h.b0) hb, ae h.b1 (block_lt_of_cell h.b1) hb, ae h.b2 (block_lt_of_cell h.b2) hb, ae h.i0 (block_lt_of_cell h.i0) hb⟩
theorem BV (gM gC gm gfr cf gr cr k sz at_ gv rs gf b2 cg cb gi n ci lab st_ en op : Nat) (st : Value) (bk : Int) (from_ : Nat) (h245 : op ≠ 245) (h59 : op ≠ 59) (hst : st_ ≤ 1000000) (hlt : st_ + 1 < n) (w0 : World) (L : List As) (w : World) (H : Own aK w0 (kQ gM gC gm gfr cf gr cr k sz (.slice (some ⟨gfr, 0, none⟩) 1 cf) st (.int .u8 0) 0 bk at_ gv rs L) w)
  (cB : ∀ L' W bk' at', Own aK w0 (L' ++ kQ gM gC gm gfr cf gr cr k sz (.slice (some ⟨gfr, 0, none⟩) 1 cf) st (.int .u8 0) 0 bk' at' gv rs L) W → Du gM gC gfr gf b2 cf cg cb gi n ci lab st_ en op W)
  (cS : ∀ L' W, Own aK w0 (L' ++ kQ gM gC gm gfr cf gr cr k sz (.slice (some ⟨gfr, 0, none⟩) 1 cf) st (.int .u8 0) 0 0 (st_ + 1) gv rs L) W → Qc 161 #[.pointer (some ⟨gM, 0, none⟩)] W (.tuple #[])) :
  Calls Tryz.prog 120 #[.pointer (some ⟨gM, 0, none⟩), .int .i64 0, .int .u32 from_] w fun e w' => e = .returned (.tuple #[]) ∧ Own aK w0 (kQ gM gC gm gfr cf gr cr k sz (.slice (some ⟨gfr, 0, none⟩) 1 cf) st (.int .u8 0) 0 0 (st_ + 1) gv rs L) w' := by
 have HO := H;clear H;unfold kQ at HO;have i1 : (st_ : Int) ≤ 1000000 := by omega
 have i2 : (st_ : Int) + 1 < n := by omega
 have i3 : ((op : Int) == 245) = false := by rw [beq_eq_false_iff_ne]; omega
 have i4 : ((op : Int) == 59) = false := by rw [beq_eq_false_iff_ne]; omega
 clear h245 h59 hst hlt;have hmm := @run_makeMap Tryz.prog;go_enter Tryz.func120, Tryz.ntmps120;(try simp only [yD] at HO); have kk := HO.kk;go_step3;go_wp2_with (first | (go_at_call 116; (refine (iD (HO.cell 0 2 rfl rfl)).mono ?_); rintro e w1 ⟨rfl, hn1⟩; replace HO := HO.then hn1; clear hn1; (try clear kk); have kk := HO.kk));(try clear kk);replace HO := HO.drew;have hcl : ∀ W W2 : World, Du gM gC gfr gf b2 cf cg cb gi n ci lab st_ en op W → Bl W W2 → Du gM gC gfr gf b2 cf cg cb gi n ci lab st_ en op W2 := fun _ _ h k => h.below k
 have hSw := cB [] _ _ _ HO;refine au (S := fun W => Du gM gC gfr gf b2 cf cg cb gi n ci lab st_ en op W) (by kernel_rfl) ?_;refine ag hcl 0 ?_;refine ag hcl 1 ?_;refine ag hcl 2 ?_;refine ag hcl 3 ?_ (hv := fun w hw => by have q1 := hw.m0; go_simp; first | done | with_reducible rfl);refine ag hcl 4 ?_;refine ag hcl 5 ?_;refine ag hcl 6 ?_ (hv := fun w hw => by have q1 := hw.c1; go_simp; first | done | with_reducible rfl);refine ag hcl 7 ?_;refine ag hcl 8 ?_;refine ag hcl 9 ?_;refine ag hcl 10 ?_ (hv := fun w hw => by have q1 := hw.f0; go_simp; first | done | with_reducible rfl);refine ag hcl 11 ?_;refine ag hcl 12 ?_;refine ag hcl 13 ?_ (hv := fun w hw => by have q1 := hw.g3; go_simp; first | done | with_reducible rfl);refine ag hcl 14 ?_;refine ag hcl 15 ?_;refine ag hcl 16 ?_ (hv := fun w hw => by obtain ⟨-, -, -, -, -, -, q1, q2, q3, -⟩ := hw; go_simp; first | done | with_reducible rfl);refine dC [17] fun W2 hW2 => ?_
 replace HO := HO.then hW2
 clear hW2;refine dO (fun K hK => ?_);go_simp;have H := HO.alloc (.cells #[.int .u32 0, .int .i64 0, .int .i64 0] 207 (0, 0));refine bX hK (cB [_] _ _ _ H) ?_;clear hK K HO hSw;obtain ⟨gB, hE⟩ : ∃ gE, Hid (gE = W2.heap.size) := ⟨_, hid rfl⟩;rw [← hE.out] at H ⊢;refine dC [18] fun W3 hW3 => ?_
 have HO := H.then hW3
 clear hW3 H;have k0 := HO.cells 0 rfl;have m0 := HO.melt 0 rfl;refine dO (fun K hK => ?_);go_simp;have H := ((HO.set 0 0 (.int .u32 lab) rfl).set 0 1 (.int .i64 st_) rfl).set 0 2 (.int .i64 en) rfl;simp only [yT] at H;refine bX hK (cB [_] _ _ _ H) ?_;clear hK K k0 m0 HO;refine kS fun W8 hW8 => ?_
 have HO := H.then hW8
 clear H hW8 hE hcl;(try simp only [yD] at HO); have kk := HO.kk;go_wp2_with fail;(try clear kk);replace HO := HO.drew;have hcl : ∀ W W2 : World, W.cell? ⟨gB, 1, none⟩ = some (.int .i64 st_) → Bl W W2 → W2.cell? ⟨gB, 1, none⟩ = some (.int .i64 st_) := fun _ _ h k => ae h (block_lt_of_cell h) k
 have hSw := HO.cell 0 1 rfl rfl;refine au (S := fun W => W.cell? ⟨gB, 1, none⟩ = some (.int .i64 st_)) (by kernel_rfl) ?_;refine ag hcl 0 ?_;refine ag hcl 1 ?_;refine ag hcl 2 ?_;refine ag hcl 3 ?_;refine ag hcl 4 ?_ (hv := fun w hw => by have q1 := hw; go_simp; first | done | with_reducible rfl);refine ag hcl 5 ?_;refine ag hcl 6 ?_;refine ag hcl 7 ?_;refine dC [8] fun W2 hW2 => ?_
 replace HO := HO.then hW2
 clear hW2;have y1 := HO.rowcell 2 1 rfl rfl;have yf := World.ownsRow.frozenAt (HO.at 2 rfl : W2.ownsRow _ _ 5 (.slice (some ⟨gfr, 0, none⟩) 1 cf) 1 _) 1;refine dO (fun K hK => ?_);go_simp;have H := HO.rowset 2 1 (.int .i64 0) rfl;clear hSw;have hSw := H.cell 0 1 rfl rfl;refine bX hK hSw ?_;clear hK K y1 yf HO;refine ag hcl 9 ?_;refine ag hcl 10 ?_;refine dC [11] fun W2 hW2 => ?_
 have HO := H.then hW2
 clear hW2 H;simp only [yT] at HO;have y1 := HO.rowcell 2 2 rfl rfl;have yf := World.ownsRow.frozenAt (HO.at 2 rfl : W2.ownsRow _ _ 5 (.slice (some ⟨gfr, 0, none⟩) 1 cf) 1 _) 2;refine dO (fun K hK => ?_);go_simp;rw [IntWalk.i64_in ((st_ : Int) + 1) (by omega)];have H := HO.rowset 2 2 (.int .i64 ((st_ : Int) + 1)) rfl;clear hSw;have hSw := H.cell 0 1 rfl rfl;refine bX hK hSw ?_;clear hK K y1 yf HO;refine kS fun W8 hW8 => ?_
 have HO := H.then hW8
 clear H hW8 hcl hSw;simp only [yT] at HO;(try simp only [yD] at HO); have kk := HO.kk;go_wp2_with (first | (((with_reducible refine aB HO ?_); intro g hg; rw [← hg.out]; clear hg); clear HO; (try clear kk); intro W' HO kk));obtain ⟨gN, rfl⟩ : ∃ q, q = g := ⟨_, rfl⟩;go_step3;go_wp2_with fail;(try clear kk);refine wp_loop_rounds 1 ?_;rw [rounds_succ];obtain ⟨q0, q1, q2, q3, q4, q5, q6, q7, q8, q9⟩ := cB [_, _] _ 0 (st_ + 1) HO;have y2 := HO.rowcell 3 2 rfl rfl;have z0 := block_lt_of_cell q0;have z2 := block_lt_of_cell q2;have z9 := block_lt_of_cell q9;have zy := block_lt_of_cell y2;go_wp2_with fail;go_region;replace HO := HO.drew;clear q0 q1 q2 q3 q4 q5 q6 q7 q8 q9 y2 z0 z2 z9 zy hmm;have y3 := HO.rowcell 3 3 rfl rfl;have zy := block_lt_of_cell y3;go_wp2_with fail;refine (Di gv gN 0 _ (HO.blk 0 rfl)).mono ?_;clear y3 zy;rintro e w1 ⟨rfl, hn1⟩;replace HO := HO.then hn1
 clear hn1;obtain ⟨q0, q1, q2, q3, q4, q5, q6, q7, q8, q9⟩ := cB [_, _] _ 0 (st_ + 1) HO;have y2 := HO.rowcell 3 2 rfl rfl;have z0 := block_lt_of_cell q0;have z2 := block_lt_of_cell q2;have z9 := block_lt_of_cell q9;have zy := block_lt_of_cell y2;go_wp2_with fail;refine wp_loop_rounds 1 ?_;rw [rounds_succ];go_wp2_with fail;go_region;replace HO := HO.drew;clear q0 q1 q2 q3 q4 q5 q6 q7 q8 q9 y2 z0 z2 z9 zy;go_wp2_with fail;refine (cS [_, _] _ HO).mono ?_;clear cS cB;rintro e w2 ⟨rfl, hn1⟩;replace HO := HO.then hn1
 clear hn1;go_wp2_with fail;unfold kQ
 first
  | (rw [Exit.noGoto_normal]; exact bodyPost_end (results_none rfl _ _ _) rfl ⟨rfl, HO.drop 2⟩)
  | (rw [Exit.noGoto_ret]; exact bodyPost_ret_by (results_none rfl _ _ _) rfl ⟨rfl, HO.drop 2⟩)
theorem DI (X gM k : Nat) (w : World) (hX : w.cell? ⟨X, 0, none⟩ = some (.pointer (some ⟨gM, 0, none⟩))) (h : w.cell? ⟨gM, 3, none⟩ = some (.int .i64 k)) : Calls Tryz.prog 11 #[.pointer (some ⟨X, 0, none⟩)] w fun e w' => e = .returned (.int .i64 k) ∧ w' = w := by
 have zX := block_lt_of_cell hX;have cS := Cj k h;clear h;go_enter Tryz.func11, Tryz.ntmps11;go_wp2_with (go_at_call 31; (with_reducible refine cS.mono ?_); rintro e w1 ⟨rfl, rfl⟩);go_ret;exact ⟨rfl, rfl⟩
theorem KA : El 142 201 5 40 := El.of Tryz.underlying142 (z := .agg #[.int .i64 0, .int .i64 0, .int .i64 0, .map none, .int .i64 0]) (by kernel_rfl) rfl (by omega)
theorem Jk {F : Nat → Nat → World → Prop} {w : World} {LH : Nat → Nat → List As} {g : Prop} (h2 : (∀ H a W, Own aK w (LH H a) W → F H a W) → g) (h1 : ∀ H a W, Own aK w (LH H a) W → F H a W) : g := h2 h1
structure Cd1 (gC gf b2 cg cb gi n ci id y lab st_ en op : Nat) (W : World) : Prop where
 c0 : W.cell? ⟨gC, 0, none⟩ = some (.slice (some ⟨gi, 0, none⟩) n ci)
 c1 : W.cell? ⟨gC, 1, none⟩ = some (.slice (some ⟨gf, 0, none⟩) 1 cg)
 g0 : W.cell? ⟨gf, 0, none⟩ = some (.int .u32 id)
 g1 : W.cell? ⟨gf, 1, none⟩ = some (.int .i64 y)
 g2 : W.cell? ⟨gf, 2, none⟩ = some (.slice none 0 0)
 g3 : W.cell? ⟨gf, 3, none⟩ = some (.slice (some ⟨b2, 0, none⟩) 1 cb)
 g4 : W.cell? ⟨gf, 4, none⟩ = some (.int .i64 en)
 b0 : W.cell? ⟨b2, 0, none⟩ = some (.int .u32 lab)
 b1 : W.cell? ⟨b2, 1, none⟩ = some (.int .i64 st_)
 b2 : W.cell? ⟨b2, 2, none⟩ = some (.int .i64 en)
 i0 : W.cell? ⟨gi, (st_ + 1) * 4, none⟩ = some (.int .u16 op)
theorem Dj (gM gC gm gr cr k sz gf cg id y b2 cb en gi n ci lab st_ op : Nat) (st : Value) (h245 : op ≠ 245) (h59 : op ≠ 59) (h6 : op ≠ 246) (h7 : op ≠ 247) (hst : st_ ≤ 1000000) (hlt : st_ + 1 < n) (w0 : World) (L : List As) (w : World) (H : Own aK w0 (aP gM #[.pointer (some ⟨gC, 0, none⟩), .pointer (some ⟨gm, 0, none⟩), .slice none 0 0, st, .int .u8 0] 144 :: aP gm #[.slice (some ⟨gr, 0, none⟩) k cr, .int .i64 sz] 197 :: L) w)
  (cF : ∀ L' W, Own aK w0 (L' ++ L) W → Cd1 gC gf b2 cg cb gi n ci id y lab st_ en op W) :
  Calls Tryz.prog 84 #[.pointer (some ⟨gM, 0, none⟩), .int .i64 0, .slice none 0 0] w fun e w' => e = .returned (.tuple #[]) ∧ ∃ gfr cf gv, Own aK w0 (kQ gM gC gm gfr cf gr cr k sz (.slice (some ⟨gfr, 0, none⟩) 1 cf) st (.int .u8 0) 0 0 (st_ + 1) gv k (iO (.int .u32) bR iL gv (fun _ => none) :: L)) w' := by
 have HO := H;clear H;obtain ⟨-, q1, q2, q3, q4, q5, q6, -⟩ := cF [_, _] _ HO;have z1 := block_lt_of_cell q1;have z2 := block_lt_of_cell q2;go_enter Tryz.func84, Tryz.ntmps84;(try simp only [yD] at HO); have kk := HO.kk;go_wp2_with (first | ((first | ((with_reducible refine aB HO ?_); intro g hg; rw [← hg.out]; clear hg) | (with_reducible refine ah HO ?_) | (refine ay 137 HO ?_)); clear HO; (try clear kk); intro W' HO kk));clear q1 q2 q3 q4 q5 q6 z1 z2;(try clear kk);have hmm := @run_makeMap Tryz.prog;replace HO := HO.drew;replace HO := HO.row 0 201 5;have hcl : ∀ W W2 : World, (W.cell? ⟨gM, 1, none⟩ = some (.pointer (some ⟨gm, 0, none⟩)) ∧ W.cell? ⟨gm, 0, none⟩ = some (.slice (some ⟨gr, 0, none⟩) k cr)) → Bl W W2 → (W2.cell? ⟨gM, 1, none⟩ = some (.pointer (some ⟨gm, 0, none⟩)) ∧ W2.cell? ⟨gm, 0, none⟩ = some (.slice (some ⟨gr, 0, none⟩) k cr)) := fun _ _ h k => ⟨ae h.1 (block_lt_of_cell h.1) k, ae h.2 (block_lt_of_cell h.2) k⟩
 have cN := fun W (h : W.cell? ⟨gM, 1, none⟩ = some (.pointer (some ⟨gm, 0, none⟩)) ∧ W.cell? ⟨gm, 0, none⟩ = some (.slice (some ⟨gr, 0, none⟩) k cr)) => (Jj gm k cr _ W h.2).mono (fun e w' q => (⟨q.1, q.2 ▸ Below.refl _ _⟩ : e = .returned (.int .i64 k) ∧ Bl W w'))
 have hSw := And.intro (HO.cell 2 1 rfl rfl) (HO.cell 3 0 rfl rfl);refine au (S := fun W => W.cell? ⟨gM, 1, none⟩ = some (.pointer (some ⟨gm, 0, none⟩)) ∧ W.cell? ⟨gm, 0, none⟩ = some (.slice (some ⟨gr, 0, none⟩) k cr)) (by kernel_rfl) ?_;refine ag hcl 0 ?_;refine ag hcl 1 ?_;refine ag hcl 2 ?_;refine ag hcl 3 ?_;refine ag hcl 5 ?_;refine ag hcl 7 ?_;refine ag hcl 8 ?_;refine ag hcl 9 ?_;refine ag hcl 10 ?_ (hv := fun w hw => by have q1 := hw.1; go_simp; first | done | with_reducible rfl);refine tV hcl 11 115 (fun w hw => cN w hw) ?_;refine dC [4, 6] fun W2 hW2 => ?_
 replace HO := HO.then hW2
 clear hW2 hSw;apply Jk
 case h2 =>
  intro key;refine BF (fun K hK => ?_) fun K hK => ?_
  ·have k0 := HO.cells 2 rfl
   go_simp;refine bX hK (And.intro (HO.cell 2 1 rfl rfl) (HO.cell 3 0 rfl rfl)) ?_;clear hK K k0;refine dC [6] fun W3 hW3 => ?_
   replace HO := HO.then hW3
   clear hW3;refine dO (fun K hK => ?_);go_simp;have H := HO.alloc (.map #[] 0);refine bX hK (And.intro (H.cell 3 1 rfl rfl) (H.cell 4 0 rfl rfl)) ?_;clear hK K H;refine bV HO ?_;generalize W3.heap.size = H;intro W4 HN;have hSw := And.intro (HN.cell 3 1 rfl rfl) (HN.cell 4 0 rfl rfl);refine ag hcl 12 ?_;refine dC [13] fun W5 hW5 => ?_
   replace HN := HN.then hW5
   clear hW5 hSw;refine dO (fun K hK => ?_);go_simp;refine bX hK (And.intro ((HN.alloc _).cell 4 1 rfl rfl) ((HN.alloc _).cell 5 0 rfl rfl)) ?_;clear hK K;refine bV HN ?_;generalize W5.heap.size = a;intro W6 HN2;exact key H a W6 HN2
  ·go_simp
   have H := HO.alloc (.map #[] 0);refine bX hK (And.intro (H.cell 3 1 rfl rfl) (H.cell 4 0 rfl rfl)) ?_;clear hK K H;refine bV HO ?_;generalize W2.heap.size = H;intro W4 HN;have hSw := And.intro (HN.cell 3 1 rfl rfl) (HN.cell 4 0 rfl rfl);refine ag hcl 12 ?_;refine dC [4, 13] fun W3 hW3 => ?_
   replace HN := HN.then hW3
   clear hW3 hSw;refine BF (fun K hK => ?_) fun K hK => ?_
   ·have k0 := HN.cells 3 rfl
    go_simp;refine bX hK (And.intro (HN.cell 3 1 rfl rfl) (HN.cell 4 0 rfl rfl)) ?_;clear hK K k0;refine dC [13] fun W5 hW5 => ?_
    replace HN := HN.then hW5
    clear hW5;refine dO (fun K hK => ?_);go_simp;refine bX hK (And.intro ((HN.alloc _).cell 4 1 rfl rfl) ((HN.alloc _).cell 5 0 rfl rfl)) ?_;clear hK K;refine bV HN ?_;generalize W5.heap.size = a;intro W6 HN2;exact key H a W6 HN2
   ·go_simp
    refine bX hK (And.intro ((HN.alloc _).cell 4 1 rfl rfl) ((HN.alloc _).cell 5 0 rfl rfl)) ?_;clear hK K;refine bV HN ?_;generalize W3.heap.size = a;intro W6 HN2;refine dC [4] fun W5 hW5 => ?_
    replace HN2 := HN2.then hW5
    clear hW5;have k0 := HN2.cells 4 rfl;refine dO (fun K hK => ?_);go_simp;refine bX hK (And.intro (HN2.cell 4 1 rfl rfl) (HN2.cell 5 0 rfl rfl)) ?_;clear hK K k0;exact key H a W5 HN2
 clear HO;intro gv a W4 HO;have hSw := And.intro (HO.cell 4 1 rfl rfl) (HO.cell 5 0 rfl rfl);refine dC [14] fun W5 hW5 => ?_
 replace HO := HO.then hW5
 clear hW5 hSw;refine dO (fun K hK => ?_);refine bY HO KA 2 0 rfl rfl rfl _ _ rfl rfl rfl rfl (by simp [Value.oneCell']) (by omega) (by omega) (Nat.zero_le _) ?_;intro gfr cf W6 HP;simp only [yT] at HP;have hSw := And.intro (HP.cell 4 1 rfl rfl) (HP.cell 5 0 rfl rfl);refine bX hK hSw ?_;clear hK K HO;refine ag hcl 15 ?_;refine ag hcl 16 ?_;refine dC [17] fun W7 hW7 => ?_
 have HO := HP.then hW7
 clear hW7 HP hSw;have k0 := HO.cells 4 rfl;have m0 := HO.melt 4 rfl;refine dO (fun K hK => ?_);go_simp;have H := HO.set 4 2 (.slice (some ⟨gfr, 0, none⟩) 1 cf) rfl;refine bX hK (And.intro (H.cell 4 1 rfl rfl) (H.cell 5 0 rfl rfl)) ?_;clear hK K k0 m0 HO;refine kS fun W8 hW8 => ?_
 have HO := H.then hW8
 clear H hW8;(try simp only [yT] at HO);simp only [Nat.zero_add, List.nil_append] at HO;(try simp only [yD] at HO); have kk := HO.kk;have i1 : (st_ : Int) ≤ 1000000 := by omega
 have i2 : (st_ : Int) + 1 < n := by omega
 have i4 : ((op : Int) == 59) = false := by rw [beq_eq_false_iff_ne]; omega
 clear hmm hcl cN;go_wp2_with (first | (go_at_call 116; (refine (iD (HO.cell 4 2 rfl rfl)).mono ?_); rintro e w1 ⟨rfl, hn1⟩; replace HO := HO.then hn1; clear hn1; (try clear kk); have kk := HO.kk));refine wp_loop_rounds 1 ?_;rw [rounds_succ];obtain ⟨q0, q1, q2, q3, q4, q5, q6, q7, q8, q9, q10⟩ := cF [_, _, _, _, _, _] _ HO;have z0 := block_lt_of_cell q0;have z8 := block_lt_of_cell q8;have z10 := block_lt_of_cell q10;go_wp2_with fail;refine wp_loop_rounds 1 ?_;rw [rounds_succ];go_wp2_with fail;clear q0 q1 q2 q3 q4 q5 q6 q7 q8 q9 q10 z0 z8 z10 i1 i2 i4;(try clear kk);replace HO := HO.pull 3 rfl;simp only [yE] at HO;replace HO := HO.pull 1 rfl;simp only [yE] at HO;replace HO := HO.pull 2 rfl;simp only [yE] at HO;replace HO := HO.pull 5 rfl;simp only [yE] at HO;replace HO := HO.pull 4 rfl;simp only [yE] at HO;replace HO := HO.pull 5 rfl;simp only [yE] at HO;have H : Own aK w0 (kQ gM gC gm gfr cf gr cr k sz (.slice (some ⟨gfr, 0, none⟩) 1 cf) st (.int .u8 0) 0 0 0 gv k (blk gv (.map #[] 0) :: L)) w1 := HO.sub (.cons_cons _ (.cons_cons _ (.cons_cons _ (.cons_cons _ (.cons _ (.cons _ (List.Sublist.refl _)))))));clear HO;refine (BV gM gC gm gfr cf gr cr k sz 0 gv k gf b2 cg cb gi n ci lab st_ en op st 0 0 h245 h59 hst hlt w0 _ _ H (fun L' W bk' at' h => ?_) (fun L' W h => ?_)).mono ?_
 ·have q := cF (L' ++ [_, _, _, _]) W (by rw [List.append_assoc]; exact h)
  have h := h.sub (List.sublist_append_right L' _);exact ⟨h.cell 0 0 rfl rfl, h.cell 0 2 rfl rfl, q.c0, q.c1, h.rowcell 1 0 rfl rfl, q.g3, q.b0, q.b1, q.b2, q.i0⟩
 ·have q := cF (L' ++ [_, _, _, _]) W (by rw [List.append_assoc]; exact h)
  have h := h.sub (List.sublist_append_right L' _);exact qH ⟨h.cell 0 0 rfl rfl, h.cell 0 1 rfl rfl, h.cell 0 2 rfl rfl, q.c0, h.rowcell 1 2 rfl rfl, h.rowcell 1 3 rfl rfl⟩ op hlt q.i0 h6 h7
 clear H;rintro e w2 ⟨rfl, HO⟩;go_wp2_with fail
 first
  | exact bodyPost_end (results_none rfl _ _ _) rfl ⟨rfl, gfr, cf, gv, HO.recast 3 (A' := iO (.int .u32) bR iL gv (fun _ => none)) rfl (fun k hk => hk) (fQ (HO.blk 3 rfl))⟩
  | exact bodyPost_ret_by (results_none rfl _ _ _) rfl ⟨rfl, gfr, cf, gv, HO.recast 3 (A' := iO (.int .u32) bR iL gv (fun _ => none)) rfl (fun k hk => hk) (fQ (HO.blk 3 rfl))⟩
theorem DK (b c n : Nat) (xs : List Value) (hl : xs.length = n) (h0 : 0 < n) (hn : n ≤ 1048576) (w : World) (h1 : ∀ u ∈ xs, u.oneCell' = true) (h : ∀ j u, xs[j]? = some u → w.cell? ⟨b, 0 + j, none⟩ = some u) :
  Calls Tryz.prog 81 #[.slice (some ⟨b, 0, none⟩) n c] w fun e w' => ∃ g' c', e = .returned (.slice (some ⟨g', 0, none⟩) n c') ∧ Own aK w [bM 0 24 1 (.slice (some ⟨g', 0, none⟩) n c') n xs] w' := by
 have HO := Own.nil w;have he : ∀ w, (binOp .eql 127 (.slice (some ⟨b, 0, none⟩) n c) (.slice none 0 0)).run Tryz.prog w = .ok (.bool false) w := fun _ => by kernel_rfl
 have hc : ∀ W, Bl w W → ∀ j u, xs[j]? = some u → W.cell? ⟨b, 0 + j, none⟩ = some u := fun W hb j u hu => ae (h j u hu) (block_lt_of_cell (h j u hu)) hb
 clear h;go_enter Tryz.func81, Tryz.ntmps81;go_wp2_with (first | ((with_reducible refine aM HO ?_); clear HO; (try clear kk); intro g W' hg HO; rw [← hg.out]; clear hg; (try simp only [yT] at HO); have kk := HO.kk) | ((with_reducible refine aA ?_); replace HO := HO.empty 1 (HO.le 0 rfl); refine xN HO je 0 rfl b 0 n c xs rfl _ _ rfl rfl rfl (hl.trans (Nat.mul_one _).symm) (hc _ HO.below) h1 h0 (by omega) (by omega) (Nat.le_refl _) ?_; clear HO; (try clear kk); intro g1 c1 W' HO; (try simp only [yT] at HO)));go_ret;simp only [Nat.zero_add, List.nil_append] at HO ⊢;exact ⟨_, _, rfl, HO.base0⟩
structure StC (gC gs cs gp cp bi oi t0 t1 t2 t3 c0 c1 c2 c3 d0 o0 e0 d1 o1 e1 a b : Nat) (W : World) : Prop where
 c5 : W.cell? ⟨gC, 9, none⟩ = some (.int .i64 0)
 c7 : W.cell? ⟨gC, 11, none⟩ = some (.slice (some ⟨gs, 0, none⟩) 4 cs)
 c8 : W.cell? ⟨gC, 12, none⟩ = some (.slice (some ⟨gp, 0, none⟩) 2 cp)
 s0 : W.cell? ⟨gs, 0, none⟩ = some (.slice (some ⟨t0, 0, none⟩) 1 c0)
 s1 : W.cell? ⟨gs, 1, none⟩ = some (.slice (some ⟨t1, 0, none⟩) 1 c1)
 s2 : W.cell? ⟨gs, 2, none⟩ = some (.slice (some ⟨t2, 0, none⟩) 1 c2)
 s3 : W.cell? ⟨gs, 3, none⟩ = some (.slice (some ⟨t3, 0, none⟩) 4 c3)
 p0 : W.cell? ⟨gp, 0, none⟩ = some (.int .i64 0)
 p1 : W.cell? ⟨gp, 1, none⟩ = some (.int .i64 1)
 i0 : W.cell? ⟨bi, oi + 2, none⟩ = some (.slice (some ⟨d0, o0, none⟩) 1 e0)
 i1 : W.cell? ⟨bi, oi + 5, none⟩ = some (.slice (some ⟨d1, o1, none⟩) 1 e1)
 w0 : ∀ j u, (wV [a])[j]? = some u → W.cell? ⟨d0, o0 + j, none⟩ = some u
 w1 : ∀ j u, (wV [b])[j]? = some u → W.cell? ⟨d1, o1 + j, none⟩ = some u
 w2 : ∀ j u, (wV [0])[j]? = some u → W.cell? ⟨t2, 0 + j, none⟩ = some u
 w3 : ∀ j u, (wV [0, 0, 0, 0])[j]? = some u → W.cell? ⟨t3, 0 + j, none⟩ = some u
theorem Cd1.below {gC gf b2 cg cb gi n ci id y lab st_ en op : Nat} {w W : World} (h : Cd1 gC gf b2 cg cb gi n ci id y lab st_ en op w) (hb : Bl w W) : Cd1 gC gf b2 cg cb gi n ci id y lab st_ en op W :=
 have k : ∀ {g o : Nat} {v : Value}, w.cell? ⟨g, o, none⟩ = some v → W.cell? ⟨g, o, none⟩ = some v := fun h => ae h (block_lt_of_cell h) hb
 ⟨k h.c0, k h.c1, k h.g0, k h.g1, k h.g2, k h.g3, k h.g4, k h.b0, k h.b1, k h.b2, k h.i0⟩
theorem StC.below {gC gs cs gp cp bi oi t0 t1 t2 t3 c0 c1 c2 c3 d0 o0 e0 d1 o1 e1 a b : Nat} {w W : World} (h : StC gC gs cs gp cp bi oi t0 t1 t2 t3 c0 c1 c2 c3 d0 o0 e0 d1 o1 e1 a b w) (hb : Bl w W) : StC gC gs cs gp cp bi oi t0 t1 t2 t3 c0 c1 c2 c3 d0 o0 e0 d1 o1 e1 a b W :=
 have k : ∀ {g o : Nat} {v : Value}, w.cell? ⟨g, o, none⟩ = some v → W.cell? ⟨g, o, none⟩ = some v := fun h => ae h (block_lt_of_cell h) hb
 ⟨k h.c5, k h.c7, k h.c8, k h.s0, k h.s1, k h.s2, k h.s3, k h.p0, k h.p1, k h.i0, k h.i1, fun j u e => k (h.w0 j u e), fun j u e => k (h.w1 j u e), fun j u e => k (h.w2 j u e), fun j u e => k (h.w3 j u e)⟩
def pF (g c : Nat) (ys : List Nat) : As := bM 0 22 1 (.slice (some ⟨g, 0, none⟩) ys.length c) ys.length (wV ys)
def xx (gr cr g0 c0 g1 c1 g2 c2 g3 c3 : Nat) (y0 y1 y2 y3 : List Nat) (L : List As) : List As :=
 bM 0 24 1 (.slice (some ⟨gr, 0, none⟩) 4 cr) 4 [.slice (some ⟨g0, 0, none⟩) y0.length c0, .slice (some ⟨g1, 0, none⟩) y1.length c1, .slice (some ⟨g2, 0, none⟩) y2.length c2, .slice (some ⟨g3, 0, none⟩) y3.length c3] :: pF g0 c0 y0 :: pF g1 c1 y1 :: pF g2 c2 y2 :: pF g3 c3 y3 :: L
theorem Dz (gf b2 cg cb gi n ci id y lab st_ en op : Nat) (gC gs cs gp cp bi oi ic t0 t1 t2 t3 c0 c1 c2 c3 d0 o0 e0 d1 o1 e1 a b : Nat) (h245 : op ≠ 245) (h59 : op ≠ 59) (h6 : op ≠ 246) (h7 : op ≠ 247) (hst : st_ ≤ 1000000) (hlt : st_ + 1 < n) (w : World)
  (hS : StC gC gs cs gp cp bi oi t0 t1 t2 t3 c0 c1 c2 c3 d0 o0 e0 d1 o1 e1 a b w) (hC : Cd1 gC gf b2 cg cb gi n ci id y lab st_ en op w) :
  Calls Tryz.prog 29 #[.pointer (some ⟨gC, 0, none⟩), .slice (some ⟨bi, oi, none⟩) 2 ic] w fun e w' => ∃ gM gm gr cr gfr cf gv g0 k0 g1 k1 g2 k2 g3 k3, e = .returned (.tuple #[.pointer (some ⟨gM, 0, none⟩), .int .i64 0]) ∧ Own aK w (kQ gM gC gm gfr cf gr cr 4 7 (.slice (some ⟨gfr, 0, none⟩) 1 cf) (.int .i64 0) (.int .u8 0) 0 0 (st_ + 1) gv 4 (iO (.int .u32) bR iL gv (fun _ => none) :: xx gr cr g0 k0 g1 k1 g2 k2 g3 k3 [a] [b] [0] [0, 0, 0, 0] [])) w' := by
 have HO := Own.nil w;have HS := hid hS;obtain ⟨q0, q1, q2, q3, q4, q5, q6, q7, q8, q9, q10, -, -, -, -⟩ := hS;have z0 := block_lt_of_cell q0;have z2 := block_lt_of_cell q7;have z4 := block_lt_of_cell q9
 have cR : ∀ W, Bl w W → _ := fun W hb => DK gs cs 4 [.slice (some ⟨t0, 0, none⟩) 1 c0, .slice (some ⟨t1, 0, none⟩) 1 c1, .slice (some ⟨t2, 0, none⟩) 1 c2, .slice (some ⟨t3, 0, none⟩) 4 c3] rfl (by omega) (by omega) W (by simp [Value.oneCell']) (fun j u e => by
  have hS2 := HS.out.below hb
  match j, e with
  | 0, e => exact hS2.s0.trans e
  | 1, e => exact hS2.s1.trans e
  | 2, e => exact hS2.s2.trans e
  | 3, e => exact hS2.s3.trans e
  | _ + 4, e => cases e)
 go_enter Tryz.func29, Tryz.ntmps29;(try simp only [yD] at HO); have kk := HO.kk;go_wp2_with (first | (go_at_call 81; (with_reducible refine (cR _ HO.below).mono ?_); rintro e w1 ⟨gR, kR, rfl, hn1⟩; replace HO := HO.app hn1; clear hn1; simp only [List.cons_append, List.nil_append] at HO; (try clear kk); (try simp only [yD] at HO); have kk := HO.kk));refine wp_loop_rounds 3 ?_;rw [rounds_succ];have y2 := HO.rowcell 0 0 rfl rfl;have yf := World.ownsRow.frozenAt (HO.at 0 rfl : World.ownsRow _ _ _ _ (.slice (some ⟨gR, 0, none⟩) 4 kR) _ _) 0;have yz := block_lt_of_cell y2;go_wp2_with (first | ((first | refine kM 0 HO rfl ?_ | refine jJ 0 HO rfl ?_); intro W9 HO9; clear HO; (try clear kk); (try clear y2 yf yz); have HO := HO9; clear HO9; (try simp only [yT] at HO); (try simp only [yD] at HO); have kk := HO.kk));rw [rounds_succ];have y2 := HO.rowcell 0 1 rfl rfl;have yf := World.ownsRow.frozenAt (HO.at 0 rfl : World.ownsRow _ _ _ _ (.slice (some ⟨gR, 0, none⟩) 4 kR) _ _) 1;have yz := block_lt_of_cell y2;go_wp2_with (first | ((first | refine kM 0 HO rfl ?_ | refine jJ 0 HO rfl ?_); intro W9 HO9; clear HO; (try clear kk); (try clear y2 yf yz); have HO := HO9; clear HO9; (try simp only [yT] at HO); (try simp only [yD] at HO); have kk := HO.kk));rw [rounds_succ];go_wp2_with (first | (((with_reducible refine aB HO ?_); intro g hg; rw [← hg.out]; clear hg); clear HO; (try clear kk); intro W' HO kk) | (go_at_call 82; (with_reducible refine (JQ _).mono ?_); rintro e w1 ⟨gm, rfl, hn1⟩; replace HO := HO.app hn1; clear hn1; simp only [List.cons_append, List.nil_append] at HO; (try clear kk); (try simp only [yD] at HO); have kk := HO.kk));obtain ⟨gM, rfl⟩ : ∃ q, q = g := ⟨_, rfl⟩;clear q0 q1 q2 q3 q4 q5 q6 q7 q8 q9 q10;replace HO := HO.row 0 24 1;(try clear kk);replace HO := HO.pull 1 rfl;simp only [yE] at HO;replace HO := HO.pull 3 rfl;simp only [yE] at HO;replace HO := HO.pull 2 rfl;simp only [yE] at HO;replace HO := HO.pull 3 rfl;simp only [yE] at HO;(try simp only [yD] at HO); have kk := HO.kk;refine wp_loop_rounds 5 ?_;rw [rounds_succ];have y2 := HO.rowcell 2 0 rfl rfl;have yz := block_lt_of_cell y2;go_wp2_with fail;refine (oM gm _ _ _ _ _ _ _ [a] w _ _ HO (fun L' W h => (HS.out.below h.below).w0) (by simp) (by simp) (by omega)).mono ?_;clear y2 yz HO;(try clear kk);rintro e w2 ⟨rfl, gr, cr, g0, k0, HO⟩;(try simp only [yD] at HO); have kk := HO.kk;go_wp2_with fail;rw [rounds_succ];have y2 := HO.rowcell 3 1 rfl rfl;have yz := block_lt_of_cell y2;go_wp2_with fail;refine (oM gm _ _ _ _ _ _ _ [b] w _ _ HO (fun L' W h => (HS.out.below h.below).w1) (by simp) (by simp) (by omega)).mono ?_;clear y2 yz HO;(try clear kk);rintro e w2 ⟨rfl, gr, cr, g1, k1, HO⟩;(try simp only [yD] at HO); have kk := HO.kk;go_wp2_with fail;rw [rounds_succ];have y2 := HO.rowcell 4 2 rfl rfl;have yz := block_lt_of_cell y2;go_wp2_with fail;refine (oM gm _ _ _ _ _ _ _ [0] w _ _ HO (fun L' W h => (HS.out.below h.below).w2) (by simp) (by simp) (by omega)).mono ?_;clear y2 yz HO;(try clear kk);rintro e w2 ⟨rfl, gr, cr, g2, k2, HO⟩;(try simp only [yD] at HO); have kk := HO.kk;go_wp2_with fail;rw [rounds_succ];have y2 := HO.rowcell 5 3 rfl rfl;have yz := block_lt_of_cell y2;go_wp2_with fail;refine (oM gm _ _ _ _ _ _ _ [0,0,0,0] w _ _ HO (fun L' W h => (HS.out.below h.below).w3) (by simp) (by simp) (by omega)).mono ?_;clear y2 yz HO;(try clear kk);rintro e w2 ⟨rfl, gr, cr, g3, k3, HO⟩;(try simp only [yD] at HO); have kk := HO.kk;go_wp2_with fail;rw [rounds_succ];have q0 := HS.out.c5;go_wp2_with fail;clear q0;(try clear kk);replace HO := HO.pull 6 rfl;simp only [yE] at HO;replace HO := HO.pull 3 rfl;simp only [yE] at HO;replace HO := HO.pull 4 rfl;simp only [yE] at HO;replace HO := HO.pull 5 rfl;simp only [yE] at HO;replace HO := HO.pull 6 rfl;simp only [yE] at HO;replace HO := HO.pull 6 rfl;simp only [yE] at HO;replace HO := HO.pull 6 rfl;simp only [yE] at HO;replace HO := HO.pull 7 rfl;simp only [yE] at HO;have H : Own aK w (aP gM #[.pointer (some ⟨gC, 0, none⟩), .pointer (some ⟨gm, 0, none⟩), .slice none 0 0, .int .i64 0, .int .u8 0] 144 :: aP gm #[.slice (some ⟨gr, 0, none⟩) (4 : Nat) cr, .int .i64 (7 : Nat)] 197 :: xx gr cr g0 k0 g1 k1 g2 k2 g3 k3 [a] [b] [0] [0, 0, 0, 0] []) _ := HO.sub (.cons_cons _ (.cons_cons _ (.cons_cons _ (.cons_cons _ (.cons_cons _ (.cons_cons _ (.cons_cons _ (.cons _ .slnil))))))));refine (Dj gM gC gm gr cr 4 7 gf cg id y b2 cb en gi n ci lab st_ op (.int .i64 0) h245 h59 h6 h7 hst hlt w _ _ H (fun L' W h => hC.below h.below)).mono ?_;clear H HO;rintro e w3 ⟨rfl, gfr, cf, gv, HO⟩;go_wp2_with fail;go_ret2;exact ⟨gM, gm, gr, cr, gfr, cf, gv, g0, k0, g1, k1, g2, k2, g3, k3, rfl, HO⟩
end Go.Proofs.YtlkolghiknbbfaaGreatDoor
