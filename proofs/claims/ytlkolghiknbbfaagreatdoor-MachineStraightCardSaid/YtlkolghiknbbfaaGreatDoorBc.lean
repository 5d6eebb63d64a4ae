/- Typing: what the checker reads; of, part, to, leaf, isNumbers, leaves. -/
import Derived.Test.YtlkolghiknbbfaaGreatDoorAz
set_option linter.unusedVariables false
set_option linter.unusedSimpArgs false
set_option maxRecDepth 100000
set_option maxHeartbeats 4000000
namespace Go.Proofs.YtlkolghiknbbfaaGreatDoor
open Go.RowKit Go.MapKept
structure uz (K T mk b o cap back : Nat) (l : List In) (sv : Nat → Option Addr × Nat) (fm : Nat → Option Nat) (tab : Nat → Option dU) (W : World) : Prop where
 c0 : W.cell? ⟨K, 0, none⟩ = some (.pointer (some ⟨T, 0, none⟩))
 c2 : W.cell? ⟨K, 2, none⟩ = some (.slice (some ⟨b, o, none⟩) l.length cap)
 c3 : W.cell? ⟨K, 3, none⟩ = some (.map (some mk))
 c4 : W.cell? ⟨K, 4, none⟩ = some (.int .u32 back)
 mp : Mp (.int .u32) bR (fun _ v j => v = uB (l.getD j ai) (sv j)) W mk fm
 ms : Ms W b o l sv
 tb : ∃ lo, dX lo T tab W
theorem uz.below {K T mk b o cap back : Nat} {l : List In} {sv : Nat → Option Addr × Nat} {fm : Nat → Option Nat} {tab : Nat → Option dU} {W W' : World} (h : uz K T mk b o cap back l sv fm tab W) (hb : Bl W W') : uz K T mk b o cap back l sv fm tab W' := by
 obtain ⟨lo, ht⟩ := h.tb;exact ⟨ae h.c0 (block_lt_of_cell h.c0) hb, ae h.c2 (block_lt_of_cell h.c2) hb, ae h.c3 (block_lt_of_cell h.c3) hb, ae h.c4 (block_lt_of_cell h.c4) hb, h.mp.other (hb.block _ h.mp.lt) (fun _ _ e => e), h.ms.below hb, ⟨lo, ht.below hb⟩⟩
section
variable {K T mk b o cap back : Nat} {l : List In} {sv : Nat → Option Addr × Nat} {fm : Nat → Option Nat} {tab : Nat → Option dU} {w : World}
theorem oh (h : uz K T mk b o cap back l sv fm tab w) (id j : Nat) (hf : fm id = some j) (hop : (l.getD j ai).op ≠ 54) :
  Qc 394 #[.pointer (some ⟨K, 0, none⟩), .int .u32 id] w (.int .u32 (l.getD j ai).ty) := by
 have HO := Own.nil w;have g3 := h.c3;have zK := block_lt_of_cell g3;have hl : (Instr.lookup 220 (.map (some mk)) (.int .u32 id) false).run Tryz.prog w = .ok (uB (l.getD j ai) (sv j)) w := by
  obtain ⟨v, hv, hq⟩ := h.mp.hit dK Tryz.underlying220 Tryz.underlying22 hf;subst hv;exact hq false
 clear h hf;generalize l.getD j ai = i at hl hop ⊢;generalize sv j = s at hl;obtain ⟨op, ty, res, args⟩ := i;obtain ⟨sa, sc⟩ := s;have i1 : ((op : Int) == 54) = false := by rw [beq_eq_false_iff_ne]; intro e; exact hop (by show op = 54; omega)
 clear hop;unfold uB at hl;simp only at hl ⊢;go_enter Tryz.func394, Tryz.ntmps394;go_wp2_with (first | ((first | (with_reducible refine bf HO ?_; intro g hg; rw [← hg.out]; clear hg) | (with_reducible refine ah HO ?_) | (refine ay 73 HO ?_)); clear HO; (try clear kk); intro W' HO kk));go_ret;exact ⟨rfl, HO.below⟩
theorem nH (ty k p : Nat) (bb : Bool) (g0 : w.cell? ⟨K, 0, none⟩ = some (.pointer (some ⟨T, 0, none⟩))) (cP : ∀ W, Bl w W → Qc 117 #[.pointer (some ⟨T, 0, none⟩), .int .u32 ty, .int .i64 k] W (.tuple #[.int .u32 p, .bool bb])) :
  Qc 391 #[.pointer (some ⟨K, 0, none⟩), .int .u32 ty, .int .i64 k] w (.int .u32 p) := by
 have HO := Own.nil w;have zK := block_lt_of_cell g0;go_enter Tryz.func391, Tryz.ntmps391;go_wp2_with (first | (go_at_call 117; with_reducible refine fF HO (cP _ HO.below) ?_; clear HO; intro w1 HO));go_ret;exact ⟨rfl, HO.below⟩
theorem zJ (h : uz K T mk b o cap back l sv fm tab w) (ty p : Nat) (d : dU) (hd : tab ty = some d) (hk : d.kind = 7) (ht : d.times = 0) (hp : d.parts = [p]) :
  Qc 434 #[.pointer (some ⟨K, 0, none⟩), .int .u32 ty] w (.tuple #[.int .u32 p, .int .u32 d.aP]) := by
 have HO := Own.nil w;have g0 := h.c0;have zK := block_lt_of_cell g0;have ed : aD tab ty = d := by unfold aD; rw [hd]; rfl
 have cC : ∀ W, Bl w W → Qc 177 #[.pointer (some ⟨T, 0, none⟩), .int .u32 ty] W (.tuple #[.int .u32 d.aP, .bool true]) := fun W hb => by
  obtain ⟨lo, ht⟩ := (h.below hb).tb;have := ht.class_ ty;rw [ed, hk] at this;exact this
 have cP : ∀ W, Bl w W → Qc 391 #[.pointer (some ⟨K, 0, none⟩), .int .u32 ty, .int .i64 0] W (.int .u32 p) := fun W hb => by
  have := nH (K := K) (T := T) (w := W) ty 0 p true (h.below hb).c0 (fun W2 hb2 => by
   obtain ⟨lo, ht2⟩ := ((h.below hb).below hb2).tb
   exact ht2.part_list ty 0 p d hd ht (by rw [hp]; rfl) (by rw [hp]; simp))
  exact this
 clear h hd hk ht hp ed;go_enter Tryz.func434, Tryz.ntmps434;go_wp2_with (first | (go_at_call 177; with_reducible refine fF HO (cC _ HO.below) ?_; clear HO; intro w1 HO) | (go_at_call 391; with_reducible refine fF HO (cP _ HO.below) ?_; clear HO; intro w1 HO));go_ret2;exact ⟨rfl, HO.below⟩
theorem wS (h : uz K T mk b o cap back l sv fm tab w) (ty : Nat) (hk : (aD tab ty).kind ≠ 4) :
  Qc 428 #[.pointer (some ⟨K, 0, none⟩), .int .u32 ty] w (.int .u8 (aD tab ty).kind) := by
 have HO := Own.nil w;have g0 := h.c0;have zK := block_lt_of_cell g0;have cC : ∀ W, Bl w W → Qc 142 #[.pointer (some ⟨T, 0, none⟩), .int .u32 ty] W (.int .u8 (aD tab ty).kind) := fun W hb => by
  obtain ⟨lo, ht⟩ := (h.below hb).tb;exact ht.kind ty
 clear h;generalize (aD tab ty).kind = kd at cC hk ⊢;have i1 : ((kd : Int) == 4) = false := by rw [beq_eq_false_iff_ne]; omega
 clear hk;go_enter Tryz.func428, Tryz.ntmps428;go_wp2_with (first | (go_at_call 142; (with_reducible refine (cC _ HO.below).mono ?_); rintro e w1 ⟨rfl, hn1⟩; replace HO := HO.then hn1; clear hn1; (try clear ho); have ho := Own.old HO));go_ret;exact ⟨rfl, HO.below⟩
theorem Cy (h : uz K T mk b o cap back l sv fm tab w) (ty : Nat) (hk : (aD tab ty).kind = 4) (ht : 0 < (aD tab ty).times ∧ (aD tab ty).times ≤ 5000) (hl : (aD tab ty).parts.length ≤ 2000000) :
  Qc 428 #[.pointer (some ⟨K, 0, none⟩), .int .u32 ty] w (.int .u8 (aD tab (aD tab ty).part).kind) := by
 have HO := Own.nil w;have g0 := h.c0;have zK := block_lt_of_cell g0;have cC : ∀ W, Bl w W → Qc 142 #[.pointer (some ⟨T, 0, none⟩), .int .u32 ty] W (.int .u8 4) := fun W hb => by
  obtain ⟨lo, ht⟩ := (h.below hb).tb;have := ht.kind ty;rw [hk] at this;exact this
 have cP : ∀ W, Bl w W → Qc 391 #[.pointer (some ⟨K, 0, none⟩), .int .u32 ty, .int .i64 0] W (.int .u32 (aD tab ty).part) := fun W hb =>
  nH (K := K) (T := T) (w := W) ty 0 _ true (h.below hb).c0 (fun W2 hb2 => by
   obtain ⟨lo, ht2⟩ := ((h.below hb).below hb2).tb
   exact ht2.part_one ty 0 ht.1 (by omega) ⟨ht.2, hl⟩)
 have cD : ∀ W, Bl w W → Qc 142 #[.pointer (some ⟨T, 0, none⟩), .int .u32 (aD tab ty).part] W (.int .u8 (aD tab (aD tab ty).part).kind) := fun W hb => by
  obtain ⟨lo, ht⟩ := (h.below hb).tb;exact ht.kind _
 clear h hk ht hl;generalize (aD tab (aD tab ty).part).kind = kd at cD ⊢;generalize (aD tab ty).part = p at cP cD;go_enter Tryz.func428, Tryz.ntmps428;go_wp2_with (first | (go_at_call 142; (first | (with_reducible refine (cC _ HO.below).mono ?_) | (with_reducible refine (cD _ HO.below).mono ?_)); rintro e w1 ⟨rfl, hn1⟩; replace HO := HO.then hn1; clear hn1; (try clear ho); have ho := Own.old HO) | (go_at_call 391; (with_reducible refine (cP _ HO.below).mono ?_); rintro e w1 ⟨rfl, hn1⟩; replace HO := HO.then hn1; clear hn1; (try clear ho); have ho := Own.old HO));go_ret;exact ⟨rfl, HO.below⟩
theorem rZ (ty x : Nat) (hx : x = 3) (cL : ∀ W, Bl w W → Qc 428 #[.pointer (some ⟨K, 0, none⟩), .int .u32 ty] W (.int .u8 x)) :
  Qc 392 #[.pointer (some ⟨K, 0, none⟩), .int .u32 ty] w (.bool true) := by
 have HO := Own.nil w;subst hx;go_enter Tryz.func392, Tryz.ntmps392;go_wp2_with (first | (go_at_call 428; with_reducible refine fF HO (cL _ HO.below) ?_; clear HO; intro w1 HO));go_ret;exact ⟨rfl, HO.below⟩
theorem xI (h : uz K T mk b o cap back l sv fm tab w) (i : Value × Value × Value × Value) (hk : (aD tab back).kind = 1) :
  Qc 364 #[.pointer (some ⟨K, 0, none⟩), .agg #[i.1, i.2.1, i.2.2.1, i.2.2.2]] w (.bool true) := by
 obtain ⟨i0, i1, i2, i3⟩ := i;simp only;have HO := Own.nil w;have g0 := h.c0;have g4 := h.c4;have zK := block_lt_of_cell g0;have cC : ∀ W, Bl w W → Qc 142 #[.pointer (some ⟨T, 0, none⟩), .int .u32 back] W (.int .u8 1) := fun W hb => by
  obtain ⟨lo, ht⟩ := (h.below hb).tb;have := ht.kind back;rw [hk] at this;exact this
 clear h hk;go_enter Tryz.func364, Tryz.ntmps364;go_wp2_with (first | ((first | ((with_reducible refine aB HO ?_); intro g hg; rw [← hg.out]; clear hg) | (with_reducible refine ah HO ?_)); clear HO; (try clear kk); intro W' HO kk));have zK2 : K < W'.heap.size := Nat.lt_of_lt_of_le zK HO.size;have q0 := HO.below.cell (p := ⟨K, 0, none⟩) zK;have q4 := HO.below.cell (p := ⟨K, 4, none⟩) zK;rw [g0] at q0;rw [g4] at q4;have B0 := Below.refl W'.heap.size W';have bl := HO.below;have cC1 : ∀ W, Bl W' W → _ := fun W hb => cC W (bl.trans (hb.mono bl.size))
 clear cC;(try replace kk := kk.2);go_cut [4] (fun s4 wx => s4 = .bool true ∧ Bl w wx)
 case first =>
  go_region_held3 (fun W => (∀ b j, b < W'.heap.size → W.cell? ⟨b, j, none⟩ = W'.cell? ⟨b, j, none⟩) ∧ Bl W' W) ((refine mkS W' _ ?_; repeat (first | exact B0 | refine aQ ?_ | refine bP ?_ _ | refine az ?_ hn1.out | refine aG ?_ (by first | assumption | omega) _ | refine aR ?_ (by first | assumption | omega))))
   (first | (go_at_call 142; (with_reducible refine (cC1 _ (by repeat (first | exact B0 | refine aQ ?_ | refine bP ?_ _ | refine az ?_ hn1.out | refine aG ?_ (by first | assumption | omega) _ | refine aR ?_ (by first | assumption | omega)))).mono ?_); rintro e w2 ⟨rfl, hn0⟩; have hn1 := hid hn0; clear hn0))
  all_goals
   go_wp2_with fail;rename_i hh;go_meet;exact ⟨rfl, bl.trans (hh.2.mono bl.size)⟩
 case rest =>
 obtain ⟨rfl, h1⟩ := hcut;go_wp2_with fail;go_ret;exact ⟨rfl, h1⟩
end
section
variable {K T mk b o cap back : Nat} {l : List In} {sv : Nat → Option Addr × Nat} {fm : Nat → Option Nat} {tab : Nat → Option dU} {w : World}
theorem Dy {lo : Nat} (h : dX lo T tab w) (x y : Nat) (hs : (aD tab x).size ≠ 0) (h1 : (aD tab x).kind = (aD tab y).kind) (h2 : (aD tab x).size = (aD tab y).size) (h3 : (aD tab x).times = (aD tab y).times) (h4 : (aD tab x).parts = []) (h5 : (aD tab y).parts = []) (h6 : (aD tab x).kind ≠ 4 ∧ (aD tab x).kind ≠ 5) :
  Qc 431 #[.pointer (some ⟨T, 0, none⟩), .int .u32 x, .int .u32 y] w (.bool true) := by
 obtain ⟨al, f, Dm, -, -, -, hT, hR, -⟩ := h.at_;have HO := Own.nil w;have cA : ∀ W, Bl w W → Qc 155 #[.pointer (some ⟨T, 0, none⟩), .int .u32 x] W (fK (aV f x)) := fun W hb => fU T al f x W (hT.below hb)
 have cB : ∀ W, Bl w W → Qc 155 #[.pointer (some ⟨T, 0, none⟩), .int .u32 y] W (fK (aV f y)) := fun W hb => fU T al f y W (hT.below hb)
 have e1 := (hR x).1;have e2 := (hR y).1;have q1 : (aV f x).size ≠ 0 := by rw [e1.size]; exact hs
 have q2 : (aV f y).kind = (aV f x).kind := by rw [e1.kind, e2.kind, h1]
 have q3 : (aV f y).size = (aV f x).size := by rw [e1.size, e2.size, h2]
 have q4 : (aV f y).times = (aV f x).times := by rw [e1.times, e2.times, h3]
 have q5 : (aV f x).pn = 0 := by rw [e1.pn, h4]; rfl
 have q6 : (aV f y).pn = 0 := by rw [e2.pn, h5]; rfl
 have q7 : (aV f x).kind ≠ 4 ∧ (aV f x).kind ≠ 5 := by rw [e1.kind]; exact h6
 clear h hT hR e1 e2 hs h1 h2 h3 h4 h5 h6;generalize aV f x = a at cA q1 q2 q3 q4 q5 q7;generalize aV f y = c at cB q2 q3 q4 q6;obtain ⟨k1, s1, d1, g1, c1, p1, t1, a1, n1, m1⟩ := a;obtain ⟨k2, s2, d2, g2, c2, p2, t2, a2, n2, m2⟩ := c;simp only at q1 q2 q3 q4 q5 q6 q7;subst q2 q3 q4 q5 q6;have i1 : ((s2 : Int) == 0) = false := by rw [beq_eq_false_iff_ne]; omega
 have i2 : ((k2 : Int) == 4) = false := by rw [beq_eq_false_iff_ne]; omega
 have i3 : ((k2 : Int) == 5) = false := by rw [beq_eq_false_iff_ne]; omega
 clear q1 q7;unfold fK at cA cB;simp only at cA cB;go_enter Tryz.func431, Tryz.ntmps431;go_wp2_with (first | (go_at_call 155; (first | (with_reducible refine (cA _ HO.below).mono ?_) | (with_reducible refine (cB _ HO.below).mono ?_)); rintro e w1 ⟨rfl, hn1⟩; replace HO := HO.then hn1; clear hn1) | ((first | (with_reducible refine bf HO ?_; intro g hg; rw [← hg.out]; clear hg) | (with_reducible refine ah HO ?_) | (refine ay 227 HO ?_)); clear HO; (try clear kk); intro W' HO kk));refine wp_loop_rounds 1 ?_;rw [rounds_succ];go_wp2_with fail;go_ret;exact ⟨rfl, HO.below⟩
theorem FE {lo : Nat} (h : dX lo T tab w) (x y : Nat) (hs : (aD tab x).size ≠ 0) (h1 : (aD tab x).kind ≠ (aD tab y).kind) :
  Qc 431 #[.pointer (some ⟨T, 0, none⟩), .int .u32 x, .int .u32 y] w (.bool false) := by
 obtain ⟨al, f, Dm, -, -, -, hT, hR, -⟩ := h.at_;have HO := Own.nil w;have cA : ∀ W, Bl w W → Qc 155 #[.pointer (some ⟨T, 0, none⟩), .int .u32 x] W (fK (aV f x)) := fun W hb => fU T al f x W (hT.below hb)
 have cB : ∀ W, Bl w W → Qc 155 #[.pointer (some ⟨T, 0, none⟩), .int .u32 y] W (fK (aV f y)) := fun W hb => fU T al f y W (hT.below hb)
 have e1 := (hR x).1;have e2 := (hR y).1;have q1 : (aV f x).size ≠ 0 := by rw [e1.size]; exact hs
 have q2 : (aV f x).kind ≠ (aV f y).kind := by rw [e1.kind, e2.kind]; exact h1
 clear h hT hR e1 e2 hs h1;generalize aV f x = a at cA q1 q2;generalize aV f y = c at cB q2;obtain ⟨k1, s1, d1, g1, c1, p1, t1, a1, n1, m1⟩ := a;obtain ⟨k2, s2, d2, g2, c2, p2, t2, a2, n2, m2⟩ := c;simp only at q1 q2;have i1 : ((s1 : Int) == 0) = false := by rw [beq_eq_false_iff_ne]; omega
 have i2 : ¬ ((k1 : Int) = k2) := by omega
 clear q1 q2;unfold fK at cA cB;simp only at cA cB;go_enter Tryz.func431, Tryz.ntmps431;go_wp2_with (first | (go_at_call 155; (first | (with_reducible refine (cA _ HO.below).mono ?_) | (with_reducible refine (cB _ HO.below).mono ?_)); rintro e w1 ⟨rfl, hn1⟩; replace HO := HO.then hn1; clear hn1) | ((first | (with_reducible refine bf HO ?_; intro g hg; rw [← hg.out]; clear hg) | (with_reducible refine ah HO ?_) | (refine ay 227 HO ?_)); clear HO; (try clear kk); intro W' HO kk));go_ret;exact ⟨rfl, HO.below⟩
theorem sZ (r : Bool) (h : uz K T mk b o cap back l sv fm tab w) (B C ty id j kd : Nat) (s : ByteArray) (hB : w.cell? ⟨B, 0, none⟩ = some (.pointer (some ⟨K, 0, none⟩))) (hC : w.cell? ⟨C, 0, none⟩ = some (.int .u32 ty)) (hf : fm id = some j) (hop : (l.getD j ai).op ≠ 54)
  (cA : ∀ W, Bl w W → Qc 431 #[.pointer (some ⟨T, 0, none⟩), .int .u32 ty, .int .u32 (l.getD j ai).ty] W (.bool r)) :
  Qc 430 #[.agg #[.int .u8 kd, .int .u32 id, .string s], .pointer (some ⟨B, 0, none⟩), .pointer (some ⟨C, 0, none⟩)] w (.bool (!r)) := by
 have HO := Own.nil w;have g0 := h.c0;have zK := block_lt_of_cell g0;have zB := block_lt_of_cell hB;have zC := block_lt_of_cell hC;have cO : ∀ W, Bl w W → Qc 394 #[.pointer (some ⟨K, 0, none⟩), .int .u32 id] W (.int .u32 (l.getD j ai).ty) := fun W hb => oh (h.below hb) id j hf hop
 generalize (l.getD j ai).ty = ty2 at cA cO;clear h hf hop;go_enter Tryz.func430, Tryz.ntmps430;go_wp2_with (first | ((first | ((with_reducible refine aB HO ?_); intro g hg; rw [← hg.out]; clear hg) | (with_reducible refine ah HO ?_)); clear HO; (try clear kk); intro W' HO kk));have bl := HO.below;have q0 := bl.cell (p := ⟨K, 0, none⟩) zK;have q1 := bl.cell (p := ⟨B, 0, none⟩) zB;have q2 := bl.cell (p := ⟨C, 0, none⟩) zC;rw [g0] at q0;rw [hB] at q1;rw [hC] at q2;have zK2 : K < W'.heap.size := Nat.lt_of_lt_of_le zK bl.size;have zB2 : B < W'.heap.size := Nat.lt_of_lt_of_le zB bl.size;have zC2 : C < W'.heap.size := Nat.lt_of_lt_of_le zC bl.size;have z0 := HO.lt 0 rfl;have B0 := Below.refl W'.heap.size W';have cO1 : ∀ W, Bl W' W → _ := fun W hb => cO W (bl.trans (hb.mono bl.size))
 have cA1 : ∀ W, Bl W' W → _ := fun W hb => cA W (bl.trans (hb.mono bl.size))
 clear cO cA;(try replace kk := kk.2);go_cut [4] (fun s4 wx => s4 = .bool (!r) ∧ Bl w wx)
 case first =>
  go_region_held3 (fun W => (∀ b j, b < W'.heap.size → W.cell? ⟨b, j, none⟩ = W'.cell? ⟨b, j, none⟩) ∧ Bl W' W) ((refine mkS W' _ ?_; repeat (first | exact B0 | refine aQ ?_ | refine az ?_ hn2.out | refine az ?_ hn1.out)))
   (first | (go_at_call 394; (with_reducible refine (cO1 _ (by repeat (first | exact B0 | refine aQ ?_))).mono ?_); rintro e w2 ⟨rfl, hn0⟩; have hn1 := hid hn0; clear hn0) | (go_at_call 431; (with_reducible refine (cA1 _ (by repeat (first | exact B0 | refine aQ ?_ | refine az ?_ hn1.out))).mono ?_); rintro e w3 ⟨rfl, hn0⟩; have hn2 := hid hn0; clear hn0))
  all_goals
   go_wp2_with fail;rename_i hh;go_meet;exact ⟨rfl, bl.trans (hh.2.mono bl.size)⟩
 case rest =>
 obtain ⟨rfl, h1⟩ := hcut;go_wp2_with fail;go_ret;exact ⟨rfl, h1⟩
structure Two (ab ao x y : Nat) (w : World) : Prop where
 k0 : w.cell? ⟨ab, ao, none⟩ = some (.int .u8 1)
 n0 : w.cell? ⟨ab, ao + 1, none⟩ = some (.int .u32 x)
 s0 : w.cell? ⟨ab, ao + 2, none⟩ = some (.string ⟨#[]⟩)
 k1 : w.cell? ⟨ab, ao + 3, none⟩ = some (.int .u8 1)
 n1 : w.cell? ⟨ab, ao + 4, none⟩ = some (.int .u32 y)
 s1 : w.cell? ⟨ab, ao + 5, none⟩ = some (.string ⟨#[]⟩)
theorem Two.below {ab ao x y : Nat} {w w' : World} (h : Two ab ao x y w) (hb : Bl w w') : Two ab ao x y w' := by
 have z := block_lt_of_cell h.k0;exact ⟨ae h.k0 z hb, ae h.n0 z hb, ae h.s0 z hb, ae h.k1 z hb, ae h.n1 z hb, ae h.s1 z hb⟩
theorem xZ (ab ao cm B C x y : Nat) (h : Two ab ao x y w)
  (cX : ∀ W, Bl w W → Qc 430 #[.agg #[.int .u8 1, .int .u32 x, .string ⟨#[]⟩], .pointer (some ⟨B, 0, none⟩), .pointer (some ⟨C, 0, none⟩)] W (.bool false))
  (cY : ∀ W, Bl w W → Qc 430 #[.agg #[.int .u8 1, .int .u32 y, .string ⟨#[]⟩], .pointer (some ⟨B, 0, none⟩), .pointer (some ⟨C, 0, none⟩)] W (.bool false)) :
  Qc 450 #[.slice (some ⟨ab, ao, none⟩) 2 cm, .func (.func 430) #[] #[.pointer (some ⟨B, 0, none⟩), .pointer (some ⟨C, 0, none⟩)]] w (.int .i64 (-1)) := by
 have HO := Own.nil w;obtain ⟨k0, n0, s0, k1, n1, s1⟩ := h;have zA := block_lt_of_cell k0;go_enter Tryz.func450, Tryz.ntmps450;go_wp2_with fail;refine wp_loop_rounds 3 ?_;rw [rounds_succ];go_wp2_with (first | (go_at_call 430; with_reducible refine fF HO (cX _ HO.below) ?_; clear HO; intro w1 HO));have ho := Own.old HO;rw [rounds_succ];go_wp2_with (first | (go_at_call 430; with_reducible refine fF HO (cY _ HO.below) ?_; clear HO; intro w1 HO));rw [rounds_succ];go_wp2_with fail;go_ret;exact ⟨rfl, HO.below⟩
theorem xR (ab ao cm B C x y : Nat) (h : Two ab ao x y w)
  (cX : ∀ W, Bl w W → Qc 430 #[.agg #[.int .u8 1, .int .u32 x, .string ⟨#[]⟩], .pointer (some ⟨B, 0, none⟩), .pointer (some ⟨C, 0, none⟩)] W (.bool true)) :
  Qc 450 #[.slice (some ⟨ab, ao, none⟩) 2 cm, .func (.func 430) #[] #[.pointer (some ⟨B, 0, none⟩), .pointer (some ⟨C, 0, none⟩)]] w (.int .i64 0) := by
 have HO := Own.nil w;obtain ⟨k0, n0, s0, k1, n1, s1⟩ := h;have zA := block_lt_of_cell k0;go_enter Tryz.func450, Tryz.ntmps450;go_wp2_with fail;refine wp_loop_rounds 1 ?_;rw [rounds_succ];go_wp2_with (first | (go_at_call 430; with_reducible refine fF HO (cX _ HO.below) ?_; clear HO; intro w1 HO));go_ret;exact ⟨rfl, HO.below⟩
theorem nD (ab ao cm B C : Nat) (r : Bool) (n : Int) (hn : n = -1 ∧ r = false ∨ n = 0 ∧ r = true)
  (cX : ∀ W, Bl w W → Qc 450 #[.slice (some ⟨ab, ao, none⟩) 2 cm, .func (.func 430) #[] #[.pointer (some ⟨B, 0, none⟩), .pointer (some ⟨C, 0, none⟩)]] W (.int .i64 n)) :
  Qc 429 #[.slice (some ⟨ab, ao, none⟩) 2 cm, .func (.func 430) #[] #[.pointer (some ⟨B, 0, none⟩), .pointer (some ⟨C, 0, none⟩)]] w (.bool r) := by
 rcases hn with ⟨rfl, rfl⟩ | ⟨rfl, rfl⟩
 all_goals
  have HO := Own.nil w;go_enter Tryz.func429, Tryz.ntmps429;go_wp2_with (first | (go_at_call 450; with_reducible refine fF HO (cX _ HO.below) ?_; clear HO; intro w1 HO));go_ret;exact ⟨rfl, HO.below⟩
end
end Go.Proofs.YtlkolghiknbbfaaGreatDoor
