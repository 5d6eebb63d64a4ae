/- Face: used. -/
import Derived.Test.YtlkolghiknbbfaaGreatDoorBj
import Derived.Test.YtlkolghiknbbfaaGreatDoorBh
set_option linter.unusedVariables false
set_option linter.unusedSimpArgs false
set_option maxRecDepth 100000
set_option maxHeartbeats 4000000
namespace Go.Proofs.YtlkolghiknbbfaaGreatDoor
open Go.RowKit Go.MapKept
section
variable {K P T C gf gc gd b o cap b2 cb id lab y st en : Nat} {l : List In} {sv : Nat → Option Addr × Nat} {tab : Nat → Option dU} {vs : Nat → Option (Nat × Nat × Nat)} {fk : Nat → Option Nat} {w : World}
theorem EY (h : Hr K P T C gf gc gd b o cap b2 cb id lab y st en l sv tab vs fk w) (hz : ∀ id c ty n, vs id = some (c, ty, n) → 0 < n ∧ n ≤ 4096 ∧ (c = 1 ∨ c = 3)) (m ge ec : Nat) (nm : ByteArray) (x : Nat → Nat) (he : ∀ j, j < 4 → w.cell? ⟨ge, 0 + j, none⟩ = some (.int .u32 (x j))) (hy : y < en) (hen : en ≤ l.length) (hcap : l.length ≤ cap) (hn : l.length ≤ 2000)
  (hu : ∀ k (hk : k < l.length), y ≤ k → k < en → ∀ v ∈ aX l[k], ni vs v ≠ 0 → ∃ j, j < 4 ∧ x j = v) :
  Qc 145 #[.pointer (some ⟨K, 0, none⟩), .agg #[.int .u32 m, .int .u32 id, .string nm, .slice (some ⟨ge, 0, none⟩) 4 ec]] w (.bool true) := by
 have HO := Own.nil w;have HH := hid h;have HU := hid hu;have HE := hid he;have g2 := h.c2;have g3 := h.c3;have g4 := h.c4;have zK := block_lt_of_cell g2;have zE := block_lt_of_cell (he 0 (by omega));have zb := h.ms.lt;obtain ⟨lo3, hq⟩ := h.fq;obtain ⟨zg, f0, f1, f2, f3, f4⟩ := hq.mem;have cF : ∀ W, Bl w W → Qc 141 #[.pointer (some ⟨K, 0, none⟩), .int .u32 id] W (.int .i64 0) := fun W hb => by
  obtain ⟨lo, hq2⟩ := (h.below hb).fq;exact ny K gf gc b2 cb id y en W (h.below hb).c3 hq2.mem
 have cR : ∀ W, Bl w W → Calls Tryz.prog 154 #[.pointer (some ⟨C, 0, none⟩), .int .i64 0] W fun e w' => ∃ g c, e = .returned (.slice (some ⟨g, 0, none⟩) 1 c) ∧ Own aK W [bM W.heap.size 3 1 (.slice (some ⟨g, 0, none⟩) 1 c) 1 [.int .i64 0]] w' := fun W hb => by
  obtain ⟨lo, hc⟩ := (h.below hb).ca;exact wD C lo W hc
 have CL := hid (fun (v : Nat) (W : World) (hb : Bl w W) => eX (h.below hb) hz v);clear h hq hu he;go_enter Tryz.func145, Tryz.ntmps145;go_wp2_with (first | ((first | ((with_reducible refine aB HO ?_); intro g hg; rw [← hg.out]; clear hg) | (with_reducible refine ah HO ?_)); clear HO; (try clear kk); intro W' HO kk));obtain ⟨gE, rfl⟩ : ∃ q, q = g := ⟨_, rfl⟩;(try clear kk);have hcl : ∀ W W2 : World, (Bl w W ∧ W.cell? ⟨gE, 1, none⟩ = some (.int .u32 id)) → Bl W W2 → (Bl w W2 ∧ W2.cell? ⟨gE, 1, none⟩ = some (.int .u32 id)) := fun _ _ h k => ⟨az h.1 k, ae h.2 (block_lt_of_cell h.2) k⟩
 have hSw : Bl w W'.drew ∧ W'.drew.cell? ⟨gE, 1, none⟩ = some (.int .u32 id) := ⟨HO.drew.below, HO.drew.cell 0 1 rfl rfl⟩;refine au (S := fun W => Bl w W ∧ W.cell? ⟨gE, 1, none⟩ = some (.int .u32 id)) (by kernel_rfl) ?_;refine ag hcl 0 ?_;refine ag hcl 1 ?_;refine ag hcl 2 ?_;refine ag hcl 3 ?_ (hv := fun w hw => by have q1 := (hw.1.cell (p := ⟨K, 2, none⟩) zK).trans g2; go_simp; first | done | with_reducible rfl);refine ag hcl 4 ?_;refine ag hcl 5 ?_;refine ag hcl 6 ?_ (hv := fun w hw => by have q1 := hw.2; go_simp; first | done | with_reducible rfl);refine tV hcl 7 141 (fun w hw => cF w hw.1) ?_;refine ag hcl 10 ?_;refine dC [8] fun W2 hW2 => ?_
 replace HO := HO.drew.then hW2
 clear hW2 hSw;refine dO (fun K hK => ?_);go_simp;go_at_call 154;refine (cR _ HO.below).mono ?_;rintro e w2 ⟨gr, cr, rfl, h2⟩;replace HO := HO.app h2;clear h2;simp only [List.cons_append, List.nil_append] at HO;have hSw : Bl w w2 ∧ w2.cell? ⟨gE, 1, none⟩ = some (.int .u32 id) := ⟨HO.below, HO.cell 1 1 rfl rfl⟩;refine hK.out _ _ hSw ?_;clear hK
 try simp only [Act.put, yT]
 refine ag hcl 9 ?_;refine kS fun W8 hW8 => ?_
 replace HO := HO.then hW8
 clear hW8 hSw hcl cR cF;go_wp2_with fail;refine wp_loop_rounds 2 ?_;rw [rounds_succ];have r0 := HO.rowcell 0 0 rfl rfl;have zr := block_lt_of_cell r0;(try simp only [yD] at HO); have kk := HO.kk;go_wp2_with (first | ((first | (with_reducible refine bf HO ?_; intro g hg; rw [← hg.out]; clear hg) | (with_reducible refine ah HO ?_) | (refine ay 137 HO ?_)); clear HO; (try clear kk); intro W' HO kk));have i5 : (y : Int) ≤ en := by omega
 have i6 : (en : Int) ≤ cap := by omega
 have i7 : (en : Int) ≤ l.length := by omega
 have j1 : y < cap := by omega
 have j2 : (y : Int) < cap := by omega
 have j3 : ¬ (cap = y) := by omega
 have j4 : ¬ (cap - y = 0) := by omega
 have j5 : y ≤ en := by omega
 have j6 : y ≤ cap := by omega
 go_quiet (fail);replace HO := HO.drewN nq;have gK3 := ae g4 zK HO.below;have zK2 := block_lt_of_cell gK3;have gE3 := HO.cell 2 3 rfl rfl;have zE2 := block_lt_of_cell gE3;have hHX := HO.below;have hEE : ∀ j, j < 4 → W'.drewN nq = W'.drewN nq ∧ (W'.drewN nq).cell? ⟨ge, 0 + j, none⟩ = some (.int .u32 (x j)) := fun j hj => ⟨rfl, ae (HE.out j hj) zE hHX⟩
 have HX := hid hHX;have HEE := hid (fun j hj => (hEE j hj).2);clear hHX hEE r0 g2 g3 HO;(try clear kk);generalize W'.drewN nq = wq at gK3 zK2 gE3 zE2 HX HEE;go_wp2_with fail;go_loopw [9, 11, 43, 50] (fun _ _ x43 _ wv => ∃ k : Nat, k ≤ en - y ∧ x43 = .int .i64 k ∧ Bl wq wv) (fun _ _ x _ _ => en - y - (intOf x).toNat)
 case atStart => exact ⟨0, by omega, rfl, Below.refl _ _⟩
 case round =>
  obtain ⟨k, hk, rfl, hw⟩ := hrel;have hwr := HX.out.trans (hw.mono HX.out.size);by_cases hkl : k < en - y
  ·have hkn : y + k < l.length := by omega
   have hMM := HH.out.ms.below hwr;have e0 := hMM.op (y + k) hkn;have e1 := hMM.ty (y + k) hkn;have e2 := hMM.res (y + k) hkn;have e3 := hMM.args (y + k) hkn;have hsl := hid (hMM.sl (y + k) hkn);have hal := hid (hMM.len (y + k) hkn);have HUU := hid (HU.out (y + k) hkn (by omega) (by omega));have zb := hMM.lt;clear hMM;generalize l[y + k] = i at e0 e1 e2 e3 hsl hal HUU;generalize sv (y + k) = s at e3 hsl;obtain ⟨sa, sc⟩ := s;simp only at e3 hsl;rw [show o + (y + k) * 4 = o + y * 4 + k * 4 by omega] at e0 e1 e2 e3;have i4 : (k : Int) < (en - y : Nat) := by omega
   have i5 : (k : Int) < (en : Int) - y := by omega
   have HKL := hid hkl;have HW := hid hw;have HWR := hid hwr;clear hkl hk hkn hw hwr;have HO := Own.nil wr;(try simp only [yD] at HO); have kk := HO.kk;go_wp2_with (first | ((first | ((with_reducible refine aB HO ?_); intro g hg; rw [← hg.out]; clear hg) | (with_reducible refine ah HO ?_) | (refine ay 73 HO ?_)); clear HO; (try clear kk); intro W' HO kk) | (refine bG 73 HO Tryz.underlying73 ?_));have hcc := rA i sa sc W' (hsl.out.below cz.lasts HO.below) hal.out;have hnl := hid (show (aX i).length ≤ 1048577 from Nat.le_trans (kH i _) (by have := hal.out; omega))
   with_reducible refine Calls.mono hcc ?_
   rintro e w3 ⟨⟨v, rfl, hv⟩, hn3⟩;obtain ⟨va, vc, rfl, hids⟩ := ma hv;replace HO := HO.then hn3
   clear hv hn3 hcc e0 e1 e2 e3;(try clear kk);have HXI := hid HO.below;have HQ := hid hids;have gE4 := ae gE3 zE2 (HW.out.trans (HO.below.mono HW.out.size));have zE4 := block_lt_of_cell gE4;clear HO hids;have i6 := hnl.out;go_wp2_with fail
   rename World => wz
   have HY := hid (HWR.out.trans (HXI.out.mono HWR.out.size));go_loopw [11, 50] (fun _ x50 wv => ∃ j : Nat, j ≤ (aX i).length ∧ x50 = .int .i64 j ∧ Bl wz wv) (fun _ x _ => (aX i).length - (intOf x).toNat)
   case atStart => exact ⟨0, by omega, rfl, Below.refl _ _⟩
   case round =>
    obtain ⟨j, hj, rfl, hw⟩ := hrel;have hwr := HY.out.trans (hw.mono HY.out.size);by_cases hjl : j < (aX i).length
    ·have hmy := HUU.out _ (List.getElem_mem hjl)
     obtain ⟨qb, qo, ha, hql, hqc⟩ := (HQ.out.below (rR.lasts .u32) hw).at_ (by omega);subst ha;have q1 : wr.cell? ⟨qb, qo + j * 1, none⟩ = some (.int .u32 (aX i)[j]) := hqc j hjl;rw [Nat.mul_one] at q1;have i7 : (j : Int) < (aX i).length := by omega
     have gE5 := ae gE4 zE4 hw;have HJL := hid hjl;have HW2 := hid hw;clear hqc hw;generalize (aX i)[j] = idj at q1 hmy;have cL := fun (W : World) (hb : Bl wr W) => CL.out idj W (hwr.trans (hb.mono hwr.size))
     have HO := Own.nil wr;by_cases hc0 : ni vs idj = 0
     ·rw [hc0] at cL
      clear hjl hmy hc0;go_wp2_with (first | (go_at_call 67; with_reducible refine fF HO (cL _ HO.below) ?_; clear HO; intro w1 HO));exact ⟨⟨j + 1, HJL.out, by go_num, HW2.out.trans (HO.below.mono HW2.out.size)⟩, by have := HJL.out; simp [intOf]; omega⟩
     ·have hex := hmy hc0
      have cT : ∀ W, Bl wr W → Calls Tryz.prog 143 #[.slice (some ⟨ge, 0, none⟩) 4 ec, .int .u32 idj] W fun e w' => e = .returned (.bool true) ∧ w' = W := fun W hb => jX ge 0 4 ec idj x W (fun j hj => ae (HE.out j hj) zE (hwr.trans (hb.mono hwr.size))) (by omega) true (by simp only [true_iff]; exact hex)
      generalize ni vs idj = cj at cL hc0;clear hjl hmy hex;go_wp2_with (first | (go_at_call 67; (with_reducible refine (cL _ HO.below).mono ?_); rintro e w1 ⟨rfl, hn1⟩; replace HO := HO.then hn1; have gE6 := ae gE5 (block_lt_of_cell gE5) HO.below; clear hn1) | (go_at_call 143; (with_reducible refine (cT _ HO.below).mono ?_); rintro e w1 ⟨rfl, rfl⟩));exact ⟨⟨j + 1, HJL.out, by go_num, HW2.out.trans (HO.below.mono HW2.out.size)⟩, by have := HJL.out; simp [intOf]; omega⟩
    ·obtain rfl : j = (aX i).length := by omega
     have i7 : ¬ (((aX i).length : Int) < (aX i).length) := by omega
     have hwf := HW.out.trans ((HXI.out.trans (hw.mono HXI.out.size)).mono HW.out.size);go_wp2_with fail;exact ⟨⟨k + 1, HKL.out, by go_num, hwf⟩, by have := HKL.out; simp [intOf]; omega⟩
  ·obtain rfl : k = en - y := by omega
   have i4 : ¬ (((en - y : Nat) : Int) < (en - y : Nat)) := by omega
   go_wp2_with fail;rw [rounds_succ];go_wp2_with fail;go_ret;exact ⟨rfl, hwr⟩
end
theorem oG {F : World → Prop} {w : World} {L : List As} {g : Prop} (h2 : (∀ W, Own aK w L W → F W) → g) (h1 : ∀ W, Own aK w L W → F W) : g := h2 h1
theorem yI {w : World} {b : Nat} {o : Obj} (h : b < w.heap.size) : (aT w b o).heap[b]? = some o := by
 show (w.heap.setIfInBounds b o)[b]? = _
 simp [h]
theorem Own.mapTo {X : Nat → Prop} {w W : World} {L : List As} (h : Own X w L W) (i : Nat) {g : Nat} {o : Obj} (o' : Obj) (hi : L[i]? = some (Go.Proofs.YtlkolghiknbbfaaGreatDoor.blk g o)) : Own X w (L.set i (Go.Proofs.YtlkolghiknbbfaaGreatDoor.blk g o')) (aT W g o') :=
 h.step i hi ⟨rfl, rfl, rfl, by rw [jg]; exact Nat.le_refl _, fun k _ hk => jw W o' hk, fun k hk => ⟨by cases hk; rw [jg]; exact h.lt i hi, .inl hk⟩, yI (h.lt i hi)⟩
structure IJ (m : Nat) (key : Value) (v : Int) (st : Nat) (o o1 o2 : Obj) : Prop where
 lo : 0 ≤ v
 hi : v ≤ 1
 lk : ∀ W : World, W.heap[m]? = some o → (Instr.lookup 291 (.map (some m)) key false).run Tryz.prog W = .ok (.int .i64 v) W
 me : ∀ W : World, W.heap[m]? = some o → (Instr.mapEntry 291 (.map (some m)) key).run Tryz.prog W = .ok (.tuple #[.int .i64 v, .int .i64 st]) (aT W m o1)
 lk1 : ∀ W : World, W.heap[m]? = some o1 → (Instr.lookup 291 (.map (some m)) key false).run Tryz.prog W = .ok (.int .i64 v) W
 en : ∀ W : World, W.heap[m]? = some o1 → (Instr.entryStore 291 (.map (some m)) (.int .i64 st) (.int .i64 (IntKind.i64.wrap (v + 1)))).run Tryz.prog W = .ok () (aT W m o2)
 lk2 : ∀ W : World, W.heap[m]? = some o2 → (Instr.lookup 291 (.map (some m)) key false).run Tryz.prog W = .ok (.int .i64 (v + 1)) W
theorem pa0 (a b c d : Int) (W : World) : (Instr.index 293 (.agg #[.int .i64 a, .int .i64 b, .int .i64 c, .int .i64 d]) (.int .i64 0)).run Tryz.prog W = .ok (.agg #[.int .i64 a, .int .i64 b]) W := by kernel_rfl
theorem pa1 (a b c d : Int) (W : World) : (Instr.index 293 (.agg #[.int .i64 a, .int .i64 b, .int .i64 c, .int .i64 d]) (.int .i64 1)).run Tryz.prog W = .ok (.agg #[.int .i64 c, .int .i64 d]) W := by kernel_rfl
theorem qm (g cap : Nat) (x y : jO) (w : World) (h0 : dN w g 0 x) (h1 : dN w g 6 y) (v0 v1 v2 v3 : Int) (s0 s1 s2 s3 : Nat) (o1 a1 o2 a2 o3 a3 o4 a4 : Obj)
  (t0 : ∀ m, IJ m (.agg #[.int .i64 0, .int .i64 x.loc]) v0 s0 (.map #[] 0) a1 o1) (t1 : ∀ m, IJ m (.agg #[.int .i64 1, .int .i64 x.bi]) v1 s1 o1 a2 o2) (t2 : ∀ m, IJ m (.agg #[.int .i64 0, .int .i64 y.loc]) v2 s2 o2 a3 o3) (t3 : ∀ m, IJ m (.agg #[.int .i64 1, .int .i64 y.bi]) v3 s3 o3 a4 o4)
  (n0 : 0 ≤ x.loc ∧ v0 = 0) (n1 : x.bi < 0) (n2 : (0 ≤ y.loc ∧ v2 = 0 ∧ y.bi < 0) ∨ (y.loc < 0 ∧ 0 ≤ y.bi ∧ v3 = 0)) :
  Qc 146 #[.slice (some ⟨g, 0, none⟩) 2 cap] w (.bool true) := by
 have HO := Own.nil w;obtain ⟨xv, xl, xb, xt, xs, xg⟩ := x;obtain ⟨yv, yl, yb, yt, ys, yg⟩ := y;simp only at t0 t1 t2 t3 n0 n1 n2;obtain ⟨p0, p1, p2, p3, p4, p5⟩ := h0;obtain ⟨q0, q1, q2, q3, q4, q5⟩ := h1;simp only [Nat.zero_add, Nat.reduceAdd] at p0 p1 p2 p3 p4 p5 q0 q1 q2 q3 q4 q5;have zg := block_lt_of_cell p0;obtain ⟨n0, nv⟩ := n0;have NV := hid nv;clear nv;have T0 := hid t0;have T1 := hid t1;have T2 := hid t2;have T3 := hid t3;clear t0 t1 t2 t3;have N2 := hid n2;clear n2;have hmm := @run_makeMap Tryz.prog;go_enter Tryz.func146, Tryz.ntmps146;go_wp2_with (first | ((first | ((with_reducible refine aB HO ?_); intro g hg; rw [← hg.out]; clear hg) | (with_reducible refine ah HO ?_)); clear HO; (try clear kk); intro W' HO kk));have x0 := pa0;have x1 := pa1;refine wp_loop_rounds 3 ?_;rw [rounds_succ];go_wp2_with (first | ((first | ((with_reducible refine aB HO ?_); intro g hg; rw [← hg.out]; clear hg) | (with_reducible refine ah HO ?_) | (refine ay 115 HO ?_)); clear HO; (try clear kk); intro W' HO kk) | (refine bG 115 HO Tryz.underlying115 ?_));refine wp_loop_rounds 3 ?_;rw [rounds_succ];go_wp2_with (first | ((first | ((with_reducible refine aB HO ?_); intro g hg; rw [← hg.out]; clear hg) | (with_reducible refine ah HO ?_) | (refine ay 292 HO ?_)); clear HO; (try clear kk); intro W' HO kk));obtain ⟨gA, rfl⟩ : ∃ q, q = g := ⟨_, rfl⟩;(try clear kk);have hcl : ∀ W W2 : World, (W.cell? ⟨gA, 0, none⟩ = some (.int .i64 0) ∧ W.cell? ⟨gA, 1, none⟩ = some (.int .i64 xl)) → Bl W W2 → (W2.cell? ⟨gA, 0, none⟩ = some (.int .i64 0) ∧ W2.cell? ⟨gA, 1, none⟩ = some (.int .i64 xl)) := fun _ _ h k => ⟨ae h.1 (block_lt_of_cell h.1) k, ae h.2 (block_lt_of_cell h.2) k⟩
 have mkS : ∀ (W : World) (i : Nat) (L : List As), Own aK w L W → L[i]? = some (aP gA #[.int .i64 0, .int .i64 xl] 292) → W.cell? ⟨gA, 0, none⟩ = some (.int .i64 0) ∧ W.cell? ⟨gA, 1, none⟩ = some (.int .i64 xl) := fun W i L h h1 => ⟨h.cell i 0 h1 rfl, h.cell i 1 h1 rfl⟩
 have hSw := mkS _ 0 _ HO.drew rfl;have hv0 := (T0.out 0).lo;have hv1 := (T0.out 0).hi;refine au (S := fun W => W.cell? ⟨gA, 0, none⟩ = some (.int .i64 0) ∧ W.cell? ⟨gA, 1, none⟩ = some (.int .i64 xl)) (by kernel_rfl) ?_;refine ag hcl 0 ?_;refine ag hcl 1 ?_ (hv := fun w hw => by have q1 := hw.1; have q2 := hw.2; go_simp; first | done | with_reducible rfl);refine dC [2, 4] fun W2 hW2 => ?_
 replace HO := HO.drew.then hW2
 clear hW2 hSw;apply oG
 case h2 =>
  intro key;refine BF (fun K hK => ?_) fun K hK => ?_
  ·have hl := (T0.out _).lk _ (HO.blk 2 rfl)
   go_simp;refine bX hK (mkS _ 0 _ HO rfl) ?_;clear hK K hl;have hSw := mkS _ 0 _ HO rfl;refine ag hcl 3 ?_;refine dC [4] fun W3 hW3 => ?_
   have HN := HO.then hW3
   have hl := (T0.out _).me _ (HN.blk 2 rfl);have HP := HN.mapTo 2 a1 rfl;simp only [yT] at HP;refine dO (fun K hK => ?_);go_simp;refine bX hK (mkS _ 0 _ HP rfl) ?_;clear hK K hl;have hSw := mkS _ 0 _ HP rfl;refine ag hcl 5 ?_;exact key _ HP
  ·have hl := (T0.out _).me _ (HO.blk 2 rfl)
   have HP := HO.mapTo 2 a1 rfl;simp only [yT] at HP;go_simp;refine bX hK (mkS _ 0 _ HP rfl) ?_;clear hK K hl;have hSw := mkS _ 0 _ HP rfl;refine ag hcl 5 ?_;refine dC [2] fun W3 hW3 => ?_
   have HN := HP.then hW3
   have hl := (T0.out _).lk1 _ (HN.blk 2 rfl);refine dO (fun K hK => ?_);go_simp;refine bX hK (mkS _ 0 _ HN rfl) ?_;clear hK K hl;have hSw := mkS _ 0 _ HN rfl;refine ag hcl 3 ?_;exact key _ HN
 clear HO;intro W4 HO;refine dC [6] fun W5 hW5 => ?_
 replace HO := HO.then hW5
 clear hW5 W4;have hl := (T0.out _).en _ (HO.blk 2 rfl);have HP := HO.mapTo 2 o1 rfl;simp only [yT] at HP;refine dO (fun K hK => ?_);go_simp;refine bX hK (mkS _ 0 _ HP rfl) ?_;clear hK K HO hl;refine kS fun W8 hW8 => ?_
 have HO := HP.then hW8
 clear HP hW8 mkS hcl;have hl := (T0.out _).lk2 _ (HO.blk 2 rfl);(try simp only [yD] at HO); have kk := HO.kk;clear hv0 hv1;have nv := NV.out;go_wp2_with fail;(try clear kk);replace HO := HO.drop 1;simp only [List.drop_succ_cons, List.drop_zero] at HO;clear hl;(try simp only [yD] at HO); have kk := HO.kk;rw [rounds_succ];go_wp2_with (first | ((first | ((with_reducible refine aB HO ?_); intro g hg; rw [← hg.out]; clear hg) | (with_reducible refine ah HO ?_) | (refine ay 292 HO ?_)); clear HO; (try clear kk); intro W' HO kk) | (refine bG 292 HO Tryz.underlying292 ?_));obtain ⟨gA, rfl⟩ : ∃ q, q = g := ⟨_, rfl⟩;(try clear kk);have hcl : ∀ W W2 : World, (W.cell? ⟨gA, 0, none⟩ = some (.int .i64 1) ∧ W.cell? ⟨gA, 1, none⟩ = some (.int .i64 xb)) → Bl W W2 → (W2.cell? ⟨gA, 0, none⟩ = some (.int .i64 1) ∧ W2.cell? ⟨gA, 1, none⟩ = some (.int .i64 xb)) := fun _ _ h k => ⟨ae h.1 (block_lt_of_cell h.1) k, ae h.2 (block_lt_of_cell h.2) k⟩
 have mkS : ∀ (W : World) (i : Nat) (L : List As), Own aK w L W → L[i]? = some (aP gA #[.int .i64 1, .int .i64 xb] 292) → W.cell? ⟨gA, 0, none⟩ = some (.int .i64 1) ∧ W.cell? ⟨gA, 1, none⟩ = some (.int .i64 xb) := fun W i L h h1 => ⟨h.cell i 0 h1 rfl, h.cell i 1 h1 rfl⟩
 have hSw := mkS _ 0 _ HO.drew rfl;have hv0 := (T1.out 0).lo;have hv1 := (T1.out 0).hi;refine au (S := fun W => W.cell? ⟨gA, 0, none⟩ = some (.int .i64 1) ∧ W.cell? ⟨gA, 1, none⟩ = some (.int .i64 xb)) (by kernel_rfl) ?_;refine ag hcl 0 ?_;refine ag hcl 1 ?_ (hv := fun w hw => by have q1 := hw.1; have q2 := hw.2; go_simp; first | done | with_reducible rfl);refine dC [2, 4] fun W2 hW2 => ?_
 replace HO := HO.drew.then hW2
 clear hW2 hSw;apply oG
 case h2 =>
  intro key;refine BF (fun K hK => ?_) fun K hK => ?_
  ·have hl := (T1.out _).lk _ (HO.blk 2 rfl)
   go_simp;refine bX hK (mkS _ 0 _ HO rfl) ?_;clear hK K hl;have hSw := mkS _ 0 _ HO rfl;refine ag hcl 3 ?_;refine dC [4] fun W3 hW3 => ?_
   have HN := HO.then hW3
   have hl := (T1.out _).me _ (HN.blk 2 rfl);have HP := HN.mapTo 2 a2 rfl;simp only [yT] at HP;refine dO (fun K hK => ?_);go_simp;refine bX hK (mkS _ 0 _ HP rfl) ?_;clear hK K hl;have hSw := mkS _ 0 _ HP rfl;refine ag hcl 5 ?_;exact key _ HP
  ·have hl := (T1.out _).me _ (HO.blk 2 rfl)
   have HP := HO.mapTo 2 a2 rfl;simp only [yT] at HP;go_simp;refine bX hK (mkS _ 0 _ HP rfl) ?_;clear hK K hl;have hSw := mkS _ 0 _ HP rfl;refine ag hcl 5 ?_;refine dC [2] fun W3 hW3 => ?_
   have HN := HP.then hW3
   have hl := (T1.out _).lk1 _ (HN.blk 2 rfl);refine dO (fun K hK => ?_);go_simp;refine bX hK (mkS _ 0 _ HN rfl) ?_;clear hK K hl;have hSw := mkS _ 0 _ HN rfl;refine ag hcl 3 ?_;exact key _ HN
 clear HO;intro W4 HO;refine dC [6] fun W5 hW5 => ?_
 replace HO := HO.then hW5
 clear hW5 W4;have hl := (T1.out _).en _ (HO.blk 2 rfl);have HP := HO.mapTo 2 o2 rfl;simp only [yT] at HP;refine dO (fun K hK => ?_);go_simp;refine bX hK (mkS _ 0 _ HP rfl) ?_;clear hK K HO hl;refine kS fun W8 hW8 => ?_
 have HO := HP.then hW8
 clear HP hW8 mkS hcl;have hl := (T1.out _).lk2 _ (HO.blk 2 rfl);(try simp only [yD] at HO); have kk := HO.kk;clear hv0 hv1;go_wp2_with fail;(try clear kk);replace HO := HO.drop 1;simp only [List.drop_succ_cons, List.drop_zero] at HO;clear hl;(try simp only [yD] at HO); have kk := HO.kk;rw [rounds_succ];go_wp2_with fail;(try clear kk);replace HO := HO.drop 1;simp only [List.drop_succ_cons, List.drop_zero] at HO;(try simp only [yD] at HO); have kk := HO.kk;rw [rounds_succ];go_wp2_with (first | ((first | ((with_reducible refine aB HO ?_); intro g hg; rw [← hg.out]; clear hg) | (with_reducible refine ah HO ?_) | (refine ay 115 HO ?_)); clear HO; (try clear kk); intro W' HO kk) | (refine bG 115 HO Tryz.underlying115 ?_));refine wp_loop_rounds 3 ?_;rw [rounds_succ];go_wp2_with (first | ((first | ((with_reducible refine aB HO ?_); intro g hg; rw [← hg.out]; clear hg) | (with_reducible refine ah HO ?_) | (refine ay 292 HO ?_)); clear HO; (try clear kk); intro W' HO kk) | (refine bG 292 HO Tryz.underlying292 ?_));obtain ⟨gA, rfl⟩ : ∃ q, q = g := ⟨_, rfl⟩;(try clear kk);have hcl : ∀ W W2 : World, (W.cell? ⟨gA, 0, none⟩ = some (.int .i64 0) ∧ W.cell? ⟨gA, 1, none⟩ = some (.int .i64 yl)) → Bl W W2 → (W2.cell? ⟨gA, 0, none⟩ = some (.int .i64 0) ∧ W2.cell? ⟨gA, 1, none⟩ = some (.int .i64 yl)) := fun _ _ h k => ⟨ae h.1 (block_lt_of_cell h.1) k, ae h.2 (block_lt_of_cell h.2) k⟩
 have mkS : ∀ (W : World) (i : Nat) (L : List As), Own aK w L W → L[i]? = some (aP gA #[.int .i64 0, .int .i64 yl] 292) → W.cell? ⟨gA, 0, none⟩ = some (.int .i64 0) ∧ W.cell? ⟨gA, 1, none⟩ = some (.int .i64 yl) := fun W i L h h1 => ⟨h.cell i 0 h1 rfl, h.cell i 1 h1 rfl⟩
 have hSw := mkS _ 0 _ HO.drew rfl;have hv0 := (T2.out 0).lo;have hv1 := (T2.out 0).hi;refine au (S := fun W => W.cell? ⟨gA, 0, none⟩ = some (.int .i64 0) ∧ W.cell? ⟨gA, 1, none⟩ = some (.int .i64 yl)) (by kernel_rfl) ?_;refine ag hcl 0 ?_;refine ag hcl 1 ?_ (hv := fun w hw => by have q1 := hw.1; have q2 := hw.2; go_simp; first | done | with_reducible rfl);refine dC [2, 4] fun W2 hW2 => ?_
 replace HO := HO.drew.then hW2
 clear hW2 hSw;apply oG
 case h2 =>
  intro key;refine BF (fun K hK => ?_) fun K hK => ?_
  ·have hl := (T2.out _).lk _ (HO.blk 2 rfl)
   go_simp;refine bX hK (mkS _ 0 _ HO rfl) ?_;clear hK K hl;have hSw := mkS _ 0 _ HO rfl;refine ag hcl 3 ?_;refine dC [4] fun W3 hW3 => ?_
   have HN := HO.then hW3
   have hl := (T2.out _).me _ (HN.blk 2 rfl);have HP := HN.mapTo 2 a3 rfl;simp only [yT] at HP;refine dO (fun K hK => ?_);go_simp;refine bX hK (mkS _ 0 _ HP rfl) ?_;clear hK K hl;have hSw := mkS _ 0 _ HP rfl;refine ag hcl 5 ?_;exact key _ HP
  ·have hl := (T2.out _).me _ (HO.blk 2 rfl)
   have HP := HO.mapTo 2 a3 rfl;simp only [yT] at HP;go_simp;refine bX hK (mkS _ 0 _ HP rfl) ?_;clear hK K hl;have hSw := mkS _ 0 _ HP rfl;refine ag hcl 5 ?_;refine dC [2] fun W3 hW3 => ?_
   have HN := HP.then hW3
   have hl := (T2.out _).lk1 _ (HN.blk 2 rfl);refine dO (fun K hK => ?_);go_simp;refine bX hK (mkS _ 0 _ HN rfl) ?_;clear hK K hl;have hSw := mkS _ 0 _ HN rfl;refine ag hcl 3 ?_;exact key _ HN
 clear HO;intro W4 HO;refine dC [6] fun W5 hW5 => ?_
 replace HO := HO.then hW5
 clear hW5 W4;have hl := (T2.out _).en _ (HO.blk 2 rfl);have HP := HO.mapTo 2 o3 rfl;simp only [yT] at HP;refine dO (fun K hK => ?_);go_simp;refine bX hK (mkS _ 0 _ HP rfl) ?_;clear hK K HO hl;refine kS fun W8 hW8 => ?_
 have HO := HP.then hW8
 clear HP hW8 mkS hcl;have hl := (T2.out _).lk2 _ (HO.blk 2 rfl);(try simp only [yD] at HO); have kk := HO.kk;clear hv0 hv1;rcases N2.out with ⟨i1, i2, i3⟩ | ⟨i1, i2, i3⟩
 ·go_wp2_with fail
  (try clear kk);replace HO := HO.drop 1;simp only [List.drop_succ_cons, List.drop_zero] at HO;clear hl;(try simp only [yD] at HO); have kk := HO.kk;rw [rounds_succ];go_wp2_with (first | ((first | ((with_reducible refine aB HO ?_); intro g hg; rw [← hg.out]; clear hg) | (with_reducible refine ah HO ?_) | (refine ay 292 HO ?_)); clear HO; (try clear kk); intro W' HO kk) | (refine bG 292 HO Tryz.underlying292 ?_));obtain ⟨gA, rfl⟩ : ∃ q, q = g := ⟨_, rfl⟩;(try clear kk);have hcl : ∀ W W2 : World, (W.cell? ⟨gA, 0, none⟩ = some (.int .i64 1) ∧ W.cell? ⟨gA, 1, none⟩ = some (.int .i64 yb)) → Bl W W2 → (W2.cell? ⟨gA, 0, none⟩ = some (.int .i64 1) ∧ W2.cell? ⟨gA, 1, none⟩ = some (.int .i64 yb)) := fun _ _ h k => ⟨ae h.1 (block_lt_of_cell h.1) k, ae h.2 (block_lt_of_cell h.2) k⟩
  have mkS : ∀ (W : World) (i : Nat) (L : List As), Own aK w L W → L[i]? = some (aP gA #[.int .i64 1, .int .i64 yb] 292) → W.cell? ⟨gA, 0, none⟩ = some (.int .i64 1) ∧ W.cell? ⟨gA, 1, none⟩ = some (.int .i64 yb) := fun W i L h h1 => ⟨h.cell i 0 h1 rfl, h.cell i 1 h1 rfl⟩
  have hSw := mkS _ 0 _ HO.drew rfl;have hv0 := (T3.out 0).lo;have hv1 := (T3.out 0).hi;refine au (S := fun W => W.cell? ⟨gA, 0, none⟩ = some (.int .i64 1) ∧ W.cell? ⟨gA, 1, none⟩ = some (.int .i64 yb)) (by kernel_rfl) ?_;refine ag hcl 0 ?_;refine ag hcl 1 ?_ (hv := fun w hw => by have q1 := hw.1; have q2 := hw.2; go_simp; first | done | with_reducible rfl);refine dC [2, 4] fun W2 hW2 => ?_
  replace HO := HO.drew.then hW2
  clear hW2 hSw;apply oG
  case h2 =>
   intro key;refine BF (fun K hK => ?_) fun K hK => ?_
   ·have hl := (T3.out _).lk _ (HO.blk 2 rfl)
    go_simp;refine bX hK (mkS _ 0 _ HO rfl) ?_;clear hK K hl;have hSw := mkS _ 0 _ HO rfl;refine ag hcl 3 ?_;refine dC [4] fun W3 hW3 => ?_
    have HN := HO.then hW3
    have hl := (T3.out _).me _ (HN.blk 2 rfl);have HP := HN.mapTo 2 a4 rfl;simp only [yT] at HP;refine dO (fun K hK => ?_);go_simp;refine bX hK (mkS _ 0 _ HP rfl) ?_;clear hK K hl;have hSw := mkS _ 0 _ HP rfl;refine ag hcl 5 ?_;exact key _ HP
   ·have hl := (T3.out _).me _ (HO.blk 2 rfl)
    have HP := HO.mapTo 2 a4 rfl;simp only [yT] at HP;go_simp;refine bX hK (mkS _ 0 _ HP rfl) ?_;clear hK K hl;have hSw := mkS _ 0 _ HP rfl;refine ag hcl 5 ?_;refine dC [2] fun W3 hW3 => ?_
    have HN := HP.then hW3
    have hl := (T3.out _).lk1 _ (HN.blk 2 rfl);refine dO (fun K hK => ?_);go_simp;refine bX hK (mkS _ 0 _ HN rfl) ?_;clear hK K hl;have hSw := mkS _ 0 _ HN rfl;refine ag hcl 3 ?_;exact key _ HN
  clear HO;intro W4 HO;refine dC [6] fun W5 hW5 => ?_
  replace HO := HO.then hW5
  clear hW5 W4;have hl := (T3.out _).en _ (HO.blk 2 rfl);have HP := HO.mapTo 2 o4 rfl;simp only [yT] at HP;refine dO (fun K hK => ?_);go_simp;refine bX hK (mkS _ 0 _ HP rfl) ?_;clear hK K HO hl;refine kS fun W8 hW8 => ?_
  have HO := HP.then hW8
  clear HP hW8 mkS hcl;have hl := (T3.out _).lk2 _ (HO.blk 2 rfl);(try simp only [yD] at HO); have kk := HO.kk;clear hv0 hv1;go_wp2_with fail;(try clear kk);replace HO := HO.drop 1;simp only [List.drop_succ_cons, List.drop_zero] at HO;clear hl;(try simp only [yD] at HO); have kk := HO.kk;rw [rounds_succ];go_wp2_with fail;rw [rounds_succ];go_wp2_with fail;go_ret;exact ⟨rfl, HO.below⟩
 ·have H3 := hid i3
  clear i3;go_wp2_with fail;(try clear kk);replace HO := HO.drop 1;simp only [List.drop_succ_cons, List.drop_zero] at HO;clear hl;(try simp only [yD] at HO); have kk := HO.kk;rw [rounds_succ];go_wp2_with (first | ((first | ((with_reducible refine aB HO ?_); intro g hg; rw [← hg.out]; clear hg) | (with_reducible refine ah HO ?_) | (refine ay 292 HO ?_)); clear HO; (try clear kk); intro W' HO kk) | (refine bG 292 HO Tryz.underlying292 ?_));obtain ⟨gA, rfl⟩ : ∃ q, q = g := ⟨_, rfl⟩;(try clear kk);have hcl : ∀ W W2 : World, (W.cell? ⟨gA, 0, none⟩ = some (.int .i64 1) ∧ W.cell? ⟨gA, 1, none⟩ = some (.int .i64 yb)) → Bl W W2 → (W2.cell? ⟨gA, 0, none⟩ = some (.int .i64 1) ∧ W2.cell? ⟨gA, 1, none⟩ = some (.int .i64 yb)) := fun _ _ h k => ⟨ae h.1 (block_lt_of_cell h.1) k, ae h.2 (block_lt_of_cell h.2) k⟩
  have mkS : ∀ (W : World) (i : Nat) (L : List As), Own aK w L W → L[i]? = some (aP gA #[.int .i64 1, .int .i64 yb] 292) → W.cell? ⟨gA, 0, none⟩ = some (.int .i64 1) ∧ W.cell? ⟨gA, 1, none⟩ = some (.int .i64 yb) := fun W i L h h1 => ⟨h.cell i 0 h1 rfl, h.cell i 1 h1 rfl⟩
  have hSw := mkS _ 0 _ HO.drew rfl;have hv0 := (T3.out 0).lo;have hv1 := (T3.out 0).hi;refine au (S := fun W => W.cell? ⟨gA, 0, none⟩ = some (.int .i64 1) ∧ W.cell? ⟨gA, 1, none⟩ = some (.int .i64 yb)) (by kernel_rfl) ?_;refine ag hcl 0 ?_;refine ag hcl 1 ?_ (hv := fun w hw => by have q1 := hw.1; have q2 := hw.2; go_simp; first | done | with_reducible rfl);refine dC [2, 4] fun W2 hW2 => ?_
  replace HO := HO.drew.then hW2
  clear hW2 hSw;apply oG
  case h2 =>
   intro key;refine BF (fun K hK => ?_) fun K hK => ?_
   ·have hl := (T3.out _).lk _ (HO.blk 2 rfl)
    go_simp;refine bX hK (mkS _ 0 _ HO rfl) ?_;clear hK K hl;have hSw := mkS _ 0 _ HO rfl;refine ag hcl 3 ?_;refine dC [4] fun W3 hW3 => ?_
    have HN := HO.then hW3
    have hl := (T3.out _).me _ (HN.blk 2 rfl);have HP := HN.mapTo 2 a4 rfl;simp only [yT] at HP;refine dO (fun K hK => ?_);go_simp;refine bX hK (mkS _ 0 _ HP rfl) ?_;clear hK K hl;have hSw := mkS _ 0 _ HP rfl;refine ag hcl 5 ?_;exact key _ HP
   ·have hl := (T3.out _).me _ (HO.blk 2 rfl)
    have HP := HO.mapTo 2 a4 rfl;simp only [yT] at HP;go_simp;refine bX hK (mkS _ 0 _ HP rfl) ?_;clear hK K hl;have hSw := mkS _ 0 _ HP rfl;refine ag hcl 5 ?_;refine dC [2] fun W3 hW3 => ?_
    have HN := HP.then hW3
    have hl := (T3.out _).lk1 _ (HN.blk 2 rfl);refine dO (fun K hK => ?_);go_simp;refine bX hK (mkS _ 0 _ HN rfl) ?_;clear hK K hl;have hSw := mkS _ 0 _ HN rfl;refine ag hcl 3 ?_;exact key _ HN
  clear HO;intro W4 HO;refine dC [6] fun W5 hW5 => ?_
  replace HO := HO.then hW5
  clear hW5 W4;have hl := (T3.out _).en _ (HO.blk 2 rfl);have HP := HO.mapTo 2 o4 rfl;simp only [yT] at HP;refine dO (fun K hK => ?_);go_simp;refine bX hK (mkS _ 0 _ HP rfl) ?_;clear hK K HO hl;refine kS fun W8 hW8 => ?_
  have HO := HP.then hW8
  clear HP hW8 mkS hcl;have hl := (T3.out _).lk2 _ (HO.blk 2 rfl);(try simp only [yD] at HO); have kk := HO.kk;clear hv0 hv1;have i3 := H3.out;go_wp2_with fail;(try clear kk);replace HO := HO.drop 1;simp only [List.drop_succ_cons, List.drop_zero] at HO;clear hl;(try simp only [yD] at HO); have kk := HO.kk;rw [rounds_succ];go_wp2_with fail;rw [rounds_succ];go_wp2_with fail;go_ret;exact ⟨rfl, HO.below⟩
theorem sw (x : jO) (w : World) : Qc 148 #[eP x] w (.bool (x.bi == 0)) := by
 have HO := Own.nil w;obtain ⟨v, loc, bi, ty, sz, sg⟩ := x;unfold eP eB;simp only;obtain ⟨b, hb⟩ : ∃ b : Bool, Hid ((bi == 0) = b) := ⟨_, hid rfl⟩;rw [hb.out];have h1 := hb.out;go_enter Tryz.func148, Tryz.ntmps148;go_wp2_with (first | ((first | ((with_reducible refine aB HO ?_); intro g hg; rw [← hg.out]; clear hg) | (with_reducible refine ah HO ?_)); clear HO; (try clear kk); intro W' HO kk));go_ret;exact ⟨rfl, HO.below⟩
theorem CS (g cap : Nat) (x y : jO) (w : World) (h0 : dN w g 0 x) (h1 : dN w g 6 y) (hx : x.bi ≠ 0) (hy : y.bi = 0) :
  Qc 147 #[.slice (some ⟨g, 0, none⟩) 2 cap, .func (.func 148) #[] #[]] w (.bool true) := by
 have cI : Qc 189 #[.slice (some ⟨g, 0, none⟩) 2 cap, .func (.func 148) #[] #[]] w (.int .i64 1) := by
  have cx := sw x;have cy := sw y;obtain ⟨xv, xl, xb, xt, xs, xg⟩ := x;obtain ⟨yv, yl, yb, yt, ys, yg⟩ := y;simp only at hx hy;subst hy;rw [show (xb == 0) = false by rw [beq_eq_false_iff_ne]; exact hx] at cx;simp only [beq_self_eq_true] at cy;unfold eP eB at cx cy;simp only at cx cy;obtain ⟨p0, p1, p2, p3, p4, p5⟩ := h0;obtain ⟨q0, q1, q2, q3, q4, q5⟩ := h1;simp only [Nat.zero_add, Nat.reduceAdd] at p0 p1 p2 p3 p4 p5 q0 q1 q2 q3 q4 q5;have zg := block_lt_of_cell p0;have HO := Own.nil w;go_enter Tryz.func189, Tryz.ntmps189;go_wp2_with fail;refine wp_loop_rounds 3 ?_;rw [rounds_succ];go_wp2_with (first | (go_at_call 148; (with_reducible refine (cx _).mono ?_); rintro e w1 ⟨rfl, hn⟩; replace HO := HO.then hn; clear hn; have ho := Own.old HO));rw [rounds_succ];go_wp2_with (first | (go_at_call 148; with_reducible refine fF HO (cy _) ?_; clear HO; intro w2 HO));go_ret;exact ⟨rfl, HO.below⟩
 clear h0 h1;have HO := Own.nil w;go_enter Tryz.func147, Tryz.ntmps147;go_wp2_with (first | (go_at_call 189; (with_reducible refine cI.mono ?_); rintro e w1 ⟨rfl, hn⟩; replace HO := HO.then hn; clear hn));go_ret;exact ⟨rfl, HO.below⟩
theorem yO (B E K v ml : Nat) (x : jO) (w : World) (hB : w.cell? ⟨B, 0, none⟩ = some (.pointer (some ⟨K, 0, none⟩))) (hE : w.cell? ⟨E, 0, none⟩ = some (.int .u32 0)) (hx : 0 ≤ x.loc ∨ 0 ≤ x.bi)
  (cP : ∀ W, Bl w W → Qc 68 #[.pointer (some ⟨K, 0, none⟩), .int .u32 v] W (eP x)) :
  Qc 150 #[.int .u32 v, .pointer (some ⟨B, 0, none⟩), .pointer (some ⟨E, 0, none⟩)] w (.bool false) := by
 obtain ⟨xv, xl, xb, xt, xs, xg⟩ := x;unfold eP eB at cP;simp only at cP hx;have zB := block_lt_of_cell hB;have zE := block_lt_of_cell hE;have HO := Own.nil w;rcases Int.lt_or_le xl 0 with hl | hl
 ·have hb : 0 ≤ xb := by omega
  clear hx;go_enter Tryz.func150, Tryz.ntmps150;go_wp2_with (first | ((first | ((with_reducible refine aB HO ?_); intro g hg; rw [← hg.out]; clear hg) | (with_reducible refine ah HO ?_) | (refine ay 115 HO ?_)); clear HO; (try clear kk); intro W' HO kk) | (go_at_call 68; with_reducible refine bq HO (cP _ HO.below) ?_; clear HO; (try clear kk); intro w1 HO kk));go_ret;exact ⟨congrArg (fun b => Ending.returned (.bool b)) (decide_eq_false (by omega)), HO.below⟩
 ·clear hx
  go_enter Tryz.func150, Tryz.ntmps150;go_wp2_with (first | ((first | ((with_reducible refine aB HO ?_); intro g hg; rw [← hg.out]; clear hg) | (with_reducible refine ah HO ?_) | (refine ay 115 HO ?_)); clear HO; (try clear kk); intro W' HO kk) | (go_at_call 68; with_reducible refine bq HO (cP _ HO.below) ?_; clear HO; (try clear kk); intro w1 HO kk));go_ret;exact ⟨rfl, HO.below⟩
theorem Ba (B E ge ec n : Nat) (v : Nat → Nat) (w : World) (hc : ∀ j, j < n → w.cell? ⟨ge, 0 + j, none⟩ = some (.int .u32 (v j))) (hn : n ≤ 1000)
  (cD : ∀ j, j < n → ∀ W, Bl w W → Qc 150 #[.int .u32 (v j), .pointer (some ⟨B, 0, none⟩), .pointer (some ⟨E, 0, none⟩)] W (.bool false)) :
  Qc 149 #[.slice (some ⟨ge, 0, none⟩) n ec, .func (.func 150) #[] #[.pointer (some ⟨B, 0, none⟩), .pointer (some ⟨E, 0, none⟩)]] w (.bool false) := by
 have cI : Qc 190 #[.slice (some ⟨ge, 0, none⟩) n ec, .func (.func 150) #[] #[.pointer (some ⟨B, 0, none⟩), .pointer (some ⟨E, 0, none⟩)]] w (.int .i64 (-1)) := by
  have HC := hid hc;have HD := hid cD;clear hc cD;go_enter Tryz.func190, Tryz.ntmps190;go_wp2_with fail;go_loopw [5, 8] (fun _ x8 wv => ∃ j : Nat, j ≤ n ∧ x8 = .int .i64 j ∧ Bl w wv) (fun _ x _ => n - (intOf x).toNat)
  case atStart => exact ⟨0, by omega, rfl, Below.refl _ _⟩
  case round =>
   obtain ⟨j, hj, rfl, hw⟩ := hrel;by_cases hjl : j < n
   ·have q1 := HC.out j hjl
    have zg := block_lt_of_cell q1;have q2 := ae q1 zg hw;rw [Nat.zero_add] at q2;have i7 : (j : Int) < n := by omega
    have cD := HD.out j hjl _ hw;have HW := hid hw;have HJ := hid hjl;clear hw hjl q1;go_wp2_with (first | (go_at_call 150; (with_reducible refine cD.mono ?_); rintro e w1 ⟨rfl, hn1⟩; replace HW := hid (HW.out.trans (hn1.mono HW.out.size)); clear hn1));exact ⟨⟨j + 1, HJ.out, by go_num, HW.out⟩, by have := HJ.out; simp [intOf]; omega⟩
   ·obtain rfl : j = n := by omega
    have i7 : ¬ ((j : Int) < j) := by omega
    go_wp2_with fail;go_ret;exact ⟨rfl, hw⟩
 clear hc cD;have HO := Own.nil w;go_enter Tryz.func149, Tryz.ntmps149;go_wp2_with (first | (go_at_call 190; (with_reducible refine cI.mono ?_); rintro e w1 ⟨rfl, hn⟩; replace HO := HO.then hn; clear hn));go_ret;exact ⟨rfl, HO.below⟩
theorem AP (v : Nat) (hv : v = 30 ∨ v = 11) (w : World) : Calls Tryz.prog 153 #[.int .u32 v] w fun e w' => e = .returned (.bool true) ∧ w' = w := by
 rcases hv with rfl | rfl
 all_goals
  go_enter Tryz.func153, Tryz.ntmps153;go_wp2_with fail;go_ret;exact ⟨rfl, rfl⟩
end Go.Proofs.YtlkolghiknbbfaaGreatDoor
namespace Go.Proofs.YtlkolghiknbbfaaGreatDoor
open Go.RowKit Go.MapKept
section
variable {m : Nat} {key : Value} {es es2 : Array MapEntry} {c : Nat}
theorem pz
  (hck : ∀ (e : Bool) (W : World), (Instr.checkKey e 10000 292 key).run Tryz.prog W = .ok () W)
  (hf : ∀ W : World, (Instr.findKey 292 key es.toList).run Tryz.prog W = .ok none W)
  (hf1 : ∀ W : World, (Instr.findKey 292 key (es.push { key := key, val := .int .i64 0, born := c }).toList).run Tryz.prog W = .ok (some (es.size, .int .i64 0)) W)
  (hi : (es.push { key := key, val := .int .i64 0, born := c }).findIdx? (fun e => (e.born : Int) == (c : Int)) = some es.size)
  (h2 : (es.push { key := key, val := .int .i64 0, born := c }).modify es.size (fun e => { e with val := .int .i64 1 }) = es2)
  (hf2 : ∀ W : World, ∃ j, (Instr.findKey 292 key es2.toList).run Tryz.prog W = .ok (some (j, .int .i64 1)) W) :
  IJ m key 0 c (.map es c) (.map (es.push { key := key, val := .int .i64 0, born := c }) (c + 1)) (.map es2 (c + 1)) := by
 have hu := Tryz.underlying291;refine ⟨by omega, by omega, fun W hW => ?_, fun W hW => ?_, fun W hW => ?_, fun W hW => ?_, fun W hW => ?_⟩
 ·simp only [Instr.lookup, Sem.run_bind, Go.MapKept.run_getObj_map hW, hck, hf, Jg, Result.andThen, run_underlying hu, Sem.run_pure]
  rfl
 ·simp only [Instr.mapEntry, Sem.run_bind, Go.MapKept.run_getObj_map hW, hck, hf, Jg, Result.andThen, run_underlying hu, Sem.run_pure, run_setObj_map _ hW, goInt]
  rfl
 ·simp only [Instr.lookup, Sem.run_bind, Go.MapKept.run_getObj_map hW, hck, hf1, Result.andThen, run_underlying hu, Sem.run_pure]
  rfl
 ·have e1 : IntKind.i64.wrap (0 + 1) = 1 := rfl
  rw [e1];simp only [Instr.entryStore, Sem.run_bind, Go.MapKept.run_getObj_map hW, Result.andThen, asInt, asIntOf, Sem.run_pure, hi, h2, run_setObj_map _ hW];rfl
 ·obtain ⟨j, hj⟩ := hf2 W
  simp only [Instr.lookup, Sem.run_bind, Go.MapKept.run_getObj_map hW, hck, hj, Result.andThen, run_underlying hu, Sem.run_pure];rfl
theorem Mq {i born : Nat}
  (hck : ∀ (e : Bool) (W : World), (Instr.checkKey e 10000 292 key).run Tryz.prog W = .ok () W)
  (hf : ∀ W : World, (Instr.findKey 292 key es.toList).run Tryz.prog W = .ok (some (i, .int .i64 1)) W)
  (hs : ∀ W : World, (Instr.keyThatStays (((es[i]?).map (·.key)).getD key) key).run Tryz.prog W = .ok key W)
  (h1 : es.modify i (fun e => { e with key := key }) = es)
  (hb : ((es[i]?).map (fun x => (x.born : Int))).getD 0 = (born : Int))
  (hi : es.findIdx? (fun e => (e.born : Int) == (born : Int)) = some i)
  (h2 : es.modify i (fun e => { e with val := .int .i64 2 }) = es2)
  (hf2 : ∀ W : World, ∃ j, (Instr.findKey 292 key es2.toList).run Tryz.prog W = .ok (some (j, .int .i64 2)) W) :
  IJ m key 1 born (.map es c) (.map es c) (.map es2 c) := by
 have hu := Tryz.underlying291;refine ⟨by omega, by omega, fun W hW => ?_, fun W hW => ?_, fun W hW => ?_, fun W hW => ?_, fun W hW => ?_⟩
 ·simp only [Instr.lookup, Sem.run_bind, Go.MapKept.run_getObj_map hW, hck, hf, Result.andThen, run_underlying hu, Sem.run_pure]
  rfl
 ·simp only [Instr.mapEntry, Sem.run_bind, Go.MapKept.run_getObj_map hW, hck, hf, hs, h1, hb, Result.andThen, run_underlying hu, Sem.run_pure, run_setObj_map _ hW, goInt]
  rfl
 ·simp only [Instr.lookup, Sem.run_bind, Go.MapKept.run_getObj_map hW, hck, hf, Result.andThen, run_underlying hu, Sem.run_pure]
  rfl
 ·have e1 : IntKind.i64.wrap (1 + 1) = 2 := rfl
  rw [e1];simp only [Instr.entryStore, Sem.run_bind, Go.MapKept.run_getObj_map hW, Result.andThen, asInt, asIntOf, Sem.run_pure, hi, h2, run_setObj_map _ hW];rfl
 ·obtain ⟨j, hj⟩ := hf2 W
  simp only [Instr.lookup, Sem.run_bind, Go.MapKept.run_getObj_map hW, hck, hj, Result.andThen, run_underlying hu, Sem.run_pure];rfl
end
def k2 (a b : Int) : Value := .agg #[.int .i64 a, .int .i64 b]
def e2 (a b v : Int) (c : Nat) : MapEntry := { key := k2 a b, val := .int .i64 v, born := c }
theorem Nk (m : Nat) : IJ m (k2 0 0) 0 0 (.map #[] 0) (.map #[e2 0 0 0 0] 1) (.map #[e2 0 0 1 0] 1) := pz (fun e W => by kernel_rfl) (fun W => by kernel_rfl) (fun W => by kernel_rfl) (by simp [e2, List.findIdx?_cons]) (by rfl) (fun W => ⟨0, by kernel_rfl⟩)
theorem Nc (m : Nat) : IJ m (k2 1 (-1)) 0 1 (.map #[e2 0 0 1 0] 1) (.map #[e2 0 0 1 0, e2 1 (-1) 0 1] 2) (.map #[e2 0 0 1 0, e2 1 (-1) 1 1] 2) := pz (fun e W => by kernel_rfl) (fun W => by kernel_rfl) (fun W => by kernel_rfl) (by simp [e2, List.findIdx?_cons]) (by rfl) (fun W => ⟨1, by kernel_rfl⟩)
theorem Nn (m : Nat) (l : Int) (h : l = 1 ∨ l = -1) : IJ m (k2 0 l) 0 2 (.map #[e2 0 0 1 0, e2 1 (-1) 1 1] 2) (.map #[e2 0 0 1 0, e2 1 (-1) 1 1, e2 0 l 0 2] 3) (.map #[e2 0 0 1 0, e2 1 (-1) 1 1, e2 0 l 1 2] 3) := by
 rcases h with rfl | rfl
 ·exact pz (fun e W => by kernel_rfl) (fun W => by kernel_rfl) (fun W => by kernel_rfl) (by simp [e2, List.findIdx?_cons]) (by rfl) (fun W => ⟨2, by kernel_rfl⟩)
 ·exact pz (fun e W => by kernel_rfl) (fun W => by kernel_rfl) (fun W => by kernel_rfl) (by simp [e2, List.findIdx?_cons]) (by rfl) (fun W => ⟨2, by kernel_rfl⟩)
theorem Oa (m : Nat) : IJ m (k2 1 (-1)) 1 1 (.map #[e2 0 0 1 0, e2 1 (-1) 1 1, e2 0 1 1 2] 3) (.map #[e2 0 0 1 0, e2 1 (-1) 1 1, e2 0 1 1 2] 3) (.map #[e2 0 0 1 0, e2 1 (-1) 2 1, e2 0 1 1 2] 3) := Mq (i := 1) (fun e W => by kernel_rfl) (fun W => by kernel_rfl) (fun W => by kernel_rfl) (by rfl) (by rfl) (by simp [e2, List.findIdx?_cons]) (by rfl) (fun W => ⟨1, by kernel_rfl⟩)
theorem NN (m : Nat) : IJ m (k2 1 0) 0 3 (.map #[e2 0 0 1 0, e2 1 (-1) 1 1, e2 0 (-1) 1 2] 3) (.map #[e2 0 0 1 0, e2 1 (-1) 1 1, e2 0 (-1) 1 2, e2 1 0 0 3] 4) (.map #[e2 0 0 1 0, e2 1 (-1) 1 1, e2 0 (-1) 1 2, e2 1 0 1 3] 4) := pz (fun e W => by kernel_rfl) (fun W => by kernel_rfl) (fun W => by kernel_rfl) (by simp [e2, List.findIdx?_cons]) (by rfl) (fun W => ⟨3, by kernel_rfl⟩)
theorem FQ (g cap v v' ty ty' sz sz' : Nat) (sg sg' : Bool) (w : World) (h0 : dN w g 0 ⟨v, 0, -1, ty, sz, sg⟩) (h1 : dN w g 6 ⟨v', 1, -1, ty', sz', sg'⟩) :
  Qc 146 #[.slice (some ⟨g, 0, none⟩) 2 cap] w (.bool true) :=
 qm g cap ⟨v, 0, -1, ty, sz, sg⟩ ⟨v', 1, -1, ty', sz', sg'⟩ w h0 h1 0 0 0 1 0 1 2 1 _ _ _ _ _ _ _ _ Nk Nc (fun m => Nn m 1 (.inl rfl)) Oa ⟨by simp only; omega, rfl⟩ (by simp only; omega) (.inl ⟨by simp only; omega, rfl, by simp only; omega⟩)
theorem DU (g cap v v' ty ty' sz sz' : Nat) (sg sg' : Bool) (w : World) (h0 : dN w g 0 ⟨v, 0, -1, ty, sz, sg⟩) (h1 : dN w g 6 ⟨v', -1, 0, ty', sz', sg'⟩) :
  Qc 146 #[.slice (some ⟨g, 0, none⟩) 2 cap] w (.bool true) :=
 qm g cap ⟨v, 0, -1, ty, sz, sg⟩ ⟨v', -1, 0, ty', sz', sg'⟩ w h0 h1 0 0 0 0 0 1 2 3 _ _ _ _ _ _ _ _ Nk Nc (fun m => Nn m (-1) (.inr rfl)) NN ⟨by simp only; omega, rfl⟩ (by simp only; omega) (.inr ⟨by simp only; omega, by simp only; omega, rfl⟩)
end Go.Proofs.YtlkolghiknbbfaaGreatDoor
