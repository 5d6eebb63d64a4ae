/- Face: faced. -/
import Derived.Test.YtlkolghiknbbfaaGreatDoorBl
set_option linter.unusedVariables false
set_option linter.unusedSimpArgs false
set_option maxRecDepth 100000
set_option maxHeartbeats 4000000
namespace Go.Proofs.YtlkolghiknbbfaaGreatDoor
open Go.RowKit Go.MapKept
structure Jw (K v c : Nat) (x : jO) (w : World) : Prop where
 cl : ∀ W, Bl w W → Qc 67 #[.pointer (some ⟨K, 0, none⟩), .int .u32 v] W (.int .u32 c)
 po : ∀ W, Bl w W → Qc 68 #[.pointer (some ⟨K, 0, none⟩), .int .u32 v] W (eP x)
 nu : ∀ W, Bl w W → Calls Tryz.prog 103 #[.pointer (some ⟨K, 0, none⟩), .int .u32 x.ty] W fun e w' => (∃ p : Nat, e = .returned (.tuple #[.int .u32 p, .bool true])) ∧ Bl W w'
 mb : ∀ W, Bl w W → Qc 144 #[.pointer (some ⟨K, 0, none⟩), .int .u32 0, .int .u32 c, eP x] W (.bool true)
 pos : 0 < c
theorem CQ (K C b o cap N at_ cl1 : Nat) (i : In) (v c : Nat → Nat) (x : Nat → jO) (w : World) (g4 : w.cell? ⟨K, 4, none⟩ = some (.slice (some ⟨b, o, none⟩) N cap)) (ab ao ac : Nat)
  (e0 : w.cell? ⟨b, o + at_ * 4, none⟩ = some (.int .u16 i.op)) (e1 : w.cell? ⟨b, o + at_ * 4 + 1, none⟩ = some (.int .u32 i.ty)) (e2 : w.cell? ⟨b, o + at_ * 4 + 2, none⟩ = some (.int .u32 i.res)) (e3 : w.cell? ⟨b, o + at_ * 4 + 3, none⟩ = some (.slice (some ⟨ab, ao, none⟩) 7 ac)) (hat : at_ < N) (m fn : Nat) (nm : ByteArray)
  (cE : ∀ W, Bl w W → Calls Tryz.prog 21 #[.agg #[.int .u16 i.op, .int .u32 i.ty, .int .u32 i.res, .slice (some ⟨ab, ao, none⟩) 7 ac]] W fun e w' => ∃ v', e = .returned (.agg #[.int .u32 0, .int .u32 fn, .string nm, v']) ∧ Own aK W [bM W.heap.size 22 1 v' 4 [.int .u32 (v 0), .int .u32 (v 1), .int .u32 (v 2), .int .u32 (v 3)]] w')
  (hP : ∀ j, j < 4 → Jw K (v j) (c j) (x j) w)
  (cO : ∀ (W : World) (ge ec : Nat), Bl w W → (∀ q, q < 4 → W.cell? ⟨ge, 0 + q, none⟩ = some (.int .u32 (v q))) → Calls Tryz.prog 22 #[.pointer (some ⟨K, 0, none⟩), .agg #[.int .u32 0, .int .u32 fn, .string nm, .slice (some ⟨ge, 0, none⟩) 4 ec], .int .u32 3] W fun e w' => ∃ g c', e = .returned (.slice (some ⟨g, 0, none⟩) 2 c') ∧ Own aK W [bM W.heap.size 115 6 (.slice (some ⟨g, 0, none⟩) 2 c') 2 (lI (x 2) (x 3))] w')
  (cI : ∀ (W : World) (ge ec : Nat), Bl w W → (∀ q, q < 4 → W.cell? ⟨ge, 0 + q, none⟩ = some (.int .u32 (v q))) → Calls Tryz.prog 22 #[.pointer (some ⟨K, 0, none⟩), .agg #[.int .u32 0, .int .u32 fn, .string nm, .slice (some ⟨ge, 0, none⟩) 4 ec], .int .u32 1] W fun e w' => ∃ g c', e = .returned (.slice (some ⟨g, 0, none⟩) 2 c') ∧ Own aK W [bM W.heap.size 115 6 (.slice (some ⟨g, 0, none⟩) 2 c') 2 (lI (x 0) (x 1))] w')
  (cU : ∀ (W : World) (ge ec : Nat), Bl w W → (∀ q, q < 4 → W.cell? ⟨ge, 0 + q, none⟩ = some (.int .u32 (v q))) → Qc 145 #[.pointer (some ⟨K, 0, none⟩), .agg #[.int .u32 0, .int .u32 fn, .string nm, .slice (some ⟨ge, 0, none⟩) 4 ec]] W (.bool true))
  (cUI : ∀ (g c' : Nat) (W : World), dN W g 0 (x 0) → dN W g 6 (x 1) → Qc 146 #[.slice (some ⟨g, 0, none⟩) 2 c'] W (.bool true))
  (cUO : ∀ (g c' : Nat) (W : World), dN W g 0 (x 2) → dN W g 6 (x 3) → Qc 146 #[.slice (some ⟨g, 0, none⟩) 2 c'] W (.bool true))
  (cK : ∀ (g c' : Nat) (W : World), dN W g 0 (x 2) → dN W g 6 (x 3) → Qc 147 #[.slice (some ⟨g, 0, none⟩) 2 c', .func (.func 148) #[] #[]] W (.bool true))
  (hinj : ∀ i j, i < 4 → j < 4 → v i = v j → i = j) :
  Qc 98 #[.pointer (some ⟨K, 0, none⟩), .int .i64 at_] w (.bool true) := by
 have HO := Own.nil w;have HP := hid hP;have HI := hid hinj;have zK := block_lt_of_cell g4;have zb := block_lt_of_cell e0;have ia : (at_ : Int) < N := by omega
 clear hP hinj;go_enter Tryz.func98, Tryz.ntmps98;go_wp2_with (first | ((first | (with_reducible refine dQ HO ?_; clear HO; (try clear kk); intro g hg W' HO; rw [← hg.out]; clear hg) | (with_reducible refine qc HO ?_; clear HO; (try clear kk); intro g hg W' HO; rw [← hg.out]; clear hg) | (with_reducible refine dM HO ?_; clear HO; (try clear kk); intro W' HO) | (with_reducible refine bT HO ?_; clear HO; (try clear kk); intro W' HO) | (refine gW HO rfl 75 _ _ rfl rfl rfl (by kernel_rfl) (by rfl) (by simp [Value.oneCell']) ?_; clear HO; (try clear kk); intro W' HO)); (try simp only [yT] at HO); have kk := HO.kk) | (go_at_call 21; (with_reducible refine (cE _ HO.below).mono ?_); rintro e w1 ⟨va, rfl, h2⟩; obtain ⟨aa, ec, rfl, hx⟩ := h2.slice 0 rfl; clear hx; obtain ⟨ge, rfl, hx1, hx2, hec, hx3⟩ := h2.slice2 0 rfl (by omega); clear hx1 hx2 hx3; replace HO := HO.app h2; clear h2; (try simp only [List.cons_append, List.nil_append] at HO); (try clear kk); (try simp only [yD] at HO); have kk := HO.kk));(try clear kk);obtain ⟨gE, rfl⟩ : ∃ q, q = g := ⟨_, rfl⟩;have mkr : ∀ (W : World) (i : Nat) (L : List As), Own aK w L W → L[i]? = some (bM w.heap.size 22 1 (.slice (some ⟨ge, 0, none⟩) 4 ec) 4 [.int .u32 (v 0), .int .u32 (v 1), .int .u32 (v 2), .int .u32 (v 3)]) → ∀ q, q < 4 → W.cell? ⟨ge, 0 + q, none⟩ = some (.int .u32 (v q)) := fun W i L h hi q hq => by
  rw [Nat.zero_add];refine h.rowcell i q hi ?_;rcases (show q = 0 ∨ q = 1 ∨ q = 2 ∨ q = 3 by omega) with rfl | rfl | rfl | rfl <;> rfl
 have H0 := hid HO;clear HO;go_loopw [6, 7, 8, 9, 10, 11, 24] (fun _ _ _ _ _ _ x24 wv => ∃ j : Nat, j ≤ 4 ∧ x24 = .int .i64 j ∧ Own aK w [aP gE #[.int .u32 0, .int .u32 fn, .string nm, .slice (some ⟨ge, 0, none⟩) 4 ec] 75, bM w.heap.size 22 1 (.slice (some ⟨ge, 0, none⟩) 4 ec) 4 [.int .u32 (v 0), .int .u32 (v 1), .int .u32 (v 2), .int .u32 (v 3)]] wv) (fun _ _ _ _ _ _ x _ => 4 - (intOf x).toNat)
 case atStart => exact ⟨0, by omega, rfl, H0.out⟩
 case round =>
  obtain ⟨j, hj, rfl, HO⟩ := hrel;clear H0;have hrow := mkr _ 1 _ HO rfl;have zge := block_lt_of_cell (hrow 0 (by omega));by_cases hjl : j < 4
  ·have q1 := hrow j hjl
   rw [Nat.zero_add] at q1;obtain ⟨cC, cP, cN, cM, hpos⟩ := HP.out j hjl;have cT : ∀ (W : World) (i : Nat) (L : List As), Own aK w L W → L[i]? = some (bM w.heap.size 22 1 (.slice (some ⟨ge, 0, none⟩) 4 ec) 4 [.int .u32 (v 0), .int .u32 (v 1), .int .u32 (v 2), .int .u32 (v 3)]) → Calls Tryz.prog 143 #[.slice (some ⟨ge, 0, none⟩) j ec, .int .u32 (v j)] W fun e w' => e = .returned (.bool false) ∧ w' = W := fun W i L h hi => jX ge 0 j ec (v j) v W (fun q hq => mkr W i L h hi q (by omega)) (by omega) false (by refine Iff.intro (fun h => Bool.noConfusion h) (fun h => ?_); obtain ⟨q, hq, e⟩ := h; exact absurd (HI.out q j (by omega) hjl e) (by omega))
   have hwr := HO.below;have hcj : ((c j : Int) == 0) = false := by rw [beq_eq_false_iff_ne]; omega
   have i7 : (j : Int) < 4 := by omega
   have i8 : (j : Int) ≤ ec := by omega
   have i9 : (j : Int) ≤ 4 := by omega
   have HJ := hid hjl;clear hjl hpos;generalize v j = vj at q1 cC cP cN cM cT;generalize c j = cj at cC cM hcj;generalize x j = xj at cP cN cM;obtain ⟨xv, xl, xb, xt, xs, xg⟩ := xj;unfold eP eB at cP cM;simp only at cP cM cN;have HR := hid hwr;clear hwr hrow;(try simp only [yD] at HO); have kk := HO.kk;go_wp2_with (first | ((first | (with_reducible refine dQ HO ?_; clear HO; (try clear kk); intro g hg W' HO; rw [← hg.out]; clear hg) | (with_reducible refine qc HO ?_; clear HO; (try clear kk); intro g hg W' HO; rw [← hg.out]; clear hg) | (with_reducible refine dM HO ?_; clear HO; (try clear kk); intro W' HO) | (with_reducible refine bT HO ?_; clear HO; (try clear kk); intro W' HO) | (refine gW HO rfl 115 _ _ rfl rfl rfl (by kernel_rfl) (by rfl) (by simp [Value.oneCell']) ?_; clear HO; (try clear kk); intro W' HO)); (try simp only [yT] at HO); have kk := HO.kk) | (refine bG 115 HO Tryz.underlying115 ?_) | (go_at_call 67; with_reducible refine bq HO (cC _ HO.below) ?_; clear HO; (try clear kk); intro w1 HO kk) | (go_at_call 68; with_reducible refine bq HO (cP _ HO.below) ?_; clear HO; (try clear kk); intro w2 HO kk) | (go_at_call 103; (with_reducible refine (cN _ HO.below).mono ?_); rintro e w3 ⟨⟨p, rfl⟩, hn⟩; replace HO := HO.then hn; clear hn; (try clear kk); (try simp only [yD] at HO); have kk := HO.kk) | (go_at_call 143; (with_reducible refine (cT _ 2 _ HO rfl).mono ?_); rintro e w4 ⟨rfl, rfl⟩) | (go_at_call 144; with_reducible refine bq HO (cM _ HO.below) ?_; clear HO; (try clear kk); intro w5 HO kk));exact ⟨⟨j + 1, HJ.out, by go_num, HO.drop 1⟩, by have := HJ.out; simp [intOf]; omega⟩
  ·obtain rfl : j = 4 := by omega
   have i7 : ¬ (((4 : Nat) : Int) < 4) := by omega
   have HM := hid mkr;clear hjl mkr hrow;(try simp only [yD] at HO); have kk := HO.kk;go_wp2_with (first | (refine bG 75 HO Tryz.underlying75 ?_) | (go_at_call 22; first | ((with_reducible refine (cO _ ge ec HO.below (HM.out _ 1 _ HO rfl)).mono ?_); rintro e w2 ⟨go, co, rfl, h2⟩; replace HO := HO.app h2; clear h2; (try simp only [List.cons_append, List.nil_append] at HO); (try clear kk); (try simp only [yD] at HO); have kk := HO.kk) | ((with_reducible refine (cI _ ge ec HO.below (HM.out _ 2 _ HO rfl)).mono ?_); rintro e w3 ⟨gi, ci, rfl, h2⟩; replace HO := HO.app h2; clear h2; (try simp only [List.cons_append, List.nil_append] at HO); (try clear kk); (try simp only [yD] at HO); have kk := HO.kk)) | (go_at_call 145; with_reducible refine bq HO (cU _ ge ec HO.below (HM.out _ 2 _ HO rfl)) ?_; clear HO; (try clear kk); intro w5 HO kk) | (go_at_call 146; first | (with_reducible refine bq HO (cUI _ _ _ (iA HO 0 rfl).1 (iA HO 0 rfl).2) ?_; clear HO; (try clear kk); intro w5 HO kk) | (with_reducible refine bq HO (cUO _ _ _ (iA HO 1 rfl).1 (iA HO 1 rfl).2) ?_; clear HO; (try clear kk); intro w5 HO kk)) | (go_at_call 147; with_reducible refine fF HO (cK _ _ _ (iA HO 1 rfl).1 (iA HO 1 rfl).2) ?_; clear HO; intro w5 HO));go_ret;exact ⟨rfl, HO.below⟩
end Go.Proofs.YtlkolghiknbbfaaGreatDoor
namespace Go.Proofs.YtlkolghiknbbfaaGreatDoor
open Go.RowKit Go.MapKept
theorem tC (K b o cap N at_ : Nat) (i : In) (v c : Nat → Nat) (x : Nat → jO) (w : World) (g4 : w.cell? ⟨K, 4, none⟩ = some (.slice (some ⟨b, o, none⟩) N cap)) (ab ao ac : Nat)
  (e0 : w.cell? ⟨b, o + at_ * 4, none⟩ = some (.int .u16 i.op)) (e1 : w.cell? ⟨b, o + at_ * 4 + 1, none⟩ = some (.int .u32 i.ty)) (e2 : w.cell? ⟨b, o + at_ * 4 + 2, none⟩ = some (.int .u32 i.res)) (e3 : w.cell? ⟨b, o + at_ * 4 + 3, none⟩ = some (.slice (some ⟨ab, ao, none⟩) 7 ac)) (hat : at_ < N) (fn : Nat) (nm : ByteArray)
  (cE : ∀ W, Bl w W → Calls Tryz.prog 21 #[.agg #[.int .u16 i.op, .int .u32 i.ty, .int .u32 i.res, .slice (some ⟨ab, ao, none⟩) 7 ac]] W fun e w' => ∃ v', e = .returned (.agg #[.int .u32 0, .int .u32 fn, .string nm, v']) ∧ Own aK W [bM W.heap.size 22 1 v' 4 [.int .u32 (v 0), .int .u32 (v 1), .int .u32 (v 2), .int .u32 (v 3)]] w')
  (hP : ∀ j, j < 4 → Jw K (v j) (c j) (x j) w) (hx : ∀ j, j < 4 → 0 ≤ (x j).loc ∨ 0 ≤ (x j).bi) :
  Qc 99 #[.pointer (some ⟨K, 0, none⟩), .int .i64 at_] w (.bool true) := by
 have HO := Own.nil w;have HP := hid hP;have HX := hid hx;have zK := block_lt_of_cell g4;have zb := block_lt_of_cell e0;have ia : (at_ : Int) < N := by omega
 clear hP hx;go_enter Tryz.func99, Tryz.ntmps99;go_wp2_with (first | ((first | ((with_reducible refine aB HO ?_); intro g hg; rw [← hg.out]; clear hg) | (with_reducible refine ah HO ?_) | (refine ay 75 HO ?_)); clear HO; (try clear kk); intro W' HO kk) | (go_at_call 21; (with_reducible refine (cE _ HO.below).mono ?_); rintro e w1 ⟨va, rfl, h2⟩; obtain ⟨aa, ec, rfl, hx⟩ := h2.slice 0 rfl; clear hx; obtain ⟨ge, rfl, hx1, hx2, hec, hx3⟩ := h2.slice2 0 rfl (by omega); clear hx1 hx2 hx3; replace HO := HO.app h2; clear h2; (try simp only [List.cons_append, List.nil_append] at HO); (try clear kk); (try simp only [yD] at HO); have kk := HO.kk));have hrow : ∀ q, q < 4 → W'.cell? ⟨ge, 0 + q, none⟩ = some (.int .u32 (v q)) := fun q hq => by
  rw [Nat.zero_add];refine HO.rowcell 1 q rfl ?_;rcases (show q = 0 ∨ q = 1 ∨ q = 2 ∨ q = 3 by omega) with rfl | rfl | rfl | rfl <;> rfl
 have r1 := HO.cell 2 0 rfl rfl;have r2 := HO.cell 0 0 rfl rfl;have hbw := HO.below
 with_reducible refine (Ba _ _ ge ec 4 v _ hrow (by omega) (fun j hj W hb => yO _ _ K (v j) 0 (x j) W (ae r1 (block_lt_of_cell r1) hb) (ae r2 (block_lt_of_cell r2) hb) (HX.out j hj) (fun W2 hb2 => (HP.out j hj).po W2 (az (az hbw hb) hb2)))).mono ?_
 rintro e w5 ⟨rfl, hn⟩;replace HO := HO.then hn
 clear hn hrow r1 r2 hbw;go_wp2_with fail;go_ret;exact ⟨rfl, HO.below⟩
section
variable {K P T C gf gc gd b o cap b2 cb id lab y st en : Nat} {l : List In} {sv : Nat → Option Addr × Nat} {tab : Nat → Option dU} {vs : Nat → Option (Nat × Nat × Nat)} {fk : Nat → Option Nat} {w : World}
theorem fV (h : Hr K P T C gf gc gd b o cap b2 cb id lab y st en l sv tab vs fk w) (at_ : Nat) (hat : at_ < l.length) (hcap : l.length ≤ cap) (hn : l.length ≤ 2000) (v kind x : Nat) (ha : (l[at_].args.map (·.n)) = [v, kind, x]) (h3 : 3 ≤ (sv at_).2) (hk : kind = 30 ∨ kind = 11 ∧ x = 0)
  (hc : ni vs v ≠ 0) (cC : ∀ W, Bl w W → Qc 67 #[.pointer (some ⟨K, 0, none⟩), .int .u32 v] W (.int .u32 (ni vs v)))
  (hu : ∀ k (hk : k < l.length), k < at_ → l[k].op = 71 → 0 < l[k].args.length ∧ (l[k].args.map (·.n)).headD 0 ≠ v) :
  Qc 101 #[.pointer (some ⟨K, 0, none⟩), .int .i64 at_] w (.bool true) := by
 have HO := Own.nil w;have HM := hid h.ms;have HU := hid hu;have g4 := h.c4;have zK := block_lt_of_cell g4;have zb := h.ms.lt;have e0 := h.ms.op at_ hat;have e1 := h.ms.ty at_ hat;have e2 := h.ms.res at_ hat;have e3 := h.ms.args at_ hat;have hsl := h.ms.sl at_ hat;clear h hu;generalize l[at_] = i at e0 e1 e2 e3 hsl ha;obtain ⟨op, ty, res, args⟩ := i;simp only at e0 e1 e2 e3 hsl ha;rcases args with _ | ⟨A, _ | ⟨B, _ | ⟨D, _ | ⟨E, r⟩⟩⟩⟩
 ·cases ha
 ·cases ha
 ·cases ha
 ·simp only [List.map_cons, List.map_nil, List.cons.injEq, and_true] at ha
  obtain ⟨rfl, rfl, rfl⟩ := ha;generalize sv at_ = s at e3 hsl h3;obtain ⟨sa, ac⟩ := s;simp only at e3 hsl h3;obtain ⟨ab, ao, rfl, zA, hcell⟩ := hsl.at_ (by simp);have q0 := (hcell 0 (by simp)).n;have q1 := (hcell 1 (by simp)).n;have q2 := (hcell 2 (by simp)).n;simp only [List.getElem_cons_succ, List.getElem_cons_zero, List.length_cons, List.length_nil, Nat.zero_add, Nat.reduceAdd, Nat.zero_mul, Nat.add_zero, Nat.one_mul, Nat.reduceMul] at q0 q1 q2 e3;generalize A.n = v at q0 hc cC HU ⊢;generalize B.n = kind at q1 hk;generalize D.n = x at q2 hk;clear hcell hsl;have cP : ∀ W, Calls Tryz.prog 153 #[.int .u32 kind] W fun e w' => e = .returned (.bool true) ∧ w' = W := fun W => AP kind (hk.imp (fun e => e) (fun e => e.1)) W
  have i1 : (at_ : Int) < l.length := by omega
  have i2 : ¬ (ac = 2) := by omega
  have i3 : ¬ (ac - 2 = 0) := by omega
  have i4 : 2 < ac := by omega
  have i5 : (2 : Int) < ac := by omega
  have i6 : (at_ : Int) ≤ l.length := by omega
  have i7 : (at_ : Int) ≤ cap := by omega
  have i8 : ((ni vs v : Int) == 0) = false := by rw [beq_eq_false_iff_ne]; omega
  have i9 : ((kind : Int) == 0) = false := by rw [beq_eq_false_iff_ne]; omega
  go_enter Tryz.func101, Tryz.ntmps101;go_wp2_with (first | ((first | ((with_reducible refine aB HO ?_); intro g hg; rw [← hg.out]; clear hg) | (with_reducible refine ah HO ?_) | (refine ay 73 HO ?_)); clear HO; (try clear kk); intro W' HO kk));go_quiet (fail);replace HO := HO.drewN nq;have ho2 := Own.old HO;rcases hk with rfl | ⟨rfl, rfl⟩
  ·have cP2 : ∀ W, Calls Tryz.prog 153 #[.int .u32 30] W fun e w' => e = .returned (.bool true) ∧ w' = W := fun W => cP W
   clear cP;go_wp2_with (first | (go_at_call 153; (with_reducible refine (cP2 _).mono ?_); rintro e w1 ⟨rfl, rfl⟩) | (go_at_call 67; (with_reducible refine (cC _ HO.below).mono ?_); rintro e w1 ⟨rfl, hn⟩; replace HO := HO.then hn; clear hn; clear ho2; have ho2 := Own.old HO));(try clear kk);have HX := hid HO.below;clear HO
   rename World => wq
   go_loopw [11, 72] (fun _ x72 wv => ∃ k : Nat, k ≤ at_ ∧ x72 = .int .i64 k ∧ Bl wq wv) (fun _ x _ => at_ - (intOf x).toNat)
   case atStart => exact ⟨0, by omega, rfl, Below.refl _ _⟩
   case round =>
    obtain ⟨k, hk, rfl, hw⟩ := hrel;have hwr := HX.out.trans (hw.mono HX.out.size);by_cases hkl : k < at_
    ·have hkn : k < l.length := by omega
     have hMM := HM.out.below hwr;have e0 := hMM.op k hkn;have e1 := hMM.ty k hkn;have e2 := hMM.res k hkn;have e3 := hMM.args k hkn;have hsl := hid (hMM.sl k hkn);have HUU := HU.out k hkn hkl;have zb := hMM.lt;clear hMM;generalize l[k] = i at e0 e1 e2 e3 hsl HUU;generalize sv k = s at e3 hsl;obtain ⟨sa, sc⟩ := s;simp only at e3 hsl;have j4 : (k : Int) < at_ := by omega
     have HK := hid hkl;have HW := hid hw;clear hkl hk hw;have HO := Own.nil wr;by_cases h71 : i.op = 71
     ·obtain ⟨hpos, hne⟩ := HUU h71
      rw [BQ i.args hpos] at hne;obtain ⟨ab2, ao2, rfl, hal, hcell⟩ := hsl.out.at_ hpos;have q0 := (hcell 0 hpos).n;simp only [Nat.zero_mul, Nat.add_zero] at q0;generalize i.args[0].n = vo at q0 hne;have j5 : (0 : Int) < i.args.length := by omega
      have j6 : ((i.op : Int) == 71) = true := by rw [beq_iff_eq]; omega
      have j7 : ((vo : Int) == (v : Int)) = false := by rw [beq_eq_false_iff_ne]; omega
      clear hcell HUU hsl hpos h71 hne;(try simp only [yD] at HO); have kk := HO.kk;go_wp2_with fail;exact ⟨⟨k + 1, HK.out, by go_num, HW.out.trans ((HO.alloc _).below.mono HW.out.size)⟩, by have := HK.out; simp [intOf]; omega⟩
     ·have j6 : ((i.op : Int) == 71) = false := by rw [beq_eq_false_iff_ne]; omega
      clear HUU hsl;(try simp only [yD] at HO); have kk := HO.kk;go_wp2_with fail;exact ⟨⟨k + 1, HK.out, by go_num, HW.out.trans ((HO.alloc _).below.mono HW.out.size)⟩, by have := HK.out; simp [intOf]; omega⟩
    ·obtain rfl : k = at_ := by omega
     have j4 : ¬ ((k : Int) < k) := by omega
     go_wp2_with fail;go_ret;exact ⟨rfl, hwr⟩
  ·have cP2 : ∀ W, Calls Tryz.prog 153 #[.int .u32 11] W fun e w' => e = .returned (.bool true) ∧ w' = W := fun W => cP W
   clear cP;have cS : ∀ (g : Nat) (W : World), (∀ j, j < 3 → W.cell? ⟨g, 0 + j, none⟩ = some (.int .u32 (([0, 5, 15] : List Nat).getD j 0))) → Calls Tryz.prog 143 #[.slice (some ⟨g, 0, none⟩) 3 3, .int .u32 0] W fun e w' => e = .returned (.bool true) ∧ w' = W := fun g W h => jX g 0 3 3 0 (fun j => ([0, 5, 15] : List Nat).getD j 0) W h (by omega) true (by simp only [true_iff]; exact ⟨0, by omega, rfl⟩)
   go_wp2_with (first | (((with_reducible refine aB HO ?_); intro g hg; rw [← hg.out]; clear hg); clear HO; (try clear kk); intro W' HO kk) | (go_at_call 143; (with_reducible refine (cS _ _ (fun j hj => HO.cell 0 (0 + j) rfl (by rcases (show j = 0 ∨ j = 1 ∨ j = 2 by omega) with rfl | rfl | rfl <;> simp))).mono ?_); rintro e w1 ⟨rfl, rfl⟩) | (go_at_call 153; (with_reducible refine (cP2 _).mono ?_); rintro e w1 ⟨rfl, rfl⟩) | (go_at_call 67; (with_reducible refine (cC _ HO.below).mono ?_); rintro e w1 ⟨rfl, hn⟩; replace HO := HO.then hn; clear hn; (try clear ho2); (try clear kk); (try simp only [yD] at HO); have kk := HO.kk));(try clear kk);have HX := hid HO.below;clear HO
   rename World => wq
   go_loopw [11, 72] (fun _ x72 wv => ∃ k : Nat, k ≤ at_ ∧ x72 = .int .i64 k ∧ Bl wq wv) (fun _ x _ => at_ - (intOf x).toNat)
   case atStart => exact ⟨0, by omega, rfl, Below.refl _ _⟩
   case round =>
    obtain ⟨k, hk, rfl, hw⟩ := hrel;have hwr := HX.out.trans (hw.mono HX.out.size);by_cases hkl : k < at_
    ·have hkn : k < l.length := by omega
     have hMM := HM.out.below hwr;have e0 := hMM.op k hkn;have e1 := hMM.ty k hkn;have e2 := hMM.res k hkn;have e3 := hMM.args k hkn;have hsl := hid (hMM.sl k hkn);have HUU := HU.out k hkn hkl;have zb := hMM.lt;clear hMM;generalize l[k] = i at e0 e1 e2 e3 hsl HUU;generalize sv k = s at e3 hsl;obtain ⟨sa, sc⟩ := s;simp only at e3 hsl;have j4 : (k : Int) < at_ := by omega
     have HK := hid hkl;have HW := hid hw;clear hkl hk hw;have HO := Own.nil wr;by_cases h71 : i.op = 71
     ·obtain ⟨hpos, hne⟩ := HUU h71
      rw [BQ i.args hpos] at hne;obtain ⟨ab2, ao2, rfl, hal, hcell⟩ := hsl.out.at_ hpos;have q0 := (hcell 0 hpos).n;simp only [Nat.zero_mul, Nat.add_zero] at q0;generalize i.args[0].n = vo at q0 hne;have j5 : (0 : Int) < i.args.length := by omega
      have j6 : ((i.op : Int) == 71) = true := by rw [beq_iff_eq]; omega
      have j7 : ((vo : Int) == (v : Int)) = false := by rw [beq_eq_false_iff_ne]; omega
      clear hcell HUU hsl hpos h71 hne;(try simp only [yD] at HO); have kk := HO.kk;go_wp2_with fail;exact ⟨⟨k + 1, HK.out, by go_num, HW.out.trans ((HO.alloc _).below.mono HW.out.size)⟩, by have := HK.out; simp [intOf]; omega⟩
     ·have j6 : ((i.op : Int) == 71) = false := by rw [beq_eq_false_iff_ne]; omega
      clear HUU hsl;(try simp only [yD] at HO); have kk := HO.kk;go_wp2_with fail;exact ⟨⟨k + 1, HK.out, by go_num, HW.out.trans ((HO.alloc _).below.mono HW.out.size)⟩, by have := HK.out; simp [intOf]; omega⟩
    ·obtain rfl : k = at_ := by omega
     have j4 : ¬ ((k : Int) < k) := by omega
     go_wp2_with fail;go_ret;exact ⟨rfl, hwr⟩
 ·cases ha
end
end Go.Proofs.YtlkolghiknbbfaaGreatDoor
namespace Go.Proofs.YtlkolghiknbbfaaGreatDoor
open Go.RowKit Go.MapKept
section
variable {K P T C gf gc gd b o cap b2 cb id lab y st en : Nat} {l : List In} {sv : Nat → Option Addr × Nat} {tab : Nat → Option dU} {vs : Nat → Option (Nat × Nat × Nat)} {fk : Nat → Option Nat} {w : World}
theorem wO (h : Hr K P T C gf gc gd b o cap b2 cb id lab y st en l sv tab vs fk w) (at_ : Nat) (hat : at_ < l.length) (hn : l.length ≤ 2000) (ab ao ac : Nat) (hsv : sv at_ = (some ⟨ab, ao, none⟩, ac)) (h7 : l[at_].args.length = 7) (hop : l[at_].op = 15) (nm : ByteArray)
  (cE : ∀ W, Bl w W → Calls Tryz.prog 21 #[.agg #[.int .u16 15, .int .u32 l[at_].ty, .int .u32 l[at_].res, .slice (some ⟨ab, ao, none⟩) 7 ac]] W fun e w' => ∃ g c : Nat, e = .returned (.agg #[.int .u32 0, .int .u32 id, .string nm, .slice (some ⟨g, 0, none⟩) 4 c]) ∧ Bl W w')
  (hyl : y < l.length) (hty : (aD tab (l.getD y ai).ty).kind = 1)
  (h57 : ∀ k (hk : k < l.length), l[k].op ≠ 57) (h15 : ∀ k (hk : k < l.length), l[k].op = 15 → k = at_) (h16 : ∀ k (hk : k < l.length), l[k].op ≠ 16) :
  Qc 97 #[.pointer (some ⟨K, 0, none⟩), .int .i64 at_] w (.bool true) := by
 have HO := Own.nil w;have HM := hid h.ms;have g4 := h.c4;have g3 := h.c3;have g1 := h.c1;have zK := block_lt_of_cell g4;have zb := h.ms.lt;have e0 := h.ms.op at_ hat;have e1 := h.ms.ty at_ hat;have e2 := h.ms.res at_ hat;have e3 := h.ms.args at_ hat;rw [hsv, h7] at e3;rw [hop] at e0;simp only at e3;have e0 : w.cell? ⟨b, o + at_ * 4, none⟩ = some (.int .u16 15) := e0;have t1 := h.ms.ty y hyl;obtain ⟨lo3, hq⟩ := h.fq;obtain ⟨zg, f0, f1, f2, f3, f4⟩ := hq.mem;have cF : ∀ W, Bl w W → Qc 141 #[.pointer (some ⟨K, 0, none⟩), .int .u32 id] W (.int .i64 0) := fun W hb => by
  obtain ⟨lo, hq2⟩ := (h.below hb).fq;exact ny K gf gc b2 cb id y en W (h.below hb).c3 hq2.mem
 have cT : ∀ W, Bl w W → Qc 142 #[.pointer (some ⟨T, 0, none⟩), .int .u32 (l[y]).ty] W (.int .u8 1) := fun W hb => by
  obtain ⟨lo, hp⟩ := (h.below hb).pl;have := hp.tb.kind (l[y]).ty;rw [getD_at l hyl] at hty;rw [hty] at this;exact this
 have H57 := hid h57;have H15 := hid h15;have H16 := hid h16;have hx := hid (show at_ < l.length from hat);clear h hq h57 h15 h16 hsv h7 hop;have ia : (at_ : Int) < l.length := by omega
 have iy : (y : Int) < l.length := by omega
 generalize (l[y]).ty = tyy at t1 cT;generalize (l[at_]).ty = tya at e1 cE;generalize (l[at_]).res = rsa at e2 cE;clear hat hty hyl;go_enter Tryz.func97, Tryz.ntmps97;go_wp2_with (first | ((first | ((with_reducible refine aB HO ?_); intro g hg; rw [← hg.out]; clear hg) | (with_reducible refine ah HO ?_) | (refine ay 75 HO ?_)); clear HO; (try clear kk); intro W' HO kk) | (go_at_call 21; (with_reducible refine (cE _ HO.below).mono ?_); rintro e w1 ⟨va, vc, rfl, h2⟩; replace HO := HO.then h2; clear h2; (try clear kk); (try simp only [yD] at HO); have kk := HO.kk) | (go_at_call 141; with_reducible refine bq HO (cF _ HO.below) ?_; clear HO; (try clear kk); intro w1 HO kk));(try clear kk);have hcl : ∀ W W2 : World, Bl w W → Bl W W2 → Bl w W2 := fun _ _ h k => az h k
 have hSw := HO.drew.below;refine au (S := fun W => Bl w W) (by kernel_rfl) ?_;refine ag hcl 0 ?_;refine ag hcl 1 ?_;refine ag hcl 2 ?_;refine ag hcl 3 ?_;refine ag hcl 4 ?_;refine ag hcl 5 ?_;refine ag hcl 6 ?_ (hv := fun w hw => by have q1 := (hw.cell (p := ⟨K, 3, none⟩) zK).trans g3; go_simp; first | done | with_reducible rfl);refine ag hcl 7 ?_;refine ag hcl 8 ?_;refine ag hcl 9 ?_;refine ag hcl 10 ?_ (hv := fun w hw => by have q1 := (hw.cell (p := ⟨gf, 2, none⟩) zg).trans f2; go_simp; first | done | with_reducible rfl);refine ag hcl 11 ?_;refine ag hcl 12 ?_;refine ag hcl 13 ?_;refine ag hcl 14 ?_;refine ag hcl 15 ?_;refine ag hcl 16 ?_;refine ag hcl 17 ?_;refine ag hcl 18 ?_ (hv := fun w hw => by have q1 := (hw.cell (p := ⟨K, 1, none⟩) zK).trans g1; go_simp; first | done | with_reducible rfl);refine ag hcl 19 ?_;refine ag hcl 20 ?_;refine ag hcl 21 ?_;refine ag hcl 22 ?_ (hv := fun w hw => by have q1 := (hw.cell (p := ⟨K, 4, none⟩) zK).trans g4; go_simp; first | done | with_reducible rfl);refine ag hcl 23 ?_;refine ag hcl 24 ?_;refine ag hcl 25 ?_;refine ag hcl 26 ?_ (hv := fun w hw => by have q1 := (hw.cell (p := ⟨K, 3, none⟩) zK).trans g3; go_simp; first | done | with_reducible rfl);refine ag hcl 27 ?_;refine ag hcl 28 ?_;refine ag hcl 29 ?_;refine ag hcl 30 ?_ (hv := fun w hw => by have q1 := (hw.cell (p := ⟨gf, 1, none⟩) zg).trans f1; go_simp; first | done | with_reducible rfl);refine ag hcl 31 ?_;refine ag hcl 32 ?_;refine ag hcl 33 ?_ (hv := fun w hw => by have q1 := (hw.cell (p := ⟨b, o + y * 4 + 1, none⟩) zb).trans t1; go_simp; first | done | with_reducible rfl);refine tV hcl 34 142 (fun w hw => cT w hw) ?_;refine ag hcl 35 ?_;refine ag hcl 36 ?_;refine kS fun W8 hW8 => ?_
 replace HO := HO.drew.then hW8
 clear hW8 hSw hcl;(try simp only [yD] at HO); have kk := HO.kk;go_wp2_with fail;(try clear kk);obtain ⟨gE, rfl⟩ : ∃ q, q = g := ⟨_, rfl⟩;have H0 := hid HO;clear HO;go_loopw [7, 68] (fun x7 x68 wv => x7 = .bool true ∧ ∃ k : Nat, k ≤ l.length ∧ x68 = .int .i64 k ∧ Own aK w [aP gE #[.int .u32 0, .int .u32 id, .string nm, .slice (some ⟨va, 0, none⟩) 4 vc] 75] wv) (fun _ x _ => l.length - (intOf x).toNat)
 case atStart => exact ⟨rfl, 0, by omega, rfl, H0.out⟩
 case round =>
  obtain ⟨rfl, k, hk, rfl, HO⟩ := hrel;clear H0;by_cases hkl : k < l.length
  ·have hMM := HM.out.below HO.below
   have e4 := hMM.op k hkl;have e5 := hMM.ty k hkl;have e6 := hMM.res k hkl;have e7 := hMM.args k hkl;have n57 := H57.out k hkl;have n16 := H16.out k hkl;have n15 := H15.out k hkl;have zb2 := hMM.lt;clear hMM;have i4 : (k : Int) < l.length := by omega
   have HK := hid hkl;have i5 : ((l[k].op : Int) == 57) = false := by rw [beq_eq_false_iff_ne]; omega
   have i6 : ((l[k].op : Int) == 16) = false := by rw [beq_eq_false_iff_ne]; omega
   by_cases hke : k = at_
   ·subst hke
    have ho2 := Own.old HO;clear e4 e5 e6 e7 n57 n16 n15 i5 i6 hkl;have i8 : ¬ ((k : Int) < k) := by omega
    (try simp only [yD] at HO); have kk := HO.kk;go_wp2_with (first | ((first | ((with_reducible refine aB HO ?_); intro g hg; rw [← hg.out]; clear hg) | (with_reducible refine ah HO ?_) | (refine ay 73 HO ?_)); clear HO; (try clear kk); intro W' HO kk))
    (with_reducible refine (cE _ HO.below).mono ?_); rintro e w1 ⟨va2, vc2, rfl, h2⟩; replace HO := HO.then h2; clear h2; (try clear kk); (try simp only [yD] at HO); have kk := HO.kk
    go_wp2_with fail;exact ⟨⟨rfl, k + 1, HK.out, by go_num, (HO.alloc _).drop 2⟩, by have := HK.out; simp [intOf]; omega⟩
   ·have n15' : l[k].op ≠ 15 := fun e => hke (n15 e)
    have i7 : ((l[k].op : Int) == 15) = false := by rw [beq_eq_false_iff_ne]; omega
    generalize l[k] = i at e4 e5 e6 e7 i5 i6 i7;generalize sv k = s at e7;obtain ⟨sa, sc⟩ := s;simp only at e7;clear n57 n16 n15 n15' hkl;(try simp only [yD] at HO); have kk := HO.kk;go_wp2_with (first | ((first | (with_reducible refine bf HO ?_; intro g hg; rw [← hg.out]; clear hg) | (with_reducible refine ah HO ?_) | (refine ay 73 HO ?_)); clear HO; (try clear kk); intro W' HO kk));exact ⟨⟨rfl, k + 1, HK.out, by go_num, HO.drop 1⟩, by have := HK.out; simp [intOf]; omega⟩
  ·obtain rfl : k = l.length := by omega
   have i4 : ¬ (((l.length : Nat) : Int) < l.length) := by omega
   go_wp2_with fail;go_ret;exact ⟨rfl, HO.below⟩
end
end Go.Proofs.YtlkolghiknbbfaaGreatDoor
