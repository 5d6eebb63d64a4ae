/- Face: faced. -/
import Derived.Test.YtbhijdmlonplgaaGreatDoorBk
import Derived.Test.YtbhijdmlonplgaaGreatDoorBl
import Derived.Test.YtbhijdmlonplgaaGreatDoorBm
import Derived.Test.YtbhijdmlonplgaaGreatDoorBj
namespace Go.Proofs.YtbhijdmlonplgaaGreatDoor
set_option linter.unusedVariables false
set_option linter.unusedSimpArgs false
set_option maxRecDepth 100000
set_option maxHeartbeats 2000000
open Go.RowKit Go.MapKept
structure PortK (K v c : Nat) (x : PtD) (w : World) : Prop where
 cl : ∀ W, Below w.heap.size w W → Calls Tryz.prog 144 #[.pointer (some ⟨K, 0, none⟩), .int .u32 v] W fun e w' => e = .returned (.int .u32 c) ∧ Below W.heap.size W w'
 po : ∀ W, Below w.heap.size w W → Calls Tryz.prog 145 #[.pointer (some ⟨K, 0, none⟩), .int .u32 v] W fun e w' => e = .returned (encPt x) ∧ Below W.heap.size W w'
 nu : ∀ W, Below w.heap.size w W → Calls Tryz.prog 220 #[.pointer (some ⟨K, 0, none⟩), .int .u32 x.ty] W fun e w' => (∃ p : Nat, e = .returned (.tuple #[.int .u32 p, .bool true])) ∧ Below W.heap.size W w'
 mb : ∀ W, Below w.heap.size w W → Calls Tryz.prog 271 #[.pointer (some ⟨K, 0, none⟩), .int .u32 0, .int .u32 c, encPt x] W fun e w' => e = .returned (.bool true) ∧ Below W.heap.size W w'
 pos : 0 < c
theorem ffaced_own (K C b o cap N at_ cl1 : Nat) (i : In) (v c : Nat → Nat) (x : Nat → PtD) (w : World) (g4 : w.cell? ⟨K, 4, none⟩ = some (.slice (some ⟨b, o, none⟩) N cap)) (ab ao ac : Nat)
  (e0 : w.cell? ⟨b, o + at_ * 4, none⟩ = some (.int .u16 i.op)) (e1 : w.cell? ⟨b, o + at_ * 4 + 1, none⟩ = some (.int .u32 i.ty)) (e2 : w.cell? ⟨b, o + at_ * 4 + 2, none⟩ = some (.int .u32 i.res)) (e3 : w.cell? ⟨b, o + at_ * 4 + 3, none⟩ = some (.slice (some ⟨ab, ao, none⟩) 7 ac)) (hat : at_ < N) (m fn : Nat) (nm : ByteArray)
  (cE : ∀ W, Below w.heap.size w W → Calls Tryz.prog 92 #[.agg #[.int .u16 i.op, .int .u32 i.ty, .int .u32 i.res, .slice (some ⟨ab, ao, none⟩) 7 ac]] W fun e w' => ∃ v', e = .returned (.agg #[.int .u32 0, .int .u32 fn, .string nm, v']) ∧ Own noX W [rw_ W.heap.size 27 1 v' 4 [.int .u32 (v 0), .int .u32 (v 1), .int .u32 (v 2), .int .u32 (v 3)]] w')
  (hP : ∀ j, j < 4 → PortK K (v j) (c j) (x j) w)
  (cO : ∀ (W : World) (ge ec : Nat), Below w.heap.size w W → (∀ q, q < 4 → W.cell? ⟨ge, 0 + q, none⟩ = some (.int .u32 (v q))) → Calls Tryz.prog 93 #[.pointer (some ⟨K, 0, none⟩), .agg #[.int .u32 0, .int .u32 fn, .string nm, .slice (some ⟨ge, 0, none⟩) 4 ec], .int .u32 3] W fun e w' => ∃ g c', e = .returned (.slice (some ⟨g, 0, none⟩) 2 c') ∧ Own noX W [rw_ W.heap.size 275 6 (.slice (some ⟨g, 0, none⟩) 2 c') 2 (ptVals (x 2) (x 3))] w')
  (cI : ∀ (W : World) (ge ec : Nat), Below w.heap.size w W → (∀ q, q < 4 → W.cell? ⟨ge, 0 + q, none⟩ = some (.int .u32 (v q))) → Calls Tryz.prog 93 #[.pointer (some ⟨K, 0, none⟩), .agg #[.int .u32 0, .int .u32 fn, .string nm, .slice (some ⟨ge, 0, none⟩) 4 ec], .int .u32 1] W fun e w' => ∃ g c', e = .returned (.slice (some ⟨g, 0, none⟩) 2 c') ∧ Own noX W [rw_ W.heap.size 275 6 (.slice (some ⟨g, 0, none⟩) 2 c') 2 (ptVals (x 0) (x 1))] w')
  (cU : ∀ (W : World) (ge ec : Nat), Below w.heap.size w W → (∀ q, q < 4 → W.cell? ⟨ge, 0 + q, none⟩ = some (.int .u32 (v q))) → Calls Tryz.prog 272 #[.pointer (some ⟨K, 0, none⟩), .agg #[.int .u32 0, .int .u32 fn, .string nm, .slice (some ⟨ge, 0, none⟩) 4 ec]] W fun e w' => e = .returned (.bool true) ∧ Below W.heap.size W w')
  (cUI : ∀ (g c' : Nat) (W : World), PtAt W g 0 (x 0) → PtAt W g 6 (x 1) → Calls Tryz.prog 273 #[.slice (some ⟨g, 0, none⟩) 2 c'] W fun e w' => e = .returned (.bool true) ∧ Below W.heap.size W w')
  (cUO : ∀ (g c' : Nat) (W : World), PtAt W g 0 (x 2) → PtAt W g 6 (x 3) → Calls Tryz.prog 273 #[.slice (some ⟨g, 0, none⟩) 2 c'] W fun e w' => e = .returned (.bool true) ∧ Below W.heap.size W w')
  (cK : ∀ (g c' : Nat) (W : World), PtAt W g 0 (x 2) → PtAt W g 6 (x 3) → Calls Tryz.prog 274 #[.slice (some ⟨g, 0, none⟩) 2 c', .func (.func 275) #[] #[]] W fun e w' => e = .returned (.bool true) ∧ Below W.heap.size W w')
  (hinj : ∀ i j, i < 4 → j < 4 → v i = v j → i = j) :
  Calls Tryz.prog 214 #[.pointer (some ⟨K, 0, none⟩), .int .i64 at_] w fun e w' => e = .returned (.bool true) ∧ Below w.heap.size w w' := by
 have HO := Own.nil w
 have HP := hid hP
 have HI := hid hinj
 have zK := block_lt_of_cell g4
 have zb := block_lt_of_cell e0
 have ia : (at_ : Int) < N := by omega
 clear hP hinj
 go_enter Tryz.func214, Tryz.ntmps214
 go_wp2_with (first | ((first | (with_reducible refine sp_al HO ?_; intro g hg W' HO'; rw [← hg.out]; clear hg) | (with_reducible refine sp_alc HO ?_; intro g hg W' HO'; rw [← hg.out]; clear hg) | (with_reducible refine sp_sk HO ?_; intro W' HO') | (with_reducible refine sp_skc HO ?_; intro W' HO') | (refine sp_wk HO rfl 209 _ _ rfl rfl rfl (by kernel_rfl) (by rfl) (by simp [Value.oneCell']) ?_; intro W' HO')); clear HO; (try clear kk); have HO := HO'; clear HO'; (try simp only [zTz, zTs, zTa] at HO); (try have kk := HO.kk); skip) | (go_at_call 92; (with_reducible refine (cE _ HO.below).mono ?_); rintro e w1 ⟨va, rfl, h2⟩; obtain ⟨aa, ec, rfl, hx⟩ := h2.slice 0 rfl; clear hx; obtain ⟨ge, rfl, hx1, hx2, hec, hx3⟩ := h2.slice2 0 rfl (by omega); clear hx1 hx2 hx3; replace HO := HO.app h2; clear h2; (try simp only [List.cons_append, List.nil_append] at HO); (try clear kk); skip; (try simp only [zTz, zTs, zTa, zDs, zDz] at HO); (try have kk := HO.kk); skip))
 (try clear kk); skip
 obtain ⟨gE, rfl⟩ : ∃ q, q = g := ⟨_, rfl⟩
 have mkr : ∀ (W : World) (i : Nat) (L : List As), Own noX w L W → L[i]? = some (rw_ w.heap.size 27 1 (.slice (some ⟨ge, 0, none⟩) 4 ec) 4 [.int .u32 (v 0), .int .u32 (v 1), .int .u32 (v 2), .int .u32 (v 3)]) → ∀ q, q < 4 → W.cell? ⟨ge, 0 + q, none⟩ = some (.int .u32 (v q)) := fun W i L h hi q hq => by
  rw [Nat.zero_add]
  refine h.rowcell i q hi ?_
  rcases (show q = 0 ∨ q = 1 ∨ q = 2 ∨ q = 3 by omega) with rfl | rfl | rfl | rfl <;> rfl
 have H0 := hid HO
 clear HO
 go_loopw [6, 7, 8, 9, 10, 11, 24] (fun _ _ _ _ _ _ x24 wv => ∃ j : Nat, j ≤ 4 ∧ x24 = .int .i64 j ∧ Own noX w [cls gE #[.int .u32 0, .int .u32 fn, .string nm, .slice (some ⟨ge, 0, none⟩) 4 ec] 209, rw_ w.heap.size 27 1 (.slice (some ⟨ge, 0, none⟩) 4 ec) 4 [.int .u32 (v 0), .int .u32 (v 1), .int .u32 (v 2), .int .u32 (v 3)]] wv) (fun _ _ _ _ _ _ x _ => 4 - (intOf x).toNat)
 case atStart => exact ⟨0, by omega, rfl, H0.out⟩
 case round =>
  obtain ⟨j, hj, rfl, HO⟩ := hrel
  clear H0
  have hrow := mkr _ 1 _ HO rfl
  have zge := block_lt_of_cell (hrow 0 (by omega))
  by_cases hjl : j < 4
  ·have q1 := hrow j hjl
   rw [Nat.zero_add] at q1
   obtain ⟨cC, cP, cN, cM, hpos⟩ := HP.out j hjl
   have cT : ∀ (W : World) (i : Nat) (L : List As), Own noX w L W → L[i]? = some (rw_ w.heap.size 27 1 (.slice (some ⟨ge, 0, none⟩) 4 ec) 4 [.int .u32 (v 0), .int .u32 (v 1), .int .u32 (v 2), .int .u32 (v 3)]) → Calls Tryz.prog 270 #[.slice (some ⟨ge, 0, none⟩) j ec, .int .u32 (v j)] W fun e w' => e = .returned (.bool false) ∧ w' = W := fun W i L h hi => ucontains_own ge 0 j ec (v j) v W (fun q hq => mkr W i L h hi q (by omega)) (by omega) false (by refine Iff.intro (fun h => Bool.noConfusion h) (fun h => ?_); obtain ⟨q, hq, e⟩ := h; exact absurd (HI.out q j (by omega) hjl e) (by omega))
   have hwr := HO.below
   have hcj : ((c j : Int) == 0) = false := by rw [beq_eq_false_iff_ne]; omega
   have i7 : (j : Int) < 4 := by omega
   have i8 : (j : Int) ≤ ec := by omega
   have i9 : (j : Int) ≤ 4 := by omega
   have HJ := hid hjl
   clear hjl hpos
   generalize v j = vj at q1 cC cP cN cM cT
   generalize c j = cj at cC cM hcj
   generalize x j = xj at cP cN cM
   obtain ⟨xv, xl, xb, xt, xs, xg⟩ := xj
   unfold encPt ptCells at cP cM
   simp only at cP cM cN
   have HR := hid hwr
   clear hwr hrow
   (try simp only [zTz, zTs, zTa, zDs, zDz] at HO); (try have kk := HO.kk); skip
   go_wp2_with (first | ((first | (with_reducible refine sp_al HO ?_; intro g hg W' HO'; rw [← hg.out]; clear hg) | (with_reducible refine sp_alc HO ?_; intro g hg W' HO'; rw [← hg.out]; clear hg) | (with_reducible refine sp_sk HO ?_; intro W' HO') | (with_reducible refine sp_skc HO ?_; intro W' HO') | (refine sp_wk HO rfl 275 _ _ rfl rfl rfl (by kernel_rfl) (by rfl) (by simp [Value.oneCell']) ?_; intro W' HO')); clear HO; (try clear kk); have HO := HO'; clear HO'; (try simp only [zTz, zTs, zTa] at HO); (try have kk := HO.kk); skip) | (refine sp_lk HO rfl 275 _ rfl rfl _ Tryz.underlying275 rfl (by kernel_rfl) ?_) | (go_at_call 144; (with_reducible refine (cC _ HO.below).mono ?_); rintro e w1 ⟨rfl, hn⟩; replace HO := HO.then hn; clear hn; (try clear kk); skip; (try simp only [zTz, zTs, zTa, zDs, zDz] at HO); (try have kk := HO.kk); skip) | (go_at_call 145; (with_reducible refine (cP _ HO.below).mono ?_); rintro e w2 ⟨rfl, hn⟩; replace HO := HO.then hn; clear hn; (try clear kk); skip; (try simp only [zTz, zTs, zTa, zDs, zDz] at HO); (try have kk := HO.kk); skip) | (go_at_call 220; (with_reducible refine (cN _ HO.below).mono ?_); rintro e w3 ⟨⟨p, rfl⟩, hn⟩; replace HO := HO.then hn; clear hn; (try clear kk); skip; (try simp only [zTz, zTs, zTa, zDs, zDz] at HO); (try have kk := HO.kk); skip) | (go_at_call 270; (with_reducible refine (cT _ 2 _ HO rfl).mono ?_); rintro e w4 ⟨rfl, rfl⟩) | (go_at_call 271; (with_reducible refine (cM _ HO.below).mono ?_); rintro e w5 ⟨rfl, hn⟩; replace HO := HO.then hn; clear hn; (try clear kk); skip; (try simp only [zTz, zTs, zTa, zDs, zDz] at HO); (try have kk := HO.kk); skip))
   exact ⟨⟨j + 1, HJ.out, by go_num, HO.drop 1⟩, by have := HJ.out; simp [intOf]; omega⟩
  ·obtain rfl : j = 4 := by omega
   have i7 : ¬ (((4 : Nat) : Int) < 4) := by omega
   have HM := hid mkr
   clear hjl mkr hrow
   (try simp only [zTz, zTs, zTa, zDs, zDz] at HO); (try have kk := HO.kk); skip
   go_wp2_with (first | (refine sp_lk HO rfl 209 _ rfl rfl _ Tryz.underlying209 rfl (by kernel_rfl) ?_) | (go_at_call 93; first | ((with_reducible refine (cO _ ge ec HO.below (HM.out _ 1 _ HO rfl)).mono ?_); rintro e w2 ⟨go, co, rfl, h2⟩; replace HO := HO.app h2; clear h2; (try simp only [List.cons_append, List.nil_append] at HO); (try clear kk); skip; (try simp only [zTz, zTs, zTa, zDs, zDz] at HO); (try have kk := HO.kk); skip) | ((with_reducible refine (cI _ ge ec HO.below (HM.out _ 2 _ HO rfl)).mono ?_); rintro e w3 ⟨gi, ci, rfl, h2⟩; replace HO := HO.app h2; clear h2; (try simp only [List.cons_append, List.nil_append] at HO); (try clear kk); skip; (try simp only [zTz, zTs, zTa, zDs, zDz] at HO); (try have kk := HO.kk); skip)) | (go_at_call 272; (with_reducible refine (cU _ ge ec HO.below (HM.out _ 2 _ HO rfl)).mono ?_); rintro e w5 ⟨rfl, hn⟩; replace HO := HO.then hn; clear hn; (try clear kk); skip; (try simp only [zTz, zTs, zTa, zDs, zDz] at HO); (try have kk := HO.kk); skip) | (go_at_call 273; first | ((with_reducible refine (cUI _ _ _ (pts_at HO 0 rfl).1 (pts_at HO 0 rfl).2).mono ?_); rintro e w5 ⟨rfl, hn⟩; replace HO := HO.then hn; clear hn; (try clear kk); skip; (try simp only [zTz, zTs, zTa, zDs, zDz] at HO); (try have kk := HO.kk); skip) | ((with_reducible refine (cUO _ _ _ (pts_at HO 1 rfl).1 (pts_at HO 1 rfl).2).mono ?_); rintro e w5 ⟨rfl, hn⟩; replace HO := HO.then hn; clear hn; (try clear kk); skip; (try simp only [zTz, zTs, zTa, zDs, zDz] at HO); (try have kk := HO.kk); skip)) | (go_at_call 274; (with_reducible refine (cK _ _ _ (pts_at HO 1 rfl).1 (pts_at HO 1 rfl).2).mono ?_); rintro e w5 ⟨rfl, hn⟩; replace HO := HO.then hn; clear hn))
   go_ret
   exact ⟨rfl, HO.below⟩
end Go.Proofs.YtbhijdmlonplgaaGreatDoor
namespace Go.Proofs.YtbhijdmlonplgaaGreatDoor
set_option linter.unusedVariables false
set_option linter.unusedSimpArgs false
set_option maxRecDepth 100000
set_option maxHeartbeats 8000000
open Go.RowKit Go.MapKept
theorem fdecorated_own (K b o cap N at_ : Nat) (i : In) (v c : Nat → Nat) (x : Nat → PtD) (w : World) (g4 : w.cell? ⟨K, 4, none⟩ = some (.slice (some ⟨b, o, none⟩) N cap)) (ab ao ac : Nat)
  (e0 : w.cell? ⟨b, o + at_ * 4, none⟩ = some (.int .u16 i.op)) (e1 : w.cell? ⟨b, o + at_ * 4 + 1, none⟩ = some (.int .u32 i.ty)) (e2 : w.cell? ⟨b, o + at_ * 4 + 2, none⟩ = some (.int .u32 i.res)) (e3 : w.cell? ⟨b, o + at_ * 4 + 3, none⟩ = some (.slice (some ⟨ab, ao, none⟩) 7 ac)) (hat : at_ < N) (fn : Nat) (nm : ByteArray)
  (cE : ∀ W, Below w.heap.size w W → Calls Tryz.prog 92 #[.agg #[.int .u16 i.op, .int .u32 i.ty, .int .u32 i.res, .slice (some ⟨ab, ao, none⟩) 7 ac]] W fun e w' => ∃ v', e = .returned (.agg #[.int .u32 0, .int .u32 fn, .string nm, v']) ∧ Own noX W [rw_ W.heap.size 27 1 v' 4 [.int .u32 (v 0), .int .u32 (v 1), .int .u32 (v 2), .int .u32 (v 3)]] w')
  (hP : ∀ j, j < 4 → PortK K (v j) (c j) (x j) w) (hx : ∀ j, j < 4 → 0 ≤ (x j).loc ∨ 0 ≤ (x j).bi) :
  Calls Tryz.prog 215 #[.pointer (some ⟨K, 0, none⟩), .int .i64 at_] w fun e w' => e = .returned (.bool true) ∧ Below w.heap.size w w' := by
 have HO := Own.nil w
 have HP := hid hP
 have HX := hid hx
 have zK := block_lt_of_cell g4
 have zb := block_lt_of_cell e0
 have ia : (at_ : Int) < N := by omega
 clear hP hx
 go_enter Tryz.func215, Tryz.ntmps215
 go_wp2_with (first | ((first | (with_reducible refine sp_al HO ?_; intro g hg; rw [← hg.out]; clear hg) | (with_reducible refine sp_alc HO ?_; intro g hg; rw [← hg.out]; clear hg) | (with_reducible refine sp_sk HO ?_) | (with_reducible refine sp_skc HO ?_) | (refine sp_wk HO rfl 209 _ _ rfl rfl rfl (by kernel_rfl) (by rfl) (by simp [Value.oneCell']) ?_)); intro W' HO'; clear HO; (try clear kk); have HO := HO'; clear HO'; (try simp only [zTz, zTs, zTa] at HO); (try have kk := HO.kk); skip) | (go_at_call 92; (with_reducible refine (cE _ HO.below).mono ?_); rintro e w1 ⟨va, rfl, h2⟩; obtain ⟨aa, ec, rfl, hx⟩ := h2.slice 0 rfl; clear hx; obtain ⟨ge, rfl, hx1, hx2, hec, hx3⟩ := h2.slice2 0 rfl (by omega); clear hx1 hx2 hx3; replace HO := HO.app h2; clear h2; (try simp only [List.cons_append, List.nil_append] at HO); (try clear kk); skip; (try simp only [zTz, zTs, zTa, zDs, zDz] at HO); (try have kk := HO.kk); skip))
 have hrow : ∀ q, q < 4 → W'.cell? ⟨ge, 0 + q, none⟩ = some (.int .u32 (v q)) := fun q hq => by
  rw [Nat.zero_add]
  refine HO.rowcell 1 q rfl ?_
  rcases (show q = 0 ∨ q = 1 ∨ q = 2 ∨ q = 3 by omega) with rfl | rfl | rfl | rfl <;> rfl
 have r1 := HO.cell 2 0 rfl rfl
 have r2 := HO.cell 0 0 rfl rfl
 have hbw := HO.below
 with_reducible refine (fdecorf_own _ _ ge ec 4 v _ hrow (by omega) (fun j hj W hb => fdecor1_own _ _ K (v j) 0 (x j) W (cell_last r1 (block_lt_of_cell r1) hb) (cell_last r2 (block_lt_of_cell r2) hb) (HX.out j hj) (fun W2 hb2 => (HP.out j hj).po W2 (bcall (bcall hbw hb) hb2)))).mono ?_
 rintro e w5 ⟨rfl, hn⟩
 replace HO := HO.then hn
 clear hn hrow r1 r2 hbw
 go_wp2_with fail
 go_ret
 exact ⟨rfl, HO.below⟩
section
variable {K P T C gf gc gd b o cap b2 cb id lab y st en : Nat} {l : List In} {sv : Nat → Option Addr × Nat} {tab : Nat → Option TyD} {vs : Nat → Option (Nat × Nat × Nat)} {fk : Nat → Option Nat} {w : World}
theorem fdecoration_own (h : Fkr K P T C gf gc gd b o cap b2 cb id lab y st en l sv tab vs fk w) (at_ : Nat) (hat : at_ < l.length) (hcap : l.length ≤ cap) (hn : l.length ≤ 2000) (v kind x : Nat) (ha : (l[at_].args.map (·.n)) = [v, kind, x]) (h3 : 3 ≤ (sv at_).2) (hk : kind = 30 ∨ kind = 11 ∧ x = 0)
  (hc : clsOf vs v ≠ 0) (cC : ∀ W, Below w.heap.size w W → Calls Tryz.prog 144 #[.pointer (some ⟨K, 0, none⟩), .int .u32 v] W fun e w' => e = .returned (.int .u32 (clsOf vs v)) ∧ Below W.heap.size W w')
  (hu : ∀ k (hk : k < l.length), k < at_ → l[k].op = 71 → 0 < l[k].args.length ∧ (l[k].args.map (·.n)).headD 0 ≠ v) :
  Calls Tryz.prog 217 #[.pointer (some ⟨K, 0, none⟩), .int .i64 at_] w fun e w' => e = .returned (.bool true) ∧ Below w.heap.size w w' := by
 have HO := Own.nil w
 have HM := hid h.ms
 have HU := hid hu
 have g4 := h.c4
 have zK := block_lt_of_cell g4
 have zb := h.ms.lt
 have e0 := h.ms.op at_ hat
 have e1 := h.ms.ty at_ hat
 have e2 := h.ms.res at_ hat
 have e3 := h.ms.args at_ hat
 have hsl := h.ms.sl at_ hat
 clear h hu
 generalize l[at_] = i at e0 e1 e2 e3 hsl ha
 obtain ⟨op, ty, res, args⟩ := i
 simp only at e0 e1 e2 e3 hsl ha
 rcases args with _ | ⟨A, _ | ⟨B, _ | ⟨D, _ | ⟨E, r⟩⟩⟩⟩
 ·cases ha
 ·cases ha
 ·cases ha
 ·simp only [List.map_cons, List.map_nil, List.cons.injEq, and_true] at ha
  obtain ⟨rfl, rfl, rfl⟩ := ha
  generalize sv at_ = s at e3 hsl h3
  obtain ⟨sa, ac⟩ := s
  simp only at e3 hsl h3
  obtain ⟨ab, ao, rfl, zA, hcell⟩ := hsl.at_ (by simp)
  have q0 := (hcell 0 (by simp)).n
  have q1 := (hcell 1 (by simp)).n
  have q2 := (hcell 2 (by simp)).n
  simp only [List.getElem_cons_succ, List.getElem_cons_zero, List.length_cons, List.length_nil, Nat.zero_add, Nat.reduceAdd, Nat.zero_mul, Nat.add_zero, Nat.one_mul, Nat.reduceMul] at q0 q1 q2 e3
  generalize A.n = v at q0 hc cC HU ⊢
  generalize B.n = kind at q1 hk
  generalize D.n = x at q2 hk
  clear hcell hsl
  have cP : ∀ W, Calls Tryz.prog 280 #[.int .u32 kind] W fun e w' => e = .returned (.bool true) ∧ w' = W := fun W => fplaced_own kind (hk.imp (fun e => e) (fun e => e.1)) W
  have i1 : (at_ : Int) < l.length := by omega
  have i2 : ¬ (ac = 2) := by omega
  have i3 : ¬ (ac - 2 = 0) := by omega
  have i4 : 2 < ac := by omega
  have i5 : (2 : Int) < ac := by omega
  have i6 : (at_ : Int) ≤ l.length := by omega
  have i7 : (at_ : Int) ≤ cap := by omega
  have i8 : ((clsOf vs v : Int) == 0) = false := by rw [beq_eq_false_iff_ne]; omega
  have i9 : ((kind : Int) == 0) = false := by rw [beq_eq_false_iff_ne]; omega
  go_enter Tryz.func217, Tryz.ntmps217
  go_wp2_with (first | ((first | (with_reducible refine sp_al HO ?_; intro g hg; rw [← hg.out]; clear hg) | (with_reducible refine sp_alc HO ?_; intro g hg; rw [← hg.out]; clear hg) | (with_reducible refine sp_sk HO ?_) | (with_reducible refine sp_skc HO ?_) | (refine sp_wk HO rfl 41 _ _ rfl rfl rfl (by kernel_rfl) (by rfl) (by simp [Value.oneCell']) ?_)); intro W' HO'; clear HO; (try clear kk); have HO := HO'; clear HO'; (try simp only [zTz, zTs, zTa] at HO); (try have kk := HO.kk); skip))
  go_quiet (fail)
  replace HO := HO.drewN nq
  have ho2 := Own.old HO
  rcases hk with rfl | ⟨rfl, rfl⟩
  ·have cP2 : ∀ W, Calls Tryz.prog 280 #[.int .u32 30] W fun e w' => e = .returned (.bool true) ∧ w' = W := fun W => cP W
   clear cP
   go_wp2_with (first | (go_at_call 280; (with_reducible refine (cP2 _).mono ?_); rintro e w1 ⟨rfl, rfl⟩) | (go_at_call 144; (with_reducible refine (cC _ HO.below).mono ?_); rintro e w1 ⟨rfl, hn⟩; replace HO := HO.then hn; clear hn; clear ho2; have ho2 := Own.old HO))
   (try clear kk); skip
   have HX := hid HO.below
   clear HO
   rename World => wq
   go_loopw [11, 72] (fun _ x72 wv => ∃ k : Nat, k ≤ at_ ∧ x72 = .int .i64 k ∧ Below wq.heap.size wq wv) (fun _ x _ => at_ - (intOf x).toNat)
   case atStart => exact ⟨0, by omega, rfl, Below.refl _ _⟩
   case round =>
    obtain ⟨k, hk, rfl, hw⟩ := hrel
    have hwr := HX.out.trans (hw.mono HX.out.size)
    by_cases hkl : k < at_
    ·have hkn : k < l.length := by omega
     have hMM := HM.out.below hwr
     have e0 := hMM.op k hkn
     have e1 := hMM.ty k hkn
     have e2 := hMM.res k hkn
     have e3 := hMM.args k hkn
     have hsl := hid (hMM.sl k hkn)
     have HUU := HU.out k hkn hkl
     have zb := hMM.lt
     clear hMM
     generalize l[k] = i at e0 e1 e2 e3 hsl HUU
     generalize sv k = s at e3 hsl
     obtain ⟨sa, sc⟩ := s
     simp only at e3 hsl
     have j4 : (k : Int) < at_ := by omega
     have HK := hid hkl
     have HW := hid hw
     clear hkl hk hw
     have HO := Own.nil wr
     by_cases h71 : i.op = 71
     ·obtain ⟨hpos, hne⟩ := HUU h71
      rw [head_n i.args hpos] at hne
      obtain ⟨ab2, ao2, rfl, hal, hcell⟩ := hsl.out.at_ hpos
      have q0 := (hcell 0 hpos).n
      simp only [Nat.zero_mul, Nat.add_zero] at q0
      generalize i.args[0].n = vo at q0 hne
      have j5 : (0 : Int) < i.args.length := by omega
      have j6 : ((i.op : Int) == 71) = true := by rw [beq_iff_eq]; omega
      have j7 : ((vo : Int) == (v : Int)) = false := by rw [beq_eq_false_iff_ne]; omega
      clear hcell HUU hsl hpos h71 hne
      (try simp only [zTz, zTs, zTa, zDs, zDz] at HO); (try have kk := HO.kk); skip
      go_wp2_with fail
      exact ⟨⟨k + 1, HK.out, by go_num, HW.out.trans ((HO.alloc _).below.mono HW.out.size)⟩, by have := HK.out; simp [intOf]; omega⟩
     ·have j6 : ((i.op : Int) == 71) = false := by rw [beq_eq_false_iff_ne]; omega
      clear HUU hsl
      (try simp only [zTz, zTs, zTa, zDs, zDz] at HO); (try have kk := HO.kk); skip
      go_wp2_with fail
      exact ⟨⟨k + 1, HK.out, by go_num, HW.out.trans ((HO.alloc _).below.mono HW.out.size)⟩, by have := HK.out; simp [intOf]; omega⟩
    ·obtain rfl : k = at_ := by omega
     have j4 : ¬ ((k : Int) < k) := by omega
     go_wp2_with fail
     go_ret
     exact ⟨rfl, hwr⟩
  ·have cP2 : ∀ W, Calls Tryz.prog 280 #[.int .u32 11] W fun e w' => e = .returned (.bool true) ∧ w' = W := fun W => cP W
   clear cP
   have cS : ∀ (g : Nat) (W : World), (∀ j, j < 3 → W.cell? ⟨g, 0 + j, none⟩ = some (.int .u32 (([0, 5, 15] : List Nat).getD j 0))) → Calls Tryz.prog 270 #[.slice (some ⟨g, 0, none⟩) 3 3, .int .u32 0] W fun e w' => e = .returned (.bool true) ∧ w' = W := fun g W h => ucontains_own g 0 3 3 0 (fun j => ([0, 5, 15] : List Nat).getD j 0) W h (by omega) true (by simp only [true_iff]; exact ⟨0, by omega, rfl⟩)
   go_wp2_with (first | ((first | (with_reducible refine sp_al HO ?_; intro g hg; rw [← hg.out]; clear hg) | (with_reducible refine sp_alc HO ?_; intro g hg; rw [← hg.out]; clear hg)); intro W' HO'; clear HO; (try clear kk); have HO := HO'; clear HO'; (try simp only [zTz, zTs, zTa] at HO); (try have kk := HO.kk); skip) | (go_at_call 270; (with_reducible refine (cS _ _ (fun j hj => HO.cell 0 (0 + j) rfl (by rcases (show j = 0 ∨ j = 1 ∨ j = 2 by omega) with rfl | rfl | rfl <;> simp))).mono ?_); rintro e w1 ⟨rfl, rfl⟩) | (go_at_call 280; (with_reducible refine (cP2 _).mono ?_); rintro e w1 ⟨rfl, rfl⟩) | (go_at_call 144; (with_reducible refine (cC _ HO.below).mono ?_); rintro e w1 ⟨rfl, hn⟩; replace HO := HO.then hn; clear hn; (try clear ho2); (try clear kk); skip; (try simp only [zTz, zTs, zTa, zDs, zDz] at HO); (try have kk := HO.kk); skip))
   (try clear kk); skip
   have HX := hid HO.below
   clear HO
   rename World => wq
   go_loopw [11, 72] (fun _ x72 wv => ∃ k : Nat, k ≤ at_ ∧ x72 = .int .i64 k ∧ Below wq.heap.size wq wv) (fun _ x _ => at_ - (intOf x).toNat)
   case atStart => exact ⟨0, by omega, rfl, Below.refl _ _⟩
   case round =>
    obtain ⟨k, hk, rfl, hw⟩ := hrel
    have hwr := HX.out.trans (hw.mono HX.out.size)
    by_cases hkl : k < at_
    ·have hkn : k < l.length := by omega
     have hMM := HM.out.below hwr
     have e0 := hMM.op k hkn
     have e1 := hMM.ty k hkn
     have e2 := hMM.res k hkn
     have e3 := hMM.args k hkn
     have hsl := hid (hMM.sl k hkn)
     have HUU := HU.out k hkn hkl
     have zb := hMM.lt
     clear hMM
     generalize l[k] = i at e0 e1 e2 e3 hsl HUU
     generalize sv k = s at e3 hsl
     obtain ⟨sa, sc⟩ := s
     simp only at e3 hsl
     have j4 : (k : Int) < at_ := by omega
     have HK := hid hkl
     have HW := hid hw
     clear hkl hk hw
     have HO := Own.nil wr
     by_cases h71 : i.op = 71
     ·obtain ⟨hpos, hne⟩ := HUU h71
      rw [head_n i.args hpos] at hne
      obtain ⟨ab2, ao2, rfl, hal, hcell⟩ := hsl.out.at_ hpos
      have q0 := (hcell 0 hpos).n
      simp only [Nat.zero_mul, Nat.add_zero] at q0
      generalize i.args[0].n = vo at q0 hne
      have j5 : (0 : Int) < i.args.length := by omega
      have j6 : ((i.op : Int) == 71) = true := by rw [beq_iff_eq]; omega
      have j7 : ((vo : Int) == (v : Int)) = false := by rw [beq_eq_false_iff_ne]; omega
      clear hcell HUU hsl hpos h71 hne
      (try simp only [zTz, zTs, zTa, zDs, zDz] at HO); (try have kk := HO.kk); skip
      go_wp2_with fail
      exact ⟨⟨k + 1, HK.out, by go_num, HW.out.trans ((HO.alloc _).below.mono HW.out.size)⟩, by have := HK.out; simp [intOf]; omega⟩
     ·have j6 : ((i.op : Int) == 71) = false := by rw [beq_eq_false_iff_ne]; omega
      clear HUU hsl
      (try simp only [zTz, zTs, zTa, zDs, zDz] at HO); (try have kk := HO.kk); skip
      go_wp2_with fail
      exact ⟨⟨k + 1, HK.out, by go_num, HW.out.trans ((HO.alloc _).below.mono HW.out.size)⟩, by have := HK.out; simp [intOf]; omega⟩
    ·obtain rfl : k = at_ := by omega
     have j4 : ¬ ((k : Int) < k) := by omega
     go_wp2_with fail
     go_ret
     exact ⟨rfl, hwr⟩
 ·cases ha
end
end Go.Proofs.YtbhijdmlonplgaaGreatDoor
