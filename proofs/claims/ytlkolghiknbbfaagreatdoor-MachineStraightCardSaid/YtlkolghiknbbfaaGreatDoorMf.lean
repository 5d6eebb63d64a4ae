/- Check: the checks of the straight module. -/
import Derived.Test.YtlkolghiknbbfaaGreatDoorBs
import Derived.Test.YtlkolghiknbbfaaGreatDoorBq
import Derived.Test.YtlkolghiknbbfaaGreatDoorBr
import Derived.Test.YtlkolghiknbbfaaGreatDoorMe
set_option linter.unusedVariables false
set_option linter.unusedSimpArgs false
set_option maxRecDepth 100000
set_option maxHeartbeats 4000000
namespace Go.Proofs.YtlkolghiknbbfaaGreatDoor
open Go.RowKit
section
variable {b o cap n : Nat} {f : Nat → Ln} {sv : Nat → Option Addr × Nat} {w : World}
theorem xu (gen : Nat) (hM : Ms w b o (aj n f) sv) (hs : bu n f) :
  Calls Tryz.prog 62 #[.agg #[.int .u32 gen, .int .u32 (30 + n : Nat), .slice (some ⟨b, o, none⟩) (aj n f).length cap]] w fun r w' => (∃ P T, r = .returned (.tuple #[.pointer (some ⟨P, 0, none⟩), .agg #[.int .i64 0, .int .i64 0]]) ∧ iI w.heap.size P T fG iQ w') ∧ Bl w w' := by
 have e : iC (aj n f) dS (aj n f).length = fG := vP (by rw [ak]; omega);have := Cv gen (30 + n) b o cap (aj n f) sv tS (25 + n) dS vS w hM (eD hs) (jb hs) (kV hs) (pO hs) (by rw [e]; exact vV);rw [e, Bt] at this;exact this
theorem KJ (gen : Nat) (hM : Ms w b o (aj n f) sv) (hs : bu n f) (hcap : (aj n f).length ≤ cap) :
  Calls Tryz.prog 63 #[.agg #[.int .u32 gen, .int .u32 (30 + n : Nat), .slice (some ⟨b, o, none⟩) (aj n f).length cap]] w fun r w' => (∃ C, r = .returned (.tuple #[.pointer (some ⟨C, 0, none⟩), .agg #[.int .i64 0, .int .i64 0]]) ∧ mY C w.heap.size w') ∧ Bl w w' :=
 IE gen (30 + n) b o cap (aj n f) sv tS (25 + n) w hM (eD hs) (jb hs) (kV hs) hcap (yh hs)
def ppS (c : Nat) : jO × jO := if c = 1 then (xS 0, xS 1) else (xS 2, xS 3)
theorem ug (gen : Nat) (hM : Ms w b o (aj n f) sv) (hs : bu n f) (hcap : (aj n f).length ≤ cap) (h7 : 7 ≤ (sv 1).2) (h3 : ∀ k, 2 ≤ k → k < 6 → 3 ≤ (sv k).2) :
  Calls Tryz.prog 8 #[.agg #[.int .u32 gen, .int .u32 (30 + n : Nat), .slice (some ⟨b, o, none⟩) (aj n f).length cap]] w fun e w' => ∃ x, e = .returned (.tuple #[x, .agg #[.int .i64 0, .int .i64 0]]) ∧ FaR w iK 20 ppS x [] w' := by
 have hsm := hs.small;have hn : (aj n f).length ≤ 2000 := by rw [ak]; omega
 have h1 : 1 < (aj n f).length := by rw [ak]; omega
 have g : (aj n f)[1] = ax.getD 1 ai := by rw [aF, aI (by omega)]
 obtain ⟨ab, ao, ac, e, cE⟩ := rC hM h7;refine zi ppS gen (30 + n) b o cap (aj n f) sv 1 ab ao ac 20 iK w hM hn h1 e (by rw [g]; rfl) (fun k hk => ⟨fun h => lQ hs hk h, fun h => by subst h; rw [g]; rfl⟩) (fun W hb => ?_) (fun W hb => by rw [g]; exact cE W hb);have e20 : ((aj n f).getD (tS 8) ai).res = 20 := by rw [show tS 8 = 19 from rfl, bK (by omega)]; rfl
 have e21 : ((aj n f).getD (tS 8 + 1) ai).res = 21 := by rw [show tS 8 + 1 = 20 from rfl, bK (by omega)]; rfl
 refine (Dh gen (30 + n) b o cap (aj n f) sv tS (25 + n) fG iQ W (hM.below hb) (eD hs) (jb hs) (Lp hs) (fun W2 h2 => xu gen ((hM.below hb).below h2) hs) (fun W2 h2 => KJ gen ((hM.below hb).below h2) hs hcap)).mono ?_;rintro e w' ⟨K, P, T, C, gf, gc, gd, b2, cb, f3, D, lo1, hi1, lo2, hi2, lo3, hi3, rfl, hf, HO⟩;rw [e20, e21] at HO;have hF : ∀ W2, Own aK w (fkL W K P T C gf gc gd b o cap b2 cb 20 21 (tS 8) (tS 8 + 1) (25 + n + 1) lo1 hi1 lo2 hi2 lo3 hi3 (aj n f) sv fG iQ f3 D []) W2 → KU K P T C gf gc gd b o cap b2 cb n f sv W2 := fun W2 h2 => Nw h2 hM (fun v => (hf v).trans (by rw [Lt hs]))
 refine ⟨K, _, rfl, HO, fun W2 h2 => ?_, fun cl ge ec W2 hcl h2 hq => ?_⟩
 ·have h := hF W2 h2
  refine Dg K b o cap (aj n f) sv W2 h.c4 h.ms hn (fun k hk hop W3 h3 => ?_) (fun k hk hop W3 h3 => ?_) (fun k hk hop W3 h3 => ?_) (fun k hk hop W3 h4 => ?_) (Bp hs) (GZ hs)
  ·obtain rfl := lQ hs hk hop
   exact Gm (h.below h3) hs h7
  ·obtain rfl := lQ hs hk hop
   exact LQ (h.below h3) hs h7 hcap
  ·obtain rfl := lQ hs hk hop
   exact AU (h.below h3) hs h7
  ·have hk6 := rV hs hk hop
   exact wF (h.below h4) hs hcap k hk6 (h3 k hk6.1 hk6.2)
 ·have h := hF W2 h2
  have cl2 : ∀ j, j < 4 → ∀ W3, Bl W2 W3 → _ := fun j hj W3 hb2 => (mJ h j hj).cl W3 hb2
  have po : ∀ j, j < 4 → ∀ W3, Bl W2 W3 → _ := fun j hj W3 hb2 => (mJ h j hj).po W3 hb2
  rcases hcl with rfl | rfl
  ·refine (vG K 0 20 ge ec 10 11 12 13 1 1 3 3 1 iK (xS 0) (xS 1) W2 (hq 0 (by omega)) (hq 1 (by omega)) (hq 2 (by omega)) (hq 3 (by omega)) rfl rfl (by decide) (by decide) (fun W3 h3 => cl2 0 (by omega) W3 h3) (fun W3 h3 => cl2 1 (by omega) W3 h3) (fun W3 h3 => cl2 2 (by omega) W3 h3) (fun W3 h3 => cl2 3 (by omega) W3 h3) (fun W3 h3 => po 0 (by omega) W3 h3) (fun W3 h3 => po 1 (by omega) W3 h3) (by decide)).mono ?_
   rintro e w3 ⟨g3, c3, rfl, h5⟩;exact ⟨_, _, rfl, h5⟩
  ·refine (tT K 0 20 ge ec 10 11 12 13 1 1 3 3 3 iK (xS 2) (xS 3) W2 (hq 0 (by omega)) (hq 1 (by omega)) (hq 2 (by omega)) (hq 3 (by omega)) (by decide) (by decide) rfl rfl (fun W3 h3 => cl2 0 (by omega) W3 h3) (fun W3 h3 => cl2 1 (by omega) W3 h3) (fun W3 h3 => cl2 2 (by omega) W3 h3) (fun W3 h3 => cl2 3 (by omega) W3 h3) (fun W3 h3 => po 2 (by omega) W3 h3) (fun W3 h3 => po 3 (by omega) W3 h3) (by decide)).mono ?_
   rintro e w3 ⟨g3, c3, rfl, h5⟩;exact ⟨_, _, rfl, h5⟩
theorem asksS (gen kb : Nat) (hM : Ms w b o (aj n f) sv) (hs : bu n f) (hb : Na n f kb) (hcap : (aj n f).length ≤ cap) (h7 : kb = 27 + n → 7 ≤ (sv 1).2) (h3 : kb = 27 + n → ∀ k, 2 ≤ k → k < 6 → 3 ≤ (sv k).2) (k : Nat) (hk : k < 10) (hst : k ≤ if kb = 27 + n then 10 else 7) (W : World) (hbw : Bl w W) :
  Calls Tryz.prog (fo k) #[NB gen (30 + n) (some ⟨b, o, none⟩) (aj n f).length cap] W fun e w' => e = .returned (.agg #[.int .i64 (nE (if kb = 27 + n then 10 else 7) 180 kb k).1, .int .i64 (nE (if kb = 27 + n then 10 else 7) 180 kb k).2]) ∧ Bl W w' := by
 have hM2 := hM.below hbw;have hsl := hM2.back;have hsm := hs.small;have hnot : k ≠ 7 → nE (if kb = 27 + n then 10 else 7) 180 kb k = (0, 0) := fun h => by unfold nE; refine if_neg (fun e => ?_); split at e <;> omega
 have hall : 7 < k → kb = 27 + n := fun h => by
  by_cases q : kb = 27 + n
  ·exact q
  ·rw [if_neg q] at hst; omega
 unfold NB;rcases (show k = 0 ∨ k = 1 ∨ k = 2 ∨ k = 3 ∨ k = 4 ∨ k = 5 ∨ k = 6 ∨ k = 7 ∨ k = 8 ∨ k = 9 by omega) with rfl | rfl | rfl | rfl | rfl | rfl | rfl | rfl | rfl | rfl
 ·rw [hnot (by omega)]
  exact Be gen (30 + n) _ cap _ W hsl (eD hs)
 ·rw [hnot (by omega)]
  exact CZ gen (30 + n) _ cap _ tS (25 + n) W hsl (eD hs) (jb hs)
 ·rw [hnot (by omega)]
  exact iX gen (30 + n) b o cap _ sv tS (25 + n) W hM2 (eD hs) (jb hs) (kV hs)
 ·rw [hnot (by omega)]
  refine Jp gen (30 + n) _ _ cap 0 0 W (fun W2 h2 => ?_);refine (Ao gen (30 + n) b o cap _ sv tS (25 + n) dS W2 (hM2.below h2) (eD hs) (jb hs) (kV hs) (pO hs)).mono ?_;rintro e w' ⟨⟨T, rfl, _⟩, h⟩;exact ⟨⟨_, rfl⟩, h⟩
 ·rw [hnot (by omega)]
  refine Ka gen (30 + n) _ _ cap 0 0 W (fun W2 h2 => ?_);refine (xu gen (hM2.below h2) hs).mono ?_;rintro e w' ⟨⟨P, T, rfl, _⟩, h⟩;exact ⟨⟨_, rfl⟩, h⟩
 ·rw [hnot (by omega)]
  exact Bh gen (30 + n) b o cap _ sv tS (25 + n) W hM2 (eD hs) (jb hs) (kV hs) (Bz hs)
 ·rw [hnot (by omega)]
  refine JG gen (30 + n) _ _ cap 0 0 W (fun W2 h2 => ?_);refine (KJ gen (hM2.below h2) hs hcap).mono ?_;rintro e w' ⟨⟨C, rfl, _⟩, h⟩;exact ⟨⟨_, rfl⟩, h⟩
 ·refine (Av gen (30 + n) b o cap (aj n f) sv fG iQ kb W hM2 (by rw [ak]; omega) (by rw [ak]; exact hb.le) (fun W2 h2 => xu gen (hM2.below h2) hs) (fun k2 hk2 hkb K T mk W2 hC => Ip hs hb hcap k2 hk2 hkb K T mk W2 hC)).mono ?_
  rintro e w' ⟨rfl, h⟩;refine ⟨?_, h⟩;unfold nE;by_cases q : kb = 27 + n
  ·rw [if_pos (by rw [ak]; exact q), if_pos q, if_neg (by omega)]; rfl
  ·rw [if_neg (by rw [ak]; exact q), if_neg q, if_pos rfl]; rfl
 ·rw [hnot (by omega)]
  exact IC gen (30 + n) b o cap _ sv tS (25 + n) W hM2 (eD hs) (jb hs) (kV hs) (Bz hs) (fun k2 hk2 _ _ => EU hs k2 hk2) (IR hs)
 ·rw [hnot (by omega)]
  refine uI gen (30 + n) _ _ cap 0 0 W (fun W2 h2 => ?_);refine (ug gen (hM2.below h2) hs hcap (h7 (hall (by omega))) (h3 (hall (by omega)))).mono ?_;rintro e w' ⟨x, rfl, _, _, _, _, _, _, _, q⟩;exact ⟨⟨x, rfl⟩, q.below⟩
end
end Go.Proofs.YtlkolghiknbbfaaGreatDoor
namespace Go.Proofs.YtlkolghiknbbfaaGreatDoor
open Go.RowKit Go.MapKept
theorem uO.room {p : List Pr} {l : List In} (h : uO p l) (k : Nat) (hk : k < l.length) : l[k].args.length ≤ ((p.getD k (ai, none, 0)).2).2 := by
 obtain ⟨rfl, hc⟩ := h;have hk2 : k < p.length := by rw [List.length_map] at hk; exact hk
 rw [List.getD_eq_getElem?_getD, List.getElem?_eq_getElem hk2, List.getElem_map];exact hc _ (List.getElem_mem hk2)
section
variable {b o cap n : Nat} {f : Nat → Ln} {sv : Nat → Option Addr × Nat} {w : World}
theorem JW (gen : Nat) (hM : Ms w b o (aj n f) sv) (hs : bu n f) (hb : Na n f (27 + n)) (hcap : (aj n f).length ≤ cap) (h7 : 7 ≤ (sv 1).2) (h3 : ∀ k, 2 ≤ k → k < 6 → 3 ≤ (sv k).2) :
  Qc 23 #[.agg #[.int .u32 gen, .int .u32 (30 + n : Nat), .slice (some ⟨b, o, none⟩) (aj n f).length cap]] w (.agg #[.bool true, .int .i64 0, .int .i64 0]) := by
 refine (uD gen (30 + n) (some ⟨b, o, none⟩) (aj n f).length cap 0 0 w (fun W hW => ?_)).mono ?_
 ·have := FL gen (30 + n) (some ⟨b, o, none⟩) (aj n f).length cap 10 180 (27 + n) (by omega) (by omega) W (fun k hk hst W2 h2 => ?_)
  ·exact this
  ·have := asksS gen (27 + n) (hM.below hW) hs hb hcap (fun _ => h7) (fun _ => h3) k hk (by rw [if_pos rfl]; exact hst) W2 h2
   rw [if_pos rfl] at this;exact this
 ·rintro e w' ⟨rfl, h⟩; exact ⟨rfl, h⟩
end
theorem fldVd (W : World) : (Instr.field 79 (.agg #[.bool true, .int .i64 0, .int .i64 0]) 0).run Tryz.prog W = .ok (.bool true) W := by kernel_rfl
structure NwS (gM gl gI cI gO cO gen b o ln cap : Nat) (bd : Int) (W : World) : Prop where
 m0 : W.cell? ⟨gM, 0, none⟩ = some (.int .u32 gen)
 m1 : W.cell? ⟨gM, 1, none⟩ = some (.int .u32 bd)
 m2 : W.cell? ⟨gM, 2, none⟩ = some (.slice (some ⟨b, o, none⟩) ln cap)
 l0 : W.cell? ⟨gl, 0, none⟩ = some (.string iK)
 l1 : W.cell? ⟨gl, 1, none⟩ = some (.int .u32 0)
 l2 : W.cell? ⟨gl, 2, none⟩ = some (.int .u32 (20 : Nat))
 l3 : W.cell? ⟨gl, 3, none⟩ = some (.slice (some ⟨gI, 0, none⟩) 2 cI)
 l4 : W.cell? ⟨gl, 4, none⟩ = some (.slice (some ⟨gO, 0, none⟩) 2 cO)
 fc : sK gI gO (xS 0) (xS 1) (xS 2) (xS 3) W
theorem NW (n : Nat) {t : Nat} {W : World} (h : ∀ j, W.cell? ⟨t, j, none⟩ = (wz n)[j]?) (l : List Nat) (e : (wz n).toList = wV l) (j : Nat) (u : Value) (hu : (wV l)[j]? = some u) : W.cell? ⟨t, 0 + j, none⟩ = some u := by
 rw [Nat.zero_add, h j, ← Array.getElem?_toList, e, hu]
theorem EC.cd {gC gi ci gf cg b2 cb P T mr gs cs gp cp t0 t1 t2 t3 gO cO n : Nat} {f : Nat → Ln} {w : World} (h : EC gC gi ci gf cg b2 cb P T mr gs cs gp cp t0 t1 t2 t3 gO cO n f w) : Cd1 gC gf b2 cg cb gi (27 + n) ci 20 19 21 20 (25 + n + 1) 61 w := by
 obtain ⟨sv, hM⟩ := h.ms;obtain ⟨lo, hq⟩ := h.fq;obtain ⟨-, g0, g1, g2, g3, g4⟩ := hq.mem;have i0 := hM.op 21 (by rw [ak]; omega);rw [aF, aI (by omega), Nat.zero_add] at i0;exact ⟨h.c0, h.c1, g0, g1, g2, g3, g4, hq.at_.h0, hq.at_.h1, hq.at_.h2, i0⟩
theorem EC.st {gC gi ci gf cg b2 cb P T mr gs cs gp cp t0 t1 t2 t3 gO cO n : Nat} {f : Nat → Ln} {w : World} (h : EC gC gi ci gf cg b2 cb P T mr gs cs gp cp t0 t1 t2 t3 gO cO n f w) {bi oi d0 o0 e0 d1 o1 e1 a b : Nat} {x y : jO} (hS : BZ bi oi x y ⟨d0, o0, none⟩ ⟨d1, o1, none⟩ e0 e1 w) (w0 : ∀ j u, (wV [a])[j]? = some u → w.cell? ⟨d0, o0 + j, none⟩ = some u) (w1 : ∀ j u, (wV [b])[j]? = some u → w.cell? ⟨d1, o1 + j, none⟩ = some u) : StC gC gs cs gp cp bi oi t0 t1 t2 t3 1 1 1 4 d0 o0 e0 d1 o1 e1 a b w :=
 ⟨h.c9, h.c11, h.c12, h.s0, h.s1, h.s2, h.s3, h.p0, h.p1, hS.a2, hS.b2, w0, w1, NW 1 h.w2 [0] (by kernel_rfl), NW 4 h.w3 [0, 0, 0, 0] (by kernel_rfl)⟩
structure XnE (n : Nat) (f : Nat → Ln) (a b : Nat) (w : World) (e : Ending) (w' : World) : Prop where
 at_ : ∃ W5 gX gM gm gr cr gfr cf gv g0 k0 g1 k1 g2 k2 g3 k3 gC gi ci gf cg b2 cb P T mr gs cs gp cp t0 t1 t2 t3 gO cO, e = .returned (.tuple #[.pointer (some ⟨gX, 0, none⟩), .int .i64 0]) ∧ Bl w W5 ∧ EC gC gi ci gf cg b2 cb P T mr gs cs gp cp t0 t1 t2 t3 gO cO n f W5 ∧ (dN W5 gO 0 (xS 2) ∧ dN W5 gO 6 (xS 3)) ∧ Own aK W5 (kQ gM gC gm gfr cf gr cr 4 7 (.slice (some ⟨gfr, 0, none⟩) 1 cf) (.int .i64 0) (.int .u8 0) 0 0 21 gv 4 (iO (.int .u32) bR iL gv (fun _ => none) :: xx gr cr g0 k0 g1 k1 g2 k2 g3 k3 [a] [b] [0] [0, 0, 0, 0] [aP gX #[.pointer (some ⟨gM, 0, none⟩)] 91])) w'
theorem JS (gen b o cap n : Nat) (f : Nat → Ln) (sv : Nat → Option Addr × Nat) (gI cI gO cO bi oi ic d0 o0 e0 d1 o1 e1 a bb : Nat) (w : World) (hM : Ms w b o (aj n f) sv) (hs : bu n f) (hb : Na n f (27 + n)) (hcap : (aj n f).length ≤ cap) (h7 : 7 ≤ (sv 1).2) (h3 : ∀ k, 2 ≤ k → k < 6 → 3 ≤ (sv k).2) (hF : sK gI gO (xS 0) (xS 1) (xS 2) (xS 3) w) (hS : BZ bi oi (xS 0) (xS 1) ⟨d0, o0, none⟩ ⟨d1, o1, none⟩ e0 e1 w) (w0 : ∀ j u, (wV [a])[j]? = some u → w.cell? ⟨d0, o0 + j, none⟩ = some u) (w1 : ∀ j u, (wV [bb])[j]? = some u → w.cell? ⟨d1, o1 + j, none⟩ = some u) :
  Calls Tryz.prog 9 #[.agg #[.int .u32 gen, .int .u32 (30 + n : Nat), .slice (some ⟨b, o, none⟩) (aj n f).length cap], qA iK 0 20 gI cI gO cO, .slice (some ⟨bi, oi, none⟩) 2 ic] w fun e w' => XnE n f a bb w e w' := by
 have cM : ∀ W, Bl w W → _ := fun W h => JW gen (hM.below h) hs hb hcap h7 h3
 have cA : ∀ W, Bl w W → _ := fun W h => ug gen (hM.below h) hs hcap h7 h3
 have cF : ∀ W, Bl w W → _ := fun W h => Gv gI cI bi oi ic (xS 0) (xS 1) ⟨d0, o0, none⟩ ⟨d1, o1, none⟩ e0 e1 W (hF.below h).i0 (hF.below h).i1 (hS.below h) rfl rfl
 have cL : ∀ W gI cI gO cO, Bl w W → dN W gI 0 (xS 0) → dN W gI 6 (xS 1) → _ := fun W gI cI gO cO h p0 p1 => EH gen b o cap n f sv iK 0 gI cI gO cO W (hM.below h) hs (xS 0) (xS 1) rfl rfl p0 p1
 have HF := hid hF;have HS := hid hS;have kb : ∀ {W : World} {g o : Nat} {v : Value}, Bl w W → w.cell? ⟨g, o, none⟩ = some v → W.cell? ⟨g, o, none⟩ = some v := fun hb h => ae h (block_lt_of_cell h) hb
 have H0 : Hid (∀ W, Bl w W → ∀ j u, (wV [a])[j]? = some u → W.cell? ⟨d0, o0 + j, none⟩ = some u) := hid (fun W h j u e => kb h (w0 j u e));have H1 : Hid (∀ W, Bl w W → ∀ j u, (wV [bb])[j]? = some u → W.cell? ⟨d1, o1 + j, none⟩ = some u) := hid (fun W h j u e => kb h (w1 j u e));clear hM hs hb hcap h7 h3 hF hS w0 w1 kb;obtain ⟨ln, hln⟩ : ∃ ln, Hid (ln = (aj n f).length) := ⟨_, hid rfl⟩;obtain ⟨bd, hbd⟩ : ∃ bd : Int, Hid (bd = (30 + n : Nat)) := ⟨_, hid rfl⟩;rw [← hbd.out, ← hln.out] at cM cA ⊢;have hfd := fldVd;have HO := Own.nil w;unfold qA;go_enter Tryz.func9, Tryz.ntmps9;go_wp2_with (first | ((first | ((with_reducible refine aB HO ?_); intro g hg; rw [← hg.out]; clear hg) | (with_reducible refine ah HO ?_) | (refine ay 39 HO ?_)); clear HO; (try clear kk); intro W' HO kk) | (refine bG 34 HO Tryz.underlying34 ?_) | (go_at_call 23; with_reducible refine bq HO (cM _ HO.below) ?_; clear HO; (try clear kk); intro w1 HO kk) | (go_at_call 8; (with_reducible refine (cA _ HO.below).mono ?_); rintro e w1 ⟨x, rfl, gl, cl, gI2, cI2, gO2, cO2, rfl, h2⟩; replace HO := HO.app h2; clear h2; simp only [List.cons_append, List.nil_append] at HO; (try clear kk); (try simp only [yD] at HO); have kk := HO.kk));clear cM cA hfd;obtain ⟨gS, rfl⟩ : ∃ q, q = g := ⟨_, rfl⟩;have hO := iA HO 2 rfl;have hI := iA HO 3 rfl;have cX := Gx _ gl cl iK 0 20 gI2 cI2 gO2 cO2 gI cI gO cO (xS 0) (xS 1) (xS 2) (xS 3) _ ⟨hI.1, hI.2, hO.1, hO.2⟩ (HF.out.below HO.below) (HO.cell 4 0 rfl rfl) (HO.cell 4 1 rfl rfl) (HO.cell 4 2 rfl rfl) (HO.cell 4 3 rfl rfl) (HO.cell 4 4 rfl rfl) (HO.rowcell 1 0 rfl rfl) (HO.rowcell 1 1 rfl rfl) (HO.rowcell 1 2 rfl rfl) (HO.rowcell 1 3 rfl rfl) (HO.rowcell 1 4 rfl rfl);refine cX.mono ?_;clear cX hO hI;rintro e w3 ⟨rfl, hn1⟩;replace HO := HO.then hn1
 clear hn1;(try clear kk);(try simp only [yD] at HO); have kk := HO.kk;go_wp2_with (go_at_call 27; with_reducible refine bq HO (cF _ HO.below) ?_; clear HO; (try clear kk); intro w1 HO kk);clear cF;(try clear kk);rename_i Q0 gM V3 V2 u4 u5 V1 K1 a1;obtain ⟨L1, hL1, HO⟩ := bE HO;have hL : ∀ W, Own aK w L1 W → NwS gM gl gI2 cI2 gO2 cO2 gen b o ln cap bd W := fun W h => by
  rw [hL1.out] at h;have hO := iA h 2 rfl;have hI := iA h 3 rfl;exact ⟨h.cell 5 0 rfl rfl, h.cell 5 1 rfl rfl, h.cell 5 2 rfl rfl, h.rowcell 1 0 rfl rfl, h.rowcell 1 1 rfl rfl, h.rowcell 1 2 rfl rfl, h.rowcell 1 3 rfl rfl, h.rowcell 1 4 rfl rfl, ⟨hI.1, hI.2, hO.1, hO.2⟩⟩
 replace hL := hid hL;clear hL1;have hcl : ∀ W W2 : World, Own aK w L1 W → Bl W W2 → Own aK w L1 W2 := fun _ _ h k => h.then k
 have hSw := HO.drew;refine au (S := fun W => Own aK w L1 W) (by kernel_rfl) ?_;refine ag hcl 1 ?_;refine ag hcl 2 ?_;refine ag hcl 3 ?_;refine ag hcl 6 ?_;refine ag hcl 0 ?_ (hv := fun w hw => by obtain ⟨q0, q1, q2, -⟩ := hL.out _ hw; go_simp; first | done | with_reducible rfl);refine ag hcl 4 ?_ (hv := fun w hw => by obtain ⟨-, -, -, q3, q4, q5, q6, q7, -⟩ := hL.out _ hw; go_simp; first | done | with_reducible rfl);refine dC [5] fun W2 hW2 => ?_
 replace HO := HO.drew.then hW2
 clear hW2 hSw;refine dO (fun K hK => ?_);go_simp;go_at_call 28;have cc := cL _ gI2 cI2 gO2 cO2 HO.below (hL.out _ HO).fc.i0 (hL.out _ HO).fc.i1;rw [← hbd.out, ← hln.out] at cc;refine cc.mono ?_;clear cc;rintro e W6 ⟨⟨gC, gi, ci, gf, cg, b2, cb, P, T, mr, gs, cs, gp, cp, t0, t1, t2, t3, rfl, hC⟩, hn1⟩;replace HO := HO.then hn1
 clear hn1;refine bX hK HO ?_;clear hK K;refine dC [7] fun W5 hW5 => ?_
 replace HO := HO.then hW5
 replace hC := hC.below hW5;clear hW5;refine dO (fun K hK => ?_);go_simp;go_at_call 29;refine (Dz gf b2 cg cb gi (27 + n) ci 20 19 21 20 (25 + n + 1) 61 gC gs cs gp cp bi oi ic t0 t1 t2 t3 1 1 1 4 d0 o0 e0 d1 o1 e1 a bb (by decide) (by decide) (by decide) (by decide) (by decide) (by omega) W5 (hC.st (HS.out.below HO.below) (H0.out _ HO.below) (H1.out _ HO.below)) hC.cd).mono ?_;rintro e W7 ⟨gM2, gm, gr, cr, gfr, cf, gv, g0, k0, g1, k1, g2, k2, g3, k3, rfl, HM⟩;have hb := HO.below;have hfc := (hL.out _ HO).fc;have hSw := HO.then HM.below
 clear HO;refine bX hK hSw ?_;clear hK K;refine ag hcl 8 ?_;refine ag hcl 9 ?_;refine ag hcl 10 ?_;refine ag hcl 11 ?_;refine ag hcl 12 ?_;refine kS fun W8 hW8 => ?_
 have HO := HM.then hW8
 clear HM hW8 hSw hcl hL cL HF HS H0 H1;go_wp2_with (first | ((first | ((with_reducible refine aB HO ?_); intro g hg; rw [← hg.out]; clear hg) | (with_reducible refine ah HO ?_)); clear HO; (try clear kk); intro W' HO kk));go_ret2;have HX := HO.alloc (.cells #[.pointer (some ⟨gM2, 0, none⟩)] 91 (0, 0));refine ⟨⟨W5, _, gM2, gm, gr, cr, gfr, cf, gv, g0, k0, g1, k1, g2, k2, g3, k3, gC, gi, ci, gf, cg, b2, cb, P, T, mr, gs, cs, gp, cp, t0, t1, t2, t3, gO2, cO2, rfl, hb, hC, ⟨hfc.o0, hfc.o1⟩, ?_⟩⟩;exact HX.perm (List.perm_append_comm (l₁ := [_]))
structure Aa where
 (gM gC gm gfr cf gr cr gv g0 k0 g1 k1 g2 k2 g3 k3 X a b : Nat)
structure Nl where
 (gi ci gf cg b2 cb P T mr gs cs gp cp t0 t1 t2 t3 gO cO n : Nat)
def nG (m : Aa) (c : Nl) (f : Nat → Ln) (W : World) : Prop := EC m.gC c.gi c.ci c.gf c.cg c.b2 c.cb c.P c.T c.mr c.gs c.cs c.gp c.cp c.t0 c.t1 c.t2 c.t3 c.gO c.cO c.n f W
def mH (m : Aa) (s at_ : Nat) (LL : List As) : List As := kQ m.gM m.gC m.gm m.gfr m.cf m.gr m.cr 4 7 (.slice (some ⟨m.gfr, 0, none⟩) 1 m.cf) (.int .i64 s) (.int .u8 0) 0 0 at_ m.gv 4 LL
def mV (m : Aa) (fv : Nat → Option uP) (val : Nat → Option (Nat × Nat)) (D : Nat → Prop) (L : List As) : List As := iO (.int .u32) bR iL m.gv fv :: gZ D fv val :: L
def mR (m : Aa) (z : Nat) : List As := xx m.gr m.cr m.g0 m.k0 m.g1 m.k1 m.g2 m.k2 m.g3 m.k3 [m.a] [m.b] [z] [0, 0, 0, 0] [aP m.X #[.pointer (some ⟨m.gM, 0, none⟩)] 91]
def gy (v : Nat → Nat) (k : Nat) (id : Nat) : Option (Nat × Nat) := if 22 ≤ id ∧ id < 22 + k then some (3, v (id - 22)) else none
theorem FH (v : Nat → Nat) (k : Nat) : dJ (gy v k) (22 + k) (3, v k) = gy v (k + 1) := by
 funext id
 unfold dJ gy;by_cases e : id = 22 + k
 ·subst e
  rw [if_pos rfl, if_pos (by omega), Nat.add_sub_cancel_left]
 ·rw [if_neg e]
  by_cases h : 22 ≤ id ∧ id < 22 + k
  ·rw [if_pos h, if_pos (by omega)]
  ·rw [if_neg h, if_neg (by omega)]
theorem II {v : Nat → Nat} {k : Nat} {D : Nat → Prop} {fv : Nat → Option uP} {W : World} (h : (gZ D fv (gy v k)).holds W) (j : Nat) (hj : j < k) : ∃ x, fv (22 + j) = some x ∧ x.ty = 3 ∧ W.cell? ⟨x.at_, 0, none⟩ = some (.int .u32 (v j)) := by
 have := h (22 + j);unfold gy at this;rw [if_pos (by omega), Nat.add_sub_cancel_left] at this
 cases e : fv (22 + j) with
 | none => rw [e] at this; exact this.elim
 | some x => rw [e] at this; exact ⟨x, rfl, this.1, this.2.2⟩
theorem NM {j : Nat} : kW (22 + j) = none := by unfold kW; rw [if_neg (by omega)]
theorem rm_no {j : Nat} : wu (22 + j) = none := by
 unfold wu dJ;rw [if_neg (by omega), if_neg (by omega), if_neg (by omega), if_neg (by omega)]
theorem Ko {op : Nat} (h : op ≠ 57) (h2 : op < 249) (M B : Nat) : ig M B (op : Int) = none := by
 unfold ig dJ;rw [if_neg (by omega), if_neg (by omega), if_neg (by omega), if_neg (by omega), if_neg (by omega), if_neg (by omega), if_neg (by omega), if_neg (by omega)]
section
variable {m : Aa} {c : Nl} {f : Nat → Ln} {W5 W : World} {L' LL : List As} {s at_ lo : Nat} {sv : Nat → Option Addr × Nat}
theorem xU (hC : nG m c f W5) (h : Own aK W5 (L' ++ mH m s at_ LL) W) : Nz m.gM m.gC m.gm m.gfr m.cf c.gi c.ci (27 + c.n) at_ m.gv W := by
 have h2 := h.sub (List.sublist_append_right L' _);exact ⟨h2.cell 0 0 rfl rfl, h2.cell 0 1 rfl rfl, h2.cell 0 2 rfl rfl, (EC.below hC h.below).c0, h2.rowcell 1 2 rfl rfl, h2.rowcell 1 3 rfl rfl⟩
theorem Ac (hC : nG m c f W5) (hq : jk lo c.P c.T fG iQ kW ng W5) (h : Own aK W5 (L' ++ mH m s at_ LL) W) : Sy m.gM m.gC m.gm m.gfr m.cf c.gi c.ci (27 + c.n) at_ m.gv c.P c.T lo c.mr fG iQ kW ng wu W :=
 have q := EC.below hC h.below
 ⟨xU hC h, q.c2, q.c3, q.c10, hq.below h.below, q.rm⟩
theorem FN {n : Nat} (hs : bu n f) : ∀ k (h : k < (aj n f).length), (aj n f)[k].op ≠ 246 := mf 246 (by kernel_rfl) (by decide) (by kernel_rfl) hs
theorem Gy {n : Nat} (hs : bu n f) : ∀ k (h : k < (aj n f).length), (aj n f)[k].op ≠ 247 := mf 247 (by kernel_rfl) (by decide) (by kernel_rfl) hs
theorem BO (hs : bu c.n f) (hC : nG m c f W5) (hM : Ms W5 c.gi 0 (aj c.n f) sv) (hat : at_ < 27 + c.n) (h : Own aK W5 (L' ++ mH m s at_ LL) W) : Qc 161 #[.pointer (some ⟨m.gM, 0, none⟩)] W (.tuple #[]) := by
 have hl : at_ < (aj c.n f).length := by rw [ak]; exact hat
 have ho := (hM.below h.below).op at_ hl;rw [Nat.zero_add] at ho;exact qH (xU hC h) _ hat ho (FN hs at_ hl) (Gy hs at_ hl)
theorem BN (hC : nG m c f W5) (hM : Ms W5 c.gi 0 (aj c.n f) sv) {q : Nat} (hq : q < 27 + c.n) {i : In} (hi : df c.n f q = i) (hb : Bl W5 W) (m0 : W.cell? ⟨m.gM, 0, none⟩ = some (.pointer (some ⟨m.gC, 0, none⟩))) : Ins m.gM m.gC c.gi (27 + c.n) c.ci q i.op i.ty i.res i.args.length (sv q).2 (sv q).1 W := by
 have hl : q < (aj c.n f).length := by rw [ak]; exact hq
 have hM2 := hM.below hb;have e : (aj c.n f)[q] = i := by rw [aF, hi]
 have o := hM2.op q hl;have t := hM2.ty q hl;have r := hM2.res q hl;have a := hM2.args q hl;rw [Nat.zero_add, e] at o t r a;exact ⟨m0, (EC.below hC hb).c0, o, t, r, a⟩
theorem wN (hM : Ms W5 c.gi 0 (aj c.n f) sv) (hat : at_ < 27 + c.n) {i : In} (hi : df c.n f at_ = i) (h0 : 0 < i.args.length) : ∃ ab ao, (sv at_).1 = some ⟨ab, ao, none⟩ ∧ ∀ W, Bl W5 W → ∀ j (hj : j < i.args.length), W.cell? ⟨ab, ao + j * 3, none⟩ = some (.int .u8 i.args[j].kind) ∧ W.cell? ⟨ab, ao + j * 3 + 1, none⟩ = some (.int .u32 i.args[j].n) ∧ W.cell? ⟨ab, ao + j * 3 + 2, none⟩ = some (.string i.args[j].s) := by
 have hl : at_ < (aj c.n f).length := by rw [ak]; exact hat
 have e : (aj c.n f)[at_] = i := by rw [aF, hi]
 have hs := hM.sl at_ hl;rw [e] at hs;obtain ⟨ab, ao, ea, hc⟩ := fH hs h0;have k : ∀ {W : World} {g o : Nat} {v : Value}, Bl W5 W → W5.cell? ⟨g, o, none⟩ = some v → W.cell? ⟨g, o, none⟩ = some v := fun hb h => ae h (block_lt_of_cell h) hb
 exact ⟨ab, ao, ea, fun W hb j hj => ⟨k hb (hc j hj).1, k hb (hc j hj).2.1, k hb (hc j hj).2.2⟩⟩
structure Rms (m : Aa) (z : Nat) (W : World) : Prop where
 r0 : Room m.gm m.gr m.g0 0 4 1 m.k0 m.cr W
 w0 : W.cell? ⟨m.g0, 0, none⟩ = some (.int .u32 m.a)
 r1 : Room m.gm m.gr m.g1 1 4 1 m.k1 m.cr W
 w1 : W.cell? ⟨m.g1, 0, none⟩ = some (.int .u32 m.b)
 r2 : Room m.gm m.gr m.g2 2 4 1 m.k2 m.cr W
 w2 : W.cell? ⟨m.g2, 0, none⟩ = some (.int .u32 z)
 r3 : Room m.gm m.gr m.g3 3 4 4 m.k3 m.cr W
 w3 : ∀ j x, (wV [0, 0, 0, 0])[j]? = some x → W.cell? ⟨m.g3, j, none⟩ = some x
theorem sN {fv : Nat → Option uP} {val : Nat → Option (Nat × Nat)} {D : Nat → Prop} {z : Nat} (h : Own aK W5 (L' ++ mH m s at_ (mV m fv val D (mR m z))) W) : Rms m z W := by
 have h2 := h.sub (List.sublist_append_right L' _);have g0 := h2.cell 2 0 rfl rfl;have le : ∀ i (g c : Nat) (ys : List Nat), (mH m s at_ (mV m fv val D (mR m z)))[i]? = some (pF g c ys) → 0 < ys.length → ys.length ≤ c := fun i g c ys hi hy => by
  obtain ⟨g', -, -, -, h3, -⟩ := h2.slice2 i hi hy;exact h3
 exact ⟨⟨g0, h2.rowcell 5 0 rfl rfl, by omega, le 6 _ _ _ rfl (by simp), by omega⟩, h2.rowcell 6 0 rfl rfl, ⟨g0, h2.rowcell 5 1 rfl rfl, by omega, le 7 _ _ _ rfl (by simp), by omega⟩, h2.rowcell 7 0 rfl rfl, ⟨g0, h2.rowcell 5 2 rfl rfl, by omega, le 8 _ _ _ rfl (by simp), by omega⟩, h2.rowcell 8 0 rfl rfl, ⟨g0, h2.rowcell 5 3 rfl rfl, by omega, le 9 _ _ _ rfl (by simp), by omega⟩, fun j x e => h2.rowcell 9 j rfl e⟩
theorem vQ (hs : bu c.n f) (hC : nG m c f W5) (hM : Ms W5 c.gi 0 (aj c.n f) sv) {i : In} (k : Nat) (hk : k < c.n + 2) (hi : df c.n f (21 + k) = i) (hty : i.ty = 3) (hres : i.res = 22 + k) (h57 : i.op ≠ 57) (h249 : i.op < 249) (h62 : i.op ≠ 62) (h65 : i.op ≠ 65) (v : Nat → Nat) (fv : Nat → Option uP) (D : Nat → Prop) (h : Own aK W5 (mH m k (21 + k) (mV m fv (gy v k) D (mR m 0))) W)
  (cM : ∀ L' W, Own aK W5 (L' ++ mH m (k + 1) (21 + k) (mV m fv (gy v k) D (mR m 0))) W → Calls Tryz.prog 166 #[.pointer (some ⟨m.gM, 0, none⟩), .agg #[.int .u16 i.op, .int .u32 (3 : Nat), .int .u32 (22 + k : Nat), .slice (sv (21 + k)).1 i.args.length (sv (21 + k)).2]] W fun e w' => (∃ g c, e = .returned (.slice (some ⟨g, 0, none⟩) 1 c) ∧ MK g (v k) W.heap.size w') ∧ Bl W w') :
  Calls Tryz.prog 85 #[.pointer (some ⟨m.gM, 0, none⟩)] W fun e w' => e = .returned (.int .u8 0) ∧ ∃ fv' D', Own aK W5 (mH m (k + 1) (21 + (k + 1)) (mV m fv' (gy v (k + 1)) D' (mR m 0))) w' := by
 have hsm := hs.small;have hat : 21 + k < 27 + c.n := by omega
 have m0 : ∀ {L' LL : List As} {s a : Nat} {W : World}, Own aK W5 (L' ++ mH m s a LL) W → W.cell? ⟨m.gM, 0, none⟩ = some (.pointer (some ⟨m.gC, 0, none⟩)) := fun h => (xU hC h).m0
 have hin : ∀ W2, Bl W5 W2 → W2.cell? ⟨m.gM, 0, none⟩ = some (.pointer (some ⟨m.gC, 0, none⟩)) → Ins m.gM m.gC c.gi (27 + c.n) c.ci (21 + k) i.op 3 (22 + k) i.args.length (sv (21 + k)).2 (sv (21 + k)).1 W2 := fun W2 hb h0 => by
  have := BN hC hM hat hi hb h0
  rwa [hty, hres] at this
 refine (qf m.gM m.gC m.gm m.gfr m.cf m.gr m.cr 4 7 (21 + k) m.gv 4 k c.gi (27 + c.n) c.ci i.op 3 (22 + k) i.args.length (sv (21 + k)).2 0 (sv (21 + k)).1 0 0 hat (by omega) W5 (mV m fv (gy v k) D (mR m 0)) (fun W => ∃ fv' D', Own aK W5 (mH m (k + 1) (21 + (k + 1)) (mV m fv' (gy v (k + 1)) D' (mR m 0))) W) W h (fun W2 h2 => hin W2 h2.below (m0 (L' := []) h2)) (fun W2 h2 => ?_) (fun W2 W3 h2 hb => ?_) (fun W2 h2 => ?_)).mono ?_
 ·obtain ⟨fv', D', h2⟩ := h2
  exact ⟨hin W2 h2.below (m0 (L' := []) h2), h2.cell 0 4 rfl rfl⟩
 ·obtain ⟨fv', D', h2⟩ := h2
  exact ⟨fv', D', h2.then hb⟩
 ·refine (BU m.gM m.gC m.gm m.gfr m.cf m.gr m.cr 4 7 (21 + k) m.gv 4 (.int .i64 (k + 1 : Nat)) 0 0 i.op 3 (22 + k) (v k) i.args.length (sv (21 + k)).2 (sv (21 + k)).1 (fun B => Ko h57 h249 m.gM B) h62 h65 fv (gy v k) D (by omega) W5 (mR m 0) W2 h2 cM (fun L' W f' D' val' h3 => BO (L' := L') (LL := mV m f' val' D' (mR m 0)) (s := k + 1) hs hC hM (show 21 + k + 1 < 27 + c.n by omega) h3)).mono ?_
  rintro e w' ⟨rfl, g, cc, D', h3⟩;rw [FH] at h3;exact ⟨rfl, _, D', h3⟩
 ·rintro e w' ⟨rfl, fv', D', h3⟩
  exact ⟨rfl, fv', D', h3⟩
theorem Ep {g : Nat} {y : Nat} {W : World} (h : W.cell? ⟨g, 0, none⟩ = some (.int .u32 y)) (j : Nat) (u : Value) (e : (wV [y])[j]? = some u) : W.cell? ⟨g, 0 + j, none⟩ = some u := by
 match j, e with
 | 0, e => exact h.trans e
 | j + 1, e => cases e
theorem Eh (hC : nG m c f W5) (hq : jk lo c.P c.T fG iQ kW ng W5) {LL : List As} {g r kc y id res cl ab ao ic : Nat} (h : Own aK W5 (L' ++ mH m s at_ LL) W) (hR : Room m.gm m.gr g r 4 1 kc m.cr W) (hw : W.cell? ⟨g, 0, none⟩ = some (.int .u32 y)) (hx : W.cell? ⟨ab, ao + 1, none⟩ = some (.int .u32 id)) (hf : kW id = none) (hr : wu id = some r) (hv : iQ id = some (cl, 3, 1)) :
  Calls Tryz.prog 166 #[.pointer (some ⟨m.gM, 0, none⟩), .agg #[.int .u16 61, .int .u32 (3 : Nat), .int .u32 res, .slice (some ⟨ab, ao, none⟩) 1 ic]] W fun e w' => (∃ g c, e = .returned (.slice (some ⟨g, 0, none⟩) 1 c) ∧ MK g y W.heap.size w') ∧ Bl W w' := by
 have hS := Ac hC hq h
 exact CK m.gM 3 res y 1 ic _ W (fun W2 hb => Cg (hS.below hb) (hR.keep hb) [y] (by simp) (by simp) (fun j u e => by
  have := Ep (ae hw (block_lt_of_cell hw) hb) j u e
  rwa [Nat.zero_add] at this) 61 3 res id ab ao ic 3 cl 1 (ae hx (block_lt_of_cell hx) hb) hf hr hv (by omega) rfl)
theorem xK (hC : nG m c f W5) (hq : jk lo c.P c.T fG iQ kW ng W5) {v : Nat → Nat} {fv : Nat → Option uP} {D : Nat → Prop} {z k : Nat} (h : Own aK W5 (L' ++ mH m s at_ (mV m fv (gy v k) D (mR m z))) W) (j : Nat) (hj : j < k) : ∃ x : uP, W.cell? ⟨x.at_, 0, none⟩ = some (.int .u32 (v j)) ∧ fv (22 + j) = some x ∧ ∀ W2, Bl W W2 → Qc 164 #[.pointer (some ⟨m.gM, 0, none⟩), .int .u32 (22 + j : Nat)] W2 (.slice (some ⟨x.at_, 0, none⟩) 1 x.c) := by
 have h2 := h.sub (List.sublist_append_right L' _);obtain ⟨x, hx, ht, hw⟩ := II (h2.at 4 rfl) j hj;have hm : Mp (.int .u32) bR (fun _ v x => v = iL x) W m.gv fv := h2.at 3 rfl;have hS := Ac hC hq h;exact ⟨x, hw, hx, fun W2 hb => Cw (22 + j) x.ty _ 1 x.c false 0 0 _ (KC (hS.below hb) (22 + j) fv x (hm.other (hb.block m.gv hm.lt) (fun _ _ e => e)) hx NM rm_no)⟩
theorem Gr (hs : bu c.n f) (hC : nG m c f W5) (hM : Ms W5 c.gi 0 (aj c.n f) sv) (hq : jk lo c.P c.T fG iQ kW ng W5) {v : Nat → Nat} (hv : EO c.n f m.a m.b v) (k : Nat) (hk : k < 2) (fv : Nat → Option uP) (D : Nat → Prop) (h : Own aK W5 (mH m k (21 + k) (mV m fv (gy v k) D (mR m 0))) W) :
  Calls Tryz.prog 85 #[.pointer (some ⟨m.gM, 0, none⟩)] W fun e w' => e = .returned (.int .u8 0) ∧ ∃ fv' D', Own aK W5 (mH m (k + 1) (21 + (k + 1)) (mV m fv' (gy v (k + 1)) D' (mR m 0))) w' := by
 have hi : df c.n f (21 + k) = ⟨61, 3, 22 + k, [eU (10 + k)]⟩ := by
  rw [aI (by omega)];rcases (show k = 0 ∨ k = 1 by omega) with rfl | rfl <;> rfl
 obtain ⟨ab, ao, ea, hc⟩ := wN hM (show 21 + k < 27 + c.n by omega) hi (by simp);refine vQ hs hC hM k (by omega) hi rfl rfl (show (61 : Nat) ≠ 57 by decide) (show (61 : Nat) < 249 by decide) (show (61 : Nat) ≠ 62 by decide) (show (61 : Nat) ≠ 65 by decide) v fv D h (fun L' W2 h2 => ?_);have hR := sN h2;have hx := (hc W2 h2.below 0 (by simp)).2.1;rw [Nat.zero_mul, Nat.add_zero] at hx;rw [ea];rcases (show k = 0 ∨ k = 1 by omega) with rfl | rfl
 ·rw [hv.v0]
  exact Eh hC hq h2 hR.r0 hR.w0 hx rfl rfl rfl
 ·rw [hv.v1]
  exact Eh hC hq h2 hR.r1 hR.w1 hx rfl rfl rfl
theorem MF (hs : bu c.n f) (hC : nG m c f W5) (hM : Ms W5 c.gi 0 (aj c.n f) sv) (hb : Na c.n f (27 + c.n)) (hq : jk lo c.P c.T fG iQ kW ng W5) {v : Nat → Nat} (hv : EO c.n f m.a m.b v) (j : Nat) (hj : j < c.n) (fv : Nat → Option uP) (D : Nat → Prop) (h : Own aK W5 (mH m (j + 2) (21 + (j + 2)) (mV m fv (gy v (j + 2)) D (mR m 0))) W) :
  Calls Tryz.prog 85 #[.pointer (some ⟨m.gM, 0, none⟩)] W fun e w' => e = .returned (.int .u8 0) ∧ ∃ fv' D', Own aK W5 (mH m (j + 2 + 1) (21 + (j + 2 + 1)) (mV m fv' (gy v (j + 2 + 1)) D' (mR m 0))) w' := by
 have hi : df c.n f (21 + (j + 2)) = dZ j (f j) := dY hj (by omega);have hop := hs.op j hj;have h28 := yP hop;have hm := dn hop;have hno : (f j).op ≠ 57 ∧ (f j).op < 249 ∧ (f j).op ≠ 62 ∧ (f j).op ≠ 65 := by
  simp only [List.mem_cons, List.not_mem_nil, or_false] at hm;omega
 obtain ⟨ab, ao, ea, hc⟩ := wN hM (show 21 + (j + 2) < 27 + c.n by omega) hi (by simp [dZ]);have hx := hs.x j hj;have hy := hs.y j hj;refine vQ hs hC hM (j + 2) (by omega) hi (hb.good j hj (by omega)) (by show 24 + j = _; omega) hno.1 hno.2.1 hno.2.2.1 hno.2.2.2 v fv D h (fun L' W2 h2 => ?_);have c0 := hc W2 h2.below 0 (by simp [dZ]);have c1 := hc W2 h2.below 1 (by simp [dZ]);obtain ⟨x, wx, -, cX⟩ := xK hC hq h2 ((f j).x - 22) (by omega);obtain ⟨y, wy, -, cY⟩ := xK hC hq h2 ((f j).y - 22) (by omega);rw [show 22 + ((f j).x - 22) = (f j).x by omega] at cX;rw [show 22 + ((f j).y - 22) = (f j).y by omega] at cY;have l1 := hv.lt ((f j).x - 22) (by omega);have l2 := hv.lt ((f j).y - 22) (by omega);rw [ea, hv.vs j hj];exact EP m.gM (f j).op 3 (22 + (j + 2)) ab ao _ (f j).x (f j).y x.at_ y.at_ x.c y.c _ _ hop (by omega) (by omega) W2 ⟨c0.1, c0.2.1, c0.2.2, c1.1, c1.2.1, c1.2.2⟩ cX cY wx wy
def mR2 (m : Aa) : List As := [bM 0 24 1 (.slice (some ⟨m.gr, 0, none⟩) 4 m.cr) 4 [.slice (some ⟨m.g0, 0, none⟩) 1 m.k0, .slice (some ⟨m.g1, 0, none⟩) 1 m.k1, .slice (some ⟨m.g2, 0, none⟩) 1 m.k2, .slice (some ⟨m.g3, 0, none⟩) 4 m.k3], pF m.g0 m.k0 [m.a], pF m.g1 m.k1 [m.b], pF m.g3 m.k3 [0, 0, 0, 0], aP m.X #[.pointer (some ⟨m.gM, 0, none⟩)] 91]
def mR3 (m : Aa) (z : Nat) : List As := [bM 0 24 1 (.slice (some ⟨m.gr, 0, none⟩) 4 m.cr) 4 [.slice (some ⟨m.g0, 0, none⟩) 1 m.k0, .slice (some ⟨m.g1, 0, none⟩) 1 m.k1, .slice (some ⟨m.g2, 0, none⟩) 1 m.k2, .slice (some ⟨m.g3, 0, none⟩) 4 m.k3], pF m.g0 m.k0 [m.a], pF m.g1 m.k1 [m.b], pF m.g2 m.k2 [z], aP m.X #[.pointer (some ⟨m.gM, 0, none⟩)] 91]
theorem Kk (m : Aa) (s at_ z : Nat) (fv : Nat → Option uP) (val : Nat → Option (Nat × Nat)) (D : Nat → Prop) : (mH m s at_ (pF m.g2 m.k2 [z] :: mV m fv val D (mR2 m))).Perm (mH m s at_ (mV m fv val D (mR m z))) :=
 (((List.perm_middle (a := pF m.g2 m.k2 [z]) (l₁ := [iO (.int .u32) bR iL m.gv fv, gZ D fv val, _, pF m.g0 m.k0 [m.a], pF m.g1 m.k1 [m.b]]) (l₂ := [pF m.g3 m.k3 [0, 0, 0, 0], aP m.X #[.pointer (some ⟨m.gM, 0, none⟩)] 91])).symm.cons _).cons _).cons _
theorem KE (m : Aa) (s at_ z : Nat) (fv : Nat → Option uP) (val : Nat → Option (Nat × Nat)) (D : Nat → Prop) : (mH m s at_ (pF m.g3 m.k3 [0, 0, 0, 0] :: mV m fv val D (mR3 m z))).Perm (mH m s at_ (mV m fv val D (mR m z))) :=
 (((List.perm_middle (a := pF m.g3 m.k3 [0, 0, 0, 0]) (l₁ := [iO (.int .u32) bR iL m.gv fv, gZ D fv val, _, pF m.g0 m.k0 [m.a], pF m.g1 m.k1 [m.b], pF m.g2 m.k2 [z]]) (l₂ := [aP m.X #[.pointer (some ⟨m.gM, 0, none⟩)] 91])).symm.cons _).cons _).cons _
theorem yx (hC : nG m c f W5) (hM : Ms W5 c.gi 0 (aj c.n f) sv) {i : In} {z z' : Nat} (k : Nat) (hk : k ≤ 1004) (hat : 21 + k < 27 + c.n) (hi : df c.n f (21 + k) = i) (hty : i.ty = 0) (hres : i.res = 0) (hop : i.op = 62) (fv : Nat → Option uP) (val : Nat → Option (Nat × Nat)) (D : Nat → Prop) (h : Own aK W5 (mH m k (21 + k) (mV m fv val D (mR m z))) W)
  (cC : ∀ W, Own aK W5 (mH m (k + 1) (21 + k) (mV m fv val D (mR m z))) W → Calls Tryz.prog 121 #[.pointer (some ⟨m.gM, 0, none⟩), .agg #[.int .u16 (62 : Nat), .int .u32 (0 : Nat), .int .u32 (0 : Nat), .slice (sv (21 + k)).1 i.args.length (sv (21 + k)).2]] W fun e w' => e = .returned (.tuple #[]) ∧ Own aK W5 (mH m (k + 1) (21 + (k + 1)) (mV m fv val D (mR m z'))) w') :
  Calls Tryz.prog 85 #[.pointer (some ⟨m.gM, 0, none⟩)] W fun e w' => e = .returned (.int .u8 0) ∧ Own aK W5 (mH m (k + 1) (21 + (k + 1)) (mV m fv val D (mR m z'))) w' := by
 have m0 : ∀ {L' LL : List As} {s a : Nat} {W : World}, Own aK W5 (L' ++ mH m s a LL) W → W.cell? ⟨m.gM, 0, none⟩ = some (.pointer (some ⟨m.gC, 0, none⟩)) := fun h => (xU hC h).m0
 have hin : ∀ W2, Bl W5 W2 → W2.cell? ⟨m.gM, 0, none⟩ = some (.pointer (some ⟨m.gC, 0, none⟩)) → Ins m.gM m.gC c.gi (27 + c.n) c.ci (21 + k) 62 0 0 i.args.length (sv (21 + k)).2 (sv (21 + k)).1 W2 := fun W2 hb h0 => by
  have := BN hC hM hat hi hb h0
  rwa [hty, hres, hop] at this
 exact qf m.gM m.gC m.gm m.gfr m.cf m.gr m.cr 4 7 (21 + k) m.gv 4 k c.gi (27 + c.n) c.ci 62 0 0 i.args.length (sv (21 + k)).2 0 (sv (21 + k)).1 0 0 hat (by omega) W5 (mV m fv val D (mR m z)) (fun W => Own aK W5 (mH m (k + 1) (21 + (k + 1)) (mV m fv val D (mR m z'))) W) W h (fun W2 h2 => hin W2 h2.below (m0 (L' := []) h2)) (fun W2 h2 => ⟨hin W2 h2.below (m0 (L' := []) h2), h2.cell 0 4 rfl rfl⟩) (fun W2 W3 h2 hb => h2.then hb) cC
theorem no62 (M B : Nat) : ig M B 62 = none := Ko (op := 62) (by decide) (by decide) M B
theorem Jy (hs : bu c.n f) (hC : nG m c f W5) (hM : Ms W5 c.gi 0 (aj c.n f) sv) (hq : jk lo c.P c.T fG iQ kW ng W5) {v : Nat → Nat} (fv : Nat → Option uP) (D : Nat → Prop) (h : Own aK W5 (mH m (c.n + 2) (21 + (c.n + 2)) (mV m fv (gy v (c.n + 2)) D (mR m 0))) W) :
  Calls Tryz.prog 85 #[.pointer (some ⟨m.gM, 0, none⟩)] W fun e w' => e = .returned (.int .u8 0) ∧ Own aK W5 (mH m (c.n + 2 + 1) (21 + (c.n + 2 + 1)) (mV m fv (gy v (c.n + 2)) D (mR m (v (c.n + 1))))) w' := by
 have hsm := hs.small;have hi : df c.n f (21 + (c.n + 2)) = ⟨62, 0, 0, [eU 12, eU (23 + c.n)]⟩ := bI (j := 0) (by omega);have hat : 21 + (c.n + 2) < 27 + c.n := by omega
 obtain ⟨ab, ao, ea, hc⟩ := wN hM hat hi (by simp);refine yx hC hM (c.n + 2) (by omega) hat hi rfl rfl rfl fv _ D h (fun W2 h2 => ?_);rw [ea];have can : ∀ {L' : List As} {s at_ z : Nat} {W : World}, Own aK W5 (L' ++ mH m s at_ (pF m.g2 m.k2 [z] :: mV m fv (gy v (c.n + 2)) D (mR2 m))) W → Own aK W5 (L' ++ mH m s at_ (mV m fv (gy v (c.n + 2)) D (mR m z))) W := fun h => h.perm (List.Perm.append_left _ (Kk m _ _ _ fv _ D))
 refine (oJ m.gM m.gC m.gm m.gfr m.cf m.gr m.cr 4 7 (21 + (c.n + 2)) m.gv 4 0 m.g2 1 m.k2 2 (.int .i64 (c.n + 2 + 1 : Nat)) 0 0 0 0 (sv (21 + (c.n + 2))).2 ab ao 12 (23 + c.n) 3 (no62 m.gM) (wV [0]) [v (c.n + 1)] (by omega) W5 (mV m fv (gy v (c.n + 2)) D (mR2 m)) W2 (h2.perm (Kk m _ _ 0 fv _ D).symm) (fun us L' W h3 => ⟨?_, ?_⟩) rfl (by omega) (fun L' W h3 => (sN (can (z := 0) h3)).r2) (fun L' W h3 => ?_) (fun L' W h3 => ?_) (fun L' W h3 => ?_)).mono ?_
 ·exact (hc W h3.below 0 (by simp)).2.1
 ·exact (hc W h3.below 1 (by simp)).2.1
 ·exact qi (Ac (LL := pF m.g2 m.k2 [0] :: mV m fv (gy v (c.n + 2)) D (mR2 m)) hC hq h3) 12 2 3 3 1 rfl rfl rfl (by omega)
 ·obtain ⟨x, hw, hx, cW⟩ := xK hC hq (can (z := 0) h3) (c.n + 1) (by omega)
  rw [show 22 + (c.n + 1) = 23 + c.n by omega] at cW hx;refine (cW W (Below.refl _ _)).mono ?_;rintro e w' ⟨rfl, hb⟩;refine ⟨x.at_, x.c, [], gZ D fv (gy v (c.n + 2)), rfl, h3.then hb, hb, .inr (.tail _ (.head _)), fun W3 h4 => ?_⟩;obtain ⟨x2, e2, -, h5⟩ := II h4 (c.n + 1) (by omega);rw [show 22 + (c.n + 1) = 23 + c.n by omega, hx] at e2;injection e2 with e2
  subst e2;exact Ep h5
 ·exact BO (LL := pF m.g2 m.k2 [v (c.n + 1)] :: mV m fv (gy v (c.n + 2)) D (mR2 m)) (at_ := 21 + (c.n + 2) + 1) (s := c.n + 2 + 1) hs hC hM (by omega) h3
 ·rintro e w' ⟨rfl, h3⟩
  exact ⟨rfl, Own.perm h3 (Kk m (c.n + 2 + 1) (21 + (c.n + 2 + 1)) (v (c.n + 1)) fv _ D)⟩
end
theorem NT {lo hi g k : Nat} {W : World} (h : aO (bW g k) lo hi W) (hk : 0 < k) (i : Nat) : W.cell? ⟨g, i, none⟩ = (wz k)[i]? := by
 obtain ⟨U, u1, u2, u3⟩ := h.at_;have hb : g < hi := by
  rw [← u1];have h0 := u2.2 0;rw [Array.getElem?_eq_getElem (by rw [iZ]; exact hk)] at h0;exact block_lt_of_cell h0
 exact (World.cell?_of_block (a := ⟨g, i, none⟩) (u3 g u2.1 hb)).trans (u2.2 i)
theorem zh (gM id ty k : Nat) (w : World) (cS : Calls Tryz.prog 159 #[.pointer (some ⟨gM, 0, none⟩), .int .u32 id] w fun e w' => (∃ g, e = .returned (.agg #[.int .u32 ty, .slice (some ⟨g, 0, none⟩) k k, .bool false, .int .i64 0, .int .i64 0]) ∧ bW g k w.heap.size w') ∧ Bl w w') :
  Calls Tryz.prog 164 #[.pointer (some ⟨gM, 0, none⟩), .int .u32 id] w fun e w' => (∃ g, e = .returned (.slice (some ⟨g, 0, none⟩) k k) ∧ bW g k w.heap.size w') ∧ Bl w w' := by
 have hl := fun g => Nf ty (some ⟨g, 0, none⟩) k k false 0 0
 go_enter Tryz.func164, Tryz.ntmps164;go_wp2_with (go_at_call 159; (with_reducible refine cS.mono ?_); rintro e w1 ⟨⟨g, rfl, hw⟩, hn1⟩; have hl2 := hl g);go_ret;exact ⟨⟨g, rfl, hw⟩, hn1⟩
theorem Own.cap_le {X : Nat → Prop} {w W : World} {L : List As} (h : Own X w L W) (i : Nat) {base n sz cp g : Nat} {e : TypeId} {xs : List Value} (hi : L[i]? = some (bM base e sz (.slice (some ⟨g, 0, none⟩) n cp) n xs)) : cp ≤ 9223372036854775807 ∧ n ≤ cp := by
 have h1 : W.ownsRow base e sz (.slice (some ⟨g, 0, none⟩) n cp) n xs := h.at i hi;rcases h1.2 with ⟨h2, h3⟩ | ⟨g', cap, cur, h2, hb, hg, hnc, hm, hs, ht⟩
 ·injection h2 with h2; cases h2
 ·injection h2 with _ _ h2
  subst h2;exact ⟨Nat.le_trans hm (by unfold maxLen; omega), hnc⟩
section
variable {m : Aa} {c : Nl} {f : Nat → Ln} {W5 W : World} {L' LL : List As} {s at_ lo : Nat} {sv : Nat → Option Addr × Nat}
theorem Kj (hs : bu c.n f) (hC : nG m c f W5) (hM : Ms W5 c.gi 0 (aj c.n f) sv) (hq : jk lo c.P c.T fG iQ kW ng W5) {z : Nat} (fv : Nat → Option uP) (val : Nat → Option (Nat × Nat)) (D : Nat → Prop) (h : Own aK W5 (mH m (c.n + 3) (21 + (c.n + 3)) (mV m fv val D (mR m z))) W) :
  Calls Tryz.prog 85 #[.pointer (some ⟨m.gM, 0, none⟩)] W fun e w' => e = .returned (.int .u8 0) ∧ Own aK W5 (mH m (c.n + 3 + 1) (21 + (c.n + 3 + 1)) (mV m fv val D (mR m z))) w' := by
 have hsm := hs.small;have hi : df c.n f (21 + (c.n + 3)) = ⟨62, 0, 0, [eU 13, eU 9]⟩ := bI (j := 1) (by omega);have hat : 21 + (c.n + 3) < 27 + c.n := by omega
 obtain ⟨ab, ao, ea, hc⟩ := wN hM hat hi (by simp);refine yx hC hM (c.n + 3) (by omega) hat hi rfl rfl rfl fv val D h (fun W2 h2 => ?_);rw [ea];have can : ∀ {L' : List As} {s at_ : Nat} {W : World}, Own aK W5 (L' ++ mH m s at_ (pF m.g3 m.k3 [0, 0, 0, 0] :: mV m fv val D (mR3 m z))) W → Own aK W5 (L' ++ mH m s at_ (mV m fv val D (mR m z))) W := fun h => h.perm (List.Perm.append_left _ (KE m _ _ _ fv val D))
 refine (oJ m.gM m.gC m.gm m.gfr m.cf m.gr m.cr 4 7 (21 + (c.n + 3)) m.gv 4 0 m.g3 4 m.k3 3 (.int .i64 (c.n + 3 + 1 : Nat)) 0 0 0 0 (sv (21 + (c.n + 3))).2 ab ao 13 9 5 (no62 m.gM) (wV [0, 0, 0, 0]) [0, 0, 0, 0] (by omega) W5 (mV m fv val D (mR3 m z)) W2 (h2.perm (KE m _ _ z fv val D).symm) (fun us L' W h3 => ⟨?_, ?_⟩) rfl (by omega) (fun L' W h3 => (sN (can h3)).r3) (fun L' W h3 => ?_) (fun L' W h3 => ?_) (fun L' W h3 => ?_)).mono ?_
 ·exact (hc W h3.below 0 (by simp)).2.1
 ·exact (hc W h3.below 1 (by simp)).2.1
 ·exact qi (Ac (LL := pF m.g3 m.k3 [0, 0, 0, 0] :: mV m fv val D (mR3 m z)) hC hq h3) 13 3 3 5 4 rfl rfl rfl (by omega)
 ·have hS := Ac (LL := pF m.g3 m.k3 [0, 0, 0, 0] :: mV m fv val D (mR3 m z)) hC hq h3
  refine (zh m.gM 9 5 4 W (CV hS 9 5 4 rfl (by omega) (by omega))).mono ?_;rintro e w' ⟨⟨g, rfl, hw⟩, hb⟩;exact ⟨g, 4, [_], _, rfl, h3.deep (P := bW g 4) hb hw, hb, .inl (.head _), fun W3 h4 j u hu => NW 4 (NT h4 (by omega)) [0, 0, 0, 0] (by kernel_rfl) j u hu⟩
 ·exact BO (LL := pF m.g3 m.k3 [0, 0, 0, 0] :: mV m fv val D (mR3 m z)) (at_ := 21 + (c.n + 3) + 1) (s := c.n + 3 + 1) hs hC hM (by omega) h3
 ·rintro e w' ⟨rfl, h3⟩
  exact ⟨rfl, Own.perm h3 (KE m (c.n + 3 + 1) (21 + (c.n + 3 + 1)) z fv val D)⟩
def mE (m : Aa) (s at_ : Nat) (LL : List As) : List As := kQ m.gM m.gC m.gm m.gfr m.cf m.gr 4 4 7 (.slice none 0 0) (.int .i64 s) (.int .u8 1) 0 0 at_ m.gv 4 LL
theorem IB (hs : bu c.n f) (hC : nG m c f W5) (hM : Ms W5 c.gi 0 (aj c.n f) sv) {z : Nat} (fv : Nat → Option uP) (val : Nat → Option (Nat × Nat)) (D : Nat → Prop) (h : Own aK W5 (mH m (c.n + 4) (21 + (c.n + 4)) (mV m fv val D (mR m z))) W) :
  Calls Tryz.prog 85 #[.pointer (some ⟨m.gM, 0, none⟩)] W fun e w' => e = .returned (.int .u8 1) ∧ Own aK W5 (mE m (c.n + 4 + 1) (21 + (c.n + 4)) (mV m fv val D (mR m z))) w' := by
 have hsm := hs.small;have hi : df c.n f (21 + (c.n + 4)) = ⟨253, 0, 0, []⟩ := bI (j := 2) (by omega);have hat : 21 + (c.n + 4) < 27 + c.n := by omega
 have hl : 21 + (c.n + 4) < (aj c.n f).length := by rw [ak]; exact hat
 have hin : ∀ W2, Bl W5 W2 → W2.cell? ⟨m.gM, 0, none⟩ = some (.pointer (some ⟨m.gC, 0, none⟩)) → Ins m.gM m.gC c.gi (27 + c.n) c.ci (21 + (c.n + 4)) 253 0 0 0 (sv (21 + (c.n + 4))).2 (sv (21 + (c.n + 4))).1 W2 := fun W2 hb h0 => BN hC hM hat hi hb h0
 refine qf m.gM m.gC m.gm m.gfr m.cf m.gr m.cr 4 7 (21 + (c.n + 4)) m.gv 4 (c.n + 4) c.gi (27 + c.n) c.ci 253 0 0 0 (sv (21 + (c.n + 4))).2 1 (sv (21 + (c.n + 4))).1 0 0 hat (by omega) W5 (mV m fv val D (mR m z)) (fun W => Own aK W5 (mE m (c.n + 4 + 1) (21 + (c.n + 4)) (mV m fv val D (mR m z))) W) W h (fun W2 h2 => hin W2 h2.below (h2.cell 0 0 rfl rfl)) (fun W2 h2 => ⟨hin W2 h2.below (h2.cell 0 0 rfl rfl), h2.cell 0 4 rfl rfl⟩) (fun W2 W3 h2 hb => h2.then hb) (fun W2 h2 => ?_);have hcr := Own.cap_le h2 5 rfl;have hcf := Own.cap_le h2 1 rfl;have := Ae m.gM m.gC m.gm m.gfr m.cf m.gr m.cr 4 7 (21 + (c.n + 4)) m.gv (.int .i64 (c.n + 4 + 1 : Nat)) 0 0 0 0 (sv (21 + (c.n + 4))).2 (sv (21 + (c.n + 4))).1 hcr.2 hcr.1 hcf.2 W5 (mV m fv val D (mR m z)) W2 h2;exact this
end
def Hq (m : Aa) (c : Nl) (v : Nat → Nat) (W5 : World) (k : Nat) (W : World) : Prop := ∃ fv D, Own aK W5 (mH m k (21 + k) (mV m fv (gy v (if k < c.n + 2 then k else c.n + 2)) D (mR m (if k < c.n + 3 then 0 else v (c.n + 1))))) W
def EnF (m : Aa) (c : Nl) (v : Nat → Nat) (W5 W : World) : Prop := ∃ fv D, Own aK W5 (mE m (c.n + 5) (21 + (c.n + 4)) (mV m fv (gy v (c.n + 2)) D (mR m (v (c.n + 1))))) W
structure IP (n : Nat) (f : Nat → Ln) (v : Nat → Nat) (gX : Nat) (W5 : World) (P : Aa → Nl → Prop) : Prop where
 at_ : ∃ m c lo sv, m.X = gX ∧ EO c.n f m.a m.b v ∧ c.n = n ∧ nG m c f W5 ∧ Ms W5 c.gi 0 (aj c.n f) sv ∧ jk lo c.P c.T fG iQ kW ng W5 ∧ dN W5 c.gO 0 (xS 2) ∧ dN W5 c.gO 6 (xS 3) ∧ P m c
section
variable {n : Nat} {f : Nat → Ln} {v : Nat → Nat} {gX : Nat} {W5 W : World}
theorem MP (hs : bu n f) (hb : Na n f (27 + n)) {m : Aa} {c : Nl} {lo : Nat} {sv : Nat → Option Addr × Nat} (hn : c.n = n) (hv : EO c.n f m.a m.b v) (hC : nG m c f W5) (hM : Ms W5 c.gi 0 (aj c.n f) sv) (hq : jk lo c.P c.T fG iQ kW ng W5) (k : Nat) (hk : k < n + 4) (h : Hq m c v W5 k W) :
  Calls Tryz.prog 85 #[.pointer (some ⟨m.gM, 0, none⟩)] W fun e w' => e = .returned (.int .u8 0) ∧ Hq m c v W5 (k + 1) w' := by
 subst hn;obtain ⟨fv, D, h⟩ := h;by_cases h1 : k < 2
 ·rw [if_pos (by omega), if_pos (by omega)] at h
  refine (Gr hs hC hM hq hv k h1 fv D h).mono ?_;rintro e w' ⟨rfl, fv', D', h2⟩;refine ⟨rfl, fv', D', ?_⟩;rw [show (if k + 1 < c.n + 2 then k + 1 else c.n + 2) = k + 1 by split <;> omega, if_pos (by omega)];exact h2
 ·by_cases h2 : k < c.n + 2
  ·obtain ⟨j, rfl⟩ : ∃ j, k = j + 2 := ⟨k - 2, by omega⟩
   rw [if_pos h2, if_pos (by omega)] at h;refine (MF hs hC hM hb hq hv j (by omega) fv D h).mono ?_;rintro e w' ⟨rfl, fv', D', h3⟩;refine ⟨rfl, fv', D', ?_⟩;rw [show (if j + 2 + 1 < c.n + 2 then j + 2 + 1 else c.n + 2) = j + 2 + 1 by split <;> omega, if_pos (by omega)];exact h3
  ·by_cases h3 : k = c.n + 2
   ·subst h3
    rw [if_neg (by omega), if_pos (by omega)] at h;refine (Jy hs hC hM hq fv D h).mono ?_;rintro e w' ⟨rfl, h4⟩;refine ⟨rfl, fv, D, ?_⟩;rw [if_neg (by omega), if_neg (by omega)];exact h4
   ·obtain rfl : k = c.n + 3 := by omega
    rw [if_neg (by omega), if_neg (by omega)] at h;refine (Kj hs hC hM hq fv _ D h).mono ?_;rintro e w' ⟨rfl, h4⟩;refine ⟨rfl, fv, D, ?_⟩;rw [if_neg (by omega), if_neg (by omega)];exact h4
theorem wX {m : Aa} {c : Nl} {k : Nat} (h : Hq m c v W5 k W) : W.cell? ⟨m.gM, 4, none⟩ = some (.int .u8 0) ∧ W.cell? ⟨m.X, 0, none⟩ = some (.pointer (some ⟨m.gM, 0, none⟩)) := by
 obtain ⟨fv, D, h⟩ := h;exact ⟨h.cell 0 4 rfl rfl, h.cell 10 0 rfl rfl⟩
theorem JJ (hs : bu n f) (hb : Na n f (27 + n)) (h : IP n f v gX W5 (fun m c => Hq m c v W5 0 W)) :
  Calls Tryz.prog 10 #[.pointer (some ⟨gX, 0, none⟩), .int .i64 (n + 4 : Nat)] W fun e w' => e = .returned (.tuple #[.int .u8 0, .int .i64 0]) ∧ IP n f v gX W5 (fun m c => Hq m c v W5 (n + 4) w') := by
 obtain ⟨m, c, lo, sv, rfl, hv, hn, hC, hM, hq, o0, o1, h⟩ := h.at_;have hsm := hs.small;refine (AR m.X m.gM (n + 4) 0 (by omega) (fun w' => Hq m c v W5 (n + 4) w') W (wX h).2 (JY m.gM (n + 4) (by omega) (fun k W => Hq m c v W5 k W) W h (fun k W2 hk h2 => MP hs hb hn hv hC hM hq k hk h2) (fun W2 h2 => (wX h2).1))).mono ?_;rintro e w' ⟨rfl, h2⟩;exact ⟨rfl, ⟨m, c, lo, sv, rfl, hv, hn, hC, hM, hq, o0, o1, h2⟩⟩
theorem Jb (hs : bu n f) (h : IP n f v gX W5 (fun m c => Hq m c v W5 (n + 4) W)) :
  Calls Tryz.prog 10 #[.pointer (some ⟨gX, 0, none⟩), .int .i64 1] W fun e w' => e = .returned (.tuple #[.int .u8 1, .int .i64 0]) ∧ IP n f v gX W5 (fun m c => EnF m c v W5 w') := by
 obtain ⟨m, c, lo, sv, rfl, hv, hn, hC, hM, hq, o0, o1, h⟩ := h.at_;subst hn;refine (AR m.X m.gM 1 1 (by omega) (fun w' => EnF m c v W5 w') W (wX h).2 (GU m.gM (fun w' => EnF m c v W5 w') W ?_ (fun W2 h2 => ?_))).mono ?_
 ·obtain ⟨fv, D, h⟩ := h
  rw [if_neg (by omega), if_neg (by omega)] at h;refine (IB hs hC hM fv _ D h).mono ?_;rintro e w' ⟨rfl, h2⟩;exact ⟨rfl, fv, D, h2⟩
 ·obtain ⟨fv, D, h2⟩ := h2
  exact h2.cell 0 4 rfl rfl
 ·rintro e w' ⟨rfl, h2⟩
  exact ⟨rfl, ⟨m, c, lo, sv, rfl, hv, rfl, hC, hM, hq, o0, o1, h2⟩⟩
theorem DV (h : IP n f v gX W5 (fun m c => EnF m c v W5 W)) :
  Calls Tryz.prog 11 #[.pointer (some ⟨gX, 0, none⟩)] W fun e w' => e = .returned (.int .i64 (n + 5 : Nat)) ∧ w' = W := by
 obtain ⟨m, c, lo, sv, rfl, hv, rfl, hC, hM, hq, o0, o1, fv, D, h⟩ := h.at_;exact DI m.X m.gM (c.n + 5) W (h.cell 10 0 rfl rfl) (h.cell 0 3 rfl rfl)
theorem IA (h : IP n f v gX W5 (fun m c => EnF m c v W5 W)) :
  Calls Tryz.prog 12 #[.pointer (some ⟨gX, 0, none⟩)] W fun e w' => LD (v (n + 1)) (xS 2) (xS 3) W e w' := by
 obtain ⟨m, c, lo, sv, rfl, hv, rfl, hC, hM, hq, o0, o1, fv, D, h⟩ := h.at_;have q := EC.below hC h.below;have g0 : W.cell? ⟨m.gm, 0, none⟩ = some (.slice (some ⟨m.gr, 0, none⟩) (4 : Nat) (4 : Nat)) := h.cell 2 0 rfl rfl;have l2 := (Own.cap_le h 8 rfl).2;have l3 := (Own.cap_le h 9 rfl).2;refine Jc m.X m.gM _ _ _ W (h.cell 10 0 rfl rfl) (Iy m.gM m.gC m.gm m.gr 4 c.mr c.gO c.cO m.g2 m.k2 m.g3 m.k3 (v (c.n + 1)) (xS 2) (xS 3) W ⟨h.cell 0 0 rfl rfl, h.cell 0 1 rfl rfl, q.c8, q.c10, q.rm, o0.below h.below, o1.below h.below⟩ rfl rfl rfl rfl ⟨g0, h.rowcell 5 2 rfl rfl, by omega, l2, by omega⟩ ⟨g0, h.rowcell 5 3 rfl rfl, by omega, l3, by omega⟩ (fun j x e => h.rowcell 8 j rfl e) (fun j x e => h.rowcell 9 j rfl e))
theorem MX (h : IP n f v gX W5 (fun m c => EnF m c v W5 W)) : Bl W5 W := by
 obtain ⟨m, c, lo, sv, rfl, hv, rfl, hC, hM, hq, o0, o1, fv, D, h⟩ := h.at_;exact h.below
theorem MN {a b : Nat} {w w' : World} {e : Ending} (h : XnE n f a b w e w') (hv : EO n f a b v) : ∃ gX W5, e = .returned (.tuple #[.pointer (some ⟨gX, 0, none⟩), .int .i64 0]) ∧ Bl w W5 ∧ IP n f v gX W5 (fun m c => Hq m c v W5 0 w') := by
 obtain ⟨W5, gX, gM, gm, gr, cr, gfr, cf, gv, g0, k0, g1, k1, g2, k2, g3, k3, gC, gi, ci, gf, cg, b2, cb, P, T, mr, gs, cs, gp, cp, t0, t1, t2, t3, gO, cO, rfl, hb, hC, ⟨o0, o1⟩, HO⟩ := h.at_;obtain ⟨sv, hM⟩ := hC.ms;obtain ⟨lo, hq⟩ := hC.pq;have e0 : ∀ id, gy v 0 id = none := fun id => by unfold gy; rw [if_neg (by omega)]
 have H2 := HO.free (A := gZ (fun _ => False) (fun _ => none) (gy v 0)) (fun k hk => hk) (fun id => by rw [e0]; trivial);refine ⟨gX, W5, rfl, hb, ⟨⟨gM, gC, gm, gfr, cf, gr, cr, gv, g0, k0, g1, k1, g2, k2, g3, k3, gX, a, b⟩, ⟨gi, ci, gf, cg, b2, cb, P, T, mr, gs, cs, gp, cp, t0, t1, t2, t3, gO, cO, n⟩, lo, sv, rfl, hv, rfl, hC, hM, hq, o0, o1, fun _ => none, fun _ => False, ?_⟩⟩
 show Own aK W5 (mH _ 0 21 (mV _ _ (gy v (if 0 < n + 2 then 0 else n + 2)) _ (mR _ (if 0 < n + 3 then 0 else v (n + 1))))) w'
 rw [if_pos (by omega), if_pos (by omega)];exact H2.perm (List.perm_middle (a := gZ (fun _ => False) (fun _ => none) (gy v 0)) (l₁ := [_, _, _, _])).symm
end
end Go.Proofs.YtlkolghiknbbfaaGreatDoor
