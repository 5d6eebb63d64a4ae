/- The straight module: what flow and face ask of it. -/
import Derived.Test.YtlkolghiknbbfaaGreatDoorBp
import Derived.Test.YtlkolghiknbbfaaGreatDoorBo
set_option linter.unusedVariables false
set_option linter.unusedSimpArgs false
set_option maxRecDepth 100000
set_option maxHeartbeats 4000000
namespace Go.Proofs.YtlkolghiknbbfaaGreatDoor
open Go.RowKit
section
variable {n : Nat} {f : Nat → Ln}
theorem CU : ∀ K, K ≤ 6 + n → ∀ (id : Nat) (x : KF), xX (aj n f) 21 20 K id = some x → x.lab = true ∨ (id = x.at_ + 1 ∧ 21 ≤ x.at_)
 | 0, _, id, x, h => by
  unfold xX dJ at h
  split at h
  ·cases h; exact .inl rfl
  ·cases h
 | K + 1, hK, id, x, h => by
  have e : (aj n f).getD (20 + 1 + K) ai = df n f (21 + K) := mW (21 + K) (by omega);have er : (df n f (21 + K)).res = oo n (21 + K) := jD (by omega);simp only [xX, e, er] at h
  split at h
  ·exact CU K (by omega) id x h
  ·rename_i h0
   unfold dJ at h
   split at h
   ·rename_i hq
    cases h
    refine .inr ⟨?_, by simp only; omega⟩
    show id = 20 + 1 + K + 1
    rw [hq];unfold oo at h0 ⊢
    repeat' split at h0
    all_goals (repeat' split) <;> omega
   ·exact CU K (by omega) id x h
theorem xe (hs : bu n f) {k : Nat} (hk : k < 27 + n) (h20 : 20 ≤ k) : ∀ id ∈ aX (df n f k), id < 22 ∨ id ≤ k := by
 have hc := kE (n := n) (f := f) k hk;generalize df n f k = i at hc ⊢
 cases hc with
 | head h =>
  rcases (show k = 20 ∨ k = 21 ∨ k = 22 by omega) with rfl | rfl | rfl
  ·rw [show aX (ax.getD 20 ai) = [] from rfl]; intro id hid; cases hid
  ·rw [show aX (ax.getD 21 ai) = [3, 10] from rfl]; intro id hid; simp only [List.mem_cons, List.not_mem_nil, or_false] at hid; omega
  ·rw [show aX (ax.getD 22 ai) = [3, 11] from rfl]; intro id hid; simp only [List.mem_cons, List.not_mem_nil, or_false] at hid; omega
 | line j h hk =>
  subst hk;rw [zO j _ (hs.ty j h)];intro id hid;have e1 := hs.x j h;have e2 := hs.y j h;have e3 := hs.ty j h;simp only [List.mem_cons, List.not_mem_nil, or_false] at hid;omega
 | tail j h hk =>
  subst hk;intro id hid;have := yQ (n := n) h id hid;omega
theorem EU (hs : bu n f) : ∀ k (h : k < (aj n f).length), (aj n f)[k].op ≠ 245 := mf 245 (by kernel_rfl) (by decide) (by kernel_rfl) hs
theorem Bp (hs : bu n f) : ∀ k (h : k < (aj n f).length), (aj n f)[k].op ≠ 16 := mf 16 (by kernel_rfl) (by decide) (by kernel_rfl) hs
theorem GZ (hs : bu n f) : ∀ k (h : k < (aj n f).length), (aj n f)[k].op ≠ 252 := mf 252 (by kernel_rfl) (by decide) (by kernel_rfl) hs
theorem IR (hs : bu n f) : ∀ k (hk : k < (aj n f).length), tS 8 + 1 ≤ k → k < 25 + n + 1 → ∀ id ∈ aX (aj n f)[k], tQ (xX (aj n f) ((aj n f).getD (tS 8 + 1) ai).res (tS 8 + 1) (25 + n + 1 - (tS 8 + 1 + 1))) id k := by
 intro k hk h20 h26 id hid x hx;have h20 : 20 ≤ k := h20;have hk2 : k < 27 + n := by rw [ak] at hk; exact hk
 rw [aF] at hid;have e : (aj n f).getD (tS 8 + 1) ai = ax.getD 20 ai := bK (k := 20) (by omega);rw [e] at hx;have hx : xX (aj n f) 21 20 (25 + n + 1 - (20 + 1)) id = some x := hx;have h1 := CU (n := n) (f := f) _ (by omega) id x hx;have h2 := xe hs hk2 h20 id hid;rcases h1 with q | q
 ·exact .inl q
 ·exact .inr (by omega)
theorem Hz : ∀ K, 6 ≤ K → K ≤ 27 + n → bu n f → vD (aj n f) K = vD (aj n f) 6
 | 0, h, _, _ => by omega
 | K + 1, h, hK, hs => by
  by_cases e : K + 1 = 6
  ·rw [e]
  ·have e1 : (aj n f).getD K ai = (aj n f)[K]'(by rw [ak]; omega) := getD_at _ _
   have h71 : (aj n f)[K]'(by rw [ak]; omega) = df n f K := aF _ _;have hop : (df n f K).op ≠ 71 := by
    by_cases a : K < 23
    ·rw [aI a]
     have := List.all_eq_true.1 (show ((List.range 23).all fun k => decide (k < 6) || !((ax.getD k ai).op == 71)) = true by kernel_rfl) K (List.mem_range.2 a);simp only [Bool.or_eq_true, decide_eq_true_eq, Bool.not_eq_true', beq_eq_false_iff_ne] at this;exact this.resolve_left (by omega)
    ·by_cases b : K < 23 + n
     ·rw [dY (j := K - 23) (by omega) (by omega)]
      exact eT (hs.op (K - 23) (by omega)) 71 (by decide)
     ·obtain ⟨j, hj⟩ : ∃ j, K = 23 + n + j := ⟨K - (23 + n), by omega⟩
      have hj4 : j < 4 := by omega
      rw [bI hj, (jE hj4).op];have := List.all_eq_true.1 (show ((List.range 4).all fun j => !(((bQ 0).getD j ai).op == 71)) = true by kernel_rfl) j (List.mem_range.2 hj4);simpa using this
   simp only [vD, e1, h71, if_neg hop];exact Hz K (by omega) (by omega) hs
theorem tL : ∀ k, k ≤ 23 → vD (aj n f) k = vD ax k
 | 0, _ => rfl
 | k + 1, h => by simp only [vD, tL k (by omega), bK (show k < 23 by omega)]
theorem Lt (hs : bu n f) : vD (aj n f) (aj n f).length = vD ax 6 := by
 rw [ak, Hz _ (by omega) (Nat.le_refl _) hs, tL 6 (by omega)]
theorem rV (hs : bu n f) {k : Nat} (hk : k < (aj n f).length) (h : (aj n f)[k].op = 71) : 2 ≤ k ∧ k < 6 := by
 rw [aF] at h;have hk2 : k < 27 + n := by rw [ak] at hk; exact hk
 by_cases a : k < 23
 ·rw [aI a] at h
  have := List.all_eq_true.1 (show ((List.range 23).all fun k => (decide (2 ≤ k) && decide (k < 6)) || !((ax.getD k ai).op == 71)) = true by kernel_rfl) k (List.mem_range.2 a);simp only [Bool.or_eq_true, Bool.and_eq_true, decide_eq_true_eq, Bool.not_eq_true', beq_eq_false_iff_ne] at this;exact this.resolve_right (fun q => q h)
 ·by_cases b : k < 23 + n
  ·rw [dY (j := k - 23) (by omega) (by omega)] at h
   exact absurd h (eT (hs.op (k - 23) (by omega)) 71 (by decide))
  ·obtain ⟨j, hj⟩ : ∃ j, k = 23 + n + j := ⟨k - (23 + n), by omega⟩
   have hj4 : j < 4 := by omega
   rw [bI hj, (jE hj4).op] at h;have := List.all_eq_true.1 (show ((List.range 4).all fun j => !(((bQ 0).getD j ai).op == 71)) = true by kernel_rfl) j (List.mem_range.2 hj4);exact absurd h (by simpa using this)
theorem lQ (hs : bu n f) {k : Nat} (hk : k < (aj n f).length) (h : (aj n f)[k].op = 15) : k = 1 := by
 rw [aF] at h;have hk2 : k < 27 + n := by rw [ak] at hk; exact hk
 by_cases a : k < 23
 ·rw [aI a] at h
  have := List.all_eq_true.1 (show ((List.range 23).all fun k => decide (k = 1) || !((ax.getD k ai).op == 15)) = true by kernel_rfl) k (List.mem_range.2 a);simp only [Bool.or_eq_true, decide_eq_true_eq, Bool.not_eq_true', beq_eq_false_iff_ne] at this;exact this.resolve_right (fun q => q h)
 ·by_cases b : k < 23 + n
  ·rw [dY (j := k - 23) (by omega) (by omega)] at h
   exact absurd h (eT (hs.op (k - 23) (by omega)) 15 (by decide))
  ·obtain ⟨j, hj⟩ : ∃ j, k = 23 + n + j := ⟨k - (23 + n), by omega⟩
   have hj4 : j < 4 := by omega
   rw [bI hj, (jE hj4).op] at h;have := List.all_eq_true.1 (show ((List.range 4).all fun j => !(((bQ 0).getD j ai).op == 15)) = true by kernel_rfl) j (List.mem_range.2 hj4);exact absurd h (by simpa using this)
theorem Lp (hs : bu n f) : Nq (aj n f) := by
 intro k hk h;have h2 := rV hs hk h;rw [aF, aI (by omega), tL k (by omega)];rcases (show k = 2 ∨ k = 3 ∨ k = 4 ∨ k = 5 by omega) with rfl | rfl | rfl | rfl
 ·exact ⟨by decide, rfl⟩
 ·exact ⟨by decide, rfl⟩
 ·exact ⟨by decide, rfl⟩
 ·exact ⟨by decide, rfl⟩
theorem iF : ∀ id c ty m, iQ id = some (c, ty, m) → 0 < m ∧ m ≤ 4096 ∧ (c = 1 ∨ c = 3) := by
 intro id c ty m h;unfold iQ at h
 repeat' split at h
 all_goals first | cases h; done | (cases h; exact ⟨by decide, by decide, by decide⟩)
theorem IW {v : Nat} (h : ni iQ v ≠ 0) : v = 10 ∨ v = 11 ∨ v = 12 ∨ v = 13 := by
 unfold ni iQ at h;by_cases h1 : v = 13
 ·omega
 ·by_cases h2 : v = 12
  ·omega
  ·by_cases h3 : v = 11
   ·omega
   ·by_cases h4 : v = 10
    ·omega
    ·rw [if_neg h1, if_neg h2, if_neg h3, if_neg h4] at h
     exact absurd rfl h
end
end Go.Proofs.YtlkolghiknbbfaaGreatDoor
namespace Go.Proofs.YtlkolghiknbbfaaGreatDoor
open Go.RowKit Go.MapKept
theorem Nw {w W : World} {K P T C gf gc gd b o cap b2 cb id lab y st en lo1 hi1 lo2 hi2 lo3 hi3 : Nat} {l : List In} {sv : Nat → Option Addr × Nat} {tab : Nat → Option dU} {vs : Nat → Option (Nat × Nat × Nat)} {f : Nat → Option DcD} {D : Nat → Prop} {L : List As} {fk : Nat → Option Nat} (h : Own aK w (fkL w K P T C gf gc gd b o cap b2 cb id lab y st en lo1 hi1 lo2 hi2 lo3 hi3 l sv tab vs f D L) W) (hM : Ms w b o l sv) (hf : ∀ v, (f v).map (·.k) = fk v) : Hr K P T C gf gc gd b o cap b2 cb id lab y st en l sv tab vs fk W :=
 ⟨h.cell 1 0 rfl rfl, h.cell 1 1 rfl rfl, h.cell 1 2 rfl rfl, h.cell 1 3 rfl rfl, h.cell 1 4 rfl rfl, h.cell 1 5 rfl rfl,
  ⟨lo1, aO.out (h.at 5 rfl : aO _ _ _ W) (iI.keeps P T tab vs)⟩, ⟨lo2, aO.out (h.at 4 rfl : aO _ _ _ W) (fun lo W W' h hk => h.keep hk)⟩, ⟨lo3, aO.out (h.at 3 rfl : aO _ _ _ W) (fE _ _ _ _ _ _ _ _)⟩, hM.below h.below,
  ⟨f, D, h.at 2 rfl, h.at 0 rfl, fun k hk => (h.low _ (List.mem_of_getElem? (i := 0) rfl) k hk).2, hf⟩⟩
def xS : Nat → jO
 | 0 => ⟨10, 0, -1, 3, 1, false⟩
 | 1 => ⟨11, 1, -1, 3, 1, false⟩
 | 2 => ⟨12, 0, -1, 3, 1, false⟩
 | _ => ⟨13, -1, 0, 5, 4, true⟩
def cS (j : Nat) : Nat := if j < 2 then 1 else 3
abbrev KU (K P T C gf gc gd b o cap b2 cb n : Nat) (f : Nat → Ln) (sv : Nat → Option Addr × Nat) (w : World) : Prop := Hr K P T C gf gc gd b o cap b2 cb 20 21 19 20 (25 + n + 1) (aj n f) sv fG iQ (vD ax 6) w
section
variable {K P T C gf gc gd b o cap b2 cb n : Nat} {f : Nat → Ln} {sv : Nat → Option Addr × Nat} {w : World}
theorem Ii (h : KU K P T C gf gc gd b o cap b2 cb n f sv w) (v kind k : Nat) (a0 a1 a2 : Ag) (r : Int) (e : vD ax 6 v = some k) (hk : k < 23) (ha : (ax.getD k ai).args = [a0, a1, a2]) (hr : (if a1.n = kind then (a2.n : Int) else -1) = r) :
  Qc 104 #[.pointer (some ⟨K, 0, none⟩), .int .u32 v, .int .u32 kind] w (.int .i64 r) := by
 rw [← hr];exact Hd h v kind k a0 a1 a2 e (by rw [ak]; omega) (by rw [aF, aI hk]; exact ha)
theorem qg (h : KU K P T C gf gc gd b o cap b2 cb n f sv w) : Qc 103 #[.pointer (some ⟨K, 0, none⟩), .int .u32 (3 : Nat)] w (.tuple #[.int .u32 (3 : Nat), .bool true]) := uM h 3 (by decide)
theorem Kb (h : KU K P T C gf gc gd b o cap b2 cb n f sv w) : Qc 103 #[.pointer (some ⟨K, 0, none⟩), .int .u32 (5 : Nat)] w (.tuple #[.int .u32 (4 : Nat), .bool true]) := zq h 5 4 rfl ⟨by decide, by decide⟩ (by decide) rfl rfl
theorem xJ (h : KU K P T C gf gc gd b o cap b2 cb n f sv w) (v ty n2 sz k c m : Nat) (loc bi : Int) (sg : Bool) (a0 a1 a2 : Ag) (e : vD ax 6 v = some k) (hk : k < 23) (ha : (ax.getD k ai).args = [a0, a1, a2]) (hl : (if a1.n = 30 then (a2.n : Int) else -1) = loc) (hb : (if a1.n = 11 then (a2.n : Int) else -1) = bi) (hv : iQ v = some (c, ty, m))
  (cN : ∀ W, Bl w W → Qc 103 #[.pointer (some ⟨K, 0, none⟩), .int .u32 ty] W (.tuple #[.int .u32 n2, .bool true])) (hz : (aD fG ty).size = sz) (hg : (aD fG n2).sg = sg) :
  Qc 68 #[.pointer (some ⟨K, 0, none⟩), .int .u32 v] w (.agg #[.int .u32 v, .int .i64 loc, .int .i64 bi, .int .u32 ty, .int .i64 sz, .bool sg]) := by
 refine Gc v ty n2 sz loc bi sg true true c h.c0 h.c1 (fun W hw => ?_) cN (fun W hw => Ii (h.below hw) v 30 k a0 a1 a2 loc e hk ha hl) (fun W hw => Ii (h.below hw) v 11 k a0 a1 a2 bi e hk ha hb) (fun W hw => ?_) (fun W hw => ?_)
 ·obtain ⟨lo, hp⟩ := (h.below hw).pl
  have := Kg hp (fun id c ty m e => ⟨(iF id c ty m e).1, (iF id c ty m e).2.1⟩) v;rw [hv] at this;exact this
 ·obtain ⟨lo, hp⟩ := (h.below hw).pl
  rw [← hz];exact hp.tb.tsize ty
 ·obtain ⟨lo, hp⟩ := (h.below hw).pl
  rw [← hg];exact hp.tb.signed n2
theorem mJ (h : KU K P T C gf gc gd b o cap b2 cb n f sv w) : ∀ j, j < 4 → Jw K (10 + j) (cS j) (xS j) w := by
 intro j hj;rcases (show j = 0 ∨ j = 1 ∨ j = 2 ∨ j = 3 by omega) with rfl | rfl | rfl | rfl
 ·exact ⟨fun W hw => eX (h.below hw) iF 10, fun W hw => xJ (h.below hw) 10 3 3 1 2 1 1 0 (-1) false (eU 10) (kv 30) (iY 0) rfl (by omega) rfl rfl rfl rfl (fun W2 h2 => qg ((h.below hw).below h2)) rfl rfl, fun W hw => (qg (h.below hw)).mono (fun e w' q => ⟨⟨3, q.1⟩, q.2⟩), fun W hw => qa K 0 1 (xS 0) W (by decide), by decide⟩
 ·exact ⟨fun W hw => eX (h.below hw) iF 11, fun W hw => xJ (h.below hw) 11 3 3 1 3 1 1 1 (-1) false (eU 11) (kv 30) (iY 1) rfl (by omega) rfl rfl rfl rfl (fun W2 h2 => qg ((h.below hw).below h2)) rfl rfl, fun W hw => (qg (h.below hw)).mono (fun e w' q => ⟨⟨3, q.1⟩, q.2⟩), fun W hw => qa K 0 1 (xS 1) W (by decide), by decide⟩
 ·exact ⟨fun W hw => eX (h.below hw) iF 12, fun W hw => xJ (h.below hw) 12 3 3 1 4 3 1 0 (-1) false (eU 12) (kv 30) (iY 0) rfl (by omega) rfl rfl rfl rfl (fun W2 h2 => qg ((h.below hw).below h2)) rfl rfl, fun W hw => (qg (h.below hw)).mono (fun e w' q => ⟨⟨3, q.1⟩, q.2⟩), fun W hw => qa K 0 3 (xS 2) W (by decide), by decide⟩
 ·exact ⟨fun W hw => eX (h.below hw) iF 13, fun W hw => xJ (h.below hw) 13 5 4 4 5 3 4 (-1) 0 true (eU 13) (kv 11) (iY 0) rfl (by omega) rfl rfl rfl rfl (fun W2 h2 => Kb ((h.below hw).below h2)) rfl rfl, fun W hw => (Kb (h.below hw)).mono (fun e w' q => ⟨⟨4, q.1⟩, q.2⟩), fun W hw => IK K 13 5 (-1) W, by decide⟩
theorem rC (hM : Ms w b o (aj n f) sv) (hc : 7 ≤ (sv 1).2) : ∃ ab ao ac, sv 1 = (some ⟨ab, ao, none⟩, ac) ∧ ∀ W, Bl w W → Calls Tryz.prog 21 #[.agg #[.int .u16 (15 : Nat), .int .u32 (0 : Nat), .int .u32 (0 : Nat), .slice (some ⟨ab, ao, none⟩) 7 ac]] W fun e w' => ∃ v', e = .returned (.agg #[.int .u32 (0 : Nat), .int .u32 (20 : Nat), .string iK, v']) ∧ Own aK W [bM W.heap.size 22 1 v' 4 [.int .u32 (10 : Nat), .int .u32 (11 : Nat), .int .u32 (12 : Nat), .int .u32 (13 : Nat)]] w' := by
 have h1 : 1 < (aj n f).length := by rw [ak]; omega
 have hsl : ∀ W, Bl w W → Sl 3 cz W (sv 1).1 (ax.getD 1 ai).args := fun W hb => by
  have := (hM.below hb).sl 1 h1;rw [aF, aI (by omega)] at this;exact this
 obtain ⟨ab, ao, ea, _⟩ := (hsl w (Below.refl _ _)).at_ (by decide);refine ⟨ab, ao, (sv 1).2, by rw [← ea], fun W hb => ?_⟩;have h2 := hsl W hb;rw [ea] at h2;exact wW 15 0 0 ab ao (sv 1).2 (kv 0) (eU 20) (txA iK) [eU 10, eU 11, eU 12, eU 13] W h2 (by decide) (by decide) hc
structure EnS (b o ab ao ac : Nat) (w : World) : Prop where
 e0 : w.cell? ⟨b, o + 1 * 4, none⟩ = some (.int .u16 (15 : Nat))
 e1 : w.cell? ⟨b, o + 1 * 4 + 1, none⟩ = some (.int .u32 (0 : Nat))
 e2 : w.cell? ⟨b, o + 1 * 4 + 2, none⟩ = some (.int .u32 (0 : Nat))
 e3 : w.cell? ⟨b, o + 1 * 4 + 3, none⟩ = some (.slice (some ⟨ab, ao, none⟩) 7 ac)
theorem en_S (hM : Ms w b o (aj n f) sv) {ab ao ac : Nat} (e : sv 1 = (some ⟨ab, ao, none⟩, ac)) : EnS b o ab ao ac w := by
 have h1 : 1 < (aj n f).length := by rw [ak]; omega
 have g : (aj n f)[1] = ax.getD 1 ai := by rw [aF, aI (by omega)]
 have e0 := hM.op 1 h1;have e1 := hM.ty 1 h1;have e2 := hM.res 1 h1;have e3 := hM.args 1 h1;rw [g] at e0 e1 e2 e3;rw [e] at e3;exact ⟨e0, e1, e2, e3⟩
theorem Gm (h : KU K P T C gf gc gd b o cap b2 cb n f sv w) (hs : bu n f) (hc : 7 ≤ (sv 1).2) :
  Qc 97 #[.pointer (some ⟨K, 0, none⟩), .int .i64 (1 : Nat)] w (.bool true) := by
 obtain ⟨ab, ao, ac, e, cE⟩ := rC h.ms hc;have h1 : 1 < (aj n f).length := by rw [ak]; omega
 have h19 : 19 < (aj n f).length := by rw [ak]; omega
 have g : (aj n f)[1] = ax.getD 1 ai := by rw [aF, aI (by omega)]
 have hsm := hs.small;refine wO h 1 h1 (by rw [ak]; omega) ab ao ac e (by rw [g]; rfl) (by rw [g]; rfl) iK (fun W hb => ?_) h19 (by rw [bK (by omega)]; rfl) (yh hs) (fun k hk => lQ hs hk) (Bp hs);rw [g];refine (cE W hb).mono (fun e w' q => ?_);obtain ⟨v', q1, q2⟩ := q;obtain ⟨aa, ec, rfl, hx⟩ := q2.slice 0 rfl;obtain ⟨ge, rfl, _⟩ := q2.slice2 0 rfl (by omega);exact ⟨ge, ec, q1, q2.below⟩
theorem LQ (h : KU K P T C gf gc gd b o cap b2 cb n f sv w) (hs : bu n f) (hc : 7 ≤ (sv 1).2) (hcap : (aj n f).length ≤ cap) :
  Qc 98 #[.pointer (some ⟨K, 0, none⟩), .int .i64 (1 : Nat)] w (.bool true) := by
 obtain ⟨ab, ao, ac, e, cE⟩ := rC h.ms hc;have h1 : 1 < (aj n f).length := by rw [ak]; omega
 have hE := en_S h.ms e;have hsm := hs.small;have cl : ∀ j, j < 4 → ∀ W W2, Bl w W → Bl W W2 → _ := fun j hj W W2 hb hb2 => (mJ h j hj).cl W2 (az hb hb2)
 have po : ∀ j, j < 4 → ∀ W W2, Bl w W → Bl W W2 → _ := fun j hj W W2 hb hb2 => (mJ h j hj).po W2 (az hb hb2)
 exact CQ K C b o cap (aj n f).length 1 0 ⟨15, 0, 0, []⟩ (fun j => 10 + j) cS xS w h.c4 ab ao ac hE.e0 hE.e1 hE.e2 hE.e3 h1 0 20 iK cE (fun j hj => mJ h j hj)
  (fun W ge ec hb hq => tT K 0 20 ge ec 10 11 12 13 1 1 3 3 3 iK (xS 2) (xS 3) W (hq 0 (by omega)) (hq 1 (by omega)) (hq 2 (by omega)) (hq 3 (by omega)) (by decide) (by decide) rfl rfl (fun W2 h2 => cl 0 (by omega) W W2 hb h2) (fun W2 h2 => cl 1 (by omega) W W2 hb h2) (fun W2 h2 => cl 2 (by omega) W W2 hb h2) (fun W2 h2 => cl 3 (by omega) W W2 hb h2) (fun W2 h2 => po 2 (by omega) W W2 hb h2) (fun W2 h2 => po 3 (by omega) W W2 hb h2) (by decide))
  (fun W ge ec hb hq => vG K 0 20 ge ec 10 11 12 13 1 1 3 3 1 iK (xS 0) (xS 1) W (hq 0 (by omega)) (hq 1 (by omega)) (hq 2 (by omega)) (hq 3 (by omega)) rfl rfl (by decide) (by decide) (fun W2 h2 => cl 0 (by omega) W W2 hb h2) (fun W2 h2 => cl 1 (by omega) W W2 hb h2) (fun W2 h2 => cl 2 (by omega) W W2 hb h2) (fun W2 h2 => cl 3 (by omega) W W2 hb h2) (fun W2 h2 => po 0 (by omega) W W2 hb h2) (fun W2 h2 => po 1 (by omega) W W2 hb h2) (by decide))
  (fun W ge ec hb hq => EY (h.below hb) iF 0 ge ec iK (fun j => 10 + j) hq (by omega) (by rw [ak]; omega) hcap (by rw [ak]; omega) (fun k hk h2 h3 v hv hcl => by
   rcases IW hcl with rfl | rfl | rfl | rfl
   ·exact ⟨0, by omega, rfl⟩
   ·exact ⟨1, by omega, rfl⟩
   ·exact ⟨2, by omega, rfl⟩
   ·exact ⟨3, by omega, rfl⟩))
  (fun g c' W h0 h6 => FQ g c' 10 11 3 3 1 1 false false W h0 h6)
  (fun g c' W h0 h6 => DU g c' 12 13 3 5 1 4 false true W h0 h6)
  (fun g c' W h0 h6 => CS g c' (xS 2) (xS 3) W h0 h6 (by decide) rfl)
  (fun i j _ _ e => by omega)
theorem AU (h : KU K P T C gf gc gd b o cap b2 cb n f sv w) (hs : bu n f) (hc : 7 ≤ (sv 1).2) :
  Qc 99 #[.pointer (some ⟨K, 0, none⟩), .int .i64 (1 : Nat)] w (.bool true) := by
 obtain ⟨ab, ao, ac, e, cE⟩ := rC h.ms hc;have h1 : 1 < (aj n f).length := by rw [ak]; omega
 have hE := en_S h.ms e
 exact tC K b o cap (aj n f).length 1 ⟨15, 0, 0, []⟩ (fun j => 10 + j) cS xS w h.c4 ab ao ac hE.e0 hE.e1 hE.e2 hE.e3 h1 20 iK cE (fun j hj => mJ h j hj) (fun j hj => by
  rcases (show j = 0 ∨ j = 1 ∨ j = 2 ∨ j = 3 by omega) with rfl | rfl | rfl | rfl <;> decide)
theorem wF (h : KU K P T C gf gc gd b o cap b2 cb n f sv w) (hs : bu n f) (hcap : (aj n f).length ≤ cap) (k : Nat) (hk : 2 ≤ k ∧ k < 6) (hc : 3 ≤ (sv k).2) :
  Qc 101 #[.pointer (some ⟨K, 0, none⟩), .int .i64 k] w (.bool true) := by
 have hlt : k < (aj n f).length := by rw [ak]; omega
 have g : (aj n f)[k] = ax.getD k ai := by rw [aF, aI (by omega)]
 have hsm := hs.small;have hn : (aj n f).length ≤ 2000 := by rw [ak]; omega
 have hu : ∀ v, v = 8 + k → ∀ j (hj : j < (aj n f).length), j < k → (aj n f)[j].op = 71 → 0 < (aj n f)[j].args.length ∧ ((aj n f)[j].args.map (·.n)).headD 0 ≠ v := by
  intro v hv j hj hjk h71;have h2 := rV hs hj h71;rw [aF, aI (by omega)];rcases (show j = 2 ∨ j = 3 ∨ j = 4 ∨ j = 5 by omega) with rfl | rfl | rfl | rfl
  ·exact ⟨by decide, by show (10 : Nat) ≠ v; omega⟩
  ·exact ⟨by decide, by show (11 : Nat) ≠ v; omega⟩
  ·exact ⟨by decide, by show (12 : Nat) ≠ v; omega⟩
  ·omega
 rcases (show k = 2 ∨ k = 3 ∨ k = 4 ∨ k = 5 by omega) with rfl | rfl | rfl | rfl
 ·exact fV h 2 hlt hcap hn 10 30 0 (by rw [g]; rfl) hc (.inl rfl) (by decide) (fun W hw => eX (h.below hw) iF 10) (hu 10 rfl)
 ·exact fV h 3 hlt hcap hn 11 30 1 (by rw [g]; rfl) hc (.inl rfl) (by decide) (fun W hw => eX (h.below hw) iF 11) (hu 11 rfl)
 ·exact fV h 4 hlt hcap hn 12 30 0 (by rw [g]; rfl) hc (.inl rfl) (by decide) (fun W hw => eX (h.below hw) iF 12) (hu 12 rfl)
 ·exact fV h 5 hlt hcap hn 13 11 0 (by rw [g]; rfl) hc (.inr ⟨rfl, rfl⟩) (by decide) (fun W hw => eX (h.below hw) iF 13) (hu 13 rfl)
end
end Go.Proofs.YtlkolghiknbbfaaGreatDoor
