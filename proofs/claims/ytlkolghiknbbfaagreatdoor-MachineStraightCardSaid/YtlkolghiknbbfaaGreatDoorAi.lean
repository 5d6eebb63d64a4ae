/- Layout: the parts ahead of the functions. -/
import Derived.Test.YtlkolghiknbbfaaGreatDoorAh
set_option linter.unusedVariables false
set_option linter.unusedSimpArgs false
namespace Go.Proofs.YtlkolghiknbbfaaGreatDoor
open Go.RowKit
structure rF (l : List In) (t : Nat → Nat) : Prop where
 zero : t 0 = 0
 le : ∀ p, p < 8 → t p ≤ t (p + 1)
 len : t 8 ≤ l.length
 mem : ∀ p, p < 8 → ∀ j (h : j < l.length), t p ≤ j → j < t (p + 1) → bO l[j] = 9 ∧ partOf l[j] = p
 stop : ∀ p, p < 8 → p ≠ 1 → ∀ h : t (p + 1) < l.length, bO (l[t (p + 1)]) = 9 → partOf (l[t (p + 1)]) ≠ p
 one : t 2 = t 1 + 1
theorem rF.mono {l : List In} {t : Nat → Nat} (h : rF l t) : ∀ {p q : Nat}, p ≤ q → q ≤ 8 → t p ≤ t q
 | p, 0, hp, _ => by cases Nat.le_zero.1 hp; exact Nat.le_refl _
 | p, q + 1, hp, hq => by
  rcases Nat.lt_or_ge p (q + 1) with h1 | h1
  ·exact Nat.le_trans (h.mono (p := p) (q := q) (by omega) (by omega)) (h.le q (by omega))
  ·obtain rfl : p = q + 1 := by omega
   exact Nat.le_refl _
def lL (t : Nat → Nat) (ps : Nat → Int) (p : Nat) : Nat → Int := fun i => if i < 2 * p then (if i % 2 = 0 then (t (i / 2) : Int) else (t (i / 2 + 1) : Int)) else ps i
theorem vU {a : Option Addr} {n cap pos : Nat} {fv : Value} (t : Nat → Nat) (ps : Nat → Int) (p : Nat) (hp : p < 10) :
  upd (upd (Dn a n cap pos (lL t ps p) fv) (2 + p * 2) (.int .i64 (t p))) (2 + p * 2 + 1) (.int .i64 (t (p + 1))) = Dn a n cap pos (lL t ps (p + 1)) fv := by
 funext j
 unfold upd Dn lL;by_cases h1 : j = 2 + p * 2 + 1
 ·subst h1
  rw [if_pos rfl, if_neg (by omega), if_neg (by omega), if_neg (by omega), if_pos (by omega), if_neg (by omega)]
  congr 2
  show t (p + 1) = t ((2 + p * 2 + 1 - 2) / 2 + 1)
  rw [show (2 + p * 2 + 1 - 2) / 2 = p by omega]
 ·rw [if_neg h1]
  by_cases h2 : j = 2 + p * 2
  ·subst h2
   rw [if_pos rfl, if_neg (by omega), if_neg (by omega), if_neg (by omega), if_pos (by omega), if_pos (by omega)]
   congr 2
   rw [show (2 + p * 2 - 2) / 2 = p by omega]
  ·rw [if_neg h2]
   by_cases h3 : j = 0
   ·rw [if_pos h3, if_pos h3]
   ·rw [if_neg h3, if_neg h3]
    by_cases h4 : j = 1
    ·rw [if_pos h4, if_pos h4]
    ·rw [if_neg h4, if_neg h4]
     by_cases h5 : j = 22
     ·rw [if_pos h5, if_pos h5]
     ·rw [if_neg h5, if_neg h5]
      congr 1
      by_cases h6 : j - 2 < 2 * p
      ·rw [if_pos h6, if_pos (show j - 2 < 2 * (p + 1) by omega)]
      ·rw [if_neg h6, if_neg (show ¬ j - 2 < 2 * (p + 1) by omega)]
theorem sG {w0 W : World} {a : Option Addr} {l : List In} (h0 : Sl 4 fO w0 a l) (hb : Bl w0 W) {k : Nat} (hk : k < l.length) : ∃ b o aa ca, a = some ⟨b, o, none⟩ ∧ b < W.heap.size ∧ W.cell? ⟨b, o + k * 4, none⟩ = some (.int .u16 l[k].op) ∧ W.cell? ⟨b, o + k * 4 + 1, none⟩ = some (.int .u32 l[k].ty) ∧ W.cell? ⟨b, o + k * 4 + 2, none⟩ = some (.int .u32 l[k].res) ∧
  W.cell? ⟨b, o + k * 4 + 3, none⟩ = some (.slice aa l[k].args.length ca) ∧ Sl 3 cz W aa l[k].args ∧ l[k].args.length ≤ 1048576 := by
 obtain ⟨b, o, ha, hbl, hc⟩ := (h0.below fO.lasts hb).at_ (by omega);obtain ⟨e0, e1, e2, ⟨aa, ca, e3, hsl⟩, -, -, -, hal⟩ := hc k hk;exact ⟨b, o, aa, ca, ha, hbl, e0, e1, e2, e3, hsl, hal⟩
def yJ (C : Nat) (w : World) : Nat := match w.cell? ⟨C, 1, none⟩ with | some (.int _ k) => k.toNat | _ => 0
set_option maxRecDepth 100000 in
set_option maxHeartbeats 4000000 in
theorem Ll (w0 : World) (C : Nat) (a : Option Addr) (cap : Nat) (ps : Nat → Int) (fv : Value) (l : List In) (t : Nat → Nat) (w : World) (h0 : Sl 4 fO w0 a l) (hb : Bl w0 w) (hC : w0.heap.size ≤ C) (h : Cu C a l.length cap 0 ps fv w) (hn : l.length ≤ 2000) (ht : rF l t) :
  Calls Tryz.prog 183 #[.pointer (some ⟨C, 0, none⟩)] w fun r w' => r = .returned (.bool true) ∧ Cu C a l.length cap (t 8) (lL t ps 8) fv w' ∧ Only C w w' := by
 have H := hid h;have HB := hid hb;have HT := hid ht;have H0 := hid h0;have hps : lL t ps 0 = ps := by funext i; unfold lL; rw [if_neg (by omega)]
 have hst : Cu C a l.length cap (t 0) (lL t ps 0) fv w := by rw [hps, ht.zero]; exact h
 have hst' := hid hst;clear h hb ht h0 hst hps;go_enter Tryz.func183, Tryz.ntmps183;go_wp2;go_loopw [3, 4, 5] (fun _ _ x5 wr => ∃ p : Nat, p ≤ 8 ∧ x5 = .int .u8 p ∧ Cu C a l.length cap (t p) (lL t ps p) fv wr ∧ Only C w wr) (fun _ _ x _ => 8 - (intOf x).toNat)
 case atStart => exact ⟨0, by omega, rfl, hst'.out, Only.refl _ _⟩
 case round =>
  obtain ⟨p, hp, rfl, hc, hon⟩ := hrel;by_cases hlt : p < 8
  ·have i2 : (p : Int) < 8 := by omega
   have q1 : wr.cell? ⟨C, 1, none⟩ = some (.int .i64 (t p)) := hc.cell 1 (by omega);have HC := hid hc;have HO := hid hon;have HP := hid hlt;clear hc hon hst' hlt;go_wp2
   rename World => wq
   go_loopw [29] (fun _ wv => ∃ k : Nat, t p ≤ k ∧ k ≤ t (p + 1) ∧ (p = 1 → k = t p) ∧ Cu C a l.length cap k (lL t ps p) fv wv ∧ Only C w wv) (fun _ wv => t (p + 1) - yJ C wv)
   case atStart => exact ⟨t p, Nat.le_refl _, HT.out.le p HP.out, fun _ => rfl, HC.out, HO.out⟩
   case round =>
    obtain ⟨k, hk1, hk2, hk3, hcv, hov⟩ := hrel;have hpos : yJ C wr = k := by unfold yJ; rw [hcv.cell 1 (by omega)]; rfl
    have hlt8 := HP.out;have hm8 := HT.out.mono (p := p + 1) (q := 8) (by omega) (by omega);have hl8 := HT.out.len;have hbw := nM HB.out hov hC;have cN : ∀ W, Bl wr W → Qc 184 #[.pointer (some ⟨C, 0, none⟩)] W (.int .i64 (bC l k)) := fun W hW => lY C a cap k _ fv l W (hcv.below hW hcv.lt) (H0.out.below fO.lasts (az hbw hW)) (by omega) hn
    have c0 : wr.cell? ⟨C, 0, none⟩ = some (.slice a l.length cap) := hcv.cell 0 (by omega);have c1 : wr.cell? ⟨C, 1, none⟩ = some (.int .i64 k) := hcv.cell 1 (by omega);have f1 := hcv.frozen 1;have zC := hcv.lt;have HCV := hid hcv;have HOV := hid hov;have HPOS := hid hpos;by_cases hka : k < t (p + 1)
    ·have hkl : k < l.length := by omega
     obtain ⟨m1, m2⟩ := HT.out.mem p hlt8 k hkl hk1 hka;have hnx : bC l k = 9 := by unfold bC; rw [dif_pos hkl, m1]; rfl
     obtain ⟨b, o, aa, ca, rfl, zb, e0, e1, e2, e3, hsl, hal⟩ := sG H0.out hbw hkl;have i1 : (k : Int) < (l.length : Int) := by omega
     have cP : ∀ W, Bl wr W → Qc 228 #[.agg #[.int .u16 l[k].op, .int .u32 l[k].ty, .int .u32 l[k].res, .slice aa l[k].args.length ca]] W (.int .u8 p) := fun W hW => by
      have := sQ l[k] aa ca W (hsl.below cz.lasts hW) hal;rw [m2] at this;exact this
     rw [hnx] at cN;clear hsl hal m1 m2 hnx hcv hov hpos hbw;generalize l[k] = i at cP e0 e1 e2 e3;obtain ⟨op, ty, res, args⟩ := i;simp only at cP e0 e1 e2 e3;generalize args.length = na at cP e3;go_wp2;go_cut [29] (fun s29 wx => s29 = .bool true ∧ Cu C (some ⟨b, o, none⟩) l.length cap k (lL t ps p) fv wx ∧ Only C w wx)
     case first =>
      go_region_held3 (fun w' => w'.cell? ⟨C, 0, none⟩ = some (.slice (some ⟨b, o, none⟩) l.length cap) ∧ w'.cell? ⟨C, 1, none⟩ = some (.int .i64 k) ∧ w'.cell? ⟨b, o + k * 4, none⟩ = some (.int .u16 op) ∧ w'.cell? ⟨b, o + k * 4 + 1, none⟩ = some (.int .u32 ty) ∧ w'.cell? ⟨b, o + k * 4 + 2, none⟩ = some (.int .u32 res) ∧ w'.cell? ⟨b, o + k * 4 + 3, none⟩ = some (.slice aa na ca)) (go_keep)
       (first
       | (go_at_call 184; (with_reducible refine (cN _ (by first | exact Below.refl _ _ | exact eY)).mono ?_); rintro e w1 ⟨rfl, hn1⟩; have hb1 : Bl wr w1 := (by first | exact az (Below.refl _ _) hn1 | exact az eY hn1); have c0' := ae c0 zC hb1; have c1' := ae c1 zC hb1; have e0' := ae e0 zb hb1; have e1' := ae e1 zb hb1; have e2' := ae e2 zb hb1; have e3' := ae e3 zb hb1; replace hb1 := hid hb1; clear hn1)
       | (go_at_call 228; (with_reducible refine (cP _ (by first | exact hb1.out | exact bB hb1.out)).mono ?_); rintro e w2 ⟨rfl, hn2⟩; have hb2 := hid (show Bl wr w2 by first | exact az hb1.out hn2 | exact az (bB hb1.out) hn2); have c0'' := ae c0 zC hb2.out; have c1'' := ae c1 zC hb2.out; have e0'' := ae e0 zb hb2.out; have e1'' := ae e1 zb hb2.out; have e2'' := ae e2 zb hb2.out; have e3'' := ae e3 zb hb2.out; clear hn2))
      all_goals
       go_wp2_with fail;go_meet;exact ⟨rfl, by first | exact HCV.out.below hb2.out zC | exact HCV.out.below (bB hb2.out) zC, HOV.out.trans (Only.of (by first | exact hb2.out | exact bB hb2.out))⟩
     case rest =>
     obtain ⟨rfl, hcv, hov⟩ := hcut;have c1 : wc.cell? ⟨C, 1, none⟩ = some (.int .i64 k) := hcv.cell 1 (by omega);have f1 := hcv.frozen 1;have zC := hcv.lt;have h2 := hcv.set 1 (.int .i64 ((k + 1 : Nat) : Int));rw [oH] at h2;have h2' : Cu C (some ⟨b, o, none⟩) l.length cap (k + 1) (lL t ps p) fv (wc.setCell ⟨C, 1, none⟩ (.int .i64 ((k : Int) + 1))) := h2;have hpos2 : yJ C (wc.setCell ⟨C, 1, none⟩ (.int .i64 ((k : Int) + 1))) = k + 1 := by unfold yJ; rw [h2'.cell 1 (by omega)]; rfl
     have H2 := hid h2';have HO2 := hid (hov.trans (Only.set wc 1 (.int .i64 ((k : Int) + 1))));have HP2 := hid hpos2;clear h2 h2' hpos2 hcv hov c0 e0 e1 e2 e3 zb HCV HOV cN cP;by_cases hp1 : p = 1
     ·have t1 : ((p : Int) == 1) = true := by simp [hp1]
      have hkk : k + 1 = t (p + 1) := by rw [hk3 hp1, hp1]; exact HT.out.one.symm
      have HKK := hid hkk;have HP1 := hid hp1;have hkb : k + 1 ≤ 2000 := by omega
      clear hkk hp1 hk3 hk1;go_wp2;have hU := H2.out;rw [HKK.out] at hU;have hV := HO2.out;clear H2 HO2 HP2 c1 f1 zC;generalize wc.setCell ⟨C, 1, none⟩ (.int .i64 ((k : Int) + 1)) = W at hU hV ⊢;have HU := hid hU;have HV := hid hV;have c1 : W.cell? ⟨C, 1, none⟩ = some (.int .i64 (t (p + 1))) := HU.out.cell 1 (by omega);have g1 := HU.out.cell (2 + p * 2) (by omega);have g2 := HU.out.cell (2 + p * 2 + 1) (by omega);have f2 := HU.out.frozen (2 + p * 2);have f3 := HU.out.frozen (2 + p * 2 + 1);have zC := HU.out.lt;have i3 : (0 : Int) ≤ (p : Int) := by omega
      have i4 : (p : Int) < 10 := by omega
      clear hU hV;go_region;have hU2 := (HU.out.set (2 + p * 2) (.int .i64 (t p))).set (2 + p * 2 + 1) (.int .i64 (t (p + 1)));rw [vU t ps p (by omega)] at hU2;have hU3 : Cu C (some ⟨b, o, none⟩) l.length cap (t (p + 1)) (lL t ps (p + 1)) fv ((W.setCell ⟨C, 2 + p * 2, none⟩ (.int .i64 (t p))).setCell ⟨C, 2 + p * 2 + 1, none⟩ (.int .i64 (t (p + 1)))).drew := hU2.other rfl;have hV3 := ((HV.out.trans (Only.set W (2 + p * 2) (.int .i64 (t p)))).trans (Only.set _ (2 + p * 2 + 1) (.int .i64 (t (p + 1))))).drew;clear hU2 c1 g1 g2 f2 f3 zC;generalize ((W.setCell ⟨C, 2 + p * 2, none⟩ (.int .i64 (t p))).setCell ⟨C, 2 + p * 2 + 1, none⟩ (.int .i64 (t (p + 1)))).drew = W2 at hU3 hV3 ⊢;have c1 : W2.cell? ⟨C, 1, none⟩ = some (.int .i64 (t (p + 1))) := hU3.cell 1 (by omega);have HU3 := hid hU3;have HV3 := hid hV3;clear hU3 hV3;have t2 : ((t (p + 1) : Int) == t p) = false := by rw [beq_eq_false_iff_ne]; have := HT.out.one; rw [HP1.out]; show (t 2 : Int) ≠ t 1; omega
      go_wp2;exact ⟨⟨p + 1, by omega, by go_num, HU3.out, HV3.out⟩, by simp [intOf]; omega⟩
     ·have t1 : ((p : Int) == 1) = false := by rw [beq_eq_false_iff_ne]; omega
      go_wp2;refine ⟨⟨k + 1, by omega, by omega, fun e => absurd e hp1, H2.out, HO2.out⟩, ?_⟩;rw [HP2.out, HPOS.out];omega
    ·have hkk : k = t (p + 1) := by omega
     have hp1 : p ≠ 1 := fun e => by have := hk3 e; have h1 := HT.out.one; subst e; rw [this] at hkk; have h2 : t 1 = t 2 := hkk; omega
     have t1 : ((p : Int) == 1) = false := by rw [beq_eq_false_iff_ne]; omega
     have HKK := hid hkk;have HP1 := hid hp1;clear hka hkk hp1 hk3 hcv hov hpos;go_wp2;go_cut [29] (fun s29 wx => s29 = .bool false ∧ Cu C a l.length cap k (lL t ps p) fv wx ∧ Only C w wx)
     case first =>
      by_cases hnx : bC l k = 9
      ·have hkl : k < l.length := by
        by_cases h : k < l.length
        ·exact h
        ·unfold bC at hnx; rw [dif_neg h] at hnx; cases hnx
       have hpp : partOf l[k] ≠ p := by
        have h9 : bO l[k] = 9 := by unfold bC at hnx; rw [dif_pos hkl] at hnx; omega
        have hs := HT.out.stop p hlt8 HP1.out;have e := HKK.out;subst e;exact hs hkl h9
       obtain ⟨b, o, aa, ca, rfl, zb, e0, e1, e2, e3, hsl, hal⟩ := sG H0.out hbw hkl;have i1 : (k : Int) < (l.length : Int) := by omega
       have t2 : (partOf l[k] == (p : Int)) = false := by rw [beq_eq_false_iff_ne]; exact hpp
       have cP : ∀ W, Bl wr W → Qc 228 #[.agg #[.int .u16 l[k].op, .int .u32 l[k].ty, .int .u32 l[k].res, .slice aa l[k].args.length ca]] W (.int .u8 (partOf l[k])) := fun W hW => sQ l[k] aa ca W (hsl.below cz.lasts hW) hal
       rw [hnx] at cN;clear hsl hal hnx hbw hpp;generalize partOf l[k] = pp at cP t2;generalize l[k] = i at cP e0 e1 e2 e3;obtain ⟨op, ty, res, args⟩ := i;simp only at cP e0 e1 e2 e3;generalize args.length = na at cP e3;go_region_held3 (fun w' => w'.cell? ⟨C, 0, none⟩ = some (.slice (some ⟨b, o, none⟩) l.length cap) ∧ w'.cell? ⟨C, 1, none⟩ = some (.int .i64 k) ∧ w'.cell? ⟨b, o + k * 4, none⟩ = some (.int .u16 op) ∧ w'.cell? ⟨b, o + k * 4 + 1, none⟩ = some (.int .u32 ty) ∧ w'.cell? ⟨b, o + k * 4 + 2, none⟩ = some (.int .u32 res) ∧ w'.cell? ⟨b, o + k * 4 + 3, none⟩ = some (.slice aa na ca)) (go_keep)
        (first
        | (go_at_call 184; (with_reducible refine (cN _ (by first | exact Below.refl _ _ | exact eY)).mono ?_); rintro e w1 ⟨rfl, hn1⟩; have hb1 : Bl wr w1 := (by first | exact az (Below.refl _ _) hn1 | exact az eY hn1); have c0' := ae c0 zC hb1; have c1' := ae c1 zC hb1; have e0' := ae e0 zb hb1; have e1' := ae e1 zb hb1; have e2' := ae e2 zb hb1; have e3' := ae e3 zb hb1; replace hb1 := hid hb1; clear hn1)
        | (go_at_call 228; (with_reducible refine (cP _ (by first | exact hb1.out | exact bB hb1.out)).mono ?_); rintro e w2 ⟨rfl, hn2⟩; have hb2 := hid (show Bl wr w2 by first | exact az hb1.out hn2 | exact az (bB hb1.out) hn2); have c0'' := ae c0 zC hb2.out; have c1'' := ae c1 zC hb2.out; have e0'' := ae e0 zb hb2.out; have e1'' := ae e1 zb hb2.out; have e2'' := ae e2 zb hb2.out; have e3'' := ae e3 zb hb2.out; clear hn2))
       all_goals
        go_wp2_with fail;go_meet;exact ⟨rfl, by first | exact HCV.out.below hb2.out zC | exact HCV.out.below (bB hb2.out) zC, HOV.out.trans (Only.of (by first | exact hb2.out | exact bB hb2.out))⟩
      ·have t2 : (bC l k == 9) = false := by rw [beq_eq_false_iff_ne]; exact hnx
       clear hnx hbw;generalize bC l k = z at cN t2;refine wp_region_any (by kernel_rfl) ?_;change wpAny _ _ _ _ _ _ _ (World.drew _);refine wpAny_take (i := 0) (v := .pointer (some ⟨C, 0, none⟩)) rfl (by kernel_rfl) (by kernel_rfl) (by kernel_rfl) (fun _ _ _ h => h) (Or.inl ⟨by rfl, fun w => by first | rfl | (go_simp; done) | (go_simp; with_reducible rfl)⟩) ?_;refine wpAny_ready (rs := [1]) (by kernel_rfl) (by simp) ?_;refine AllReady.cons rfl (fun K hK => ?_) AllReady.nil;go_simp;go_at_call 184
       (with_reducible refine (cN _ (by first | exact Below.refl _ _ | exact eY)).mono ?_)
       rintro e w1 ⟨rfl, hn1⟩;have hb1 := hid (show Bl wr w1 by first | exact az (Below.refl _ _) hn1 | exact az eY hn1);clear hn1;refine hK _ _ ?_;clear hK K;refine wpAny_take (i := 2) (v := .bool false) rfl (by kernel_rfl) (by kernel_rfl) (by kernel_rfl) (fun _ _ _ h => h) (Or.inl ⟨by rfl, fun w => by first | rfl | (go_simp; done) | (go_simp; with_reducible rfl)⟩) ?_;go_simp;refine wpAny_take (i := 3) (v := .bool false) rfl (by kernel_rfl) (by kernel_rfl) (by kernel_rfl) (fun _ _ _ h => h) (Or.inl ⟨by rfl, fun w => by first | rfl | (go_simp; done) | (go_simp; with_reducible rfl)⟩) ?_;go_simp;refine wpAny_take (i := 4) (v := undef) rfl (by kernel_rfl) (by kernel_rfl) (by kernel_rfl) (fun _ _ _ h => h) (Or.inr ⟨by rfl, rfl⟩) ?_;go_simp;refine wpAny_take (i := 5) (v := undef) rfl (by kernel_rfl) (by kernel_rfl) (by kernel_rfl) (fun _ _ _ h => h) (Or.inr ⟨by rfl, rfl⟩) ?_;go_simp;refine wpAny_take (i := 6) (v := undef) rfl (by kernel_rfl) (by kernel_rfl) (by kernel_rfl) (fun _ _ _ h => h) (Or.inr ⟨by rfl, rfl⟩) ?_;go_simp;refine wpAny_take (i := 8) (v := undef) rfl (by kernel_rfl) (by kernel_rfl) (by kernel_rfl) (fun _ _ _ h => h) (Or.inr ⟨by rfl, rfl⟩) ?_;go_simp;refine wpAny_take (i := 9) (v := undef) rfl (by kernel_rfl) (by kernel_rfl) (by kernel_rfl) (fun _ _ _ h => h) (Or.inr ⟨by rfl, rfl⟩) ?_;go_simp;refine wpAny_take (i := 10) (v := undef) rfl (by kernel_rfl) (by kernel_rfl) (by kernel_rfl) (fun _ _ _ h => h) (Or.inr ⟨by rfl, rfl⟩) ?_;go_simp;refine wpAny_take (i := 7) (v := undef) rfl (by kernel_rfl) (by kernel_rfl) (by kernel_rfl) (fun _ _ _ h => h) (Or.inr ⟨by rfl, rfl⟩) ?_;go_simp;refine wpAny_take (i := 11) (v := undef) rfl (by kernel_rfl) (by kernel_rfl) (by kernel_rfl) (fun _ _ _ h => h) (Or.inr ⟨by rfl, rfl⟩) ?_;go_simp;refine wpAny_take (i := 12) (v := undef) rfl (by kernel_rfl) (by kernel_rfl) (by kernel_rfl) (fun _ _ _ h => h) (Or.inr ⟨by rfl, rfl⟩) ?_;go_simp;refine wpAny_take (i := 13) (v := undef) rfl (by kernel_rfl) (by kernel_rfl) (by kernel_rfl) (fun _ _ _ h => h) (Or.inr ⟨by rfl, rfl⟩) ?_;go_simp;refine wpAny_take (i := 14) (v := undef) rfl (by kernel_rfl) (by kernel_rfl) (by kernel_rfl) (fun _ _ _ h => h) (Or.inr ⟨by rfl, rfl⟩) ?_;go_simp;refine wpAny_take (i := 15) (v := undef) rfl (by kernel_rfl) (by kernel_rfl) (by kernel_rfl) (fun _ _ _ h => h) (Or.inr ⟨by rfl, rfl⟩) ?_;go_simp;refine wpAny_take (i := 16) (v := undef) rfl (by kernel_rfl) (by kernel_rfl) (by kernel_rfl) (fun _ _ _ h => h) (Or.inr ⟨by rfl, rfl⟩) ?_;go_simp;refine wpAny_take (i := 17) (v := .bool false) rfl (by kernel_rfl) (by kernel_rfl) (by kernel_rfl) (fun _ _ _ h => h) (Or.inl ⟨by rfl, fun w => by first | rfl | (go_simp; done) | (go_simp; with_reducible rfl)⟩) ?_;refine wpAny_done (by kernel_rfl) ?_ _;go_wp2_with fail;go_meet;exact ⟨rfl, HCV.out.below hb1.out zC, HOV.out.trans (Only.of hb1.out)⟩
     case rest =>
     obtain ⟨rfl, hU, hV⟩ := hcut;rw [HKK.out] at hU;clear cN c0 c1 f1 zC HCV HOV
     rename World => W
     have HU := hid hU;have HV := hid hV;have c1 : W.cell? ⟨C, 1, none⟩ = some (.int .i64 (t (p + 1))) := HU.out.cell 1 (by omega);have g1 := HU.out.cell (2 + p * 2) (by omega);have g2 := HU.out.cell (2 + p * 2 + 1) (by omega);have f2 := HU.out.frozen (2 + p * 2);have f3 := HU.out.frozen (2 + p * 2 + 1);have zC := HU.out.lt;have i3 : (0 : Int) ≤ (p : Int) := by omega
     have i4 : (p : Int) < 10 := by omega
     clear hU hV;go_wp2;go_region;have hU2 := (HU.out.set (2 + p * 2) (.int .i64 (t p))).set (2 + p * 2 + 1) (.int .i64 (t (p + 1)));rw [vU t ps p (by omega)] at hU2;have hU3 : Cu C a l.length cap (t (p + 1)) (lL t ps (p + 1)) fv ((W.setCell ⟨C, 2 + p * 2, none⟩ (.int .i64 (t p))).setCell ⟨C, 2 + p * 2 + 1, none⟩ (.int .i64 (t (p + 1)))).drew := hU2.other rfl;have hV3 := ((HV.out.trans (Only.set W (2 + p * 2) (.int .i64 (t p)))).trans (Only.set _ (2 + p * 2 + 1) (.int .i64 (t (p + 1))))).drew;clear hU2 c1 g1 g2 f2 f3 zC;generalize ((W.setCell ⟨C, 2 + p * 2, none⟩ (.int .i64 (t p))).setCell ⟨C, 2 + p * 2 + 1, none⟩ (.int .i64 (t (p + 1)))).drew = W2 at hU3 hV3 ⊢;have c1 : W2.cell? ⟨C, 1, none⟩ = some (.int .i64 (t (p + 1))) := hU3.cell 1 (by omega);have HU3 := hid hU3;have HV3 := hid hV3;clear hU3 hV3;go_wp2;exact ⟨⟨p + 1, by omega, by go_num, HU3.out, HV3.out⟩, by simp [intOf]; omega⟩
  ·obtain rfl : p = 8 := by omega
   have HC := hid hc;have HO := hid hon;clear hc hon hst';go_wp2;go_ret;exact ⟨rfl, HC.out, HO.out⟩
end Go.Proofs.YtlkolghiknbbfaaGreatDoor
