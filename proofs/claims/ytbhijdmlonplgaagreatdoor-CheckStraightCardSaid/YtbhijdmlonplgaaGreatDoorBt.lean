/- Check: the checks of the straight module. -/
import Derived.Test.YtbhijdmlonplgaaGreatDoorBs
import Derived.Test.YtbhijdmlonplgaaGreatDoorBq
import Derived.Test.YtbhijdmlonplgaaGreatDoorBr
import Derived.Test.YtbhijdmlonplgaaGreatDoorBp
import Derived.Test.YtbhijdmlonplgaaGreatDoorAw
import Derived.Test.YtbhijdmlonplgaaGreatDoorBb
import Derived.Test.YtbhijdmlonplgaaGreatDoorAo
namespace Go.Proofs.YtbhijdmlonplgaaGreatDoor
set_option linter.unusedVariables false
set_option linter.unusedSimpArgs false
set_option maxRecDepth 100000
set_option maxHeartbeats 4000000
open Go.RowKit
section
variable {b o cap n : Nat} {f : Nat → Ln} {sv : Nat → Option Addr × Nat} {w : World}
theorem constsS (gen : Nat) (hM : Ms w b o (strL n f) sv) (hs : StrOk n f) :
  Calls Tryz.prog 27 #[.agg #[.int .u32 gen, .int .u32 (30 + n : Nat), .slice (some ⟨b, o, none⟩) (strL n f).length cap]] w fun r w' => (∃ P T, r = .returned (.tuple #[.pointer (some ⟨P, 0, none⟩), .agg #[.int .i64 0, .int .i64 0]]) ∧ PlIn w.heap.size P T tabS varS w') ∧ Below w.heap.size w w' := by
 have e : tabK (strL n f) dS (strL n f).length = tabS := tabK_late (by rw [strL_len]; omega)
 have := consts_own gen (30 + n) b o cap (strL n f) sv tS (25 + n) dS vS w hM (str_sound hs) (str_one hs) (str_ids hs) (str_types hs) (by rw [e]; exact str_const)
 rw [e, str_vars] at this
 exact this
theorem callsS (gen : Nat) (hM : Ms w b o (strL n f) sv) (hs : StrOk n f) (hcap : (strL n f).length ≤ cap) :
  Calls Tryz.prog 30 #[.agg #[.int .u32 gen, .int .u32 (30 + n : Nat), .slice (some ⟨b, o, none⟩) (strL n f).length cap]] w fun r w' => (∃ C, r = .returned (.tuple #[.pointer (some ⟨C, 0, none⟩), .agg #[.int .i64 0, .int .i64 0]]) ∧ CaIn C w.heap.size w') ∧ Below w.heap.size w w' :=
 cnew_own gen (30 + n) b o cap (strL n f) sv tS (25 + n) w hM (str_sound hs) (str_one hs) (str_ids hs) hcap (str_no57 hs)
theorem faceAllS (gen : Nat) (hM : Ms w b o (strL n f) sv) (hs : StrOk n f) (hcap : (strL n f).length ≤ cap) (h7 : 7 ≤ (sv 1).2) (h3 : ∀ k, 2 ≤ k → k < 6 → 3 ≤ (sv k).2) :
  Calls Tryz.prog 53 #[.agg #[.int .u32 gen, .int .u32 (30 + n : Nat), .slice (some ⟨b, o, none⟩) (strL n f).length cap]] w fun e w' => (∃ v, e = .returned (.tuple #[v, .agg #[.int .i64 0, .int .i64 0]])) ∧ Below w.heap.size w w' := by
 have hsm := hs.small
 have hn : (strL n f).length ≤ 2000 := by rw [strL_len]; omega
 have h1 : 1 < (strL n f).length := by rw [strL_len]; omega
 have g : (strL n f)[1] = headL.getD 1 noIn := by rw [strL_get, strAt_head (by omega)]
 obtain ⟨ab, ao, ac, e, cE⟩ := entry_S hM h7
 refine faceall_own gen (30 + n) b o cap (strL n f) sv 1 ab ao ac 20 mainS w hM hn h1 e (by rw [g]; rfl) (fun k hk => ⟨fun h => str_op15 hs hk h, fun h => by subst h; rw [g]; rfl⟩) (fun W hb => ?_) (fun W hb => by rw [g]; exact cE W hb)
 have e20 : ((strL n f).getD (tS 8) noIn).res = 20 := by rw [show tS 8 = 19 from rfl, str_headD (by omega)]; rfl
 have e21 : ((strL n f).getD (tS 8 + 1) noIn).res = 21 := by rw [show tS 8 + 1 = 20 from rfl, str_headD (by omega)]; rfl
 refine (fstart_own gen (30 + n) b o cap (strL n f) sv tS (25 + n) tabS varS W (hM.below hb) (str_sound hs) (str_one hs) (str_dec hs) (fun W2 h2 => constsS gen ((hM.below hb).below h2) hs) (fun W2 h2 => callsS gen ((hM.below hb).below h2) hs hcap)).mono ?_
 rintro e w' ⟨K, P, T, C, gf, gc, gd, b2, cb, f3, D, lo1, hi1, lo2, hi2, lo3, hi3, rfl, hf, HO⟩
 rw [e20, e21] at HO
 have hF : ∀ W2, Own noX w (fkL W K P T C gf gc gd b o cap b2 cb 20 21 (tS 8) (tS 8 + 1) (25 + n + 1) lo1 hi1 lo2 hi2 lo3 hi3 (strL n f) sv tabS varS f3 D []) W2 → FkS K P T C gf gc gd b o cap b2 cb n f sv W2 := fun W2 h2 => fkr_of h2 hM (fun v => (hf v).trans (by rw [str_fkS hs]))
 refine ⟨K, _, rfl, HO, fun W2 h2 => ?_, fun cl ge ec W2 hcl h2 hq => ?_⟩
 ·have h := hF W2 h2
  refine fcheck_own K b o cap (strL n f) sv W2 h.c4 h.ms hn (fun k hk hop W3 h3 => ?_) (fun k hk hop W3 h3 => ?_) (fun k hk hop W3 h3 => ?_) (fun k hk hop W3 h4 => ?_) (str_no16 hs) (str_no252 hs)
  ·obtain rfl := str_op15 hs hk hop
   exact entered_S (h.below h3) hs h7
  ·obtain rfl := str_op15 hs hk hop
   exact faced_S (h.below h3) hs h7 hcap
  ·obtain rfl := str_op15 hs hk hop
   exact decorated_S (h.below h3) hs h7
  ·have hk6 := str_op71 hs hk hop
   exact decoration_S (h.below h4) hs hcap k hk6 (h3 k hk6.1 hk6.2)
 ·have h := hF W2 h2
  have cl2 : ∀ j, j < 4 → ∀ W3, Below W2.heap.size W2 W3 → _ := fun j hj W3 hb2 => (portK_S h j hj).cl W3 hb2
  have po : ∀ j, j < 4 → ∀ W3, Below W2.heap.size W2 W3 → _ := fun j hj W3 hb2 => (portK_S h j hj).po W3 hb2
  rcases hcl with rfl | rfl
  ·refine (fports_in K 0 20 ge ec 10 11 12 13 1 1 3 3 1 mainS (xS 0) (xS 1) W2 (hq 0 (by omega)) (hq 1 (by omega)) (hq 2 (by omega)) (hq 3 (by omega)) rfl rfl (by decide) (by decide) (fun W3 h3 => cl2 0 (by omega) W3 h3) (fun W3 h3 => cl2 1 (by omega) W3 h3) (fun W3 h3 => cl2 2 (by omega) W3 h3) (fun W3 h3 => cl2 3 (by omega) W3 h3) (fun W3 h3 => po 0 (by omega) W3 h3) (fun W3 h3 => po 1 (by omega) W3 h3) (by decide)).mono ?_
   rintro e w3 ⟨g3, c3, rfl, h5⟩
   exact ⟨⟨_, _, rfl⟩, h5.below⟩
  ·refine (fports_out K 0 20 ge ec 10 11 12 13 1 1 3 3 3 mainS (xS 2) (xS 3) W2 (hq 0 (by omega)) (hq 1 (by omega)) (hq 2 (by omega)) (hq 3 (by omega)) (by decide) (by decide) rfl rfl (fun W3 h3 => cl2 0 (by omega) W3 h3) (fun W3 h3 => cl2 1 (by omega) W3 h3) (fun W3 h3 => cl2 2 (by omega) W3 h3) (fun W3 h3 => cl2 3 (by omega) W3 h3) (fun W3 h3 => po 2 (by omega) W3 h3) (fun W3 h3 => po 3 (by omega) W3 h3) (by decide)).mono ?_
   rintro e w3 ⟨g3, c3, rfl, h5⟩
   exact ⟨⟨_, _, rfl⟩, h5.below⟩
theorem asksS (gen kb : Nat) (hM : Ms w b o (strL n f) sv) (hs : StrOk n f) (hb : Bad n f kb) (hcap : (strL n f).length ≤ cap) (h7 : kb = 27 + n → 7 ≤ (sv 1).2) (h3 : kb = 27 + n → ∀ k, 2 ≤ k → k < 6 → 3 ≤ (sv k).2) (k : Nat) (hk : k < 10) (hst : k ≤ if kb = 27 + n then 10 else 7) (W : World) (hbw : Below w.heap.size w W) :
  Calls Tryz.prog (fo k) #[mdV gen (30 + n) (some ⟨b, o, none⟩) (strL n f).length cap] W fun e w' => e = .returned (.agg #[.int .i64 (saysV (if kb = 27 + n then 10 else 7) 180 kb k).1, .int .i64 (saysV (if kb = 27 + n then 10 else 7) 180 kb k).2]) ∧ Below W.heap.size W w' := by
 have hM2 := hM.below hbw
 have hsl := hM2.back
 have hsm := hs.small
 have hnot : k ≠ 7 → saysV (if kb = 27 + n then 10 else 7) 180 kb k = (0, 0) := fun h => by unfold saysV; refine if_neg (fun e => ?_); split at e <;> omega
 have hall : 7 < k → kb = 27 + n := fun h => by
  by_cases q : kb = 27 + n
  ·exact q
  ·rw [if_neg q] at hst; omega
 unfold mdV
 rcases (show k = 0 ∨ k = 1 ∨ k = 2 ∨ k = 3 ∨ k = 4 ∨ k = 5 ∨ k = 6 ∨ k = 7 ∨ k = 8 ∨ k = 9 by omega) with rfl | rfl | rfl | rfl | rfl | rfl | rfl | rfl | rfl | rfl
 ·rw [hnot (by omega)]
  exact shape_ok gen (30 + n) _ cap _ W hsl (str_sound hs)
 ·rw [hnot (by omega)]
  exact lcheck_own gen (30 + n) _ cap _ tS (25 + n) W hsl (str_sound hs) (str_one hs)
 ·rw [hnot (by omega)]
  exact icheck_own gen (30 + n) b o cap _ sv tS (25 + n) W hM2 (str_sound hs) (str_one hs) (str_ids hs)
 ·rw [hnot (by omega)]
  refine chr1_own gen (30 + n) _ _ cap 0 0 W (fun W2 h2 => ?_)
  refine (tnew_own gen (30 + n) b o cap _ sv tS (25 + n) dS W2 (hM2.below h2) (str_sound hs) (str_one hs) (str_ids hs) (str_types hs)).mono ?_
  rintro e w' ⟨⟨T, rfl, _⟩, h⟩
  exact ⟨⟨_, rfl⟩, h⟩
 ·rw [hnot (by omega)]
  refine chr2_own gen (30 + n) _ _ cap 0 0 W (fun W2 h2 => ?_)
  refine (constsS gen (hM2.below h2) hs).mono ?_
  rintro e w' ⟨⟨P, T, rfl, _⟩, h⟩
  exact ⟨⟨_, rfl⟩, h⟩
 ·rw [hnot (by omega)]
  exact nmodule_own gen (30 + n) b o cap _ sv tS (25 + n) W hM2 (str_sound hs) (str_one hs) (str_ids hs) (str_ends hs)
 ·rw [hnot (by omega)]
  refine chr3_own gen (30 + n) _ _ cap 0 0 W (fun W2 h2 => ?_)
  refine (callsS gen (hM2.below h2) hs hcap).mono ?_
  rintro e w' ⟨⟨C, rfl, _⟩, h⟩
  exact ⟨⟨_, rfl⟩, h⟩
 ·refine (tycheck_own gen (30 + n) b o cap (strL n f) sv tabS varS kb W hM2 (by rw [strL_len]; omega) (by rw [strL_len]; exact hb.le) (fun W2 h2 => constsS gen (hM2.below h2) hs) (fun k2 hk2 hkb K T mk W2 hC => str_fits hs hb hcap k2 hk2 hkb K T mk W2 hC)).mono ?_
  rintro e w' ⟨rfl, h⟩
  refine ⟨?_, h⟩
  unfold saysV
  by_cases q : kb = 27 + n
  ·rw [if_pos (by rw [strL_len]; exact q), if_pos q, if_neg (by omega)]; rfl
  ·rw [if_neg (by rw [strL_len]; exact q), if_neg q, if_pos rfl]; rfl
 ·rw [hnot (by omega)]
  exact flow_own gen (30 + n) b o cap _ sv tS (25 + n) W hM2 (str_sound hs) (str_one hs) (str_ids hs) (str_ends hs) (fun k2 hk2 _ _ => str_no245 hs k2 hk2) (str_flow hs)
 ·rw [hnot (by omega)]
  refine facecheck_own gen (30 + n) _ _ cap 0 0 W (fun W2 h2 => ?_)
  exact faceAllS gen (hM2.below h2) hs hcap (h7 (hall (by omega))) (h3 (hall (by omega)))
end
end Go.Proofs.YtbhijdmlonplgaaGreatDoor
