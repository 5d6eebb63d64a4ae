/- The graph of a function of one block: Targets, all, merge. -/
import Derived.Test.YtlkolghiknbbfaaGreatDoorAl
import Derived.Test.YtlkolghiknbbfaaGreatDoorAq
set_option linter.unusedVariables false
set_option linter.unusedSimpArgs false
set_option maxRecDepth 100000
set_option maxHeartbeats 4000000
namespace Go.Proofs.YtlkolghiknbbfaaGreatDoor
open Go.RowKit
theorem Bq (x y : Nat) (a : Option Addr) (cap : Nat) (w : World) : Qc 308 #[.agg #[.int .u16 253, .int .u32 x, .int .u32 y, .slice a 0 cap]] w (.slice none 0 0) := by
 have HO := Own.nil w;have cF : ∀ W, Calls Tryz.prog 302 #[.int .u16 253, .slice none 0 0] W fun e w' => Eu 253 [] e ∧ Bl W w' := fun W => yB 253 none 0 [] W ⟨fun h => absurd h (by simp)⟩ (by simp)
 go_enter Tryz.func308, Tryz.ntmps308;go_wp2_with (first | ((first | (with_reducible refine bf HO ?_; intro g hg; rw [← hg.out]; clear hg) | (with_reducible refine ah HO ?_)); clear HO; (try clear kk); intro W' HO kk));refine wp_loop_rounds 1 ?_;rw [rounds_succ];go_wp2_with (first | ((first | (with_reducible refine bf HO ?_; intro g hg; rw [← hg.out]; clear hg) | (with_reducible refine ah HO ?_)); clear HO; (try clear kk); intro W' HO kk));refine (cF _).mono ?_;rintro e w1 ⟨hf, hn⟩;replace HO := HO.then hn
 clear hn;obtain ⟨n, b, rfl, hx⟩ := hf.out;clear hf cF hx;(try clear kk);(try simp only [yD] at HO); have kk := HO.kk
 cases b
 ·go_wp2_with fail
  go_ret;exact ⟨rfl, HO.below⟩
 ·go_wp2_with fail
  refine wp_loop_rounds 1 ?_;rw [rounds_succ];go_wp2_with fail;go_ret;exact ⟨rfl, HO.below⟩
theorem Ke (m : Nat) (w : World) : Calls Tryz.prog 307 #[.map (some m), .slice none 0 0] w fun e w' => e = .returned (.tuple #[.slice none 0 0, .bool true]) ∧ w' = w := by
 go_enter Tryz.func307, Tryz.ntmps307;go_wp2_with fail;refine wp_loop_rounds 1 ?_;rw [rounds_succ];go_wp2_with fail;go_ret2;exact ⟨rfl, rfl⟩
theorem FP : (Tryz.prog.info? 410).map (·.size) = some 3 := by kernel_rfl
theorem Df (m op x y : Nat) (v v2 : Value) (q : Array Value) (a : Option Addr) (n cap : Nat) (w : World) (h1 : op ≠ 246) (h2 : op ≠ 247) (hq : q.size = 4) (hq1 : q.all (·.oneCell') = true) :
  Qc 306 #[.map (some m), .agg #[.int .u16 op, .int .u32 x, .int .u32 y, .slice a n cap], .agg q] w (.tuple #[.agg #[.int .u8 0, .int .i64 (-1), .int .i64 (-1)], .bool true]) := by
 have HO := Own.nil w;have i1 : ¬ ((op : Int) = 246) := by omega
 have i2 : ¬ ((op : Int) = 247) := by omega
 go_enter Tryz.func306, Tryz.ntmps306;go_wp2_with (first | ((first | (with_reducible refine bf HO ?_; intro g hg; rw [← hg.out]; clear hg) | (with_reducible refine ah HO ?_) | (refine ay 410 HO ?_)); clear HO; (try clear kk); intro W' HO kk) | (refine bG 410 HO Tryz.underlying410 ?_));refine bodyPost_ret_by (aJ rfl _ _ _ 410 #[.int .u8 0, .int .i64 (-1), .int .i64 (-1)] _ _ rfl (HO.blk 1 rfl) Tryz.underlying410 rfl FP) rfl ?_;exact ⟨rfl, HO.below⟩
theorem FO (x : Nat) (y z : Int) (W : World) : (binOp .neq 207 (.agg #[.int .u32 x, .int .i64 y, .int .i64 z]) (.agg #[.int .u32 x, .int .i64 y, .int .i64 z])).run Tryz.prog W = .ok (.bool false) W := by
 have hu := Tryz.underlying207;rw [run_neq_struct, run_equalIn_agg _ _ _ _ _ (by kernel_rfl) (by kernel_rfl)];go_simp
theorem Gq (a a' : Option Addr) (c c' : Nat) (w : World) : Calls Tryz.prog 346 #[.slice a 0 c, .slice a' 0 c'] w fun e w' => e = .returned (.bool true) ∧ w' = w := by
 go_enter Tryz.func346, Tryz.ntmps346;go_wp2_with fail;refine wp_loop_rounds 1 ?_;rw [rounds_succ];go_wp2_with fail;go_ret;exact ⟨rfl, rfl⟩
theorem Ah (b1 b2 c1 c2 : Nat) (x : Nat) (y z : Int) (w : World) (h0 : w.cell? ⟨b1, 0, none⟩ = some (.int .u32 x)) (h1 : w.cell? ⟨b1, 1, none⟩ = some (.int .i64 y)) (h2 : w.cell? ⟨b1, 2, none⟩ = some (.int .i64 z)) (g0 : w.cell? ⟨b2, 0, none⟩ = some (.int .u32 x)) (g1 : w.cell? ⟨b2, 1, none⟩ = some (.int .i64 y)) (g2 : w.cell? ⟨b2, 2, none⟩ = some (.int .i64 z)) :
  Qc 347 #[.slice (some ⟨b1, 0, none⟩) 1 c1, .slice (some ⟨b2, 0, none⟩) 1 c2] w (.bool true) := by
 have hq := FO x y z;have HO := Own.nil w;go_enter Tryz.func347, Tryz.ntmps347;go_wp2_with fail;refine wp_loop_rounds 2 ?_;rw [rounds_succ];go_wp2_with fail;go_quiet (fail);go_wp2_with fail;rw [rounds_succ];go_wp2_with fail;go_ret;exact ⟨rfl, (HO.drewN _).below⟩
structure nQ (b c : Nat) (id : Nat) (y : Int) (lab : Nat) (s e : Int) (en : Int) (v : Value) (w : World) : Prop where
 eq : v = .agg #[.int .u32 id, .int .i64 y, .slice none 0 0, .slice (some ⟨b, 0, none⟩) 1 c, .int .i64 en]
 lt : b < w.heap.size
 h0 : w.cell? ⟨b, 0, none⟩ = some (.int .u32 lab)
 h1 : w.cell? ⟨b, 1, none⟩ = some (.int .i64 s)
 h2 : w.cell? ⟨b, 2, none⟩ = some (.int .i64 e)
theorem nQ.below {b c id lab : Nat} {y s e en : Int} {v : Value} {w w' : World} (h : nQ b c id y lab s e en v w) (hb : Bl w w') : nQ b c id y lab s e en v w' :=
 ⟨h.eq, Nat.lt_of_lt_of_le h.lt hb.size, ae h.h0 h.lt hb, ae h.h1 h.lt hb, ae h.h2 h.lt hb⟩
theorem Js (b1 b2 c1 c2 id lab : Nat) (y s e en : Int) (v1 v2 : Value) (w : World) (h1 : nQ b1 c1 id y lab s e en v1 w) (h2 : nQ b2 c2 id y lab s e en v2 w) :
  Qc 305 #[v1, v2] w (.bool true) := by
 have cE := fun W => Gq none none 0 0 W
 have cB : ∀ W, Bl w W → Qc 347 #[.slice (some ⟨b1, 0, none⟩) 1 c1, .slice (some ⟨b2, 0, none⟩) 1 c2] W (.bool true) := fun W hb => Ah b1 b2 c1 c2 lab s e W (h1.below hb).h0 (h1.below hb).h1 (h1.below hb).h2 (h2.below hb).h0 (h2.below hb).h1 (h2.below hb).h2
 obtain rfl := h1.eq;obtain rfl := h2.eq;clear h1 h2;have HO := Own.nil w;go_enter Tryz.func305, Tryz.ntmps305;go_wp2_with (first | ((first | (with_reducible refine bf HO ?_; intro g hg; rw [← hg.out]; clear hg) | (with_reducible refine ah HO ?_)); clear HO; (try clear kk); intro W' HO kk) | (go_at_call 346; (with_reducible refine (cE _).mono ?_); rintro e w1 ⟨rfl, rfl⟩) | (go_at_call 347; with_reducible refine fF HO (cB _ HO.below) ?_; clear HO; intro w1 HO));go_ret;exact ⟨rfl, HO.below⟩
structure kN (B b c id : Nat) (y en : Int) (w : World) : Prop where
 lt : B < w.heap.size
 c0 : w.cell? ⟨B, 0, none⟩ = some (.int .u32 id)
 c1 : w.cell? ⟨B, 1, none⟩ = some (.int .i64 y)
 c2 : w.cell? ⟨B, 2, none⟩ = some (.slice none 0 0)
 c3 : w.cell? ⟨B, 3, none⟩ = some (.slice (some ⟨b, 0, none⟩) 1 c)
 c4 : w.cell? ⟨B, 4, none⟩ = some (.int .i64 en)
theorem kN.below {B b c id : Nat} {y en : Int} {w w' : World} (h : kN B b c id y en w) (hb : Bl w w') : kN B b c id y en w' :=
 ⟨Nat.lt_of_lt_of_le h.lt hb.size, ae h.c0 h.lt hb, ae h.c1 h.lt hb, ae h.c2 h.lt hb, ae h.c3 h.lt hb, ae h.c4 h.lt hb⟩
theorem Je (B b1 b2 c1 c2 id lab : Nat) (y s e en : Int) (v : Value) (w : World) (h1 : nQ b1 c1 id y lab s e en v w) (hB : kN B b2 c2 id y en w) (h2 : ∀ v, v = .agg #[.int .u32 id, .int .i64 y, .slice none 0 0, .slice (some ⟨b2, 0, none⟩) 1 c2, .int .i64 en] → nQ b2 c2 id y lab s e en v w) :
  Qc 304 #[v, .pointer (some ⟨B, 0, none⟩)] w (.bool true) := by
 have H2 := h2 _ rfl;have cS : ∀ W, Bl w W → Qc 305 #[v, .agg #[.int .u32 id, .int .i64 y, .slice none 0 0, .slice (some ⟨b2, 0, none⟩) 1 c2, .int .i64 en]] W (.bool true) := fun W hb => Js b1 b2 c1 c2 id lab y s e en _ _ W (h1.below hb) (H2.below hb)
 obtain rfl := h1.eq;obtain ⟨zb, g0, g1, g2, g3, g4⟩ := hB;clear h1 h2 H2;have HO := Own.nil w;go_enter Tryz.func304, Tryz.ntmps304;go_wp2_with (first | ((first | (with_reducible refine bf HO ?_; intro g hg; rw [← hg.out]; clear hg) | (with_reducible refine ah HO ?_)); clear HO; (try clear kk); intro W' HO kk) | (go_at_call 305; with_reducible refine fF HO (cS _ HO.below) ?_; clear HO; intro w1 HO));go_ret;exact ⟨rfl, HO.below⟩
theorem CG (B g cg b1 b2 c1 c2 id lab : Nat) (y s e en : Int) (w : World) (h1 : nQ b1 c1 id y lab s e en (.agg #[.int .u32 id, .int .i64 y, .slice none 0 0, .slice (some ⟨b1, 0, none⟩) 1 c1, .int .i64 en]) w) (hg : kN g b1 c1 id y en w) (hB : kN B b2 c2 id y en w) (h2 : nQ b2 c2 id y lab s e en (.agg #[.int .u32 id, .int .i64 y, .slice none 0 0, .slice (some ⟨b2, 0, none⟩) 1 c2, .int .i64 en]) w) :
  Qc 79 #[.slice (some ⟨g, 0, none⟩) 1 cg, .func (.func 304) #[] #[.pointer (some ⟨B, 0, none⟩)]] w (.int .i64 0) := by
 have cS := Je B b1 b2 c1 c2 id lab y s e en _ w h1 hB (fun v hv => hv ▸ h2);obtain ⟨zg, g0, g1, g2, g3, g4⟩ := hg;clear h1 h2 hB;have HO := Own.nil w;go_enter Tryz.func79, Tryz.ntmps79;go_wp2_with fail;refine wp_loop_rounds 1 ?_;rw [rounds_succ];go_wp2_with (first | ((first | (with_reducible refine bf HO ?_; intro g hg; rw [← hg.out]; clear hg) | (with_reducible refine ah HO ?_)); clear HO; (try clear kk); intro W' HO kk) | (go_at_call 304; (with_reducible refine cS.mono ?_); rintro e w1 ⟨rfl, hn⟩; replace HO := HO.then hn; clear hn));go_ret;exact ⟨rfl, HO.below⟩
theorem uE (B g cg b1 b2 c1 c2 id lab : Nat) (y s e en : Int) (w : World) (h1 : nQ b1 c1 id y lab s e en (.agg #[.int .u32 id, .int .i64 y, .slice none 0 0, .slice (some ⟨b1, 0, none⟩) 1 c1, .int .i64 en]) w) (hg : kN g b1 c1 id y en w) (hB : kN B b2 c2 id y en w) (h2 : nQ b2 c2 id y lab s e en (.agg #[.int .u32 id, .int .i64 y, .slice none 0 0, .slice (some ⟨b2, 0, none⟩) 1 c2, .int .i64 en]) w) :
  Qc 303 #[.slice (some ⟨g, 0, none⟩) 1 cg, .func (.func 304) #[] #[.pointer (some ⟨B, 0, none⟩)]] w (.bool true) := by
 have cS := CG B g cg b1 b2 c1 c2 id lab y s e en w h1 hg hB h2;clear h1 h2 hB hg;have HO := Own.nil w;go_enter Tryz.func303, Tryz.ntmps303;go_wp2_with (first | (go_at_call 79; (with_reducible refine cS.mono ?_); rintro e w1 ⟨rfl, hn⟩; replace HO := HO.then hn; clear hn));go_ret;exact ⟨rfl, HO.below⟩
structure tO (l : List In) (m : Nat) : Prop where
 op : ∀ h : m < l.length, l[m].op = 253
 args : ∀ h : m < l.length, l[m].args = []
 no1 : ∀ h : m - 1 < l.length, l[m - 1].op ≠ 246 ∧ l[m - 1].op ≠ 247
theorem Km : El 362 410 3 24 := El.of Tryz.underlying362 (z := .agg #[.int .u8 0, .int .i64 0, .int .i64 0]) (by kernel_rfl) rfl (by omega)
theorem Mw : El 166 128 1 24 := El.of Tryz.underlying166 (z := .slice none 0 0) (by kernel_rfl) rfl (by omega)
theorem eZ.lower {G lo lo' : Nat} {W : World} (h : eZ G lo W) (hl : lo' ≤ lo) : eZ G lo' W := by
 obtain ⟨cs, n1, n2, wk, od, c1, c2, c3, c4, h1, h2, h3, h4, h5, h6, l1, l2, l3, e⟩ := h.at_;exact ⟨Nat.le_trans hl h.low, cs, n1, n2, wk, od, c1, c2, c3, c4, h1, h2, h3, h4, h5, h6, Nat.le_trans hl l1, Nat.le_trans hl l2, Nat.le_trans hl l3, e⟩
structure GnE (G mg lo : Nat) (W : World) : Prop where
 gr : eZ G lo W
 low : lo ≤ mg
 h0 : W.cell? ⟨mg, 0, none⟩ = some (.int .u8 0)
 h1 : W.cell? ⟨mg, 1, none⟩ = some (.int .i64 (-1))
 h2 : W.cell? ⟨mg, 2, none⟩ = some (.int .i64 (-1))
theorem GnE.keeps (G mg : Nat) : jo (GnE G mg) := fun lo W W' h hk => by
 have hc : ∀ b j v, lo ≤ b → W.cell? ⟨b, j, none⟩ = some v → W'.cell? ⟨b, j, none⟩ = some v := fun b j v hb hv => (World.cell?_of_block (a := ⟨b, j, none⟩) (hk b hb (block_lt_of_cell hv))).trans hv
 exact ⟨h.gr.keep hk, h.low, hc _ _ _ h.low h.h0, hc _ _ _ h.low h.h1, hc _ _ _ h.low h.h2⟩
structure Ej (g b2 c2 id lab : Nat) (y st en : Int) (lo : Nat) (w : World) : Prop where
 l1 : lo ≤ g
 l2 : lo ≤ b2
 mem : kN g b2 c2 id y en w
 at_ : nQ b2 c2 id y lab st en en (.agg #[.int .u32 id, .int .i64 y, .slice none 0 0, .slice (some ⟨b2, 0, none⟩) 1 c2, .int .i64 en]) w
theorem fE (g b2 c2 id lab : Nat) (y st en : Int) : jo (Ej g b2 c2 id lab y st en) := fun lo W W' h hk => by
 have hc : ∀ b j v, lo ≤ b → W.cell? ⟨b, j, none⟩ = some v → W'.cell? ⟨b, j, none⟩ = some v := fun b j v hb hv => (World.cell?_of_block (a := ⟨b, j, none⟩) (hk b hb (block_lt_of_cell hv))).trans hv
 have q0 := hc _ _ _ h.l1 h.mem.c0;have q1 := hc _ _ _ h.l2 h.at_.h0;exact ⟨h.l1, h.l2, ⟨block_lt_of_cell q0, q0, hc _ _ _ h.l1 h.mem.c1, hc _ _ _ h.l1 h.mem.c2, hc _ _ _ h.l1 h.mem.c3, hc _ _ _ h.l1 h.mem.c4⟩, ⟨rfl, block_lt_of_cell q1, q1, hc _ _ _ h.l2 h.at_.h1, hc _ _ _ h.l2 h.at_.h2⟩⟩
theorem Ad (gen bound : Nat) (b o cap : Nat) (l : List In) (sv : Nat → Option Addr × Nat) (t : Nat → Nat) (m : Nat) (b1 c1 id lab : Nat) (y st en : Int) (w : World) (hM : Ms w b o l sv) (hS : Sl 4 fO w (some ⟨b, o, none⟩) l) (hs : iN bound l) (ht : jf l t m) (hi : nC l t) (he : tO l m)
  (hid_ : (l.getD (t 8) ai).res = id) (hlab_ : (l.getD (t 8 + 1) ai).res = lab) (hy : (t 8 : Int) = y) (hst : ((t 8 + 1 : Nat) : Int) = st) (hen : ((m + 1 : Nat) : Int) = en)
  (h1 : nQ b1 c1 id y lab st en en (.agg #[.int .u32 id, .int .i64 y, .slice none 0 0, .slice (some ⟨b1, 0, none⟩) 1 c1, .int .i64 en]) w) :
  Calls Tryz.prog 272 #[.agg #[.int .u32 gen, .int .u32 bound, .slice (some ⟨b, o, none⟩) l.length cap], .agg #[.int .u32 id, .int .i64 y, .slice none 0 0, .slice (some ⟨b1, 0, none⟩) 1 c1, .int .i64 en]] w fun r w' => (∃ G mg cm, r = .returned (.tuple #[.pointer (some ⟨G, 0, none⟩), .slice (some ⟨mg, 0, none⟩) 1 cm, .agg #[.int .i64 0, .int .i64 0]]) ∧ GnE G mg w.heap.size w') ∧ Bl w w' := by
 have hn := hs.len;have hl2 := hid ht.len;have hf2 := hid ht.fits;have cI : ∀ W, Bl w W → Qc 91 #[.agg #[.int .u32 gen, .int .u32 bound, .slice (some ⟨b, o, none⟩) l.length cap]] W (.agg #[.int .i64 0, .int .i64 0]) := fun W hb => iX gen bound b o cap l sv t m W (hM.below hb) hs ht hi
 have cC : ∀ W, Bl w W → Calls Tryz.prog 65 #[.agg #[.int .u32 gen, .int .u32 bound, .slice (some ⟨b, o, none⟩) l.length cap]] W fun r w' => (∃ g c, r = .returned (.tuple #[.slice (some ⟨g, 0, none⟩) 1 c, .agg #[.int .i64 0, .int .i64 0]]) ∧ ∃ b2 c2, Ej g b2 c2 id lab y st en W.heap.size w') ∧ Bl W w' := fun W hb => (AC gen bound _ cap l t m W (hS.below fO.lasts hb) hs ht).mono fun r w' h => by
  obtain ⟨⟨g, c, h1, h2⟩, h3⟩ := h;rw [hid_, hlab_] at h2;obtain ⟨b2, c2, k1, k2, k3, k4, k5, k6⟩ := h2.c3;refine ⟨⟨g, c, h1, b2, c2, h2.low, k2, ⟨h2.lt, h2.c0, hy ▸ h2.c1, h2.c2, k1, hen ▸ h2.c4⟩, ⟨rfl, k3, k4, hst ▸ k5, hen ▸ k6⟩⟩, h3⟩
 have HM := hid hM;have HH1 := hid h1;have hF := hid (And.intro hs (And.intro ht he));have hE := hid (And.intro hy (And.intro hst hen));clear hM hS hs hi h1 ht he hid_ hlab_ hy hst hen;have HO := Own.nil w;go_enter Tryz.func272, Tryz.ntmps272;go_wp2_with (first | ((first | (with_reducible refine bf HO ?_; intro g hg; rw [← hg.out]; clear hg) | (with_reducible refine ah HO ?_) | (refine ay 39 HO ?_) | (refine ay 137 HO ?_)); clear HO; (try clear kk); intro W' HO kk) | (go_at_call 91; with_reducible refine bq HO (cI _ HO.below) ?_; clear HO; (try clear kk); intro w1 HO kk) | (go_at_call 65; (with_reducible refine (cC _ HO.below).mono ?_); rintro e w1 ⟨⟨g, c, rfl, b2, c2, q⟩, hn1⟩; replace HO := HO.deep hn1 q; clear hn1 q; (try clear kk); (try simp only [yD] at HO); have kk := HO.kk));have q := (HO.at 1 rfl : aO _ _ _ _).out (fE _ _ _ _ _ _ _ _);have qB : kN _ b1 c1 id y en W' := ⟨HO.lt 4 rfl, HO.cell 4 0 rfl rfl, HO.cell 4 1 rfl rfl, HO.cell 4 2 rfl rfl, HO.cell 4 3 rfl rfl, HO.cell 4 4 rfl rfl⟩;have cK := uE _ _ c b2 b1 c2 c1 id lab y st en en W' q.at_ q.mem qB (HH1.out.below HO.below);refine cK.mono ?_;clear cK q qB;rintro e w1 ⟨rfl, hn1⟩;replace HO := HO.then hn1
 clear hn1 cI cC;(try clear kk);(try simp only [yD] at HO); have kk := HO.kk;have hmm := @run_makeMap Tryz.prog;have e0 := HH1.out.h0;have e1 := HH1.out.h1;have e2 := HH1.out.h2;have ze := HH1.out.lt;go_upto_region 10 with (first | ((first | (with_reducible refine bf HO ?_; intro g hg; rw [← hg.out]; clear hg) | (with_reducible refine ah HO ?_)); clear HO; (try clear kk); intro W' HO kk))
 replace HO := HO.sub (List.Sublist.cons_cons _ (.cons _ (.cons _ (.cons _ (.refl _)))));(try clear kk);(try simp only [yD] at HO); have kk := HO.kk;go_cut [52, 53] from 54 (fun s52 s53 wx => s52 = .int .i64 0 ∧ s53 = .int .i64 0 ∧ wx = W')
 case first =>
  by_cases hc : c1 = 1
  ·subst hc
   go_wp2_with fail;go_meet;exact ⟨rfl, rfl, rfl⟩
  ·go_wp2_with fail
   go_meet;exact ⟨rfl, rfl, rfl⟩
 case rest =>
 obtain ⟨rfl, rfl, rfl⟩ := hcut;go_wp2_with fail;refine wp_loop_rounds 1 ?_;rw [rounds_succ];go_wp2_with (first | ((first | (with_reducible refine bf HO ?_; intro g hg; rw [← hg.out]; clear hg) | (with_reducible refine ah HO ?_)); clear HO; (try clear kk); intro W' HO kk));refine wp_loop_rounds 2 ?_;rw [rounds_succ];clear hmm;have i1 : en - 1 = (m : Int) := by have := hE.out.2.2; omega
 have zm := (HM.out).lt;have lm : m < l.length := by have := hl2.out; omega
 have g0 := HM.out.op m lm;have g1 := HM.out.ty m lm;have g2 := HM.out.res m lm;have g3 := HM.out.args m lm;go_wp2_with (first | ((first | (with_reducible refine bf HO ?_; intro g hg; rw [← hg.out]; clear hg) | (with_reducible refine ah HO ?_) | (refine ay 207 HO ?_) | (refine ay 73 HO ?_)); clear HO; (try clear kk); intro W' HO kk));obtain ⟨p, hp⟩ : ∃ p, Hid (p + 1 = m) := ⟨m - 1, hid (by have := hf2.out; omega)⟩;have i2 : en - 2 = (p : Int) := by have := hE.out.2.2; have := hp.out; omega
 have lm1 : p < l.length := by have := hp.out; omega
 have hw : IntKind.i64.wrap (p : Int) = p := by rw [IntKind.wrap_i64]; omega
 have g0' := HM.out.op p lm1;have g1' := HM.out.ty p lm1;have g2' := HM.out.res p lm1;have g3' := HM.out.args p lm1;have hno : l[p].op ≠ 246 ∧ l[p].op ≠ 247 := by
  have hpm : m - 1 = p := by have := hp.out; omega
  have := hF.out.2.2.no1 (by omega);simp only [hpm] at this;exact this
 have cM := fun mm W => Df mm l[p].op l[p].ty l[p].res undef undef #[.int .u16 l[m].op, .int .u32 l[m].ty, .int .u32 l[m].res, .slice (sv m).1 l[m].args.length (sv m).2] (sv p).1 l[p].args.length (sv p).2 W hno.1 hno.2 rfl (by simp [Value.oneCell'])
 clear hno;obtain ⟨L0, hL, HO3⟩ := bE HO
 try simp only [Act.put]
 have zm' : b < W'.heap.size := Nat.lt_of_lt_of_le zm HO.size;(try have z0 := HO.lt 0 rfl); (try have z1 := HO.lt 1 rfl); (try have z2 := HO.lt 2 rfl); (try have z3 := HO.lt 3 rfl); (try have z4 := HO.lt 4 rfl); (try have z5 := HO.lt 5 rfl); (try have z6 := HO.lt 6 rfl); skip;have zB := Nat.le_refl W'.heap.size;have B0 := Below.refl W'.heap.size W';clear HO;go_cut [18, 19] from 79 (fun s18 s19 wx => ∃ q, s18 = .pointer (some ⟨q, 0, none⟩) ∧ s19 = .bool true ∧ Own aK w (aP q #[.int .u8 0, .int .i64 (-1), .int .i64 (-1)] 410 :: L0) wx)
 case first =>
  go_region_held3 (fun W => (∀ b j, b < W'.heap.size → W.cell? ⟨b, j, none⟩ = W'.cell? ⟨b, j, none⟩) ∧ Bl W' W) ((refine mkS W' _ ?_; repeat (first | exact B0 | refine aQ ?_ | refine bP ?_ _ | refine az ?_ hn1.out | refine aG ?_ (by first | assumption | omega) _ | refine aR ?_ (by first | assumption | omega))))
   (first | ((go_at_call 306; (with_reducible refine (cM _ _).mono ?_); rintro e w1 ⟨rfl, hn⟩; have hn1 := hid hn; clear hn; have hz1 := hn1.out.size; (try simp only [World.size_alloc, aN] at hz1); (first | (have hr := vF hn1.out; have rz := (fun j => frozen_of_row _ _ j _ _ hr); have rc := (fun j => cell_of_row _ _ j _ _ _ hr); have rl := pM hr; (try simp only [World.size_alloc, aN] at hr); have HR := hid hr; clear hr; (try simp only [World.size_alloc, aN] at rz rc rl)) | (have hr := Ay hn1.out; have rz := (fun j => frozen_of_row _ _ j _ _ hr); have rc := (fun j => cell_of_row _ _ j _ _ _ hr); have rl := pM hr; (try simp only [World.size_alloc, aN] at hr); have HR := hid hr; clear hr; (try simp only [World.size_alloc, aN] at rz rc rl)) | skip); (first | (have hr := ul hn1.out; have rz2 := (fun j => frozen_of_row _ _ j _ _ hr); have rc2 := (fun j => cell_of_row _ _ j _ _ _ hr); have rl2 := pM hr; (try simp only [World.size_alloc, aN] at hr); have HR2 := hid hr; clear hr; (try simp only [World.size_alloc, aN] at rz2 rc2 rl2)) | (have hr := vz hn1.out; have rz2 := (fun j => frozen_of_row _ _ j _ _ hr); have rc2 := (fun j => cell_of_row _ _ j _ _ _ hr); have rl2 := pM hr; (try simp only [World.size_alloc, aN] at hr); have HR2 := hid hr; clear hr; (try simp only [World.size_alloc, aN] at rz2 rc2 rl2)) | skip))))
  all_goals
   go_wp2_with fail;go_meet;refine ⟨_, rfl, rfl, HO3.made ?_ ?_ ?_⟩
   ·repeat (first | exact B0 | refine aQ ?_ | refine bP ?_ _ | refine az ?_ hn1.out | refine aG ?_ (by first | assumption | omega) _ | refine aR ?_ (by first | assumption | omega))
   all_goals first | ((try simp only [World.size_alloc, aN, fw]); omega) | (simp (disch := first | omega | (simp only [World.size_alloc, aN, fw] <;> omega) | fail) only [fe, jh, fu, mq]; done) | (simp (disch := first | omega | (simp only [World.size_alloc, aN, fw] <;> omega) | fail) only [fe, jh, fu, mq, hA1]; done) | (simp (disch := first | omega | (simp only [World.size_alloc, aN, fw] <;> omega) | fail) only [fe, fu, fT HR.out]; rfl) | (simp (disch := first | omega | (simp only [World.size_alloc, aN, fw] <;> omega) | fail) only [fe, fu, fT HR2.out]; rfl) | exact (fT (fT (fT HR.out 0 _) 1 _) 2 _).trans rfl
 case rest =>
 obtain ⟨q, rfl, rfl, HO⟩ := hcut;rw [hL.out] at HO;clear HO3 hL B0 zB cM hw;(try clear kk);(try clear z0); (try clear z1); (try clear z2); (try clear z3); (try clear z4); (try clear z5); (try clear z6);(try simp only [yD] at HO); have kk := HO.kk;have hop : l[m].op = 253 := hF.out.2.2.op lm;have harg : l[m].args.length = 0 := by rw [hF.out.2.2.args lm]; rfl
 have cT : ∀ W, Qc 308 #[.agg #[.int .u16 l[m].op, .int .u32 l[m].ty, .int .u32 l[m].res, .slice (sv m).1 l[m].args.length (sv m).2]] W (.slice none 0 0) := fun W => by
  have := Bq l[m].ty l[m].res (sv m).1 (sv m).2 W;rw [hop, harg];exact this
 have cA := fun mm W => Ke mm W
 clear hop harg g0 g1 g2 g3 g0' g1' g2' g3';go_wp2_with (first | ((first | (with_reducible refine bf HO ?_; intro g hg; rw [← hg.out]; clear hg) | (with_reducible refine ah HO ?_)); clear HO; (try clear kk); intro W' HO kk) | (refine bG 73 HO Tryz.underlying73 ?_) | (refine bG 410 HO Tryz.underlying410 ?_) | (go_at_call 308; with_reducible refine bq HO (cT _) ?_; clear HO; (try clear kk); intro w1 HO kk) | (go_at_call 307; (with_reducible refine (cA _ _).mono ?_); rintro e w1 ⟨rfl, rfl⟩) | ((with_reducible refine aA ?_); refine ru HO Km 0 rfl rfl _ _ rfl rfl rfl rfl (by simp [Value.oneCell']) (by omega) ?_; intro gm cm W' HO'; clear HO; (try clear kk); have HO := HO'; clear HO'; (try simp only [yD] at HO); have kk := HO.kk) | ((with_reducible refine aA ?_); refine ru HO Mw 0 rfl rfl _ _ rfl rfl rfl rfl (by simp [Value.oneCell']) (by omega) ?_; intro gn cn W' HO'; clear HO; (try clear kk); have HO := HO'; clear HO'; (try simp only [yD] at HO); have kk := HO.kk));have HO := HO.sub (.cons_cons _ (.cons _ (.cons_cons _ (.cons _ (.cons _ (.cons _ (.cons _ (.cons _ (.cons_cons _ (.cons _ (.cons _ .slnil)))))))))));(try clear kk);(try simp only [yD] at HO); have kk := HO.kk;clear cT cA;rw [rounds_succ];go_wp2_with fail;have z7 : gn < W'.heap.size := (HO.low _ (List.mem_cons_self ..) gn rfl).2;have cG := EB gn 0 cn 0 none W' z7 (HO.rowcell 0 0 rfl rfl);refine cG.mono ?_;clear cG;rintro e w1 ⟨⟨G2, rfl, q1⟩, hn⟩;have HZ := hid HO.size;replace HO := HO.deep (P := fun lo W => eZ G2 lo W) hn q1;clear hn q1;(try clear kk);(try simp only [yD] at HO); have kk := HO.kk;go_wp2_with (first | ((first | (with_reducible refine ah HO ?_) | (refine ay 39 HO ?_)); clear HO; (try clear kk); intro W' HO kk));trace_state;refine bodyPost_ret_by (qV rfl _ _ _ 39 #[.int .i64 0, .int .i64 0] _ _ rfl (HO.blk 3 rfl) Tryz.underlying39 rfl aC) rfl ?_;have hg := (HO.at 0 rfl : aO _ _ _ _).out (eZ.keeps G2);exact ⟨⟨G2, gm, cm, rfl, eZ.lower hg HZ.out, HO.rowle 2 rfl, HO.rowcell 2 0 rfl rfl, HO.rowcell 2 1 rfl rfl, HO.rowcell 2 2 rfl rfl⟩, HO.below⟩
end Go.Proofs.YtlkolghiknbbfaaGreatDoor
