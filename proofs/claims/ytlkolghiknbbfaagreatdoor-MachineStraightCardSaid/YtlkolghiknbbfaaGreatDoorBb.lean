/- Calls of one function that calls none: first, made. -/
import Derived.Test.YtlkolghiknbbfaaGreatDoorAw
set_option linter.unusedVariables false
set_option linter.unusedSimpArgs false
set_option maxRecDepth 100000
set_option maxHeartbeats 4000000
namespace Go.Proofs.YtlkolghiknbbfaaGreatDoor
open Go.RowKit
theorem Dl (i : In) (a : Option Addr) (cap : Nat) (w : World) (h : Sl 3 cz w a i.args) (hl : i.args.length ≤ 1048576) :
  Qc 92 #[.agg #[.int .u16 i.op, .int .u32 i.ty, .int .u32 i.res, .slice a i.args.length cap]] w (.int .u32 (pJ i.args)) := by
 obtain ⟨op, ty, res, args⟩ := i;simp only at h hl ⊢;have HO := Own.nil w
 cases args with
 | nil =>
  go_enter Tryz.func92, Tryz.ntmps92;go_wp2_with (first | ((with_reducible refine aM HO ?_); clear HO; (try clear kk); intro g W' hg HO; rw [← hg.out]; clear hg; (try simp only [yT] at HO); have kk := HO.kk));go_ret;exact ⟨rfl, HO.below⟩
 | cons x l =>
  obtain ⟨b, o, rfl, hlt, hx⟩ := h.head;obtain ⟨c0, c1, c2⟩ := yU hx;have hl1 : (0 : Int) < ((x :: l).length : Int) := by simp
  have hl2 : (((x :: l).length : Int) == 0) = false := by rw [beq_eq_false_iff_ne]; omega
  rw [show pJ (x :: l) = x.n from rfl];clear h;generalize (x :: l).length = n at hl hl1 hl2 ⊢;go_enter Tryz.func92, Tryz.ntmps92;go_wp2_with (first | ((with_reducible refine aM HO ?_); clear HO; (try clear kk); intro g W' hg HO; rw [← hg.out]; clear hg; (try simp only [yT] at HO); have kk := HO.kk));go_ret;exact ⟨rfl, HO.below⟩
theorem Fu (Bc Bn Bd C n cn d : Nat) (w : World) (hd : w.heap[d]? = some (.cells #[.int .i64 (-1)] 3 (0, 0))) (h1 : w.cell? ⟨Bc, 0, none⟩ = some (.pointer (some ⟨C, 0, none⟩))) (h2 : w.cell? ⟨C, 2, none⟩ = some (.slice (some ⟨d, 0, none⟩) 1 1)) (h3 : w.cell? ⟨Bn, 0, none⟩ = some (.slice (some ⟨n, 0, none⟩) 1 cn)) (h4 : w.cell? ⟨n, 0, none⟩ = some (.slice none 0 0)) (e1 : Bc ≠ d) (e2 : C ≠ d) (e3 : Bn ≠ d) (e4 : n ≠ d) :
  Calls Tryz.prog 138 #[.int .i64 0, .pointer (some ⟨Bc, 0, none⟩), .pointer (some ⟨Bn, 0, none⟩), .pointer (some ⟨Bd, 0, none⟩)] w fun e w' => e = .returned (.int .i64 0) ∧ Step (aP d #[.int .i64 (-1)] 3) (aP d #[.int .i64 0] 3) w w' := by
 have HO := Own.start (A := aP d #[.int .i64 (-1)] 3) hd (fun k hk => by cases hk; exact (Array.getElem?_eq_some_iff.1 hd).1);(try simp only [yD] at HO); have kk := HO.kk;clear hd;go_enter Tryz.func138, Tryz.ntmps138;go_wp2_with fail;refine wp_loop_rounds 1 ?_;rw [rounds_succ];go_wp2_with ((with_reducible refine JF 0 HO rfl ?_); intro W2 HO2; clear HO; (try clear kk); have HO := hid HO2; clear HO2; have b1 := HO.out.oldX h1 (show ¬ Bc = d from e1); have b2 := HO.out.oldX h2 (show ¬ C = d from e2); have k0 := Own.cells HO.out 0 rfl);go_ret;exact ⟨rfl, HO.out.done⟩
structure mY (C lo : Nat) (W : World) : Prop where
 low : lo ≤ C
 at_ : ∃ n r s cn cr : Nat, W.cell? ⟨C, 0, none⟩ = some (.slice (some ⟨n, 0, none⟩) 1 cn) ∧ W.cell? ⟨C, 1, none⟩ = some (.slice (some ⟨r, 0, none⟩) 1 cr) ∧ lo ≤ r ∧ W.cell? ⟨r, 0, none⟩ = some (.slice (some ⟨s, 0, none⟩) 1 1) ∧ lo ≤ s ∧ W.cell? ⟨s, 0, none⟩ = some (.bool true)
theorem mY.keep {C lo : Nat} {W W' : World} (h : mY C lo W) (hk : ∀ k, lo ≤ k → k < W.heap.size → W'.heap[k]? = W.heap[k]?) : mY C lo W' := by
 obtain ⟨n, r, s, cn, cr, h1, h2, l1, h3, l2, h4⟩ := h.at_;have hc : ∀ b j v, lo ≤ b → W.cell? ⟨b, j, none⟩ = some v → W'.cell? ⟨b, j, none⟩ = some v := fun b j v hb hv => (World.cell?_of_block (a := ⟨b, j, none⟩) (hk b hb (block_lt_of_cell hv))).trans hv
 exact ⟨h.low, n, r, s, cn, cr, hc _ _ _ h.low h1, hc _ _ _ h.low h2, l1, hc _ _ _ l1 h3, l2, hc _ _ _ l2 h4⟩
theorem mY.keeps (C : Nat) : jo (mY C) := fun _ _ _ h hk => h.keep hk
theorem mY.below {C lo : Nat} {W W' : World} (h : mY C lo W) (hb : Bl W W') : mY C lo W' := h.keep (fun k _ hk => hb.block k hk)
theorem Hy (n cn r : Nat) (w : World) (hn : w.cell? ⟨n, 0, none⟩ = some (.slice none 0 0)) :
  Calls Tryz.prog 95 #[.slice (some ⟨n, 0, none⟩) 1 cn, .slice (some ⟨r, 0, none⟩) 1 1] w fun e w' => ∃ C, e = .returned (.pointer (some ⟨C, 0, none⟩)) ∧ w.heap.size ≤ C ∧ w'.cell? ⟨C, 0, none⟩ = some (.slice (some ⟨n, 0, none⟩) 1 cn) ∧ w'.cell? ⟨C, 1, none⟩ = some (.slice (some ⟨r, 0, none⟩) 1 1) ∧ Bl w w' := by
 have HO := Own.nil w;have zn := block_lt_of_cell hn;go_enter Tryz.func95, Tryz.ntmps95;go_wp2_with (first | (((with_reducible refine aB HO ?_); intro g hg; rw [← hg.out]; clear hg); clear HO; (try clear kk); intro W' HO kk));have HN := hid hn;clear hn;obtain ⟨g_1, hg_1⟩ : ∃ q, q = g := ⟨g, rfl⟩;subst hg_1;have kk := HO.cell 0 0 rfl rfl;have zg := HO.lt 0 rfl;have B0 := Below.refl W'.heap.size W';have mk : ∀ W, Bl W' W → W.cell? ⟨g_1, 0, none⟩ = some (.slice (some ⟨n, 0, none⟩) 1 cn) ∧ Bl W' W := fun W hW => ⟨ae kk zg hW, hW⟩
 clear kk;go_cut [5, 13, 15] (fun s5 s13 s15 wx => ∃ q C d, s5 = .pointer (some ⟨q, 0, none⟩) ∧ s13 = .slice (some ⟨d, 0, none⟩) 1 1 ∧ s15 = .pointer (some ⟨C, 0, none⟩) ∧ Own aK w (aP q #[.pointer (some ⟨C, 0, none⟩)] 97 :: aP C #[.slice (some ⟨n, 0, none⟩) 1 cn, .slice (some ⟨r, 0, none⟩) 1 1, .slice (some ⟨d, 0, none⟩) 1 1] 241 :: aP d #[.int .i64 (-1)] 3 :: [aP g_1 #[.slice (some ⟨n, 0, none⟩) 1 cn] 166]) wx)
 case first =>
  go_region_held3 (fun W => W.cell? ⟨g_1, 0, none⟩ = some (.slice (some ⟨n, 0, none⟩) 1 cn) ∧ Bl W' W)
   ((refine mk _ ?_; repeat (first | exact B0 | refine aQ ?_ | refine bP ?_ _ | refine az ?_ hn1.out | refine aG ?_ (by first | assumption | omega) _ | refine aR ?_ (by first | assumption | omega))))
   (first | ((go_at_call 137; (with_reducible refine (Dw _ _ (by refine (cell_of_row _ _ 0 #[.int .i64 (-1)] 3 (0, 0) ?_).trans rfl; simp (disch := first | omega | (simp only [World.size_alloc, aN] <;> omega) | fail) only [fe, jh, fu])).mono ?_); rintro e w2 ⟨gA, rfl, hA1, hA2, hA3, hA4, hA5, hA6⟩; have hn1 := hA6; (try (have hr := vF hn1.out; have rz := frozen_of_row _ _ 0 _ _ hr; have rc := vC hr; have rl := pM hr; (try simp only [World.size_alloc, aN] at hr); have HR := hid hr; clear hr; (try simp only [World.size_alloc, aN] at rz rc rl))); (try (have hr := ul hn1.out; have rz2 := frozen_of_row _ _ 0 _ _ hr; have rc2 := vC hr; have rl2 := pM hr; (try simp only [World.size_alloc, aN] at hr); have HR2 := hid hr; clear hr; (try simp only [World.size_alloc, aN] at rz2 rc2 rl2))); (try simp only [World.size_alloc, aN] at hA2 hA4 hA5))))
  all_goals
   go_wp2_with fail;go_meet;refine ⟨_, _, _, rfl, rfl, rfl, HO.made3 ?_ ⟨?_, ?_⟩ ⟨?_, ?_⟩ ⟨?_, ?_⟩ ?_⟩
   ·repeat (first | exact B0 | refine aQ ?_ | refine bP ?_ _ | refine az ?_ hn1.out | refine aG ?_ (by first | assumption | omega) _ | refine aR ?_ (by first | assumption | omega))
   all_goals first | (refine ⟨?_, ?_, ?_⟩ <;> omega) | ((try simp only [World.size_alloc, aN, fw]); omega) | (simp (disch := first | omega | (simp only [World.size_alloc, aN, fw] <;> omega) | fail) only [fe, jh, fu, mq]; done) | (simp (disch := first | omega | (simp only [World.size_alloc, aN, fw] <;> omega) | fail) only [fe, jh, fu, mq, hA1]; done) | (simp (disch := first | omega | (simp only [World.size_alloc, aN, fw] <;> omega) | fail) only [fe, fu, fT HR.out]; rfl) | (simp (disch := first | omega | (simp only [World.size_alloc, aN, fw] <;> omega) | fail) only [fe, fu, fT HR2.out]; rfl) | exact (fT (fT (fT HR.out 0 _) 1 _) 2 _).trans rfl
 case rest =>
 obtain ⟨q, C, d, rfl, rfl, rfl, HO⟩ := hcut;clear B0 mk zg;(try simp only [yD] at HO); have kk := HO.kk;go_wp2_with (first | ((first | (with_reducible refine bf HO ?_; intro g hg; rw [← hg.out]; clear hg) | (with_reducible refine ah HO ?_)); clear HO; (try clear kk); intro W' HO kk));refine wp_loop_rounds 2 ?_;rw [rounds_succ];go_wp2_with fail;refine (Fu q g_1 g C n cn d W' (HO.blk 3 rfl) (HO.cell 1 0 rfl rfl) (HO.cell 2 2 rfl rfl) (HO.cell 4 0 rfl rfl) ((HO.old n 0 zn).trans HN.out) (HO.ne 1 3 rfl rfl (by omega)) (HO.ne 2 3 rfl rfl (by omega)) (Ne.symm (HO.ne 3 4 rfl rfl (by omega))) (by have := HO.le 3 rfl; omega)).mono ?_;rintro e w1 ⟨rfl, hs⟩;replace HO := HO.step 3 rfl hs;clear hs;(try clear kk);(try simp only [yD] at HO); have kk := HO.kk;go_wp2_with fail;rw [rounds_succ];go_wp2_with fail;go_ret;exact ⟨C, rfl, HO.le 2 rfl, HO.cell 2 0 rfl rfl, HO.cell 2 1 rfl rfl, HO.below⟩
end Go.Proofs.YtlkolghiknbbfaaGreatDoor
namespace Go.Proofs.YtlkolghiknbbfaaGreatDoor
open Go.RowKit Go.MapKept
theorem Jg (W : World) : (zeroValue 3).run Tryz.prog W = .ok (.int .i64 0) W := by kernel_rfl
theorem Ob {X : Nat → Prop} {w W : World} {L : List As} {mb : Nat} {f : Nat → Option Nat} (h : Own X w L W) (i : Nat) (hi : L[i]? = some (iO (.int .u32) bR encI mb f)) (id : Nat) :
  ∃ (v : Int) (bb : Bool), (Instr.lookup 126 (.map (some mb)) (.int .u32 id) true).run Tryz.prog W = .ok (.tuple #[.int .i64 v, .bool bb]) W := by
 cases hf : f id with
 | some j => exact ⟨j, true, Ic h i hi hf⟩
 | none => exact ⟨0, false, Mp.miss (h.at i hi) dK Tryz.underlying126 Tryz.underlying22 hf (Jg W) true⟩
theorem IE (gen bound : Nat) (b o cap : Nat) (l : List In) (sv : Nat → Option Addr × Nat) (t : Nat → Nat) (m : Nat) (w : World) (hM : Ms w b o l sv) (hs : iN bound l) (ht : jf l t m) (hi : nC l t) (hcap : l.length ≤ cap) (hc : ∀ k (h : k < l.length), l[k].op ≠ 57) :
  Calls Tryz.prog 63 #[.agg #[.int .u32 gen, .int .u32 bound, .slice (some ⟨b, o, none⟩) l.length cap]] w fun r w' => (∃ C, r = .returned (.tuple #[.pointer (some ⟨C, 0, none⟩), .agg #[.int .i64 0, .int .i64 0]]) ∧ mY C w.heap.size w') ∧ Bl w w' := by
 have hn := hs.len;have hl2 := hid ht.len;have hf2 := hid ht.fits;have cI : ∀ W, Bl w W → Qc 91 #[.agg #[.int .u32 gen, .int .u32 bound, .slice (some ⟨b, o, none⟩) l.length cap]] W (.agg #[.int .i64 0, .int .i64 0]) := fun W hb => iX gen bound b o cap l sv t m W (hM.below hb) hs ht hi
 have cC : ∀ W, Bl w W → _ := fun W hb => lW gen bound (some ⟨b, o, none⟩) cap l t m W (hM.below hb).back hs ht
 generalize (l.getD (t 8) ai).res = id at cC;generalize (l.getD (t 8 + 1) ai).res = lab at cC;obtain ⟨p, hp⟩ : ∃ p : Nat, Hid (p = t 8) := ⟨_, hid rfl⟩;obtain ⟨q, hq⟩ : ∃ q : Nat, Hid (q = m + 1) := ⟨_, hid rfl⟩;rw [← hp.out, ← hq.out] at cC;have HM := hid hM;have HC := hid hc;have i1 : p ≤ q := by have := hp.out; have := hq.out; have := hf2.out; omega
 have i3 : q < l.length := by have := hq.out; have := hl2.out; omega
 have i5 : q ≤ cap := by omega
 have i6 : ¬ cap = p := by omega
 clear hM hs ht hi hc;have HO := Own.nil w;have hmm := @run_makeMap Tryz.prog;have hmk : ∀ W : World, (Instr.makeSlice 166 (.int .i64 1) (.int .i64 1)).run Tryz.prog W = .ok (.slice (some ⟨W.heap.size, 0, none⟩) 1 1) (W.alloc (.cells #[.slice none 0 0] 128)) := fun W => by kernel_rfl
 go_enter Tryz.func63, Tryz.ntmps63;go_wp2_with (first | ((first | (with_reducible refine bf HO ?_; intro g hg; rw [← hg.out]; clear hg) | (with_reducible refine ah HO ?_) | (refine ay 39 HO ?_)); clear HO; (try clear kk); intro W' HO kk) | (go_at_call 91; with_reducible refine bq HO (cI _ HO.below) ?_; clear HO; (try clear kk); intro w1 HO kk) | (go_at_call 65; (with_reducible refine (cC _ HO.below).mono ?_); rintro e w1 ⟨⟨g, c, rfl, b2, c2, q⟩, hn1⟩; replace HO := HO.deep hn1 q; clear hn1 q; (try clear kk); (try simp only [yD] at HO); have kk := HO.kk));have qq := (HO.at 2 rfl : aO _ _ _ _).out (fE _ _ _ _ _ _ _ _);obtain ⟨zg, q0, q1, q2, q3, q4⟩ := qq.mem;clear qq;replace HO := HO.recast 0 (A' := iO (.int .u32) bR encI _ (fun _ => none)) rfl (fun k hk => hk) (fQ (HO.blk 0 rfl));simp only [yT] at HO;refine wp_loop_rounds 2 ?_;rw [rounds_succ];clear hmm;go_wp2_with (first | ((first | (with_reducible refine bf HO ?_; intro g hg; rw [← hg.out]; clear hg) | (with_reducible refine ah HO ?_) | (refine ay 137 HO ?_)); clear HO; (try clear kk); intro W' HO kk));obtain ⟨o2, hup, hm2⟩ := Mp.put (HO.at 1 rfl) dK Tryz.underlying126 Tryz.underlying22 id (.int .i64 0) 0 (fun _ _ _ h => h) (fun _ => rfl);have hup2 : (Instr.mapUpdate 126 (.map (some _)) (.int .u32 id) (.int .i64 0)).run Tryz.prog W' = .ok () (aT W' _ o2) := hup;replace HO := HO.map 1 o2 rfl hm2;simp only [yT] at HO;clear hm2 hup q0 q1 q2 q3 q4 zg;(try clear kk);rw [hup2];go_wp2_with fail;clear hup2;generalize aT W' _ o2 = W2 at HO ⊢;rw [rounds_succ];(try simp only [yD] at HO); have kk := HO.kk;go_wp2_with (first | ((first | (with_reducible refine bf HO ?_; intro g hg; rw [← hg.out]; clear hg) | (with_reducible refine ah HO ?_)); clear HO; (try clear kk); intro W' HO kk));replace HO := HO.sub (.cons_cons _ (.cons _ (.cons_cons _ (.cons _ (.cons_cons _ (.cons _ (.cons_cons _ (.cons_cons _ .slnil))))))));(try clear kk);(try simp only [yD] at HO); have kk := HO.kk;have qq := (HO.at 2 rfl : aO _ _ _ _).out (fE _ _ _ _ _ _ _ _);obtain ⟨zg, q0, q1, q2, q3, q4⟩ := qq.mem;clear qq;refine wp_loop_rounds 2 ?_;rw [rounds_succ];have zb : b < W'.heap.size := Nat.lt_of_lt_of_le HM.out.lt HO.size;go_wp2_with (first | ((first | (with_reducible refine bf HO ?_; intro g hg; rw [← hg.out]; clear hg) | (with_reducible refine ah HO ?_) | (refine ay 137 HO ?_)); clear HO; (try clear kk); intro W' HO kk));obtain ⟨L0, hL, HO⟩ := bE HO;have H0 := hid HO;obtain ⟨d, hd⟩ : ∃ d, Hid (d = q - p) := ⟨_, hid rfl⟩;rw [← hd.out];have i8 : (d : Int) ≤ 2000 := by have := hd.out; omega
 clear HO q0 q1 q2 q3 q4 zg zb;(try clear kk);go_loopw [14, 15, 16, 69] (fun _ _ _ x69 wr => ∃ k : Nat, k ≤ d ∧ x69 = .int .i64 k ∧ Own aK w L0 wr) (fun _ _ _ x _ => d - (intOf x).toNat)
 case atStart => exact ⟨0, by omega, rfl, H0.out⟩
 case round =>
  obtain ⟨k, hk, rfl, HO⟩ := hrel;rw [hL.out] at HO;by_cases hlt : k < d
  ·have hpk : p + k < l.length := by have := hd.out; omega
   have hMM := HM.out.below HO.below;have e0 := hMM.op (p + k) hpk;have e1 := hMM.ty (p + k) hpk;have e2 := hMM.res (p + k) hpk;have e3 := hMM.args (p + k) hpk;have zb := hMM.lt;have hsl := hid (HM.out.sl (p + k) hpk);have hal := hid (hMM.len (p + k) hpk);have t0 : ((l[p + k].op : Int) == 57) = false := by have := HC.out (p + k) hpk; rw [beq_eq_false_iff_ne]; omega
   rw [show o + (p + k) * 4 = o + p * 4 + k * 4 by omega] at e0 e1 e2 e3;have HLT := hid hlt;clear hMM;generalize l[p + k] = i at e0 e1 e2 e3 hsl hal t0;generalize sv (p + k) = s at e3 hsl;clear hpk hlt;obtain ⟨sa, sc⟩ := s;simp only at e3 hsl;have i7 : (k : Int) < d := by have := HLT.out; omega
   have cF : ∀ W, Bl w W → Qc 92 #[.agg #[.int .u16 i.op, .int .u32 i.ty, .int .u32 i.res, .slice sa i.args.length sc]] W (.int .u32 (pJ i.args)) := fun W hb => Dl i sa sc W (hsl.out.below cz.lasts hb) hal.out
   (try simp only [yD] at HO); have kk := HO.kk;go_wp2_with (first | ((first | (with_reducible refine bf HO ?_; intro g hg; rw [← hg.out]; clear hg) | (with_reducible refine ah HO ?_) | (refine ay 73 HO ?_)); clear HO; (try clear kk); intro W' HO kk) | (go_at_call 92; (with_reducible refine (cF _ HO.below).mono ?_); rintro e w1 ⟨rfl, hn1⟩; replace HO := HO.then hn1; clear hn1; (try clear kk); obtain ⟨lv, lb, hlk⟩ := Ob HO 3 rfl (pJ i.args); (try simp only [yD] at HO); have kk := HO.kk));exact ⟨⟨k + 1, HLT.out, by go_num, by rw [hL.out]; exact HO.drop 1⟩, by have := HLT.out; simp [intOf]; omega⟩
  ·obtain rfl : k = d := by omega
   have i7 : ¬ ((k : Int) < k) := by omega
   (try simp only [yD] at HO); have kk := HO.kk;go_wp2_with fail;rw [rounds_succ];go_wp2_with fail;refine (BP _ 0 1 wr (HO.cell 1 0 rfl rfl)).mono ?_;rintro e w2 ⟨g2, c3, rfl, hg2, hlo, hb⟩;replace HO := HO.deep (P := kX [(g2, 0, .slice none 0 0)]) hb (fun x hx => by cases List.mem_singleton.1 hx; exact ⟨hlo, hg2⟩);clear hb hg2 hlo;(try clear kk);go_wp2_with fail;refine (Cb g2 c3 w2 (HO.cellsAt 0 0 rfl rfl)).mono ?_;rintro e w3 ⟨r, s, rfl, hr, hs, h1, h2, hb⟩;have hwr := hid (And.intro (Nat.le_trans HO.size hr) (Nat.le_trans HO.size hs))
   replace HO := HO.deep (P := kX [(r, 0, .slice (some ⟨s, 0, none⟩) 1 1), (s, 0, .bool true)]) hb (fun x hx => by
    simp only [List.mem_cons, List.not_mem_nil, or_false] at hx;rcases hx with rfl | rfl
    ·exact ⟨hr, h1⟩
    ·exact ⟨hs, h2⟩)
   clear hb hr hs h1 h2 hmk H0 hL hd i7 i8 hk;replace HO := HO.sub (.cons_cons _ (.cons_cons _ (.cons _ (.cons _ (.cons _ (.cons_cons _ (.cons_cons _ (.cons_cons _ .slnil))))))));(try simp only [yD] at HO); have kk := HO.kk;have qq := (HO.at 2 rfl : aO _ _ _ _).out (fE _ _ _ _ _ _ _ _);obtain ⟨zg, q0, q1, q2, q3, q4⟩ := qq.mem;clear qq;go_wp2_with fail;refine wp_loop_rounds 2 ?_;rw [rounds_succ];go_wp2_with (first | ((first | (with_reducible refine bf HO ?_; intro g hg; rw [← hg.out]; clear hg) | (with_reducible refine ah HO ?_) | (refine ay 137 HO ?_)); clear HO; (try clear kk); intro W' HO kk));obtain ⟨L1, hL, HO⟩ := bE HO;have H0 := hid HO;clear HO q0 q1 q2 q3 q4 zg;(try clear kk);rename_i wq;go_loopw [20] (fun x20 wr => ∃ k : Nat, p ≤ k ∧ k ≤ q ∧ x20 = .int .i64 k ∧ Own aK w L1 wr) (fun x _ => q - (intOf x).toNat)
   case atStart => exact ⟨p, by omega, i1, rfl, H0.out⟩
   case round =>
    obtain ⟨k, hk1, hk, rfl, HO⟩ := hrel;have H2 := hid HO;rw [hL.out] at HO;by_cases hlt : k < q
    ·have hpk : k < l.length := by omega
     have hMM := HM.out.below HO.below;have e0 := hMM.op k hpk;have zb := hMM.lt;have t0 : ((l[k].op : Int) == 57) = false := by have := HC.out k hpk; rw [beq_eq_false_iff_ne]; omega
     have HLT := hid hlt;clear hMM;generalize l[k].op = iop at e0 t0;have i7 : (k : Int) < q := by omega
     have i9 : (k : Int) < l.length := by omega
     clear hpk hlt;(try simp only [yD] at HO); have kk := HO.kk;go_wp2_with fail;exact ⟨⟨k + 1, by omega, HLT.out, by go_num, H2.out⟩, by have := HLT.out; simp [intOf]; omega⟩
    ·obtain rfl : k = q := by omega
     have i7 : ¬ ((k : Int) < k) := by omega
     (try simp only [yD] at HO); have kk := HO.kk;go_wp2_with fail;rw [rounds_succ];go_wp2_with fail;refine (Hy g2 c3 r wr (HO.cellsAt 2 0 rfl rfl)).mono ?_;rintro e w5 ⟨C, rfl, hC, h1, h2, hb⟩;have hlow := hid HO.size
     replace HO := HO.deep (P := kX [(C, 0, .slice (some ⟨g2, 0, none⟩) 1 c3), (C, 1, .slice (some ⟨r, 0, none⟩) 1 1)]) hb (fun x hx => by
      simp only [List.mem_cons, List.not_mem_nil, or_false] at hx;rcases hx with rfl | rfl
      ·exact ⟨hC, h1⟩
      ·exact ⟨hC, h2⟩)
     clear hb h1 h2;(try clear kk);(try simp only [yD] at HO); have kk := HO.kk;go_wp2_with (first | ((first | (with_reducible refine ah HO ?_) | (refine ay 39 HO ?_)); clear HO; (try clear kk); intro W' HO kk));refine bodyPost_ret_by (bU rfl _ _ _ 39 #[.int .i64 0, .int .i64 0] _ _ rfl (HO.blk 5 rfl) Tryz.underlying39 rfl aC) rfl ?_;exact ⟨⟨C, rfl, Nat.le_trans hlow.out hC, g2, r, s, c3, 1, HO.cellsAt 0 0 rfl rfl, HO.cellsAt 0 1 rfl rfl, hwr.out.1, HO.cellsAt 2 0 rfl rfl, hwr.out.2, HO.cellsAt 2 1 rfl rfl⟩, HO.below⟩
end Go.Proofs.YtlkolghiknbbfaaGreatDoor
