/- Layout: Check, Cut, Parts. -/
import Derived.Test.YtlkolghiknbbfaaGreatDoorAj
import Derived.Test.YtlkolghiknbbfaaGreatDoorAf
set_option linter.unusedVariables false
set_option linter.unusedSimpArgs false
set_option maxRecDepth 100000
set_option maxHeartbeats 4000000
namespace Go.Proofs.YtlkolghiknbbfaaGreatDoor
open Go.RowKit
theorem CZ (gen bound : Nat) (a : Option Addr) (cap : Nat) (l : List In) (t : Nat → Nat) (m : Nat) (w : World) (h : Sl 4 fO w a l) (hs : iN bound l) (ht : jf l t m) :
  Qc 233 #[.agg #[.int .u32 gen, .int .u32 bound, .slice a l.length cap]] w (.agg #[.int .i64 0, .int .i64 0]) := by
 have cR : ∀ W, Bl w W → Calls Tryz.prog 96 #[.agg #[.int .u32 gen, .int .u32 bound, .slice a l.length cap]] W fun r w' => (∃ g, r = .returned (.tuple #[.pointer (some ⟨g, 0, none⟩), .agg #[.int .i64 0, .int .i64 0]])) ∧ Bl W w' := fun W hW => (rG gen bound a cap l t m W (h.below fO.lasts hW) hs ht).mono fun r w' hr => by
  obtain ⟨g, h1, h2⟩ := hr;exact ⟨⟨g, h1⟩, h2.below⟩
 clear h hs ht;have HO := Own.nil w;go_enter Tryz.func233, Tryz.ntmps233;go_wp2_with (first | ((first | (with_reducible refine bf HO ?_; intro g hg; rw [← hg.out]; clear hg) | (with_reducible refine ah HO ?_) | (refine ay 39 HO ?_)); clear HO; (try clear kk); intro W' HO kk) | (refine bG 34 HO Tryz.underlying34 ?_) | (refine bG 39 HO Tryz.underlying39 ?_) | (go_at_call 96; (with_reducible refine (cR _ HO.below).mono ?_); rintro e w1 ⟨⟨g, rfl⟩, hn⟩; replace HO := HO.then hn; clear hn; (try clear kk); (try simp only [yD] at HO); have kk := HO.kk));refine bodyPost_ret_by (bF rfl _ _ _ 39 #[.int .i64 0, .int .i64 0] _ _ rfl (HO.blk 1 rfl) Tryz.underlying39 rfl aC) rfl ?_;exact ⟨rfl, HO.below⟩
structure Np (g gf c1 : Nat) (a : Option Addr) (n cap : Nat) (t : Nat → Nat) (m id lab lo : Nat) (W : World) : Prop where
 low : lo ≤ g
 cu : Cu g a n cap n (dB t n) (.slice (some ⟨gf, 0, none⟩) 1 c1) W
 fn : kJ W lo gf (t 8) m id lab
theorem kJ.keep2 {w w' : World} {lo g at_ m id lab : Nat} (h : kJ w lo g at_ m id lab) (hb : ∀ k, lo ≤ k → k < w.heap.size → w'.heap[k]? = w.heap[k]?) : kJ w' lo g at_ m id lab := by
 obtain ⟨gb, cb, a1, a2, a3, a4, a5, a6⟩ := h.c3;have hg : ∀ i, w'.cell? ⟨g, i, none⟩ = w.cell? ⟨g, i, none⟩ := fun i => World.cell?_of_block (a := ⟨g, i, none⟩) (hb g h.low h.lt)
 have hk : ∀ i, w'.cell? ⟨gb, i, none⟩ = w.cell? ⟨gb, i, none⟩ := fun i => World.cell?_of_block (a := ⟨gb, i, none⟩) (hb gb a2 a3)
 have hz : ∀ k, lo ≤ k → k < w.heap.size → k < w'.heap.size := fun k h1 h2 => by
  have := hb k h1 h2;rw [Array.getElem?_eq_getElem h2] at this;exact (Array.getElem?_eq_some_iff.1 this).1
 exact ⟨h.low, hz g h.low h.lt, (hg 0).trans h.c0, (hg 1).trans h.c1, (hg 2).trans h.c2, ⟨gb, cb, (hg 3).trans a1, a2, hz gb a2 a3, (hk 0).trans a4, (hk 1).trans a5, (hk 2).trans a6⟩, (hg 4).trans h.c4⟩
theorem Np.keeps (g gf c1 : Nat) (a : Option Addr) (n cap : Nat) (t : Nat → Nat) (m id lab : Nat) : jo (Np g gf c1 a n cap t m id lab) := fun lo W W' h hk => ⟨h.low, h.cu.other (hk g h.low h.cu.lt), h.fn.keep2 hk⟩
theorem AC (gen bound : Nat) (a : Option Addr) (cap : Nat) (l : List In) (t : Nat → Nat) (m : Nat) (w : World) (h : Sl 4 fO w a l) (hs : iN bound l) (ht : jf l t m) :
  Calls Tryz.prog 65 #[.agg #[.int .u32 gen, .int .u32 bound, .slice a l.length cap]] w fun r w' => (∃ g c, r = .returned (.tuple #[.slice (some ⟨g, 0, none⟩) 1 c, .agg #[.int .i64 0, .int .i64 0]]) ∧ kJ w' w.heap.size g (t 8) m (l.getD (t 8) ai).res (l.getD (t 8 + 1) ai).res) ∧ Bl w w' := by
 have cR : ∀ W, Bl w W → Calls Tryz.prog 96 #[.agg #[.int .u32 gen, .int .u32 bound, .slice a l.length cap]] W fun r w' => (∃ g gf c1, r = .returned (.tuple #[.pointer (some ⟨g, 0, none⟩), .agg #[.int .i64 0, .int .i64 0]]) ∧ Np g gf c1 a l.length cap t m (l.getD (t 8) ai).res (l.getD (t 8 + 1) ai).res W.heap.size w') ∧ Bl W w' := fun W hW => (rG gen bound a cap l t m W (h.below fO.lasts hW) hs ht).mono fun r w' hr => by
  obtain ⟨g, h1, h2⟩ := hr;obtain ⟨gf, c1, k1, k2⟩ := h2.cu;exact ⟨⟨g, gf, c1, h1, h2.low, k1, k2⟩, h2.below⟩
 clear h hs ht;generalize (l.getD (t 8) ai).res = id at cR ⊢;generalize (l.getD (t 8 + 1) ai).res = lab at cR ⊢;have HO := Own.nil w;go_enter Tryz.func65, Tryz.ntmps65;go_wp2_with (first | ((first | (with_reducible refine bf HO ?_; intro g hg; rw [← hg.out]; clear hg) | (with_reducible refine ah HO ?_) | (refine ay 39 HO ?_)); clear HO; (try clear kk); intro W' HO kk) | (refine bG 34 HO Tryz.underlying34 ?_) | (refine bG 39 HO Tryz.underlying39 ?_) | (go_at_call 96; (with_reducible refine (cR _ HO.below).mono ?_); rintro e w1 ⟨⟨gq, gf, c1, rfl, hr⟩, hn⟩; have hlo := hid HO.size; replace HO := HO.deep hn hr; clear hn hr; (try clear kk); (try simp only [yD] at HO); have kk := HO.kk));have q3 : W'.cell? ⟨gq, 22, none⟩ = some (.slice (some ⟨gf, 0, none⟩) 1 c1) := (aO.out (HO.at 1 rfl) (Np.keeps _ _ _ _ _ _ _ _ _ _)).cu.cell 22 (by omega);go_region;go_wp2_with fail;have H := ((HO.set 2 0 (.int .i64 0) rfl).set 2 1 (.int .i64 0) rfl).drew;refine bodyPost_ret_by (bU rfl _ _ _ 39 #[.int .i64 0, .int .i64 0] _ _ rfl (H.blk 2 rfl) Tryz.underlying39 rfl aC) rfl ?_;have hf := (aO.out (H.at 1 rfl) (Np.keeps _ _ _ _ _ _ _ _ _ _)).fn;refine ⟨⟨gf, c1, rfl, hf.lower hlo.out⟩, H.below⟩
theorem aL {P : Program} {ops : Array Oper} {o : Oper} {a : Act} {w : World} {K : Act → World → Prop} {Q : Exit → Act → World → Prop} {E : Prop} (hgd : o.guard = none) (h : o.wp P a w K Q) : if Region.wanted o (yielded ops a.tmps) = true then o.wp P a w K Q else E := by
 rw [if_pos (by simp [Region.wanted, hgd])]; exact h
theorem gU {P : Program} {fn : Func} {p u : Tmp} {ty ty' : TypeId} (h : fn.results = #[.cell p ty, .cell u ty']) (tmps : Array Value) (w : World) (g g' : Nat) (t t' : TypeId) (cs cs' : Array Value) (fr fr' : Nat × Nat) (d d' : TypeDesc)
  (hp : tmps.getD p undef = .pointer (some ⟨g, 0, none⟩)) (hg : w.heap[g]? = some (.cells cs t fr)) (hu : P.underlying ty = some d) (hd : (match d with | .struct _ | .array _ _ => true | _ => false) = true) (hi : (P.info? ty).map (·.size) = some cs.size)
  (hp' : tmps.getD u undef = .pointer (some ⟨g', 0, none⟩)) (hg' : w.heap[g']? = some (.cells cs' t' fr')) (hu' : P.underlying ty' = some d') (hd' : (match d' with | .struct _ | .array _ _ => true | _ => false) = true) (hi' : (P.info? ty').map (·.size) = some cs'.size) :
  (results fn tmps).run P w = .ok (.tuple #[.agg cs, .agg cs']) w := by
 have e : (results fn tmps).run P w = ((asAddr (tmps.getD p undef)).run P w).andThen fun a w₁ => ((loadVar ty a).run P w₁).andThen fun x w₂ => ((asAddr (tmps.getD u undef)).run P w₂).andThen fun a2 w₃ => ((loadVar ty' a2).run P w₃).andThen fun y w₄ => .ok (.tuple #[x, y]) w₄ := by
  simp only [results, h];simp [Sem.run_bind, Result.andThen]
 rw [e, hp, hp'];simp only [asAddr, Sem.run_pure, Result.andThen_ok, run_loadVar_row w g t ty cs fr d hg hu hd hi, run_loadVar_row w g' t' ty' cs' fr' d' hg' hu' hd' hi']
def dW (t : Nat → Nat) (n : Nat) : List Value := (List.range 20).map fun i => Value.int .i64 (dB t n i)
def lN (t : Nat → Nat) (n : Nat) : Value := .agg (dW t n).toArray
theorem uY (gen bound : Nat) (a : Option Addr) (cap : Nat) (l : List In) (t : Nat → Nat) (m : Nat) (w : World) (h : Sl 4 fO w a l) (hs : iN bound l) (ht : jf l t m) :
  Qc 88 #[.agg #[.int .u32 gen, .int .u32 bound, .slice a l.length cap]] w (.tuple #[lN t l.length, .agg #[.int .i64 0, .int .i64 0]]) := by
 have cR : ∀ W, Bl w W → Calls Tryz.prog 96 #[.agg #[.int .u32 gen, .int .u32 bound, .slice a l.length cap]] W fun r w' => (∃ g gf c1, r = .returned (.tuple #[.pointer (some ⟨g, 0, none⟩), .agg #[.int .i64 0, .int .i64 0]]) ∧ Np g gf c1 a l.length cap t m (l.getD (t 8) ai).res (l.getD (t 8 + 1) ai).res W.heap.size w') ∧ Bl W w' := fun W hW => (rG gen bound a cap l t m W (h.below fO.lasts hW) hs ht).mono fun r w' hr => by
  obtain ⟨g, h1, h2⟩ := hr;obtain ⟨gf, c1, k1, k2⟩ := h2.cu;exact ⟨⟨g, gf, c1, h1, h2.low, k1, k2⟩, h2.below⟩
 clear h hs ht;generalize (l.getD (t 8) ai).res = id at cR ⊢;generalize (l.getD (t 8 + 1) ai).res = lab at cR ⊢;have HO := Own.nil w;go_enter Tryz.func88, Tryz.ntmps88;go_wp2_with (first | ((first | (with_reducible refine bf HO ?_; intro g hg; rw [← hg.out]; clear hg) | (with_reducible refine ah HO ?_) | (refine ay 39 HO ?_)); clear HO; (try clear kk); intro W' HO kk) | (refine bG 34 HO Tryz.underlying34 ?_) | (refine bG 39 HO Tryz.underlying39 ?_) | (go_at_call 96; (with_reducible refine (cR _ HO.below).mono ?_); rintro e w1 ⟨⟨gq, gf, c1, rfl, hr⟩, hn⟩; have hgd := hid (And.intro hr.low hr.cu.lt); replace HO := HO.deep hn hr; clear hn hr; (try clear kk); (try simp only [yD] at HO); have kk := HO.kk));have rd : ∀ lo W, Np gq gf c1 a l.length cap t m id lab lo W → W.rangeAt gq 2 (dW t l.length) := fun lo W hW j v hv => by
  unfold dW at hv;rw [List.getElem?_map] at hv;rcases Nat.lt_or_ge j 20 with hj | hj
  ·rw [List.getElem?_range hj] at hv
   cases hv
   exact (hW.cu.cell (2 + j) (by omega)).trans (by unfold Dn; rw [if_neg (by omega), if_neg (by omega), if_neg (by omega), show 2 + j - 2 = j by omega])
  ·rw [List.getElem?_eq_none (by simpa using hj)] at hv
   cases hv
 have KP := Np.keeps gq gf c1 a l.length cap t m id lab;have hsz : (dW t l.length).length = 20 := by simp [dW]
 have h1c : (dW t l.length).toArray.all (·.oneCell') = true := by simp [dW, Value.oneCell']
 have hi81 : (Tryz.prog.info? 155).map (·.size) = some (dW t l.length).length := by rw [hsz]; kernel_rfl
 have HD := hid HO.drew;have HL := hid (show (dW t l.length).toArray.size = 20 from hsz);have HI : (Tryz.prog.info? 155).map (·.size) = some (dW t l.length).toArray.size := hi81;clear HO;(try clear kk);have hpq : lN t l.length = .agg (dW t l.length).toArray := rfl;have HPQ := hid hpq;clear hpq;generalize dW t l.length = pl at rd hi81 h1c HL hsz HI HPQ;refine wp_region_any (by kernel_rfl) ?_;change wpAny _ _ _ _ _ _ _ (World.drew _);refine wpAny_ready (rs := [0, 4]) (by kernel_rfl) (by simp) ?_;refine AllReady.cons rfl (fun K hK => ?_) ?_
 ·refine aL rfl ?_; go_simp
  refine hK _ _ ?_;clear hK K;refine wpAny_ready (rs := [1, 4]) (by kernel_rfl) (by simp) ?_;refine AllReady.cons rfl (fun K hK => ?_) ?_
  ·refine aL rfl ?_; go_simp
   refine hK _ _ ?_;clear hK K;refine wpAny_ready (rs := [2, 4]) (by kernel_rfl) (by simp) ?_;refine AllReady.cons rfl (fun K hK => ?_) ?_
   ·refine aL rfl ?_; go_simp
    refine hK _ _ ?_;clear hK K;refine wpAny_ready (rs := [3, 4]) (by kernel_rfl) (by simp) ?_;refine AllReady.cons rfl (fun K hK => ?_) ?_
    ·(refine aL rfl (wp_load_mid 155 (.tmp 17) rfl gq 2 rfl pl _ (rd _ _ (aO.out (HD.out.at 1 rfl) KP)) Tryz.underlying155 rfl hi81 ?_))
     refine hK _ _ ?_;clear hK K;refine wpAny_ready (rs := [4, 5]) (by kernel_rfl) (by simp) ?_;refine AllReady.cons rfl (fun K hK => ?_) ?_
     ·(first | refine aL rfl (wp_load_row 39 (.tmp 5) rfl g rfl 39 #[.int .i64 0, .int .i64 0] (0, 0) _ (HD.out.blk 0 rfl) Tryz.underlying39 rfl aC ?_) | refine aL rfl (wp_load_row 39 (.tmp 5) rfl g rfl 39 #[.int .i64 0, .int .i64 0] (0, 0) _ ((HD.out.put 3 pl.toArray rfl).blk 0 rfl) Tryz.underlying39 rfl aC ?_))
      refine hK _ _ ?_;clear hK K;refine wpAny_ready (rs := [5]) (by kernel_rfl) (by simp) ?_;refine AllReady.cons rfl (fun K hK => ?_) ?_
      ·(refine aL rfl (wp_store_row 155 (.tmp 2) (.tmp 18) rfl _ pl.toArray rfl rfl 155 _ (HD.out.blk 3 rfl) HI (by rw [HL.out]; rfl) h1c ?_))
       refine hK _ _ ?_;clear hK K;refine wpAny_ready (rs := [6]) (by kernel_rfl) (by simp) ?_;refine AllReady.cons rfl (fun K hK => ?_) ?_
       ·(refine aL rfl (wp_store_row 39 (.tmp 3) (.tmp 19) rfl _ #[.int .i64 0, .int .i64 0] rfl rfl 39 _ ((HD.out.put 3 pl.toArray rfl).blk 2 rfl) aC rfl (by simp [Value.oneCell']) ?_))
        refine hK _ _ ?_;clear hK K;refine wpAny_done (by kernel_rfl) ?_ _;go_wp2_with fail;have H := ((HD.out.put 3 pl.toArray rfl).put 2 #[.int .i64 0, .int .i64 0] rfl);refine bodyPost_ret_by (gU rfl _ _ _ _ 155 39 pl.toArray #[.int .i64 0, .int .i64 0] _ _ _ _ rfl (H.blk 3 rfl) Tryz.underlying155 rfl HI rfl (H.blk 2 rfl) Tryz.underlying39 rfl aC) rfl ?_;exact ⟨by rw [HPQ.out], H.below⟩
       exact AllReady.nil
      exact AllReady.nil
     refine AllReady.cons rfl (fun K hK => ?_) ?_
     ·(refine aL rfl (wp_store_row 155 (.tmp 2) (.tmp 18) rfl _ pl.toArray rfl rfl 155 _ (HD.out.blk 3 rfl) HI (by rw [HL.out]; rfl) h1c ?_))
      refine hK _ _ ?_;clear hK K;refine wpAny_ready (rs := [4]) (by kernel_rfl) (by simp) ?_;refine AllReady.cons rfl (fun K hK => ?_) ?_
      ·(first | refine aL rfl (wp_load_row 39 (.tmp 5) rfl g rfl 39 #[.int .i64 0, .int .i64 0] (0, 0) _ (HD.out.blk 0 rfl) Tryz.underlying39 rfl aC ?_) | refine aL rfl (wp_load_row 39 (.tmp 5) rfl g rfl 39 #[.int .i64 0, .int .i64 0] (0, 0) _ ((HD.out.put 3 pl.toArray rfl).blk 0 rfl) Tryz.underlying39 rfl aC ?_))
       refine hK _ _ ?_;clear hK K;refine wpAny_ready (rs := [6]) (by kernel_rfl) (by simp) ?_;refine AllReady.cons rfl (fun K hK => ?_) ?_
       ·(refine aL rfl (wp_store_row 39 (.tmp 3) (.tmp 19) rfl _ #[.int .i64 0, .int .i64 0] rfl rfl 39 _ ((HD.out.put 3 pl.toArray rfl).blk 2 rfl) aC rfl (by simp [Value.oneCell']) ?_))
        refine hK _ _ ?_;clear hK K;refine wpAny_done (by kernel_rfl) ?_ _;go_wp2_with fail;have H := ((HD.out.put 3 pl.toArray rfl).put 2 #[.int .i64 0, .int .i64 0] rfl);refine bodyPost_ret_by (gU rfl _ _ _ _ 155 39 pl.toArray #[.int .i64 0, .int .i64 0] _ _ _ _ rfl (H.blk 3 rfl) Tryz.underlying155 rfl HI rfl (H.blk 2 rfl) Tryz.underlying39 rfl aC) rfl ?_;exact ⟨by rw [HPQ.out], H.below⟩
       exact AllReady.nil
      exact AllReady.nil
     exact AllReady.nil
    refine AllReady.cons rfl (fun K hK => ?_) ?_
    ·(first | refine aL rfl (wp_load_row 39 (.tmp 5) rfl g rfl 39 #[.int .i64 0, .int .i64 0] (0, 0) _ (HD.out.blk 0 rfl) Tryz.underlying39 rfl aC ?_) | refine aL rfl (wp_load_row 39 (.tmp 5) rfl g rfl 39 #[.int .i64 0, .int .i64 0] (0, 0) _ ((HD.out.put 3 pl.toArray rfl).blk 0 rfl) Tryz.underlying39 rfl aC ?_))
     refine hK _ _ ?_;clear hK K;refine wpAny_ready (rs := [3]) (by kernel_rfl) (by simp) ?_;refine AllReady.cons rfl (fun K hK => ?_) ?_
     ·(refine aL rfl (wp_load_mid 155 (.tmp 17) rfl gq 2 rfl pl _ (rd _ _ (aO.out (HD.out.at 1 rfl) KP)) Tryz.underlying155 rfl hi81 ?_))
      refine hK _ _ ?_;clear hK K;refine wpAny_ready (rs := [5]) (by kernel_rfl) (by simp) ?_;refine AllReady.cons rfl (fun K hK => ?_) ?_
      ·(refine aL rfl (wp_store_row 155 (.tmp 2) (.tmp 18) rfl _ pl.toArray rfl rfl 155 _ (HD.out.blk 3 rfl) HI (by rw [HL.out]; rfl) h1c ?_))
       refine hK _ _ ?_;clear hK K;refine wpAny_ready (rs := [6]) (by kernel_rfl) (by simp) ?_;refine AllReady.cons rfl (fun K hK => ?_) ?_
       ·(refine aL rfl (wp_store_row 39 (.tmp 3) (.tmp 19) rfl _ #[.int .i64 0, .int .i64 0] rfl rfl 39 _ ((HD.out.put 3 pl.toArray rfl).blk 2 rfl) aC rfl (by simp [Value.oneCell']) ?_))
        refine hK _ _ ?_;clear hK K;refine wpAny_done (by kernel_rfl) ?_ _;go_wp2_with fail;have H := ((HD.out.put 3 pl.toArray rfl).put 2 #[.int .i64 0, .int .i64 0] rfl);refine bodyPost_ret_by (gU rfl _ _ _ _ 155 39 pl.toArray #[.int .i64 0, .int .i64 0] _ _ _ _ rfl (H.blk 3 rfl) Tryz.underlying155 rfl HI rfl (H.blk 2 rfl) Tryz.underlying39 rfl aC) rfl ?_;exact ⟨by rw [HPQ.out], H.below⟩
       exact AllReady.nil
      exact AllReady.nil
     exact AllReady.nil
    exact AllReady.nil
   refine AllReady.cons rfl (fun K hK => ?_) ?_
   ·(first | refine aL rfl (wp_load_row 39 (.tmp 5) rfl g rfl 39 #[.int .i64 0, .int .i64 0] (0, 0) _ (HD.out.blk 0 rfl) Tryz.underlying39 rfl aC ?_) | refine aL rfl (wp_load_row 39 (.tmp 5) rfl g rfl 39 #[.int .i64 0, .int .i64 0] (0, 0) _ ((HD.out.put 3 pl.toArray rfl).blk 0 rfl) Tryz.underlying39 rfl aC ?_))
    refine hK _ _ ?_;clear hK K;refine wpAny_ready (rs := [2]) (by kernel_rfl) (by simp) ?_;refine AllReady.cons rfl (fun K hK => ?_) ?_
    ·refine aL rfl ?_; go_simp
     refine hK _ _ ?_;clear hK K;refine wpAny_ready (rs := [3]) (by kernel_rfl) (by simp) ?_;refine AllReady.cons rfl (fun K hK => ?_) ?_
     ·(refine aL rfl (wp_load_mid 155 (.tmp 17) rfl gq 2 rfl pl _ (rd _ _ (aO.out (HD.out.at 1 rfl) KP)) Tryz.underlying155 rfl hi81 ?_))
      refine hK _ _ ?_;clear hK K;refine wpAny_ready (rs := [5]) (by kernel_rfl) (by simp) ?_;refine AllReady.cons rfl (fun K hK => ?_) ?_
      ·(refine aL rfl (wp_store_row 155 (.tmp 2) (.tmp 18) rfl _ pl.toArray rfl rfl 155 _ (HD.out.blk 3 rfl) HI (by rw [HL.out]; rfl) h1c ?_))
       refine hK _ _ ?_;clear hK K;refine wpAny_ready (rs := [6]) (by kernel_rfl) (by simp) ?_;refine AllReady.cons rfl (fun K hK => ?_) ?_
       ·(refine aL rfl (wp_store_row 39 (.tmp 3) (.tmp 19) rfl _ #[.int .i64 0, .int .i64 0] rfl rfl 39 _ ((HD.out.put 3 pl.toArray rfl).blk 2 rfl) aC rfl (by simp [Value.oneCell']) ?_))
        refine hK _ _ ?_;clear hK K;refine wpAny_done (by kernel_rfl) ?_ _;go_wp2_with fail;have H := ((HD.out.put 3 pl.toArray rfl).put 2 #[.int .i64 0, .int .i64 0] rfl);refine bodyPost_ret_by (gU rfl _ _ _ _ 155 39 pl.toArray #[.int .i64 0, .int .i64 0] _ _ _ _ rfl (H.blk 3 rfl) Tryz.underlying155 rfl HI rfl (H.blk 2 rfl) Tryz.underlying39 rfl aC) rfl ?_;exact ⟨by rw [HPQ.out], H.below⟩
       exact AllReady.nil
      exact AllReady.nil
     exact AllReady.nil
    exact AllReady.nil
   exact AllReady.nil
  refine AllReady.cons rfl (fun K hK => ?_) ?_
  ·(first | refine aL rfl (wp_load_row 39 (.tmp 5) rfl g rfl 39 #[.int .i64 0, .int .i64 0] (0, 0) _ (HD.out.blk 0 rfl) Tryz.underlying39 rfl aC ?_) | refine aL rfl (wp_load_row 39 (.tmp 5) rfl g rfl 39 #[.int .i64 0, .int .i64 0] (0, 0) _ ((HD.out.put 3 pl.toArray rfl).blk 0 rfl) Tryz.underlying39 rfl aC ?_))
   refine hK _ _ ?_;clear hK K;refine wpAny_ready (rs := [1]) (by kernel_rfl) (by simp) ?_;refine AllReady.cons rfl (fun K hK => ?_) ?_
   ·refine aL rfl ?_; go_simp
    refine hK _ _ ?_;clear hK K;refine wpAny_ready (rs := [2]) (by kernel_rfl) (by simp) ?_;refine AllReady.cons rfl (fun K hK => ?_) ?_
    ·refine aL rfl ?_; go_simp
     refine hK _ _ ?_;clear hK K;refine wpAny_ready (rs := [3]) (by kernel_rfl) (by simp) ?_;refine AllReady.cons rfl (fun K hK => ?_) ?_
     ·(refine aL rfl (wp_load_mid 155 (.tmp 17) rfl gq 2 rfl pl _ (rd _ _ (aO.out (HD.out.at 1 rfl) KP)) Tryz.underlying155 rfl hi81 ?_))
      refine hK _ _ ?_;clear hK K;refine wpAny_ready (rs := [5]) (by kernel_rfl) (by simp) ?_;refine AllReady.cons rfl (fun K hK => ?_) ?_
      ·(refine aL rfl (wp_store_row 155 (.tmp 2) (.tmp 18) rfl _ pl.toArray rfl rfl 155 _ (HD.out.blk 3 rfl) HI (by rw [HL.out]; rfl) h1c ?_))
       refine hK _ _ ?_;clear hK K;refine wpAny_ready (rs := [6]) (by kernel_rfl) (by simp) ?_;refine AllReady.cons rfl (fun K hK => ?_) ?_
       ·(refine aL rfl (wp_store_row 39 (.tmp 3) (.tmp 19) rfl _ #[.int .i64 0, .int .i64 0] rfl rfl 39 _ ((HD.out.put 3 pl.toArray rfl).blk 2 rfl) aC rfl (by simp [Value.oneCell']) ?_))
        refine hK _ _ ?_;clear hK K;refine wpAny_done (by kernel_rfl) ?_ _;go_wp2_with fail;have H := ((HD.out.put 3 pl.toArray rfl).put 2 #[.int .i64 0, .int .i64 0] rfl);refine bodyPost_ret_by (gU rfl _ _ _ _ 155 39 pl.toArray #[.int .i64 0, .int .i64 0] _ _ _ _ rfl (H.blk 3 rfl) Tryz.underlying155 rfl HI rfl (H.blk 2 rfl) Tryz.underlying39 rfl aC) rfl ?_;exact ⟨by rw [HPQ.out], H.below⟩
       exact AllReady.nil
      exact AllReady.nil
     exact AllReady.nil
    exact AllReady.nil
   exact AllReady.nil
  exact AllReady.nil
 refine AllReady.cons rfl (fun K hK => ?_) ?_
 ·(first | refine aL rfl (wp_load_row 39 (.tmp 5) rfl g rfl 39 #[.int .i64 0, .int .i64 0] (0, 0) _ (HD.out.blk 0 rfl) Tryz.underlying39 rfl aC ?_) | refine aL rfl (wp_load_row 39 (.tmp 5) rfl g rfl 39 #[.int .i64 0, .int .i64 0] (0, 0) _ ((HD.out.put 3 pl.toArray rfl).blk 0 rfl) Tryz.underlying39 rfl aC ?_))
  refine hK _ _ ?_;clear hK K;refine wpAny_ready (rs := [0]) (by kernel_rfl) (by simp) ?_;refine AllReady.cons rfl (fun K hK => ?_) ?_
  ·refine aL rfl ?_; go_simp
   refine hK _ _ ?_;clear hK K;refine wpAny_ready (rs := [1]) (by kernel_rfl) (by simp) ?_;refine AllReady.cons rfl (fun K hK => ?_) ?_
   ·refine aL rfl ?_; go_simp
    refine hK _ _ ?_;clear hK K;refine wpAny_ready (rs := [2]) (by kernel_rfl) (by simp) ?_;refine AllReady.cons rfl (fun K hK => ?_) ?_
    ·refine aL rfl ?_; go_simp
     refine hK _ _ ?_;clear hK K;refine wpAny_ready (rs := [3]) (by kernel_rfl) (by simp) ?_;refine AllReady.cons rfl (fun K hK => ?_) ?_
     ·(refine aL rfl (wp_load_mid 155 (.tmp 17) rfl gq 2 rfl pl _ (rd _ _ (aO.out (HD.out.at 1 rfl) KP)) Tryz.underlying155 rfl hi81 ?_))
      refine hK _ _ ?_;clear hK K;refine wpAny_ready (rs := [5]) (by kernel_rfl) (by simp) ?_;refine AllReady.cons rfl (fun K hK => ?_) ?_
      ·(refine aL rfl (wp_store_row 155 (.tmp 2) (.tmp 18) rfl _ pl.toArray rfl rfl 155 _ (HD.out.blk 3 rfl) HI (by rw [HL.out]; rfl) h1c ?_))
       refine hK _ _ ?_;clear hK K;refine wpAny_ready (rs := [6]) (by kernel_rfl) (by simp) ?_;refine AllReady.cons rfl (fun K hK => ?_) ?_
       ·(refine aL rfl (wp_store_row 39 (.tmp 3) (.tmp 19) rfl _ #[.int .i64 0, .int .i64 0] rfl rfl 39 _ ((HD.out.put 3 pl.toArray rfl).blk 2 rfl) aC rfl (by simp [Value.oneCell']) ?_))
        refine hK _ _ ?_;clear hK K;refine wpAny_done (by kernel_rfl) ?_ _;go_wp2_with fail;have H := ((HD.out.put 3 pl.toArray rfl).put 2 #[.int .i64 0, .int .i64 0] rfl);refine bodyPost_ret_by (gU rfl _ _ _ _ 155 39 pl.toArray #[.int .i64 0, .int .i64 0] _ _ _ _ rfl (H.blk 3 rfl) Tryz.underlying155 rfl HI rfl (H.blk 2 rfl) Tryz.underlying39 rfl aC) rfl ?_;exact ⟨by rw [HPQ.out], H.below⟩
       exact AllReady.nil
      exact AllReady.nil
     exact AllReady.nil
    exact AllReady.nil
   exact AllReady.nil
  exact AllReady.nil
 exact AllReady.nil
end Go.Proofs.YtlkolghiknbbfaaGreatDoor
