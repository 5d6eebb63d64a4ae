/- Consts: add, a variable. -/
import Derived.Test.YtlkolghiknbbfaaGreatDoorAy
set_option linter.unusedVariables false
set_option linter.unusedSimpArgs false
set_option maxRecDepth 100000
set_option maxHeartbeats 4000000
namespace Go.Proofs.YtlkolghiknbbfaaGreatDoor
open Go.RowKit Go.MapKept
structure qO where
 aP : Nat
 ty : Nat
 at_ : Nat
 n : Nat
def sW (x : qO) : Value := .agg #[.int .u32 x.aP, .int .u32 x.ty, .slice (some ⟨x.at_, 0, none⟩) x.n x.n]
def bW (g n : Nat) (lo : Nat) (W : World) : Prop := lo ≤ g ∧ ∀ j, W.cell? ⟨g, j, none⟩ = (wz n)[j]?
def plL (lo P T mc mv : Nat) (cs vs : Value) (n : Nat) (xs : List Value) (fv : Nat → Option qO) (L : List As) : List As :=
 bM lo 22 1 vs n xs :: aP P #[.pointer (some ⟨T, 0, none⟩), cs, .map (some mc), vs, .map (some mv)] 161 :: iO (.int .u32) bR sW mv fv :: L
theorem LK (w0 : World) (P T mc gmv M : Nat) (cs vs : Value) (n : Nat) (xs : List Value) (fv : Nat → Option qO) (L : List As) (ty res c p k : Nat) (v : Value) (w : World) (H : Own aK w0 (plL w0.heap.size P T mc gmv cs vs n xs fv L) w) (hn : n ≤ 100000)
  (cH : ∀ L' W, Own aK w0 (L' ++ L) W → W.cell? ⟨P, 0, none⟩ = some (.pointer (some ⟨T, 0, none⟩)) → Calls Tryz.prog 130 #[.pointer (some ⟨P, 0, none⟩), .agg #[.int .u16 59, .int .u32 ty, .int .u32 res, v]] W fun e w' => (∃ g, e = .returned (.tuple #[.agg #[.int .u32 c, .int .u32 p, .slice (some ⟨g, 0, none⟩) k k], .int .i64 0]) ∧ bW g k W.heap.size w') ∧ Bl W w') :
  Calls Tryz.prog 90 #[.pointer (some ⟨P, 0, none⟩), .agg #[.int .u16 59, .int .u32 ty, .int .u32 res, v], .map (some M)] w fun e w' => e = .returned (.int .i64 0) ∧ ∃ vs' g lo hi, Own aK w0 (plL w0.heap.size P T mc gmv cs vs' (n + 1) (xs ++ [.int .u32 res]) (dJ fv res ⟨c, p, g, k⟩) (deep lo hi (bW g k) :: L)) w' := by
 have HO := H;clear H;unfold plL at HO;go_enter Tryz.func90, Tryz.ntmps90;go_wp2_with (first | ((first | ((with_reducible refine aB HO ?_); intro g hg; rw [← hg.out]; clear hg) | (with_reducible refine ah HO ?_)); clear HO; (try clear kk); intro W' HO kk));have cc := cH [_, _, _, _] W' HO (HO.cell 2 0 rfl rfl);refine cc.mono ?_;clear cc cH;rintro e w2 ⟨⟨g2, rfl, hq⟩, hb⟩;obtain ⟨gI, rfl⟩ : ∃ q, q = g := ⟨_, rfl⟩;replace HO := HO.deep hb hq;clear hb hq;(try clear kk);(try simp only [yD] at HO); have kk := HO.kk;go_wp2_with (first | ((first | ((with_reducible refine aB HO ?_); intro g hg; rw [← hg.out]; clear hg) | (with_reducible refine ah HO ?_) | (refine ay 194 HO ?_)); clear HO; (try clear kk); intro W' HO kk));obtain ⟨gV, rfl⟩ : ∃ q, q = g := ⟨_, rfl⟩;obtain ⟨av, cv, rfl, hx⟩ := HO.slice 3 rfl;clear hx;(try simp only [yD] at HO); have kk := HO.kk
 try simp only [Act.put]
 have zP := HO.lt 4 rfl;have zI := HO.lt 2 rfl;have zV := HO.lt 0 rfl;have HD := HO.drew;have HA := (HO.alloc (.cells #[.int .u32 res] 22)).drew;have kA := HA.cells 5 rfl;(try replace kk := kk.2);refine wp_region_held_drew (S := fun W => W.cell? ⟨gI, 2, none⟩ = some (.int .u32 res)) (by kernel_rfl) (HD.cell 2 2 rfl rfl) (fun hHeld => ?_);refine dA 0 ?_;refine dA 1 ?_;refine dA 2 ?_;refine dA 3 ?_;refine dA 5 ?_;refine dA 6 ?_;refine wpAnyH_ready (rs := [4, 7]) (by kernel_rfl) (by simp) ?_;refine AllReadyH.cons (by simp only [yG]; rfl) (fun K hK => ?_) (AllReadyH.cons (by simp only [yG]; rfl) (fun K hK => ?_) AllReadyH.nil);go_simp;refine hK.out _ _ (HD.cell 2 2 rfl rfl) (fun hHeld => ?_);clear hK K
 try simp only [Act.put, yT]
 refine wpAnyH_ready (rs := [7]) (by kernel_rfl) (by simp) ?_;refine AllReadyH.cons (by simp only [yG]; rfl) (fun K hK => ?_) AllReadyH.nil;go_simp;refine hK.out _ _ (HA.cell 3 2 rfl rfl) (fun hHeld => ?_);clear hK K
 try simp only [Act.put, yT]
 rotate_left;go_simp;refine hK.out _ _ (HA.cell 3 2 rfl rfl) (fun hHeld => ?_);clear hK K
 try simp only [Act.put, yT]
 refine wpAnyH_ready (rs := [4]) (by kernel_rfl) (by simp) ?_;refine AllReadyH.cons (by simp only [yG]; rfl) (fun K hK => ?_) AllReadyH.nil;go_simp;refine hK.out _ _ (HA.cell 3 2 rfl rfl) (fun hHeld => ?_);clear hK K
 try simp only [Act.put, yT]
 all_goals
  clear kA;(try clear kk);refine wpAnyH_ready (rs := [8]) (by kernel_rfl) (by simp) ?_;refine AllReadyH.cons (by simp only [yG]; rfl) (fun K hK => ?_) AllReadyH.nil;refine bY HA gG 4 0 rfl rfl rfl _ _ rfl rfl rfl rfl (by simp [Value.oneCell']) (by omega) (by omega) (Nat.le_refl _) ?_;intro gO cO W2 HP;simp only [yT] at HP;refine hK.out _ _ (HP.cell 3 2 rfl rfl) (fun hHeld => ?_);clear hK K
  try simp only [Act.put, yT]
  refine dA 9 ?_;refine dA 10 ?_;have kP := HP.cells 5 rfl;have mP := HP.melt 5 rfl;have zP := HP.lt 5 rfl;have HS := HP.set 5 3 (.slice (some ⟨gO, 0, none⟩) (n + 1) cO) rfl;simp only [yT] at HS;refine wpAnyH_ready (rs := [11]) (by kernel_rfl) (by simp) ?_;refine AllReadyH.cons (by simp only [yG]; rfl) (fun K hK => ?_) AllReadyH.nil;go_simp;refine hK.out _ _ (HS.cell 3 2 rfl rfl) (fun hHeld => ?_);clear hK K
  try simp only [Act.put, yT]
  refine wpAnyH_done (by kernel_rfl) ?_ _;refine gu (HS.drop 1) ?_;clear HS kP mP zP HP HA HD HO zI zV;intro W' HO;simp only [List.drop_succ_cons, List.drop_zero] at HO;(try simp only [yD] at HO); have kk := HO.kk;go_wp2_with fail;have nP : P ≠ gmv := Ne.symm (HO.neDom 5 4 rfl rfl (by omega) rfl);have nI : gI ≠ gmv := Ne.symm (HO.neDom 5 2 rfl rfl (by omega) rfl);have nV : gV ≠ gmv := Ne.symm (HO.neDom 5 0 rfl rfl (by omega) rfl);have zP := HO.lt 4 rfl;have zI := HO.lt 2 rfl;have zV := HO.lt 0 rfl;obtain ⟨o2, hup, hm2⟩ := Mp.put (HO.drew.at 5 rfl) dK Tryz.underlying159 Tryz.underlying22 res (sW ⟨c, p, g2, k⟩) ⟨c, p, g2, k⟩ (fun _ _ _ h => h) (fun _ => rfl);have hup2 : (Instr.mapUpdate 159 (.map (some gmv)) (.int .u32 res) (.agg #[.int .u32 c, .int .u32 p, .slice (some ⟨g2, 0, none⟩) k k])).run Tryz.prog W'.drew = .ok () (aT W'.drew gmv o2) := hup;have O0 := Only.refl gmv W';(try replace kk := kk.2);refine wp_region_held_drew (S := fun W => (∀ b j, b < W'.heap.size → b ≠ gmv → W.cell? ⟨b, j, none⟩ = W'.cell? ⟨b, j, none⟩) ∧ Only gmv W' W) (by kernel_rfl) (vT gmv W' _ (bz O0)) (fun hHeld => ?_);refine dA 0 ?_;refine dA 1 ?_;refine dA 2 ?_;refine dA 3 ?_;refine dA 4 ?_;refine dA 5 ?_;refine dA 6 ?_;refine wpAnyH_ready (rs := [7]) (by kernel_rfl) (by simp) ?_;refine AllReadyH.cons (by simp only [yG]; rfl) (fun K hK => ?_) AllReadyH.nil;go_simp;refine hK.out _ _ ?_ (fun hHeld => ?_)
  ·(refine vT gmv W' _ ?_; repeat (first | exact O0 | refine bz ?_ | refine fM ?_ | refine fP ?_ | refine fJ ?_ | refine iE ?_ _ | refine eO ?_ hn1.out | refine eG ?_ (by first | assumption | omega)))
  clear hK K
  try simp only [Act.put, yT]
  refine wpAnyH_done (by kernel_rfl) ?_ _;refine gu (HO.drew.map 5 o2 rfl hm2) ?_;clear hup hup2 hm2 O0 HO nP nI nV zP zI zV;intro W' HO;simp only [yT] at HO;(try clear kk);go_wp2_with fail;go_ret;exact ⟨rfl, _, g2, _, _, (HO.sub (.cons _ (.cons_cons _ (.cons _ (.cons_cons _ (.cons_cons _ (.cons_cons _ (List.Sublist.refl _)))))))).perm (List.perm_middle (l₁ := [_, _, _])).symm⟩
structure Lv where
 ty : Nat
 at_ : Nat
 n : Nat
def AJ (x : Lv) : Value := .agg #[.int .u32 x.ty, .slice (some ⟨x.at_, 0, none⟩) x.n x.n]
def pcL (lo P T mc mv : Nat) (cs vs : Value) (n : Nat) (xs : List Value) (fc : Nat → Option Lv) (L : List As) : List As :=
 bM lo 22 1 cs n xs :: aP P #[.pointer (some ⟨T, 0, none⟩), cs, .map (some mc), vs, .map (some mv)] 161 :: iO (.int .u32) bR AJ mc fc :: L
theorem Gz (w0 : World) (P T gmc mv M : Nat) (cs vs : Value) (n : Nat) (xs : List Value) (fc : Nat → Option Lv) (L : List As) (ty res k : Nat) (v : Value) (w : World) (H : Own aK w0 (pcL w0.heap.size P T gmc mv cs vs n xs fc L) w) (hn : n ≤ 100000)
  (hM : ∀ L' W, Own aK w0 (L' ++ L) W → Mp (.int .u16) xY (fun _ v x => v = FJ x) W M (jS P))
  (cH : ∀ L' W, Own aK w0 (L' ++ L) W → W.cell? ⟨P, 0, none⟩ = some (.pointer (some ⟨T, 0, none⟩)) → Calls Tryz.prog 126 #[.pointer (some ⟨P, 0, none⟩), .agg #[.int .u16 46, .int .u32 ty, .int .u32 res, v]] W fun e w' => (∃ g, e = .returned (.tuple #[.slice (some ⟨g, 0, none⟩) k k, .int .i64 0]) ∧ bW g k W.heap.size w') ∧ Bl W w') :
  Calls Tryz.prog 90 #[.pointer (some ⟨P, 0, none⟩), .agg #[.int .u16 46, .int .u32 ty, .int .u32 res, v], .map (some M)] w fun e w' => e = .returned (.int .i64 0) ∧ ∃ cs' g lo hi, Own aK w0 (pcL w0.heap.size P T gmc mv cs' vs (n + 1) (xs ++ [.int .u32 res]) (dJ fc res ⟨ty, g, k⟩) (deep lo hi (bW g k) :: L)) w' := by
 have HO := H;clear H;unfold pcL at HO;have hl : ∀ L' W, Own aK w0 (L' ++ L) W → (Instr.lookup 162 (.map (some M)) (.int .u16 46) false).run Tryz.prog W = .ok (.func (.func 126) #[.pointer (some ⟨P, 0, none⟩)] #[]) W := fun L' W h => by
  obtain ⟨v', hv, hq⟩ := (hM L' W h).hit qj Tryz.underlying162 Tryz.underlying26 (k := 46) (x := wJ P 126) rfl;subst hv;exact hq false
 have he := fun xs ys => eqFn 126 xs ys
 clear hM;go_enter Tryz.func90, Tryz.ntmps90;go_wp2_with (first | ((first | ((with_reducible refine aB HO ?_); intro g hg; rw [← hg.out]; clear hg) | (with_reducible refine ah HO ?_)); clear HO; (try clear kk); intro W' HO kk));have cc := cH [_, _, _, _] W' HO (HO.cell 2 0 rfl rfl);have hl2 := hl [_, _, _, _] W' HO;(try simp only [yD] at HO); have kk := HO.kk
 try rw [hl2]
 go_wp2_with fail;refine cc.mono ?_;clear cc cH hl hl2 he;rintro e w2 ⟨⟨g2, rfl, hq⟩, hb⟩;obtain ⟨gI, rfl⟩ : ∃ q, q = g := ⟨_, rfl⟩;replace HO := HO.deep hb hq;clear hb hq;(try clear kk);(try simp only [yD] at HO); have kk := HO.kk;go_wp2_with fail;obtain ⟨av, cv, rfl, hx⟩ := HO.slice 2 rfl;clear hx;(try simp only [yD] at HO); have kk := HO.kk
 try simp only [Act.put]
 have zP := HO.lt 3 rfl;have zI := HO.lt 1 rfl;have HD := HO.drew;have HA := (HO.alloc (.cells #[.int .u32 res] 22)).drew;have kA := HA.cells 4 rfl;(try replace kk := kk.2);refine wp_region_held_drew (S := fun W => W.cell? ⟨gI, 2, none⟩ = some (.int .u32 res)) (by kernel_rfl) (HD.cell 1 2 rfl rfl) (fun hHeld => ?_);refine dA 0 ?_;refine dA 1 ?_;refine dA 2 ?_;refine dA 3 ?_;refine dA 5 ?_;refine dA 6 ?_;refine wpAnyH_ready (rs := [4, 7]) (by kernel_rfl) (by simp) ?_;refine AllReadyH.cons (by simp only [yG]; rfl) (fun K hK => ?_) (AllReadyH.cons (by simp only [yG]; rfl) (fun K hK => ?_) AllReadyH.nil);go_simp;refine hK.out _ _ (HD.cell 1 2 rfl rfl) (fun hHeld => ?_);clear hK K
 try simp only [Act.put, yT]
 refine wpAnyH_ready (rs := [7]) (by kernel_rfl) (by simp) ?_;refine AllReadyH.cons (by simp only [yG]; rfl) (fun K hK => ?_) AllReadyH.nil;go_simp;refine hK.out _ _ (HA.cell 2 2 rfl rfl) (fun hHeld => ?_);clear hK K
 try simp only [Act.put, yT]
 rotate_left;go_simp;refine hK.out _ _ (HA.cell 2 2 rfl rfl) (fun hHeld => ?_);clear hK K
 try simp only [Act.put, yT]
 refine wpAnyH_ready (rs := [4]) (by kernel_rfl) (by simp) ?_;refine AllReadyH.cons (by simp only [yG]; rfl) (fun K hK => ?_) AllReadyH.nil;go_simp;refine hK.out _ _ (HA.cell 2 2 rfl rfl) (fun hHeld => ?_);clear hK K
 try simp only [Act.put, yT]
 all_goals
  clear kA;(try clear kk);refine wpAnyH_ready (rs := [8]) (by kernel_rfl) (by simp) ?_;refine AllReadyH.cons (by simp only [yG]; rfl) (fun K hK => ?_) AllReadyH.nil;refine bY HA gG 3 0 rfl rfl rfl _ _ rfl rfl rfl rfl (by simp [Value.oneCell']) (by omega) (by omega) (Nat.le_refl _) ?_;intro gO cO W2 HP;simp only [yT] at HP;refine hK.out _ _ (HP.cell 2 2 rfl rfl) (fun hHeld => ?_);clear hK K
  try simp only [Act.put, yT]
  refine dA 9 ?_;refine dA 10 ?_;have kP := HP.cells 4 rfl;have mP := HP.melt 4 rfl;have zP := HP.lt 4 rfl;have HS := HP.set 4 1 (.slice (some ⟨gO, 0, none⟩) (n + 1) cO) rfl;simp only [yT] at HS;refine wpAnyH_ready (rs := [11]) (by kernel_rfl) (by simp) ?_;refine AllReadyH.cons (by simp only [yG]; rfl) (fun K hK => ?_) AllReadyH.nil;go_simp;refine hK.out _ _ (HS.cell 2 2 rfl rfl) (fun hHeld => ?_);clear hK K
  try simp only [Act.put, yT]
  refine wpAnyH_done (by kernel_rfl) ?_ _;refine gu (HS.drop 1) ?_;clear HS kP mP zP HP HA HD HO zI;intro W' HO;simp only [List.drop_succ_cons, List.drop_zero] at HO;(try simp only [yD] at HO); have kk := HO.kk;go_wp2_with fail;have nP : P ≠ gmc := Ne.symm (HO.neDom 4 3 rfl rfl (by omega) rfl);have nI : gI ≠ gmc := Ne.symm (HO.neDom 4 1 rfl rfl (by omega) rfl);have zP := HO.lt 3 rfl;have zI := HO.lt 1 rfl;obtain ⟨o2, hup, hm2⟩ := Mp.put (HO.drew.at 4 rfl) dK Tryz.underlying158 Tryz.underlying22 res (AJ ⟨ty, g2, k⟩) ⟨ty, g2, k⟩ (fun _ _ _ h => h) (fun _ => rfl);have hup2 : (Instr.mapUpdate 158 (.map (some gmc)) (.int .u32 res) (.agg #[.int .u32 ty, .slice (some ⟨g2, 0, none⟩) k k])).run Tryz.prog W'.drew = .ok () (aT W'.drew gmc o2) := hup;have O0 := Only.refl gmc W';(try replace kk := kk.2);refine wp_region_held_drew (S := fun W => (∀ b j, b < W'.heap.size → b ≠ gmc → W.cell? ⟨b, j, none⟩ = W'.cell? ⟨b, j, none⟩) ∧ Only gmc W' W) (by kernel_rfl) (vT gmc W' _ (bz O0)) (fun hHeld => ?_);refine dA 0 ?_;refine dA 1 ?_;refine dA 2 ?_;refine dA 3 ?_;refine dA 4 ?_;refine dA 5 ?_;refine dA 6 ?_;refine dA 7 ?_;refine dA 8 ?_;refine dA 9 ?_;refine wpAnyH_ready (rs := [10]) (by kernel_rfl) (by simp) ?_;refine AllReadyH.cons (by simp only [yG]; rfl) (fun K hK => ?_) AllReadyH.nil;go_simp;refine hK.out _ _ ?_ (fun hHeld => ?_)
  ·(refine vT gmc W' _ ?_; repeat (first | exact O0 | refine bz ?_ | refine fM ?_ | refine fP ?_ | refine fJ ?_ | refine iE ?_ _ | refine eO ?_ hn1.out | refine eG ?_ (by first | assumption | omega)))
  clear hK K
  try simp only [Act.put, yT]
  refine wpAnyH_done (by kernel_rfl) ?_ _;refine gu (HO.drew.map 4 o2 rfl hm2) ?_;clear hup hup2 hm2 O0 HO nP nI zP zI;intro W' HO;simp only [yT] at HO;(try clear kk);go_wp2_with fail;go_ret;exact ⟨rfl, _, g2, _, _, (HO.sub (.cons_cons _ (.cons _ (.cons_cons _ (.cons_cons _ (.cons_cons _ (List.Sublist.refl _))))))).perm (List.perm_middle (l₁ := [_, _, _])).symm⟩
theorem lq (P T : Nat) (w : World) (hP : w.cell? ⟨P, 0, none⟩ = some (.pointer (some ⟨T, 0, none⟩))) :
  Calls Tryz.prog 64 #[.pointer (some ⟨P, 0, none⟩)] w fun e w' => e = .returned (.pointer (some ⟨T, 0, none⟩)) ∧ w' = w := by
 go_enter Tryz.func64, Tryz.ntmps64;go_wp2_with fail;go_ret;exact ⟨rfl, rfl⟩
theorem Oo (n : Nat) : ∀ v ∈ (wz n).toList, v.oneCell' = true := by
 intro v hv;simp only [wz, madeCells, Array.toList_map, List.mem_map] at hv;obtain ⟨j, -, rfl⟩ := hv;simp [Nat.mod_one, Value.oneCell']
theorem Aw (B b : Nat) (a : World) (hb : B ≤ b) (vs : List Value) : ∀ (o : Nat) (w : World), Below B a w → Below B a (w.setCells b o vs) := by
 induction vs with
 | nil => exact fun o w h => h
 | cons v r ih => exact fun o w h => ih (o + 1) _ (aR h hb)
theorem tX (g0 n : Nat) (w : World) (h : bW g0 n 0 w) (hn : n ≤ 4096) :
  Calls Tryz.prog 113 #[.slice (some ⟨g0, 0, none⟩) n n] w fun e w' => (∃ g', e = .returned (.slice (some ⟨g', 0, none⟩) n n) ∧ bW g' n w.heap.size w') ∧ Bl w w' := by
 have HO := Own.nil w;have hm := jF n (by omega);go_enter Tryz.func113, Tryz.ntmps113;go_wp2_with (first | ((first | ((with_reducible refine aB HO ?_); intro g hg; rw [← hg.out]; clear hg) | (with_reducible refine ah HO ?_)); clear HO; (try clear kk); intro W' HO kk));have hlen : (wz n).toList.length = n := by rw [Array.length_toList, iZ]
 have hk : ∀ j, W'.cell? ⟨g, j, none⟩ = (wz n)[j]? := HO.cells 0 rfl;have hsome : ∀ j, j < (wz n).toList.length → (W'.cell? ⟨g, 0 + j, none⟩).isSome = true := fun j hj => by rw [hlen] at hj; rw [Nat.zero_add, hk j, Array.getElem?_eq_getElem (by rw [iZ]; exact hj)]; rfl
 have hr := run_copy_cells (P := Tryz.prog) W' 24 24 3 22 g 0 n n ⟨g0, 0, none⟩ n n (wz n).toList rfl (by kernel_rfl) (by rw [hlen]; exact (Nat.min_self n).symm) (fun j v hv => by
   have e := h.2 j;have hs : (wz n)[j]? = some v := by rw [← Array.getElem?_toList]; exact hv
   rw [hs] at e;have := ae e (block_lt_of_cell e) HO.below;have ea : (Addr.mk g0 0 none).add j = ⟨g0, j, none⟩ := by unfold Addr.add; by_cases hj : j = 0 <;> simp [hj]
   rw [ea]; exact this) hsome (fun j _ => HO.melt 0 rfl _) (Oo n)
 rw [hr];clear hm;have hge := HO.le 0 rfl;have hb := Aw _ g _ hge (wz n).toList 0 _ HO.below;have hc : ∀ j, (W'.setCells g 0 (wz n).toList).cell? ⟨g, j, none⟩ = (wz n)[j]? := fun j => by
  by_cases hj : j < (wz n).toList.length
  ·have := World.cell?_setCells_in g (wz n).toList 0 W' hsome j hj
   rw [Nat.zero_add] at this;rw [this, Array.getElem_toList, Array.getElem?_eq_getElem]
  ·rw [World.cell?_setCells_out g (wz n).toList 0 W' ⟨g, j, none⟩ (fun _ _ => .inr (by simp only; omega)), hk j]
 generalize W'.setCells g 0 (wz n).toList = W2 at hb hc ⊢;go_wp2_with fail;go_ret;exact ⟨⟨g, rfl, hge, hc⟩, hb⟩
theorem zL {fn : Func} {t u v x : Tmp} (h : fn.results = #[.tmp t, .tmp u, .tmp v, .tmp x]) (tmps : Array Value) (P : Program) (w : World) : (results fn tmps).run P w = .ok (.tuple #[tmps.getD t undef, tmps.getD u undef, tmps.getD v undef, tmps.getD x undef]) w := by
 simp [results, h]
theorem jZ (P mv id : Nat) (fv : Nat → Option qO) (x : qO) (w : World) (hP : w.cell? ⟨P, 4, none⟩ = some (.map (some mv))) (hm : Mp (.int .u32) bR (fun _ v x => v = sW x) w mv fv) (hf : fv id = some x) (hw : bW x.at_ x.n 0 w) (hn : x.n ≤ 4096) (h0 : x.at_ < w.heap.size) :
  Calls Tryz.prog 78 #[.pointer (some ⟨P, 0, none⟩), .int .u32 id] w fun e w' => (∃ g, e = .returned (.tuple #[.int .u32 x.aP, .int .u32 x.ty, .slice (some ⟨g, 0, none⟩) x.n x.n, .bool true]) ∧ bW g x.n w.heap.size w') ∧ Bl w w' := by
 have HO := Own.nil w;have zP := block_lt_of_cell hP;have hl : (Instr.lookup 159 (.map (some mv)) (.int .u32 id) true).run Tryz.prog w = .ok (.tuple #[.agg #[.int .u32 x.aP, .int .u32 x.ty, .slice (some ⟨x.at_, 0, none⟩) x.n x.n], .bool true]) w := by
  obtain ⟨v', hv, hq⟩ := hm.hit dK Tryz.underlying159 Tryz.underlying22 hf;subst hv;exact hq true
 have cC : ∀ W, Bl w W → Calls Tryz.prog 113 #[.slice (some ⟨x.at_, 0, none⟩) x.n x.n] W fun e w' => (∃ g', e = .returned (.slice (some ⟨g', 0, none⟩) x.n x.n) ∧ bW g' x.n W.heap.size w') ∧ Bl W w' := fun W hb => tX x.at_ x.n W ⟨Nat.zero_le _, fun j => (World.cell?_of_block (a := ⟨x.at_, j, none⟩) (hb.block _ h0)).trans (hw.2 j)⟩ hn
 clear hm hf hw;generalize x.at_ = xa at hl cC h0;obtain ⟨xc, xt, xa', xn⟩ := x;simp only at hl cC ⊢;go_enter Tryz.func78, Tryz.ntmps78;go_wp2_with (first | ((first | ((with_reducible refine aB HO ?_); intro g hg; rw [← hg.out]; clear hg) | (with_reducible refine ah HO ?_) | (refine ay 194 HO ?_)); clear HO; (try clear kk); intro W' HO kk));obtain ⟨gV, rfl⟩ : ∃ q, q = g := ⟨_, rfl⟩
 try simp only [Act.put]
 (try have z0 := HO.lt 0 rfl); (try have z1 := HO.lt 1 rfl); (try have z2 := HO.lt 2 rfl); (try have z3 := HO.lt 3 rfl); (try have z4 := HO.lt 4 rfl); (try have z5 := HO.lt 5 rfl); (try have z6 := HO.lt 6 rfl); skip;have B0 := Below.refl W'.heap.size W';have bl := HO.below;have cC1 : ∀ W, Bl W' W → _ := fun W hb => cC W (bl.trans (hb.mono bl.size))
 clear cC;(try replace kk := kk.2);go_cut [4, 5, 6, 7] (fun s4 s5 s6 s7 wx => s4 = .int .u32 xc ∧ s5 = .int .u32 xt ∧ s7 = .bool true ∧ ∃ g', s6 = .slice (some ⟨g', 0, none⟩) xn xn ∧ bW g' xn w.heap.size wx ∧ Bl w wx)
 case first =>
  go_region_held3 (fun W => (∀ b j, b < W'.heap.size → W.cell? ⟨b, j, none⟩ = W'.cell? ⟨b, j, none⟩) ∧ Bl W' W) ((refine mkS W' _ ?_; repeat (first | exact B0 | refine aQ ?_ | refine bP ?_ _ | refine az ?_ hn1.out | refine aG ?_ (by first | assumption | omega) _ | refine aR ?_ (by first | assumption | omega))))
   (first | (go_at_call 113; (with_reducible refine (cC1 _ (by repeat (first | exact B0 | refine aQ ?_ | refine bP ?_ _ | refine az ?_ hn1.out | refine aG ?_ (by first | assumption | omega) _ | refine aR ?_ (by first | assumption | omega)))).mono ?_); rintro e w2 ⟨⟨gC, rfl, hq⟩, hn0⟩; have hn1 := hid hn0; clear hn0))
  all_goals
   go_wp2_with fail;rename_i hh;go_meet;refine ⟨rfl, rfl, rfl, _, rfl, ⟨?_, hq.2⟩, bl.trans (hh.2.mono bl.size)⟩;have h1 := hq.1;have h2 := bl.size;simp only [aN] at h1;omega
 case rest =>
 obtain ⟨rfl, rfl, rfl, g', rfl, h1, h2⟩ := hcut;go_wp2_with fail;refine bodyPost_ret_by (zL rfl _ _ _) rfl ?_;exact ⟨⟨g', rfl, h1⟩, h2⟩
theorem jo.below {P : Nat → World → Prop} (hP : jo P) {lo : Nat} {W W' : World} (h : P lo W) (hb : Bl W W') : P lo W' := hP lo W W' h (fun k _ hk => hb.block k hk)
theorem dX.keeps (T : Nat) (tab : Nat → Option dU) : jo (fun lo W => dX lo T tab W) := fun lo W W' h hk => by
 obtain ⟨al, f, Dm, h1, h2, h3, h4, h5, h6⟩ := h.at_;refine ⟨al, f, Dm, h1, h2, h3, ⟨(World.cell?_of_block (a := ⟨T, 0, none⟩) (hk T h1 h4.lt)).trans h4.c0, h4.mp.other (hk al h2 h4.mp.lt) (fun _ _ e => e)⟩, h5, ?_⟩;intro id x d e1 e2 e3;obtain ⟨b, o, e4, e5, e6⟩ := h6 id x d e1 e2 e3;exact ⟨b, o, e4, e5, fun i hi => (World.cell?_of_block (a := ⟨b, o + i, none⟩) (hk b (h3 b e5) (block_lt_of_cell (e6 i hi)))).trans (e6 i hi)⟩
section
variable {lo T : Nat} {tab : Nat → Option dU} {w : World}
theorem dX.kind (h : dX lo T tab w) (id : Nat) : Qc 142 #[.pointer (some ⟨T, 0, none⟩), .int .u32 id] w (.int .u8 (aD tab id).kind) := by
 obtain ⟨al, f, Dm, -, -, -, h4, h5, -⟩ := h.at_;rw [← (h5 id).1.kind];exact EZ T al f id w h4
theorem dX.tsize (h : dX lo T tab w) (id : Nat) : Qc 105 #[.pointer (some ⟨T, 0, none⟩), .int .u32 id] w (.int .i64 (aD tab id).size) := by
 obtain ⟨al, f, Dm, -, -, -, h4, h5, -⟩ := h.at_;rw [← (h5 id).1.size];exact pK T al f id w h4
theorem dX.signed (h : dX lo T tab w) (id : Nat) : Qc 106 #[.pointer (some ⟨T, 0, none⟩), .int .u32 id] w (.bool (aD tab id).sg) := by
 obtain ⟨al, f, Dm, -, -, -, h4, h5, -⟩ := h.at_;rw [← (h5 id).1.sg];exact yA T al f id w h4
theorem dX.plain (h : dX lo T tab w) (id : Nat) : Qc 173 #[.pointer (some ⟨T, 0, none⟩), .int .u32 id] w (.bool (decide (0 < (aD tab id).size))) := by
 obtain ⟨al, f, Dm, -, -, -, h4, h5, -⟩ := h.at_;rw [← (h5 id).1.size];exact sP T al f id w h4
theorem dX.count (h : dX lo T tab w) (id : Nat) (hs : (aD tab id).times ≤ 5000 ∧ (aD tab id).parts.length ≤ 2000000) : Qc 175 #[.pointer (some ⟨T, 0, none⟩), .int .u32 id] w (.int .i64 (((aD tab id).times + (aD tab id).parts.length : Nat) : Int)) := by
 obtain ⟨al, f, Dm, -, -, -, h4, h5, -⟩ := h.at_;rw [← (h5 id).1.times, ← (h5 id).1.pn] at hs ⊢;exact Dt T al f id w h4 hs
theorem dX.class_ (h : dX lo T tab w) (id : Nat) : Qc 177 #[.pointer (some ⟨T, 0, none⟩), .int .u32 id] w (.tuple #[.int .u32 (aD tab id).aP, .bool ((aD tab id).kind == 7)]) := by
 obtain ⟨al, f, Dm, -, -, -, h4, h5, -⟩ := h.at_;rw [← (h5 id).1.aP, ← (h5 id).1.kind];exact rU T al f id w h4
theorem dX.part_one (h : dX lo T tab w) (id k : Nat) (ht : 0 < (aD tab id).times) (hk : k < (aD tab id).times + (aD tab id).parts.length) (hs : (aD tab id).times ≤ 5000 ∧ (aD tab id).parts.length ≤ 2000000) : Qc 117 #[.pointer (some ⟨T, 0, none⟩), .int .u32 id, .int .i64 k] w (.tuple #[.int .u32 (aD tab id).part, .bool true]) := by
 obtain ⟨al, f, Dm, -, -, -, h4, h5, -⟩ := h.at_;rw [← (h5 id).1.times] at ht hk hs;rw [← (h5 id).1.pn] at hk hs;rw [← (h5 id).1.part];exact Fq T al f id k w h4 ht hk hs
theorem dX.row (h : dX lo T tab w) (id : Nat) (d : dU) (hd : tab id = some d) (hp : 0 < d.parts.length) : ∃ al f b o, oC T al f w ∧ lw f tab ∧ (aV f id).pa = some ⟨b, o, none⟩ ∧ ∀ i (h : i < d.parts.length), w.cell? ⟨b, o + i, none⟩ = some (.int .u32 d.parts[i]) := by
 obtain ⟨al, f, Dm, -, -, -, h4, h5, h6⟩ := h.at_;have hs := (h5 id).2;rw [hd] at hs;obtain ⟨x, hx⟩ := Option.isSome_iff_exists.1 hs;obtain ⟨b, o, e1, e2, e3⟩ := h6 id x d hx hd hp;exact ⟨al, f, b, o, h4, h5, by unfold aV; rw [hx]; exact e1, e3⟩
theorem dX.part_list (h : dX lo T tab w) (id k p : Nat) (d : dU) (hd : tab id = some d) (ht : d.times = 0) (hk : d.parts[k]? = some p) (hn : d.parts.length ≤ 2000000) : Qc 117 #[.pointer (some ⟨T, 0, none⟩), .int .u32 id, .int .i64 k] w (.tuple #[.int .u32 p, .bool true]) := by
 obtain ⟨hlt, hq⟩ := List.getElem?_eq_some_iff.1 hk;obtain ⟨al, f, b, o, h4, h5, h6, h7⟩ := h.row id d hd (by omega);have e : aD tab id = d := by unfold aD; rw [hd]; rfl
 have h8 := (h5 id).1;rw [e] at h8;have h9 := h7 k hlt;rw [hq] at h9;exact uh T al f id k p b o w h4 (h8.times.trans ht) (by rw [h8.pn]; exact hlt) (by rw [h8.pn]; exact hn) h6 h9
end
def pV (D : Nat → Prop) (f : Nat → Option qO) : As := ⟨D, fun W => ∀ id x, f id = some x → D x.at_ ∧ ∀ j, W.cell? ⟨x.at_, j, none⟩ = (wz x.n)[j]?, fun W W' h hk id x e => by
 obtain ⟨a, b⟩ := h id x e
 exact ⟨a, fun j => (World.cell?_of_block (a := ⟨x.at_, j, none⟩) (hk _ a)).trans (b j)⟩⟩
theorem Own.words {X : Nat → Prop} {w W : World} {L : List As} {D : Nat → Prop} {f : Nat → Option qO} {lo hi g k : Nat} (h : Own X w (Go.Proofs.YtlkolghiknbbfaaGreatDoor.deep lo hi (bW g k) :: pV D f :: L) W) (hk : 0 < k) (id c p : Nat) : Own X w (pV (fun b => (lo ≤ b ∧ b < hi) ∨ D b) (dJ f id ⟨c, p, g, k⟩) :: L) W := by
 have h2 := h.join;have hd := (h.at 0 rfl : aO _ _ _ W);have hr := h.at 1 rfl;refine h2.recast 0 (A' := pV (fun b => (lo ≤ b ∧ b < hi) ∨ D b) (dJ f id ⟨c, p, g, k⟩)) rfl (fun k hk => hk) ?_;intro j y h1;unfold dJ at h1;by_cases q : j = id
 ·rw [if_pos q] at h1
  cases h1
  obtain ⟨U, u1, u2, u3⟩ := hd.at_;have hb : g < hi := by
   rw [← u1];have h0 := u2.2 0;rw [Array.getElem?_eq_getElem (by rw [iZ]; exact hk)] at h0;exact block_lt_of_cell h0
  exact ⟨.inl ⟨u2.1, hb⟩, fun i => (World.cell?_of_block (a := ⟨g, i, none⟩) (u3 g u2.1 hb)).trans (u2.2 i)⟩
 ·rw [if_neg q] at h1
  exact ⟨.inr (hr j y h1).1, (hr j y h1).2⟩
inductive MU (tab : Nat → Option dU) : In → Option (Nat × Nat × Nat) → Prop
 | other (i : In) (h : i.op ∉ [1, 41, 42, 43, 44, 46, 59]) : MU tab i none
 | null (ty res : Nat) (h : 0 < (aD tab ty).size ∧ (aD tab ty).size ≤ 4096) : MU tab ⟨46, ty, res, []⟩ none
 | var (ty res p : Nat) (a : Ag) (d : dU) (hd : tab ty = some d) (hk : d.kind = 7) (hc : d.aP = a.n) (ht : d.times = 0) (hp : d.parts = [p]) (hs : 0 < (aD tab p).size ∧ (aD tab p).size ≤ 4096) : MU tab ⟨59, ty, res, [a]⟩ (some (a.n, p, (aD tab p).size))
def oP (l : List In) (V : Nat → Option (Nat × Nat × Nat)) : Nat → Nat → Option (Nat × Nat × Nat)
 | 0 => fun _ => none
 | k + 1 => match V k with
  | none => oP l V k
  | some v => dJ (oP l V k) (l.getD k ai).res v
structure wQ (l : List In) (t : Nat → Nat) (tab : Nat → Option dU) (V : Nat → Option (Nat × Nat × Nat)) : Prop where
 early : ∀ k, k < t 7 → V k = none
 one : ∀ k (h : k < l.length), t 7 ≤ k → k < t 8 → MU tab l[k] (V k)
theorem sI {l : List In} {V : Nat → Option (Nat × Nat × Nat)} : ∀ k, (∀ j, j < k → V j = none) → oP l V k = fun _ => none
 | 0, _ => rfl
 | k + 1, h => by
  simp only [oP, h k (by omega)];exact sI k fun j hj => h j (by omega)
def tF (fv : Nat → Option qO) (vs : Nat → Option (Nat × Nat × Nat)) : Prop := ∀ id, (fv id).map (fun x => (x.aP, x.ty, x.n)) = vs id
theorem tF.dJ {fv : Nat → Option qO} {vs : Nat → Option (Nat × Nat × Nat)} (h : tF fv vs) (id : Nat) (x : qO) : tF (dJ fv id x) (Go.Proofs.YtlkolghiknbbfaaGreatDoor.dJ vs id (x.aP, x.ty, x.n)) := fun j => by
 unfold Go.Proofs.YtlkolghiknbbfaaGreatDoor.dJ;by_cases e : j = id
 ·rw [if_pos e, if_pos e]; rfl
 ·rw [if_neg e, if_neg e]; exact h j
structure iI (lo P T : Nat) (tab : Nat → Option dU) (vs : Nat → Option (Nat × Nat × Nat)) (W : World) : Prop where
 at_ : ∃ mv fv Dm, lo ≤ P ∧ lo ≤ mv ∧ (∀ b, Dm b → lo ≤ b) ∧ W.cell? ⟨P, 0, none⟩ = some (.pointer (some ⟨T, 0, none⟩)) ∧ W.cell? ⟨P, 4, none⟩ = some (.map (some mv)) ∧ dX lo T tab W ∧ Mp (.int .u32) bR (fun _ v x => v = sW x) W mv fv ∧ tF fv vs ∧ (pV Dm fv).holds W ∧ ∀ b, Dm b → b < W.heap.size
theorem iI.keeps (P T : Nat) (tab : Nat → Option dU) (vs : Nat → Option (Nat × Nat × Nat)) : jo (fun lo W => iI lo P T tab vs W) := fun lo W W' h hk => by
 obtain ⟨mv, fv, Dm, h1, h2, h3, h4, h5, h6, h7, h8, h9, h10⟩ := h.at_;have zP := block_lt_of_cell h4;have hz : ∀ k, lo ≤ k → k < W.heap.size → k < W'.heap.size := fun k a b => by
  have := hk k a b;rw [Array.getElem?_eq_getElem b] at this;exact (Array.getElem?_eq_some_iff.1 this).1
 exact ⟨mv, fv, Dm, h1, h2, h3, (World.cell?_of_block (a := ⟨P, 0, none⟩) (hk P h1 zP)).trans h4, (World.cell?_of_block (a := ⟨P, 4, none⟩) (hk P h1 zP)).trans h5, dX.keeps T tab lo W W' h6 hk, h7.other (hk mv h2 h7.lt) (fun _ _ e => e), h8, fun id x e => by
  obtain ⟨a, b⟩ := h9 id x e
  exact ⟨a, fun j => (World.cell?_of_block (a := ⟨x.at_, j, none⟩) (hk _ (h3 _ a) (h10 _ a))).trans (b j)⟩, fun b hb => hz b (h3 b hb) (h10 b hb)⟩
theorem iI.tb {lo P T : Nat} {tab : Nat → Option dU} {vs : Nat → Option (Nat × Nat × Nat)} {W : World} (h : iI lo P T tab vs W) : dX lo T tab W := by
 obtain ⟨mv, fv, Dm, -, -, -, -, -, h6, -⟩ := h.at_;exact h6
end Go.Proofs.YtlkolghiknbbfaaGreatDoor
