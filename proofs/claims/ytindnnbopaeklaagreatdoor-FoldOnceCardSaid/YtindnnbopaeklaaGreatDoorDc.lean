/- Consts: a number. -/
import Derived.Test.YtindnnbopaeklaaGreatDoorAy
import Derived.Test.YtindnnbopaeklaaGreatDoorAz
import Derived.Test.YtindnnbopaeklaaGreatDoorDb
import Derived.Test.YtindnnbopaeklaaGreatDoorBa
namespace Go.Proofs.YtindnnbopaeklaaGreatDoor
set_option linter.unusedVariables false
set_option linter.unusedSimpArgs false
set_option maxRecDepth 100000
set_option maxHeartbeats 4000000
open Go.RowKit Go.MapKept
theorem index8_own (g c v : Nat) (w : World) (h : w.cell? ⟨g, 0, none⟩ = some (.int .u8 v)) : Calls Tryz.prog 229 #[.slice (some ⟨g, 0, none⟩) 1 c, .int .u8 v] w fun e w' => e = .returned (.int .i64 0) ∧ w' = w := by
 go_enter Tryz.func229, Tryz.ntmps229
 go_wp2_with fail
 refine wp_loop_rounds 1 ?_
 rw [rounds_succ]
 go_wp2_with fail
 go_ret
 exact ⟨rfl, rfl⟩
theorem contains8_own (g c v : Nat) (w : World) (h : w.cell? ⟨g, 0, none⟩ = some (.int .u8 v)) : Calls Tryz.prog 180 #[.slice (some ⟨g, 0, none⟩) 1 c, .int .u8 v] w fun e w' => e = .returned (.bool true) ∧ w' = w := by
 have c1 := index8_own g c v w h
 go_enter Tryz.func180, Tryz.ntmps180
 go_wp2_with (go_at_call 229; (with_reducible refine c1.mono ?_); rintro e w1 ⟨rfl, rfl⟩)
 go_ret
 exact ⟨rfl, rfl⟩
theorem kinds_own (P T ty v g c : Nat) (w : World) (hP : w.cell? ⟨P, 0, none⟩ = some (.pointer (some ⟨T, 0, none⟩))) (hg : w.cell? ⟨g, 0, none⟩ = some (.int .u8 v))
  (cK : ∀ W, Below w.heap.size w W → Calls Tryz.prog 65 #[.pointer (some ⟨T, 0, none⟩), .int .u32 ty] W fun e w' => e = .returned (.int .u8 v) ∧ Below W.heap.size W w') :
  Calls Tryz.prog 137 #[.pointer (some ⟨P, 0, none⟩), .int .u32 ty, .slice (some ⟨g, 0, none⟩) 1 c] w fun e w' => e = .returned (.bool true) ∧ Below w.heap.size w w' := by
 have HO := Own.nil w
 have zg := block_lt_of_cell hg
 have cC : ∀ W, Below w.heap.size w W → _ := fun W hb => contains8_own g c v W (cell_last hg zg hb)
 go_enter Tryz.func137, Tryz.ntmps137
 go_wp2_with (first | (go_at_call 65; (with_reducible refine (cK _ HO.below).mono ?_); rintro e w1 ⟨rfl, hn1⟩; replace HO := HO.then hn1; clear hn1) | (go_at_call 180; (with_reducible refine (cC _ HO.below).mono ?_); rintro e w1 ⟨rfl, rfl⟩))
 go_ret
 exact ⟨rfl, HO.below⟩
theorem cnumber_own (P T op ty res ab ao ac : Nat) (y : Int) (w : World) (hP : w.cell? ⟨P, 0, none⟩ = some (.pointer (some ⟨T, 0, none⟩))) (hx : w.cell? ⟨ab, ao + 1, none⟩ = some (.int .u32 y))
  (cK : ∀ W, Below w.heap.size w W → Calls Tryz.prog 65 #[.pointer (some ⟨T, 0, none⟩), .int .u32 ty] W fun e w' => e = .returned (.int .u8 3) ∧ Below W.heap.size W w') :
  Calls Tryz.prog 94 #[.pointer (some ⟨P, 0, none⟩), .agg #[.int .u16 op, .int .u32 ty, .int .u32 res, .slice (some ⟨ab, ao, none⟩) 1 ac]] w fun e w' => (∃ g, e = .returned (.tuple #[.slice (some ⟨g, 0, none⟩) 1 1, .int .i64 0]) ∧ w1P g y w.heap.size w') ∧ Below w.heap.size w w' := by
 have HO := Own.nil w
 have zP := block_lt_of_cell hP
 have zx := block_lt_of_cell hx
 have cC : ∀ g c W, Below w.heap.size w W → W.cell? ⟨g, 0, none⟩ = some (.int .u8 3) → _ := fun g c W hb hg => kinds_own P T ty 3 g c W (cell_last hP zP hb) hg (fun W2 h2 => cK W2 (hb.trans (h2.mono hb.size)))
 have hx2 : ∀ W, Below w.heap.size w W → W.cell? ⟨ab, ao + 1, none⟩ = some (.int .u32 y) := fun W hb => cell_last hx zx hb
 clear cK
 go_enter Tryz.func94, Tryz.ntmps94
 go_wp2_with (first | ((with_reducible refine sp_alloc HO ?_); clear HO; (try clear kk); intro g W' hg HO; rw [← hg.out]; clear hg; (try simp only [zTz, zTs, zTa] at HO); (try have kk := HO.kk)) | (go_at_call 137; (with_reducible refine (cC _ _ _ HO.below (HO.cell 0 0 rfl rfl)).mono ?_); rintro e w1 ⟨rfl, hn1⟩; replace HO := HO.then hn1; clear hn1; (try clear kk); have hq := hx2 _ HO.below; (try simp only [zTz, zTs, zTa, zDs, zDz] at HO); (try have kk := HO.kk)))
 have HA := HO.alloc (.cells #[.int .u32 y] 23 (0, 0))
 go_ret2
 exact ⟨⟨_, rfl, HA.le 0 rfl, HA.cell 0 0 rfl rfl⟩, HA.below⟩
theorem cadd_num (w0 : World) (P T gmc mv M : Nat) (cs vs : Value) (n : Nat) (xs : List Value) (fc : Nat → Option CnD) (L : List As) (ty res : Nat) (y : Int) (v : Value) (w : World) (H : Own noX w0 (pcL w0.heap.size P T gmc mv cs vs n xs fc L) w) (hn : n ≤ 100000)
  (hM : ∀ L' W, Own noX w0 (L' ++ L) W → Mp (.int .u16) keyH (fun _ v x => v = encF x) W M (makersF P))
  (cH : ∀ L' W, Own noX w0 (L' ++ L) W → W.cell? ⟨P, 0, none⟩ = some (.pointer (some ⟨T, 0, none⟩)) → Calls Tryz.prog 94 #[.pointer (some ⟨P, 0, none⟩), .agg #[.int .u16 43, .int .u32 ty, .int .u32 res, v]] W fun e w' => (∃ g, e = .returned (.tuple #[.slice (some ⟨g, 0, none⟩) 1 1, .int .i64 0]) ∧ w1P g y W.heap.size w') ∧ Below W.heap.size W w') :
  Calls Tryz.prog 76 #[.pointer (some ⟨P, 0, none⟩), .agg #[.int .u16 43, .int .u32 ty, .int .u32 res, v], .map (some M)] w fun e w' => e = .returned (.int .i64 0) ∧ ∃ cs' g lo hi, Own noX w0 (pcL w0.heap.size P T gmc mv cs' vs (n + 1) (xs ++ [.int .u32 res]) (kup fc res ⟨ty, g, 1⟩) (deep lo hi (w1P g y) :: L)) w' := by
 have HO := H
 clear H
 unfold pcL at HO
 have hl : ∀ L' W, Own noX w0 (L' ++ L) W → (Instr.lookup 128 (.map (some M)) (.int .u16 43) false).run Tryz.prog W = .ok (.func (.func 94) #[.pointer (some ⟨P, 0, none⟩)] #[]) W := fun L' W h => by
  obtain ⟨v', hv, hq⟩ := (hM L' W h).hit keysH Tryz.underlying128 Tryz.underlying22 (k := 43) (x := fnV P 94) rfl
  subst hv
  exact hq false
 have he := fun xs ys => eqFn 94 xs ys
 clear hM
 go_enter Tryz.func76, Tryz.ntmps76
 go_wp2_with (first | ((first | ((with_reducible first | refine sp_al HO ?_ | refine sp_alc HO ?_); intro g hg; rw [← hg.out]; clear hg) | (with_reducible first | refine sp_sk HO ?_ | refine sp_skc HO ?_)); clear HO; (try clear kk); intro W' HO; (try simp only [zTz, zTs, zTa] at HO); (try have kk := HO.kk)))
 have cc := cH [_, _, _, _] W' HO (HO.cell 2 0 rfl rfl)
 have hl2 := hl [_, _, _, _] W' HO
 (try simp only [zTz, zTs, zTa, zDs, zDz] at HO); (try have kk := HO.kk)
 try rw [hl2]
 go_wp2_with fail
 refine cc.mono ?_
 clear cc cH hl hl2 he
 rintro e w2 ⟨⟨g2, rfl, hq⟩, hb⟩
 obtain ⟨gI, rfl⟩ : ∃ q, q = g := ⟨_, rfl⟩
 replace HO := HO.deep hb hq
 clear hb hq
 (try clear kk)
 (try simp only [zTz, zTs, zTa, zDs, zDz] at HO); (try have kk := HO.kk)
 go_wp2_with fail
 obtain ⟨av, cv, rfl, hx⟩ := HO.slice 2 rfl
 clear hx
 (try simp only [zTz, zTs, zTa, zDs, zDz] at HO); (try have kk := HO.kk)
 try simp only [Act.put]
 have zP := HO.lt 3 rfl
 have zI := HO.lt 1 rfl
 have HD := HO.drew
 have HA := (HO.alloc (.cells #[.int .u32 res] 23)).drew
 have kA := HA.cells 4 rfl
 (try replace kk := kk.2)
 refine wp_region_held_drew (S := fun W => W.cell? ⟨gI, 2, none⟩ = some (.int .u32 res)) (by kernel_rfl) (HD.cell 1 2 rfl rfl) (fun hHeld => ?_)
 refine hTp 0 ?_
 refine hTp 1 ?_
 refine hTp 2 ?_
 refine hTp 3 ?_
 refine hTp 5 ?_
 refine hTp 6 ?_
 refine wpAnyH_ready (rs := [4, 7]) (by kernel_rfl) (by simp) ?_
 refine AllReadyH.cons (by simp only [zGa, zGs, zGz]; rfl) (fun K hK => ?_) (AllReadyH.cons (by simp only [zGa, zGs, zGz]; rfl) (fun K hK => ?_) AllReadyH.nil)
 go_simp
 refine hK.out _ _ (HD.cell 1 2 rfl rfl) (fun hHeld => ?_)
 clear hK K
 try simp only [Act.put, zTa, zTz, zTs]
 refine wpAnyH_ready (rs := [7]) (by kernel_rfl) (by simp) ?_
 refine AllReadyH.cons (by simp only [zGa, zGs, zGz]; rfl) (fun K hK => ?_) AllReadyH.nil
 go_simp
 refine hK.out _ _ (HA.cell 2 2 rfl rfl) (fun hHeld => ?_)
 clear hK K
 try simp only [Act.put, zTa, zTz, zTs]
 rotate_left
 go_simp
 refine hK.out _ _ (HA.cell 2 2 rfl rfl) (fun hHeld => ?_)
 clear hK K
 try simp only [Act.put, zTa, zTz, zTs]
 refine wpAnyH_ready (rs := [4]) (by kernel_rfl) (by simp) ?_
 refine AllReadyH.cons (by simp only [zGa, zGs, zGz]; rfl) (fun K hK => ?_) AllReadyH.nil
 go_simp
 refine hK.out _ _ (HA.cell 2 2 rfl rfl) (fun hHeld => ?_)
 clear hK K
 try simp only [Act.put, zTa, zTz, zTs]
 all_goals
  clear kA
  (try clear kk)
  refine wpAnyH_ready (rs := [8]) (by kernel_rfl) (by simp) ?_
  refine AllReadyH.cons (by simp only [zGa, zGs, zGz]; rfl) (fun K hK => ?_) AllReadyH.nil
  refine sp_append_step HA el_u32 3 0 rfl rfl rfl _ _ rfl rfl rfl rfl (by simp [Value.oneCell']) (by omega) (by omega) (Nat.le_refl _) ?_
  intro gO cO W2 HP
  simp only [List.set_cons_zero, List.set_cons_succ] at HP
  refine hK.out _ _ (HP.cell 2 2 rfl rfl) (fun hHeld => ?_)
  clear hK K
  try simp only [Act.put, zTa, zTz, zTs]
  refine hTp 9 ?_
  refine hTp 10 ?_
  have kP := HP.cells 4 rfl
  have mP := HP.melt 4 rfl
  have zP := HP.lt 4 rfl
  have HS := HP.set 4 1 (.slice (some ⟨gO, 0, none⟩) (n + 1) cO) rfl
  simp only [zTz, zTs, zTa] at HS
  refine wpAnyH_ready (rs := [11]) (by kernel_rfl) (by simp) ?_
  refine AllReadyH.cons (by simp only [zGa, zGs, zGz]; rfl) (fun K hK => ?_) AllReadyH.nil
  go_simp
  refine hK.out _ _ (HS.cell 2 2 rfl rfl) (fun hHeld => ?_)
  clear hK K
  try simp only [Act.put, zTa, zTz, zTs]
  refine wpAnyH_done (by kernel_rfl) ?_ _
  refine sp_exit (HS.drop 1) ?_
  clear HS kP mP zP HP HA HD HO zI
  intro W' HO
  simp only [List.drop_succ_cons, List.drop_zero] at HO
  (try simp only [zTz, zTs, zTa, zDs, zDz] at HO); (try have kk := HO.kk)
  go_wp2_with fail
  have nP : P ≠ gmc := Ne.symm (HO.neDom 4 3 rfl rfl (by omega) rfl)
  have nI : gI ≠ gmc := Ne.symm (HO.neDom 4 1 rfl rfl (by omega) rfl)
  have zP := HO.lt 3 rfl
  have zI := HO.lt 1 rfl
  obtain ⟨o2, hup, hm2⟩ := Mp.put (HO.drew.at 4 rfl) keysU Tryz.underlying124 Tryz.underlying23 res (encCn ⟨ty, g2, 1⟩) ⟨ty, g2, 1⟩ (fun _ _ _ h => h) (fun _ => rfl)
  have hup2 : (Instr.mapUpdate 124 (.map (some gmc)) (.int .u32 res) (.agg #[.int .u32 ty, .slice (some ⟨g2, 0, none⟩) 1 1])).run Tryz.prog W'.drew = .ok () (putMap W'.drew gmc o2) := hup
  have O0 := Only.refl gmc W'
  (try replace kk := kk.2)
  refine wp_region_held_drew (S := fun W => (∀ b j, b < W'.heap.size → b ≠ gmc → W.cell? ⟨b, j, none⟩ = W'.cell? ⟨b, j, none⟩) ∧ Only gmc W' W) (by kernel_rfl) (mkX gmc W' _ (only_drew O0)) (fun hHeld => ?_)
  refine hTp 0 ?_
  refine hTp 1 ?_
  refine hTp 2 ?_
  refine hTp 3 ?_
  refine hTp 4 ?_
  refine hTp 5 ?_
  refine hTp 6 ?_
  refine hTp 7 ?_
  refine hTp 8 ?_
  refine hTp 9 ?_
  refine wpAnyH_ready (rs := [10]) (by kernel_rfl) (by simp) ?_
  refine AllReadyH.cons (by simp only [zGa, zGs, zGz]; rfl) (fun K hK => ?_) AllReadyH.nil
  go_simp
  refine hK.out _ _ ?_ (fun hHeld => ?_)
  ·(refine mkX gmc W' _ ?_; repeat (first | exact O0 | refine only_drew ?_ | refine only_set ?_ | refine only_row ?_ | refine only_map ?_ | refine only_al ?_ _ | refine only_call ?_ hn1.out | refine only_setc ?_ (by first | assumption | omega)))
  clear hK K
  try simp only [Act.put, zTa, zTz, zTs]
  refine wpAnyH_done (by kernel_rfl) ?_ _
  refine sp_exit (HO.drew.map 4 o2 rfl hm2) ?_
  clear hup hup2 hm2 O0 HO nP nI zP zI
  intro W' HO
  simp only [List.set_cons_zero, List.set_cons_succ] at HO
  (try clear kk)
  go_wp2_with fail
  go_ret
  exact ⟨rfl, _, g2, _, _, (HO.sub (.cons_cons _ (.cons _ (.cons_cons _ (.cons_cons _ (.cons_cons _ (List.Sublist.refl _))))))).perm (List.perm_middle (l₁ := [_, _, _])).symm⟩
def CnOk (D : Nat → Prop) (W : World) : Option CnD → Option (Nat × Nat) → Prop
 | some x, some y => x.ty = y.1 ∧ x.n = 1 ∧ D x.at_ ∧ W.cell? ⟨x.at_, 0, none⟩ = some (.int .u32 y.2)
 | none, none => True
 | _, _ => False
def wordsB (D : Nat → Prop) (f : Nat → Option CnD) (cv : Nat → Option (Nat × Nat)) : As := ⟨D, fun W => ∀ id, CnOk D W (f id) (cv id), fun W W' h hk id => by
 have := h id
 revert this
 cases f id <;> cases cv id <;> intro this
 ·exact this
 ·exact this
 ·exact this
 ·exact ⟨this.1, this.2.1, this.2.2.1, (World.cell?_of_block (a := ⟨_, 0, none⟩) (hk _ this.2.2.1)).trans this.2.2.2⟩⟩
theorem Own.wordb {X : Nat → Prop} {w W : World} {L : List As} {D : Nat → Prop} {f : Nat → Option CnD} {cv : Nat → Option (Nat × Nat)} {lo hi g y : Nat} (h : Own X w (Go.Proofs.YtindnnbopaeklaaGreatDoor.deep lo hi (w1P g y) :: wordsB D f cv :: L) W) (id ty : Nat) : Own X w (wordsB (fun b => (lo ≤ b ∧ b < hi) ∨ D b) (kup f id ⟨ty, g, 1⟩) (kup cv id (ty, y)) :: L) W := by
 have h2 := h.join
 have hd := (h.at 0 rfl : DeepAt _ _ _ W)
 have hr := h.at 1 rfl
 refine h2.recast 0 (A' := wordsB (fun b => (lo ≤ b ∧ b < hi) ∨ D b) (kup f id ⟨ty, g, 1⟩) (kup cv id (ty, y))) rfl (fun k hk => hk) ?_
 intro j
 unfold kup
 by_cases q : j = id
 ·rw [if_pos q, if_pos q]
  obtain ⟨U, u1, u2, u3⟩ := hd.at_
  have hb : g < hi := by
   rw [← u1]
   exact block_lt_of_cell u2.2
  exact ⟨rfl, rfl, .inl ⟨u2.1, hb⟩, (World.cell?_of_block (a := ⟨g, 0, none⟩) (u3 g u2.1 hb)).trans u2.2⟩
 ·rw [if_neg q, if_neg q]
  have := hr j
  revert this
  cases f j <;> cases cv j <;> intro this
  ·exact this
  ·exact this
  ·exact this
  ·exact ⟨this.1, this.2.1, .inr this.2.2.1, this.2.2.2⟩
inductive OneN (tab : Nat → Option TyD) : In → Option Nat → Prop
 | other (i : In) (h : i.op ∉ [1, 41, 42, 43, 44, 46, 59]) : OneN tab i none
 | num (ty res : Nat) (a : Ag) (h : (getD_ tab ty).kind = 3) : OneN tab ⟨43, ty, res, [a]⟩ (some a.n)
def cvK (l : List In) (V : Nat → Option Nat) : Nat → Nat → Option (Nat × Nat)
 | 0 => fun _ => none
 | k + 1 => match V k with
  | none => cvK l V k
  | some v => kup (cvK l V k) (l.getD k noIn).res ((l.getD k noIn).ty, v)
def idK (l : List In) (V : Nat → Option Nat) : Nat → List Nat
 | 0 => []
 | k + 1 => match V k with
  | none => idK l V k
  | some _ => idK l V k ++ [(l.getD k noIn).res]
theorem cvK_early {l : List In} {V : Nat → Option Nat} : ∀ k, (∀ j, j < k → V j = none) → cvK l V k = (fun _ => none) ∧ idK l V k = []
 | 0, _ => ⟨rfl, rfl⟩
 | k + 1, h => by
  simp only [cvK, idK, h k (by omega)]
  exact cvK_early k fun j hj => h j (by omega)
structure NumsOk (l : List In) (t : Nat → Nat) (tab : Nat → Option TyD) (V : Nat → Option Nat) : Prop where
 early : ∀ k, k < t 7 → V k = none
 one : ∀ k (h : k < l.length), t 7 ≤ k → k < t 8 → OneN tab l[k] (V k)
structure PnIn (lo P T : Nat) (tab : Nat → Option TyD) (cv : Nat → Option (Nat × Nat)) (ids : List Nat) (W : World) : Prop where
 at_ : ∃ mc fc Dm cs, lo ≤ P ∧ lo ≤ mc ∧ (∀ b, Dm b → lo ≤ b) ∧ W.cell? ⟨P, 1, none⟩ = some cs ∧ W.cell? ⟨P, 2, none⟩ = some (.map (some mc)) ∧ Mp (.int .u32) keyU (fun _ v x => v = encCn x) W mc fc ∧ (wordsB Dm fc cv).holds W ∧ (∀ b, Dm b → b < W.heap.size) ∧ W.ownsRow lo 23 1 cs ids.length (ids.map fun x : Nat => .int .u32 (x : Int))
 pl : PlIn lo P T tab (fun _ => none) W
theorem PnIn.keeps (P T : Nat) (tab : Nat → Option TyD) (cv : Nat → Option (Nat × Nat)) (ids : List Nat) : Keeps (fun lo W => PnIn lo P T tab cv ids W) := fun lo W W' h hk => by
 obtain ⟨mc, fc, Dm, cs, h1, h2, h3, h4, h5, h6, h7, h8, h9⟩ := h.at_
 have zP := block_lt_of_cell h4
 have hz : ∀ k, lo ≤ k → k < W.heap.size → k < W'.heap.size := fun k a b => by
  have := hk k a b
  rw [Array.getElem?_eq_getElem b] at this
  exact (Array.getElem?_eq_some_iff.1 this).1
 refine ⟨⟨mc, fc, Dm, cs, h1, h2, h3, (World.cell?_of_block (a := ⟨P, 1, none⟩) (hk P h1 zP)).trans h4, (World.cell?_of_block (a := ⟨P, 2, none⟩) (hk P h1 zP)).trans h5, h6.other (hk mc h2 h6.lt) (fun _ _ e => e), (wordsB Dm fc cv).loc _ _ h7 (fun k d => hk k (h3 k d) (h8 k d)), fun b hb => hz b (h3 b hb) (h8 b hb), ?_⟩, PlIn.keeps P T tab _ lo W W' h.pl hk⟩
 exact (rw_ lo 23 1 cs ids.length _).loc W W' h9 (fun k d => hk k (h9.lt k d).1 (h9.lt k d).2)
def nnL (w : World) (P T mc mv M lo hi : Nat) (tab : Nat → Option TyD) (cs : Value) (nc : Nat) (xc : List Value) (fc : Nat → Option CnD) (cv : Nat → Option (Nat × Nat)) (Dm : Nat → Prop) (L : List As) : List As :=
 rw_ w.heap.size 23 1 cs nc xc :: cls P #[.pointer (some ⟨T, 0, none⟩), cs, .map (some mc), .slice none 0 0, .map (some mv)] 127 :: mpA (.int .u32) keyU encCn mc fc :: wordsB Dm fc cv :: mpA (.int .u32) keyU encVr mv (fun _ => none) :: mpA (.int .u16) keyH encF M (makersF P) :: deep lo hi (fun lo W => TbIn lo T tab W) :: L
structure NnSt (w : World) (l : List In) (V : Nat → Option Nat) (P T mc mv M lo hi : Nat) (tab : Nat → Option TyD) (L : List As) (k : Nat) (W : World) : Prop where
 at_ : ∃ cs fc Dm, (idK l V k).length ≤ k ∧ Own noX w (nnL w P T mc mv M lo hi tab cs (idK l V k).length ((idK l V k).map fun x : Nat => .int .u32 (x : Int)) fc (cvK l V k) Dm L) W
theorem nums_own (gen bound : Nat) (b o cap : Nat) (l : List In) (sv : Nat → Option Addr × Nat) (t : Nat → Nat) (m : Nat) (D : Nat → Option TyD) (V : Nat → Option Nat) (w : World) (hM : Ms w b o l sv) (hs : Sound bound l) (ht : OneFn l t m) (hi : IdsOk l t) (hty : TypesOk l D) (hc : NumsOk l t (tabK l D l.length) V) :
  Calls Tryz.prog 53 #[.agg #[.int .u32 gen, .int .u32 bound, .slice (some ⟨b, o, none⟩) l.length cap]] w fun r w' => (∃ P T, r = .returned (.tuple #[.pointer (some ⟨P, 0, none⟩), .agg #[.int .i64 0, .int .i64 0]]) ∧ PnIn w.heap.size P T (tabK l D l.length) (cvK l V (t 8)) (idK l V (t 8)) w') ∧ Below w.heap.size w w' := by
 have hn := hs.len
 have h78 := ht.cut.le 7 (by omega)
 have h8l := ht.cut.len
 have cT : ∀ W, Below w.heap.size w W → Calls Tryz.prog 74 #[.agg #[.int .u32 gen, .int .u32 bound, .slice (some ⟨b, o, none⟩) l.length cap]] W fun r w' => (∃ T, r = .returned (.tuple #[.pointer (some ⟨T, 0, none⟩), .agg #[.int .i64 0, .int .i64 0]]) ∧ TbIn W.heap.size T (tabK l D l.length) w') ∧ Below W.heap.size W w' := fun W hb => tnew_own gen bound b o cap l sv t m D W (hM.below hb) hs ht hi hty
 have cP : ∀ W, Below w.heap.size w W → Calls Tryz.prog 19 #[.agg #[.int .u32 gen, .int .u32 bound, .slice (some ⟨b, o, none⟩) l.length cap]] W fun r w' => r = .returned (.tuple #[partsVal t l.length, .agg #[.int .i64 0, .int .i64 0]]) ∧ Below W.heap.size W w' := fun W hb => parts_own gen bound _ cap l t m W (hM.below hb).back hs ht
 have cM := fun (P : Nat) (W : World) => cmakers_own P W
 have hpv : partsVal t l.length = .agg #[.int .i64 (psAll t l.length 0), .int .i64 (psAll t l.length 1), .int .i64 (psAll t l.length 2), .int .i64 (psAll t l.length 3), .int .i64 (psAll t l.length 4), .int .i64 (psAll t l.length 5), .int .i64 (psAll t l.length 6), .int .i64 (psAll t l.length 7), .int .i64 (psAll t l.length 8), .int .i64 (psAll t l.length 9), .int .i64 (psAll t l.length 10), .int .i64 (psAll t l.length 11), .int .i64 (psAll t l.length 12), .int .i64 (psAll t l.length 13), .int .i64 (psAll t l.length 14), .int .i64 (psAll t l.length 15), .int .i64 (psAll t l.length 16), .int .i64 (psAll t l.length 17), .int .i64 (psAll t l.length 18), .int .i64 (psAll t l.length 19)] := rfl
 have p14 : psAll t l.length 14 = t 7 := rfl
 have p15 : psAll t l.length 15 = t 8 := rfl
 rw [hpv, p14, p15] at cP
 clear hpv p14 p15
 generalize psAll t l.length = ps at cP
 have HM := hid hM
 have HC := hid hc
 have htl := hid (And.intro h78 h8l)
 clear hM hs ht hi hty hc h78 h8l
 obtain ⟨tab, htab⟩ : ∃ tab, Hid (tab = tabK l D l.length) := ⟨_, hid rfl⟩
 rw [← htab.out] at cT HC ⊢
 clear htab
 have HO := Own.nil w
 have hmm := @run_makeMap Tryz.prog
 go_enter Tryz.func53, Tryz.ntmps53
 go_wp2_with (first | ((first | (with_reducible refine sp_al HO ?_; clear HO; (try clear kk); intro g hg W' HO; rw [← hg.out]; clear hg) | (with_reducible refine sp_sk HO ?_; clear HO; (try clear kk); intro W' HO) | (with_reducible refine sp_skc HO ?_; clear HO; (try clear kk); intro W' HO) | (refine sp_wk HO rfl 36 _ _ rfl rfl rfl (by kernel_rfl) (by rfl) (by simp [Value.oneCell']) ?_; clear HO; (try clear kk); intro W' HO) | (refine sp_wk HO rfl 76 _ _ rfl rfl rfl (by kernel_rfl) (by rfl) (by simp [Value.oneCell']) ?_; clear HO; (try clear kk); intro W' HO)); (try simp only [zTz, zTs, zTa] at HO); (try have kk := HO.kk)) | (go_at_call 74; (with_reducible refine (cT _ HO.below).mono ?_); rintro e w1 ⟨⟨gT, rfl, hq⟩, hn1⟩; replace HO := HO.deep (P := fun lo W => TbIn lo gT tab W) hn1 hq; clear hn1 hq; (try clear kk); (try simp only [zTz, zTs, zTa, zDs, zDz] at HO); (try have kk := HO.kk)) | (go_at_call 19; (with_reducible refine (cP _ HO.below).mono ?_); rintro e w1 ⟨rfl, hn1⟩; replace HO := HO.then hn1; clear hn1; (try clear kk); (try simp only [zTz, zTs, zTa, zDs, zDz] at HO); (try have kk := HO.kk)) | (go_at_call 75; (with_reducible refine (cM _ _).mono ?_); rintro e w1 ⟨⟨gM, rfl, hM1, hM2⟩, hn1⟩; replace HO := HO.cons (A := mpA (.int .u16) keyH encF gM (makersF _)) hn1 (fun k hk => by cases hk; exact ⟨hM1, hM2.lt⟩) hM2; clear hn1 hM1 hM2; (try clear kk); (try simp only [zTz, zTs, zTa, zDs, zDz] at HO); (try have kk := HO.kk)))
 clear cT cP cM hmm
 (try clear kk)
 rename_i gMod U1 gSp3 U2 U3 gSp5 U4 U5 U6 gParts U7 gSp7 U8 U9 U10 gmc U11 gmv U12 K1 a1
 obtain ⟨gP, rfl⟩ : ∃ q, q = g := ⟨_, rfl⟩
 obtain ⟨lo, hlo⟩ : ∃ lo, Hid (lo = U2.heap.size) := ⟨_, hid rfl⟩
 obtain ⟨hi, hhi⟩ : ∃ hi, Hid (hi = U3.heap.size) := ⟨_, hid rfl⟩
 rw [← hlo.out, ← hhi.out] at HO
 have hlow : Hid (w.heap.size ≤ lo) := hid (by
  have ht := DeepAt.out (HO.at 7 rfl : DeepAt _ _ _ _) (TbIn.keeps gT tab)
  obtain ⟨U, u1, u2, u3⟩ := (HO.at 7 rfl : DeepAt _ _ _ _).at_
  obtain ⟨al, f, Dm, h1, -, -, h4, -⟩ := u2.at_
  have := h4.lt
  exact ((HO.low _ (List.mem_of_getElem? (i := 7) rfl) lo ⟨Nat.le_refl _, by omega⟩).1).resolve_right id)
 clear hlo hhi
 replace HO := HO.recast 2 (A' := mpA (.int .u32) keyU encVr gmv (fun _ => none)) rfl (fun k hk => hk) (mp_new (HO.blk 2 rfl))
 replace HO := HO.recast 3 (A' := mpA (.int .u32) keyU encCn gmc (fun _ => none)) rfl (fun k hk => hk) (mp_new (HO.blk 3 rfl))
 simp only [List.set_cons_zero, List.set_cons_succ] at HO
 replace HO := HO.row w.heap.size 23 1
 replace HO := HO.free (A := wordsB (fun _ => False) (fun _ => none) (fun _ => none)) (fun k hk => hk) (fun id => trivial)
 replace HO := HO.pull 10 rfl
 simp only [List.eraseIdx_cons_zero, List.eraseIdx_cons_succ] at HO
 replace HO := HO.pull 8 rfl
 simp only [List.eraseIdx_cons_zero, List.eraseIdx_cons_succ] at HO
 replace HO := HO.pull 11 rfl
 simp only [List.eraseIdx_cons_zero, List.eraseIdx_cons_succ] at HO
 replace HO := HO.pull 11 rfl
 simp only [List.eraseIdx_cons_zero, List.eraseIdx_cons_succ] at HO
 replace HO := HO.pull 6 rfl
 simp only [List.eraseIdx_cons_zero, List.eraseIdx_cons_succ] at HO
 replace HO := HO.pull 8 rfl
 simp only [List.eraseIdx_cons_zero, List.eraseIdx_cons_succ] at HO
 replace HO := HO.pull 6 rfl
 simp only [List.eraseIdx_cons_zero, List.eraseIdx_cons_succ] at HO
 replace HO := HO.pull 9 rfl
 simp only [List.eraseIdx_cons_zero, List.eraseIdx_cons_succ] at HO
 replace HO := HO.pull 9 rfl
 simp only [List.eraseIdx_cons_zero, List.eraseIdx_cons_succ] at HO
 replace HO := HO.pull 9 rfl
 simp only [List.eraseIdx_cons_zero, List.eraseIdx_cons_succ] at HO
 obtain ⟨L0, hL0⟩ : ∃ L0, Hid (L0 = [cls gMod #[.int .u32 gen, .int .u32 bound, .slice (some ⟨b, o, none⟩) l.length cap] 28, cls gParts #[.int .i64 (ps 0), .int .i64 (ps 1), .int .i64 (ps 2), .int .i64 (ps 3), .int .i64 (ps 4), .int .i64 (ps 5), .int .i64 (ps 6), .int .i64 (ps 7), .int .i64 (ps 8), .int .i64 (ps 9), .int .i64 (ps 10), .int .i64 (ps 11), .int .i64 (ps 12), .int .i64 (ps 13), .int .i64 (t 7), .int .i64 (t 8), .int .i64 (ps 16), .int .i64 (ps 17), .int .i64 (ps 18), .int .i64 (ps 19)] 76, cls gSp3 #[.int .i64 0, .int .i64 0] 36, cls gSp7 #[.int .i64 0, .int .i64 0] 36, cls gSp5 #[.int .i64 0, .int .i64 0] 36]) := ⟨_, hid rfl⟩
 have H0 : Hid (NnSt w l V gP gT gmc gmv gM lo hi tab L0 (t 7) w1) := hid (by
  have e := cvK_early (l := l) (V := V) (t 7) (fun j hj => HC.out.early j hj)
  exact ⟨_, fun _ => none, fun _ => False, by rw [e.2]; exact Nat.zero_le _, by rw [e.1, e.2, hL0.out]; exact HO⟩)
 clear HO
 go_loopw [10, 11] (fun x10 _ wr => ∃ k : Nat, t 7 ≤ k ∧ k ≤ t 8 ∧ x10 = .int .i64 k ∧ NnSt w l V gP gT gmc gmv gM lo hi tab L0 k wr) (fun x _ _ => t 8 - (intOf x).toNat)
 case atStart => exact ⟨t 7, by omega, htl.out.1, rfl, H0.out⟩
 case round =>
  obtain ⟨k, hk1, hk2, rfl, hst⟩ := hrel
  clear H0
  obtain ⟨cs, fc, Dm, hnc, HO⟩ := hst.at_
  have HNC := hid hnc
  clear hst hnc
  rw [hL0.out] at HO
  unfold nnL at HO
  have ht8 := htl.out.2
  by_cases hlt : k < t 8
  ·have hkl : k < l.length := by omega
   have hMM := HM.out.below HO.below
   have e0 := hMM.op k hkl
   have e1 := hMM.ty k hkl
   have e2 := hMM.res k hkl
   have e3 := hMM.args k hkl
   have zb := hMM.lt
   have hsl := hid (HM.out.sl k hkl)
   have hone := hid (HC.out.one k hkl hk1 hlt)
   have hgd := hid (show l.getD k noIn = l[k] from getD_at l hkl)
   have HLT := hid hlt
   clear hMM
   have i2 : (k : Int) < l.length := by omega
   have i3 : (k : Int) < t 8 := by omega
   generalize l[k] = i at e0 e1 e2 e3 hsl hone hgd
   generalize sv k = s at e3 hsl
   clear hlt
   obtain ⟨sa, sc⟩ := s
   simp only at e3 hsl
   (try simp only [zTz, zTs, zTa, zDs, zDz] at HO); (try have kk := HO.kk)
   go_wp2_with fail
   (try clear kk)
   have hon := hone.out
   generalize hvk : V k = vk at hon
   have HVK := hid hvk
   clear hvk hone
   cases hon with
   | other i h =>
    have cc := cadd_none gP gM gP i.op i.ty i.res (.slice sa i.args.length sc) wr (HO.at 5 rfl) (fun q => h (by rw [q]; simp)) (makers_none h)
    refine cc.mono ?_
    clear cc
    rintro e w2 ⟨rfl, hn1⟩
    replace HO := HO.then hn1
    clear hn1
    go_wp2_with fail
    exact ⟨⟨k + 1, by omega, HLT.out, by go_num, ⟨cs, fc, Dm, by simp only [idK, HVK.out]; have := HNC.out; omega, by simp only [cvK, idK, HVK.out]; rw [hL0.out]; exact HO⟩⟩, by have := HLT.out; simp [intOf]; omega⟩
   | num ty res a h =>
    obtain ⟨ab, ao, ha, hal, hcell⟩ := hsl.out.at_ (by simp)
    subst ha
    have hx := (hcell 0 (by simp)).n
    simp only [Nat.zero_mul, Nat.add_zero, List.getElem_cons_zero] at hx
    have cc := cadd_num w gP gT gmc gmv gM cs (.slice none 0 0) _ _ fc _ ty res a.n (.slice (some ⟨ab, ao, none⟩) 1 sc) wr HO (by have := HNC.out; omega)
     (fun L' W h => h.has _ (List.mem_append_right _ (List.mem_of_getElem? (i := 2) rfl)))
     (fun L' W h3 hp => cnumber_own gP gT 43 ty res ab ao sc a.n W hp (cell_last hx hal h3.below) (fun W2 h2 => by
      have q := ((DeepAt.out (h3.has _ (List.mem_append_right _ (List.mem_of_getElem? (i := 3) rfl)) : DeepAt _ _ _ W) (TbIn.keeps gT tab)).below h2).kind ty
      rw [h] at q
      exact q))
    refine cc.mono ?_
    clear cc HO
    rintro e w2 ⟨rfl, cs', g', lo', hi', HO⟩
    unfold pcL at HO
    replace HO := HO.pull 7 rfl
    simp only [List.eraseIdx_cons_zero, List.eraseIdx_cons_succ] at HO
    replace HO := HO.pull 7 rfl
    simp only [List.eraseIdx_cons_zero, List.eraseIdx_cons_succ] at HO
    replace HO := HO.pull 7 rfl
    simp only [List.eraseIdx_cons_zero, List.eraseIdx_cons_succ] at HO
    replace HO := HO.pull 5 rfl
    simp only [List.eraseIdx_cons_zero, List.eraseIdx_cons_succ] at HO
    replace HO := HO.pull 5 rfl
    simp only [List.eraseIdx_cons_zero, List.eraseIdx_cons_succ] at HO
    replace HO := HO.pull 5 rfl
    simp only [List.eraseIdx_cons_zero, List.eraseIdx_cons_succ] at HO
    replace HO := HO.pull 7 rfl
    simp only [List.eraseIdx_cons_zero, List.eraseIdx_cons_succ] at HO
    replace HO := HO.pull 7 rfl
    simp only [List.eraseIdx_cons_zero, List.eraseIdx_cons_succ] at HO
    replace HO := HO.wordb res ty
    replace HO := HO.pull 6 rfl
    simp only [List.eraseIdx_cons_zero, List.eraseIdx_cons_succ] at HO
    replace HO := HO.pull 6 rfl
    simp only [List.eraseIdx_cons_zero, List.eraseIdx_cons_succ] at HO
    replace HO := HO.pull 6 rfl
    simp only [List.eraseIdx_cons_zero, List.eraseIdx_cons_succ] at HO
    replace HO := HO.pull 3 rfl
    simp only [List.eraseIdx_cons_zero, List.eraseIdx_cons_succ] at HO
    replace HO := HO.pull 6 rfl
    simp only [List.eraseIdx_cons_zero, List.eraseIdx_cons_succ] at HO
    replace HO := HO.pull 6 rfl
    simp only [List.eraseIdx_cons_zero, List.eraseIdx_cons_succ] at HO
    replace HO := HO.pull 6 rfl
    simp only [List.eraseIdx_cons_zero, List.eraseIdx_cons_succ] at HO
    go_wp2_with fail
    exact ⟨⟨k + 1, by omega, HLT.out, by go_num, ⟨cs', _, _, by simp only [idK, HVK.out, List.length_append, List.length_singleton]; have := HNC.out; omega, by simp only [cvK, idK, HVK.out, hgd.out, List.length_append, List.length_singleton, List.map_append, List.map_cons, List.map_nil]; rw [hL0.out]; exact HO⟩⟩, by have := HLT.out; simp [intOf]; omega⟩
  ·obtain rfl : k = t 8 := by omega
   have i3 : ¬ ((t 8 : Nat) : Int) < t 8 := by omega
   (try simp only [zTz, zTs, zTa, zDs, zDz] at HO); (try have kk := HO.kk)
   go_wp2_with (first | ((first | (with_reducible refine sp_sk HO ?_; clear HO; (try clear kk); intro W' HO) | (with_reducible refine sp_skc HO ?_; clear HO; (try clear kk); intro W' HO) | (refine sp_wk HO rfl 36 _ _ rfl rfl rfl (by kernel_rfl) (by rfl) (by simp [Value.oneCell']) ?_; clear HO; (try clear kk); intro W' HO)); (try simp only [zTz, zTs, zTa] at HO); (try have kk := HO.kk)))
   refine bodyPost_ret_by (res_tmp_row rfl _ _ _ 36 #[.int .i64 0, .int .i64 0] _ _ rfl (HO.blk 9 rfl) Tryz.underlying36 rfl infoSpt) rfl ?_
   have hlow2 : ∀ (i : Nat) (A : As), (nnL w gP gT gmc gmv gM lo hi tab cs (idK l V (t 8)).length ((idK l V (t 8)).map fun x : Nat => .int .u32 (x : Int)) fc (cvK l V (t 8)) Dm L0)[i]? = some A → ∀ k, A.dom k → w.heap.size ≤ k := fun i A h k hk => by
    rw [hL0.out] at h
    exact ((HO.low A (List.mem_of_getElem? h) k hk).1).resolve_right id
   refine ⟨⟨gP, rfl, gT, ⟨gmc, fc, Dm, cs, HO.le 1 rfl, hlow2 2 _ rfl gmc rfl, fun b hb => hlow2 3 _ rfl b hb, HO.cell 1 1 rfl rfl, HO.cell 1 2 rfl rfl, HO.at 2 rfl, HO.at 3 rfl, fun b hb => (HO.low _ (List.mem_of_getElem? (i := 3) rfl) b hb).2, HO.at 0 rfl⟩, ⟨gmv, fun _ => none, fun _ => False, HO.le 1 rfl, hlow2 4 _ rfl gmv rfl, fun b hb => hb.elim, HO.cell 1 0 rfl rfl, HO.cell 1 4 rfl rfl, (DeepAt.out (HO.at 6 rfl : DeepAt _ _ _ _) (TbIn.keeps gT tab)).lower hlow.out, HO.at 4 rfl, fun id => rfl, fun id x h => (by cases h), fun b hb => hb.elim⟩⟩, HO.below⟩
end Go.Proofs.YtindnnbopaeklaaGreatDoor
