/- Typing: alike, arithmetic, load, store. -/
import Derived.Test.YtbhijdmlonplgaaGreatDoorBc
import Derived.Test.YtbhijdmlonplgaaGreatDoorBd
namespace Go.Proofs.YtbhijdmlonplgaaGreatDoor
set_option linter.unusedVariables false
set_option linter.unusedSimpArgs false
set_option maxRecDepth 100000
set_option maxHeartbeats 4000000
open Go.RowKit Go.MapKept
section
variable {K T mk b o cap back : Nat} {l : List In} {sv : Nat → Option Addr × Nat} {fm : Nat → Option Nat} {tab : Nat → Option TyD} {w : World}
theorem tyalike_own (r : Bool) (h : Ckr K T mk b o cap back l sv fm tab w) (ab ao cm x y jx jy ty : Nat) (h2 : Two ab ao x y w) (hx : fm x = some jx) (hy : fm y = some jy) (ox : (l.getD jx noIn).op ≠ 54) (oy : (l.getD jy noIn).op ≠ 54)
  (cA : ∀ W, Below w.heap.size w W → Calls Tryz.prog 258 #[.pointer (some ⟨T, 0, none⟩), .int .u32 ty, .int .u32 (l.getD jx noIn).ty] W fun e w' => e = .returned (.bool r) ∧ Below W.heap.size W w')
  (cB : ∀ W, Below w.heap.size w W → Calls Tryz.prog 258 #[.pointer (some ⟨T, 0, none⟩), .int .u32 ty, .int .u32 (l.getD jy noIn).ty] W fun e w' => e = .returned (.bool r) ∧ Below W.heap.size W w') :
  Calls Tryz.prog 191 #[.pointer (some ⟨K, 0, none⟩), .int .u32 ty, .slice (some ⟨ab, ao, none⟩) 2 cm] w fun e w' => e = .returned (.bool r) ∧ Below w.heap.size w w' := by
 have HO := Own.nil w
 have cC : ∀ (B C : Nat) (W : World), Below w.heap.size w W → W.cell? ⟨B, 0, none⟩ = some (.pointer (some ⟨K, 0, none⟩)) → W.cell? ⟨C, 0, none⟩ = some (.int .u32 ty) → Calls Tryz.prog 256 #[.slice (some ⟨ab, ao, none⟩) 2 cm, .func (.func 257) #[] #[.pointer (some ⟨B, 0, none⟩), .pointer (some ⟨C, 0, none⟩)]] W fun e w' => e = .returned (.bool (!r)) ∧ Below W.heap.size W w' := fun B C W hb hB hC => by
  have zB := block_lt_of_cell hB
  have zC := block_lt_of_cell hC
  have cX : ∀ W2, Below W.heap.size W W2 → Calls Tryz.prog 257 #[.agg #[.int .u8 1, .int .u32 x, .string ⟨#[]⟩], .pointer (some ⟨B, 0, none⟩), .pointer (some ⟨C, 0, none⟩)] W2 fun e w' => e = .returned (.bool (!r)) ∧ Below W2.heap.size W2 w' := fun W2 hb2 =>
   alikec_own r ((h.below hb).below hb2) B C ty x jx 1 ⟨#[]⟩ (cell_last hB zB hb2) (cell_last hC zC hb2) hx ox (fun W3 hb3 => cA W3 (bcall (bcall hb hb2) hb3))
  have cY : ∀ W2, Below W.heap.size W W2 → Calls Tryz.prog 257 #[.agg #[.int .u8 1, .int .u32 y, .string ⟨#[]⟩], .pointer (some ⟨B, 0, none⟩), .pointer (some ⟨C, 0, none⟩)] W2 fun e w' => e = .returned (.bool (!r)) ∧ Below W2.heap.size W2 w' := fun W2 hb2 =>
   alikec_own r ((h.below hb).below hb2) B C ty y jy 1 ⟨#[]⟩ (cell_last hB zB hb2) (cell_last hC zC hb2) hy oy (fun W3 hb3 => cB W3 (bcall (bcall hb hb2) hb3))
  have h3 := h2.below hb
  cases r with
  | true => exact acontains_own ab ao cm B C false (-1) (.inl ⟨rfl, rfl⟩) (fun W2 hb2 => aindex_none ab ao cm B C x y (h3.below hb2) (fun W3 hb3 => cX W3 (bcall hb2 hb3)) (fun W3 hb3 => cY W3 (bcall hb2 hb3)))
  | false => exact acontains_own ab ao cm B C true 0 (.inr ⟨rfl, rfl⟩) (fun W2 hb2 => aindex_first ab ao cm B C x y (h3.below hb2) (fun W3 hb3 => cX W3 (bcall hb2 hb3)))
 clear cA cB h h2 hx hy ox oy
 go_enter Tryz.func191, Tryz.ntmps191
 go_wp2_with (first | ((first | (with_reducible refine sp_al HO ?_; intro g hg; rw [← hg.out]; clear hg) | (with_reducible refine sp_alc HO ?_; intro g hg; rw [← hg.out]; clear hg) | (with_reducible refine sp_sk HO ?_) | (with_reducible refine sp_skc HO ?_)); intro W' HO'; clear HO; (try clear kk); have HO := HO'; clear HO'; (try simp only [zTz, zTs, zTa] at HO); (try have kk := HO.kk); skip))
 rename_i gB W1 K1 a1
 have cc := cC _ _ W' HO.below (HO.cell 1 0 rfl rfl) (HO.cell 0 0 rfl rfl)
 refine cc.mono ?_
 clear cc cC
 rintro e w1 ⟨rfl, hn1⟩
 replace HO := HO.then hn1
 clear hn1
 cases r
 all_goals
  go_wp2_with fail
  go_ret
  exact ⟨rfl, HO.below⟩
theorem tyarith_own (r : Bool) (op ty res ab ao cm : Nat)
  (cN : ∀ W, Below w.heap.size w W → Calls Tryz.prog 190 #[.pointer (some ⟨K, 0, none⟩), .int .u32 ty] W fun e w' => e = .returned (.bool true) ∧ Below W.heap.size W w')
  (cA : ∀ W, Below w.heap.size w W → Calls Tryz.prog 191 #[.pointer (some ⟨K, 0, none⟩), .int .u32 ty, .slice (some ⟨ab, ao, none⟩) 2 cm] W fun e w' => e = .returned (.bool r) ∧ Below W.heap.size W w') :
  Calls Tryz.prog 132 #[.pointer (some ⟨K, 0, none⟩), .agg #[.int .u16 op, .int .u32 ty, .int .u32 res, .slice (some ⟨ab, ao, none⟩) 2 cm]] w fun e w' => e = .returned (.bool r) ∧ Below w.heap.size w w' := by
 have HO := Own.nil w
 go_enter Tryz.func132, Tryz.ntmps132
 go_wp2_with (first | ((first | (with_reducible refine sp_al HO ?_; intro g hg; rw [← hg.out]; clear hg) | (with_reducible refine sp_alc HO ?_; intro g hg; rw [← hg.out]; clear hg) | (with_reducible refine sp_sk HO ?_) | (with_reducible refine sp_skc HO ?_)); intro W' HO'; clear HO; (try clear kk); have HO := HO'; clear HO'; (try simp only [zTz, zTs, zTa] at HO); (try have kk := HO.kk); skip) | (go_at_call 190; (with_reducible refine (cN _ HO.below).mono ?_); rintro e w1 ⟨rfl, hn1⟩; replace HO := HO.then hn1; clear hn1; (try clear kk); skip; (try simp only [zTz, zTs, zTa, zDs, zDz] at HO); (try have kk := HO.kk); skip) | (go_at_call 191; (with_reducible refine (cA _ HO.below).mono ?_); rintro e w1 ⟨rfl, hn1⟩; replace HO := HO.then hn1; clear hn1; (try clear kk); skip; (try simp only [zTz, zTs, zTa, zDs, zDz] at HO); (try have kk := HO.kk); skip))
 go_ret
 exact ⟨rfl, HO.below⟩
theorem tyload_own (h : Ckr K T mk b o cap back l sv fm tab w) (ty res ab ao cm x j : Nat) (d : TyD) (hx : w.cell? ⟨ab, ao + 1, none⟩ = some (.int .u32 x)) (hf : fm x = some j) (hop : (l.getD j noIn).op ≠ 54) (hd : tab (l.getD j noIn).ty = some d) (hk : d.kind = 7) (ht : d.times = 0) (hp : d.parts = [ty]) (h0 : ty ≠ 0) :
  Calls Tryz.prog 198 #[.pointer (some ⟨K, 0, none⟩), .agg #[.int .u16 61, .int .u32 ty, .int .u32 res, .slice (some ⟨ab, ao, none⟩) 1 cm]] w fun e w' => e = .returned (.bool true) ∧ Below w.heap.size w w' := by
 have HO := Own.nil w
 have zA := block_lt_of_cell hx
 have cO : ∀ W, Below w.heap.size w W → Calls Tryz.prog 192 #[.pointer (some ⟨K, 0, none⟩), .int .u32 x] W fun e w' => e = .returned (.int .u32 (l.getD j noIn).ty) ∧ Below W.heap.size W w' := fun W hb => tyof_own (h.below hb) x j hf hop
 have cT : ∀ W, Below w.heap.size w W → Calls Tryz.prog 261 #[.pointer (some ⟨K, 0, none⟩), .int .u32 (l.getD j noIn).ty] W fun e w' => e = .returned (.tuple #[.int .u32 ty, .int .u32 d.cls]) ∧ Below W.heap.size W w' := fun W hb => tyto_own (h.below hb) _ ty d hd hk ht hp
 clear h hf hop hd hk ht hp
 generalize (l.getD j noIn).ty = tp at cO cT
 have i1 : ((ty : Int) != 0) = true := by rw [bne_iff_ne]; omega
 clear h0
 go_enter Tryz.func198, Tryz.ntmps198
 go_wp2_with (first | ((first | (with_reducible refine sp_al HO ?_; intro g hg; rw [← hg.out]; clear hg) | (with_reducible refine sp_alc HO ?_; intro g hg; rw [← hg.out]; clear hg) | (with_reducible refine sp_sk HO ?_) | (with_reducible refine sp_skc HO ?_)); intro W' HO'; clear HO; (try clear kk); have HO := HO'; clear HO'; (try simp only [zTz, zTs, zTa] at HO); (try have kk := HO.kk); skip) | (go_at_call 192; (with_reducible refine (cO _ HO.below).mono ?_); rintro e w1 ⟨rfl, hn1⟩; replace HO := HO.then hn1; clear hn1; (try clear kk); skip; (try simp only [zTz, zTs, zTa, zDs, zDz] at HO); (try have kk := HO.kk); skip) | (go_at_call 261; (with_reducible refine (cT _ HO.below).mono ?_); rintro e w1 ⟨rfl, hn1⟩; replace HO := HO.then hn1; clear hn1; (try clear kk); skip; (try simp only [zTz, zTs, zTa, zDs, zDz] at HO); (try have kk := HO.kk); skip))
 go_ret
 exact ⟨rfl, HO.below⟩
theorem tystore_own (h : Ckr K T mk b o cap back l sv fm tab w) (ty res ab ao cm x y jx jy : Nat) (d : TyD) (hx : w.cell? ⟨ab, ao + 1, none⟩ = some (.int .u32 x)) (hy : w.cell? ⟨ab, ao + 4, none⟩ = some (.int .u32 y)) (hf : fm x = some jx) (hg : fm y = some jy) (ox : (l.getD jx noIn).op ≠ 54) (oy : (l.getD jy noIn).op ≠ 54) (hd : tab (l.getD jx noIn).ty = some d) (hk : d.kind = 7) (ht : d.times = 0) (hp : d.parts = [(l.getD jy noIn).ty]) (h0 : (l.getD jy noIn).ty ≠ 0) (hc : d.cls ≠ 1) :
  Calls Tryz.prog 199 #[.pointer (some ⟨K, 0, none⟩), .agg #[.int .u16 62, .int .u32 ty, .int .u32 res, .slice (some ⟨ab, ao, none⟩) 2 cm]] w fun e w' => e = .returned (.bool true) ∧ Below w.heap.size w w' := by
 have HO := Own.nil w
 have zA := block_lt_of_cell hx
 have cO : ∀ W, Below w.heap.size w W → Calls Tryz.prog 192 #[.pointer (some ⟨K, 0, none⟩), .int .u32 x] W fun e w' => e = .returned (.int .u32 (l.getD jx noIn).ty) ∧ Below W.heap.size W w' := fun W hb => tyof_own (h.below hb) x jx hf ox
 have cO2 : ∀ W, Below w.heap.size w W → Calls Tryz.prog 192 #[.pointer (some ⟨K, 0, none⟩), .int .u32 y] W fun e w' => e = .returned (.int .u32 (l.getD jy noIn).ty) ∧ Below W.heap.size W w' := fun W hb => tyof_own (h.below hb) y jy hg oy
 have cT : ∀ W, Below w.heap.size w W → Calls Tryz.prog 261 #[.pointer (some ⟨K, 0, none⟩), .int .u32 (l.getD jx noIn).ty] W fun e w' => e = .returned (.tuple #[.int .u32 (l.getD jy noIn).ty, .int .u32 d.cls]) ∧ Below W.heap.size W w' := fun W hb => tyto_own (h.below hb) _ _ d hd hk ht hp
 clear h hf hg ox oy hd hk ht hp
 generalize (l.getD jx noIn).ty = tp at cO cT
 generalize (l.getD jy noIn).ty = tq at cO2 cT h0
 generalize d.cls = cl at cT hc
 have i1 : ((tq : Int) != 0) = true := by rw [bne_iff_ne]; omega
 have i2 : ((cl : Int) != 1) = true := by rw [bne_iff_ne]; omega
 clear h0 hc
 go_enter Tryz.func199, Tryz.ntmps199
 go_wp2_with (first | ((first | (with_reducible refine sp_al HO ?_; intro g hg; rw [← hg.out]; clear hg) | (with_reducible refine sp_alc HO ?_; intro g hg; rw [← hg.out]; clear hg) | (with_reducible refine sp_sk HO ?_) | (with_reducible refine sp_skc HO ?_)); intro W' HO'; clear HO; (try clear kk); have HO := HO'; clear HO'; (try simp only [zTz, zTs, zTa] at HO); (try have kk := HO.kk); skip) | (go_at_call 192; (first | (with_reducible refine (cO _ HO.below).mono ?_) | (with_reducible refine (cO2 _ HO.below).mono ?_)); rintro e w1 ⟨rfl, hn1⟩; replace HO := HO.then hn1; clear hn1; (try clear kk); skip; (try simp only [zTz, zTs, zTa, zDs, zDz] at HO); (try have kk := HO.kk); skip) | (go_at_call 261; (with_reducible refine (cT _ HO.below).mono ?_); rintro e w1 ⟨rfl, hn1⟩; replace HO := HO.then hn1; clear hn1; (try clear kk); skip; (try simp only [zTz, zTs, zTa, zDs, zDz] at HO); (try have kk := HO.kk); skip))
 go_ret
 exact ⟨rfl, HO.below⟩
theorem tysig_own (h : Ckr K T mk b o cap back l sv fm tab w) (f rt : Nat) (d : TyD) (hd : tab f = some d) (hk : d.kind = 8) (ht : d.times = 0) (hp : d.parts = [rt]) :
  Calls Tryz.prog 125 #[.pointer (some ⟨K, 0, none⟩), .int .u32 f, .int .u32 rt, .slice none 0 0] w fun e w' => e = .returned (.bool true) ∧ Below w.heap.size w w' := by
 have HO := Own.nil w
 have g0 := h.c0
 have zK := block_lt_of_cell g0
 have ed : getD_ tab f = d := by unfold getD_; rw [hd]; rfl
 have cK : ∀ W, Below w.heap.size w W → Calls Tryz.prog 163 #[.pointer (some ⟨T, 0, none⟩), .int .u32 f] W fun e w' => e = .returned (.int .u8 8) ∧ Below W.heap.size W w' := fun W hb => by
  obtain ⟨lo, ht⟩ := (h.below hb).tb
  have := ht.kind f
  rw [ed, hk] at this
  exact this
 have cC : ∀ W, Below w.heap.size w W → Calls Tryz.prog 109 #[.pointer (some ⟨T, 0, none⟩), .int .u32 f] W fun e w' => e = .returned (.int .i64 1) ∧ Below W.heap.size W w' := fun W hb => by
  obtain ⟨lo, ht2⟩ := (h.below hb).tb
  have := ht2.count f (by rw [ed, ht, hp]; simp)
  rw [ed, ht, hp] at this
  exact this
 have cP : ∀ W, Below w.heap.size w W → Calls Tryz.prog 189 #[.pointer (some ⟨K, 0, none⟩), .int .u32 f, .int .i64 0] W fun e w' => e = .returned (.int .u32 rt) ∧ Below W.heap.size W w' := fun W hb =>
  typart_own (K := K) (T := T) (w := W) f 0 rt true (h.below hb).c0 (fun W2 hb2 => by
   obtain ⟨lo, ht2⟩ := ((h.below hb).below hb2).tb
   exact ht2.part_list f 0 rt d hd ht (by rw [hp]; rfl) (by rw [hp]; simp))
 clear h hd hk ht hp ed
 go_enter Tryz.func125, Tryz.ntmps125
 go_wp2_with (first | (go_at_call 163; (with_reducible refine (cK _ HO.below).mono ?_); rintro e w1 ⟨rfl, hn1⟩; replace HO := HO.then hn1; clear hn1; (try clear ho); have ho := Own.old HO) | (go_at_call 109; (with_reducible refine (cC _ HO.below).mono ?_); rintro e w1 ⟨rfl, hn1⟩; replace HO := HO.then hn1; clear hn1; (try clear ho); have ho := Own.old HO) | (go_at_call 189; (with_reducible refine (cP _ HO.below).mono ?_); rintro e w1 ⟨rfl, hn1⟩; replace HO := HO.then hn1; clear hn1; (try clear ho); have ho := Own.old HO))
 refine wp_loop_rounds 1 ?_
 rw [rounds_succ]
 go_wp2_with fail
 go_ret
 exact ⟨rfl, HO.below⟩
theorem tyfunc_own (h : Ckr K T mk b o cap back l sv fm tab w) (k rt res ab ao cm f : Nat) (d : TyD) (hcap : l.length ≤ cap) (hn : l.length ≤ 2000) (hk1 : k + 1 < l.length) (h55 : l[k + 1].op ≠ 55) (hx : w.cell? ⟨ab, ao + 4, none⟩ = some (.int .u32 f)) (hd : tab f = some d) (hk : d.kind = 8) (ht : d.times = 0) (hp : d.parts = [rt]) :
  Calls Tryz.prog 85 #[.pointer (some ⟨K, 0, none⟩), .agg #[.int .u16 54, .int .u32 rt, .int .u32 res, .slice (some ⟨ab, ao, none⟩) 2 cm], .int .i64 k] w fun e w' => e = .returned (.bool true) ∧ Below w.heap.size w w' := by
 have HO := Own.nil w
 have g2 := h.c2
 have zK := block_lt_of_cell g2
 have zA := block_lt_of_cell hx
 have zb := h.ms.lt
 have e0 := h.ms.op (k + 1) hk1
 have e1 := h.ms.ty (k + 1) hk1
 have e2 := h.ms.res (k + 1) hk1
 have e3 := h.ms.args (k + 1) hk1
 have cS : ∀ W, Below w.heap.size w W → Calls Tryz.prog 125 #[.pointer (some ⟨K, 0, none⟩), .int .u32 f, .int .u32 rt, .slice none 0 0] W fun e w' => e = .returned (.bool true) ∧ Below W.heap.size W w' := fun W hb => tysig_own (h.below hb) f rt d hd hk ht hp
 have t0 : ((l[k + 1].op : Int) == 55) = false := by rw [beq_eq_false_iff_ne]; omega
 clear h hd hk ht hp h55
 generalize l[k + 1] = i at e0 e1 e2 e3 t0
 generalize sv (k + 1) = s at e3
 obtain ⟨sa, sc⟩ := s
 simp only at e3
 have i5 : (k : Int) + 1 < l.length := by omega
 have i6 : (k : Int) + 1 ≤ l.length := by omega
 go_enter Tryz.func85, Tryz.ntmps85
 go_wp2_with (first | ((first | (with_reducible refine sp_al HO ?_; intro g hg; rw [← hg.out]; clear hg) | (with_reducible refine sp_alc HO ?_; intro g hg; rw [← hg.out]; clear hg) | (with_reducible refine sp_sk HO ?_) | (with_reducible refine sp_skc HO ?_)); intro W' HO'; clear HO; (try clear kk); have HO := HO'; clear HO'; (try simp only [zTz, zTs, zTa] at HO); (try have kk := HO.kk); skip))
 refine wp_loop_rounds 1 ?_
 rw [rounds_succ]
 go_wp2_with (first | ((first | (with_reducible refine sp_al HO ?_; intro g hg; rw [← hg.out]; clear hg) | (with_reducible refine sp_sk HO ?_) | (with_reducible refine sp_skc HO ?_) | (refine sp_wk HO rfl 41 _ _ rfl rfl rfl (by kernel_rfl) (by rfl) (by simp [Value.oneCell']) ?_)); intro W' HO'; clear HO; (try clear kk); have HO := HO'; clear HO'; (try simp only [zTz, zTs, zTa] at HO); (try have kk := HO.kk); skip))
 replace HO := HO.drop 1
 simp only [List.drop_succ_cons, List.drop_zero] at HO
 (try clear kk); skip
 (try simp only [zTz, zTs, zTa, zDs, zDz] at HO); (try have kk := HO.kk); skip
 have bl := HO.below
 have q0 := bl.cell (p := ⟨ab, ao + 4, none⟩) zA
 rw [hx] at q0
 have zA2 : ab < W'.heap.size := Nat.lt_of_lt_of_le zA bl.size
 have z0 := HO.lt 0 rfl
 have B0 := Below.refl W'.heap.size W'
 have cS1 : ∀ W, Below W'.heap.size W' W → _ := fun W hb => cS W (bl.trans (hb.mono bl.size))
 clear cS
 (try replace kk := kk.2)
 go_cut [6] (fun s6 wx => s6 = .bool true ∧ Below w.heap.size w wx)
 case first =>
  go_region_held3 (fun W => (∀ b j, b < W'.heap.size → W.cell? ⟨b, j, none⟩ = W'.cell? ⟨b, j, none⟩) ∧ Below W'.heap.size W' W) ((refine mkS W' _ ?_; repeat (first | exact B0 | refine below_drw ?_ | refine bal ?_ _ | refine bcall ?_ hn1.out | refine row_below ?_ (by first | assumption | omega) _ | refine below_setc ?_ (by first | assumption | omega))))
   (first | (go_at_call 125; (with_reducible refine (cS1 _ (by repeat (first | exact B0 | refine below_drw ?_ | refine bal ?_ _ | refine bcall ?_ hn1.out | refine row_below ?_ (by first | assumption | omega) _ | refine below_setc ?_ (by first | assumption | omega)))).mono ?_); rintro e w2 ⟨rfl, hn0⟩; have hn1 := hid hn0; clear hn0))
  all_goals
   go_wp2_with fail
   rename_i hh
   go_meet
   exact ⟨rfl, bl.trans (hh.2.mono bl.size)⟩
 case rest =>
 obtain ⟨rfl, h1⟩ := hcut
 go_wp2_with fail
 go_ret
 exact ⟨rfl, h1⟩
end
def tyF (K n : Nat) : Value := .func (.func n) #[.pointer (some ⟨K, 0, none⟩)] #[]
def tyAsk (K op : Nat) : Value := if op = 61 then tyF K 198 else if op = 62 then tyF K 199 else if op = 253 then tyF K 136 else if op = 56 ∨ op = 248 then .nilFunc else tyF K 132
theorem tymem_own (K op : Nat) (v : Value) (h : op = 61 ∧ v = tyF K 198 ∨ op = 62 ∧ v = tyF K 199 ∨ op = 56 ∧ v = .nilFunc ∨ op = 248 ∧ v = .nilFunc) (w : World) :
  Calls Tryz.prog 138 #[.pointer (some ⟨K, 0, none⟩), .int .u16 op] w fun e w' => e = .returned v ∧ Below w.heap.size w w' := by
 unfold tyF at h
 rcases h with ⟨rfl, rfl⟩ | ⟨rfl, rfl⟩ | ⟨rfl, rfl⟩ | ⟨rfl, rfl⟩
 all_goals
  go_enter Tryz.func138, Tryz.ntmps138
  go_wp2_with fail
  go_ret
  exact ⟨rfl, Below.refl _ _⟩
theorem tyasks_mem (K op : Nat) (v : Value) (h : op = 61 ∧ v = tyF K 198 ∨ op = 62 ∧ v = tyF K 199 ∨ op = 56 ∧ v = .nilFunc ∨ op = 248 ∧ v = .nilFunc) (w : World) :
  Calls Tryz.prog 86 #[.pointer (some ⟨K, 0, none⟩), .int .u16 op] w fun e w' => e = .returned v ∧ Below w.heap.size w w' := by
 have cM := fun W => tymem_own K op v h W
 have HO := Own.nil w
 have ho : op = 61 ∨ op = 62 ∨ op = 56 ∨ op = 248 := by
  rcases h with ⟨h, -⟩ | ⟨h, -⟩ | ⟨h, -⟩ | ⟨h, -⟩ <;> simp [h]
 clear h
 rcases ho with rfl | rfl | rfl | rfl
 ·have cQ : ∀ W, Calls Tryz.prog 138 #[.pointer (some ⟨K, 0, none⟩), .int .u16 61] W fun e w' => e = .returned v ∧ Below W.heap.size W w' := cM
  go_enter Tryz.func86, Tryz.ntmps86
  go_wp2_with (first | (go_at_call 138; (with_reducible refine (cQ _).mono ?_); rintro e w1 ⟨rfl, hn1⟩; replace HO := HO.then hn1; clear hn1))
  go_ret
  exact ⟨rfl, HO.below⟩
 ·have cQ : ∀ W, Calls Tryz.prog 138 #[.pointer (some ⟨K, 0, none⟩), .int .u16 62] W fun e w' => e = .returned v ∧ Below W.heap.size W w' := cM
  go_enter Tryz.func86, Tryz.ntmps86
  go_wp2_with (first | (go_at_call 138; (with_reducible refine (cQ _).mono ?_); rintro e w1 ⟨rfl, hn1⟩; replace HO := HO.then hn1; clear hn1))
  go_ret
  exact ⟨rfl, HO.below⟩
 ·have cQ : ∀ W, Calls Tryz.prog 138 #[.pointer (some ⟨K, 0, none⟩), .int .u16 56] W fun e w' => e = .returned v ∧ Below W.heap.size W w' := cM
  go_enter Tryz.func86, Tryz.ntmps86
  go_wp2_with (first | (go_at_call 138; (with_reducible refine (cQ _).mono ?_); rintro e w1 ⟨rfl, hn1⟩; replace HO := HO.then hn1; clear hn1))
  go_ret
  exact ⟨rfl, HO.below⟩
 ·have cQ : ∀ W, Calls Tryz.prog 138 #[.pointer (some ⟨K, 0, none⟩), .int .u16 248] W fun e w' => e = .returned v ∧ Below W.heap.size W w' := cM
  go_enter Tryz.func86, Tryz.ntmps86
  go_wp2_with (first | (go_at_call 138; (with_reducible refine (cQ _).mono ?_); rintro e w1 ⟨rfl, hn1⟩; replace HO := HO.then hn1; clear hn1))
  go_ret
  exact ⟨rfl, HO.below⟩
theorem tyasks_line (K op : Nat) (h : isTwo op = true ∨ op = 253) (w : World) :
  Calls Tryz.prog 86 #[.pointer (some ⟨K, 0, none⟩), .int .u16 op] w fun e w' => e = .returned (tyAsk K op) ∧ Below w.heap.size w w' := by
 have hm : op ∈ [128, 130, 132, 134, 135, 137, 138, 139, 194, 195, 196, 197, 198, 199, 253] := by
  rcases h with h | h
  ·have := isTwo_mem h
   exact List.mem_append_left [253] this
  ·subst h; decide
 clear h
 simp only [List.mem_cons, List.not_mem_nil, or_false] at hm
 rcases hm with rfl | rfl | rfl | rfl | rfl | rfl | rfl | rfl | rfl | rfl | rfl | rfl | rfl | rfl | rfl
 all_goals
  go_enter Tryz.func86, Tryz.ntmps86
  go_wp2_with fail
  go_ret
  exact ⟨rfl, Below.refl _ _⟩
theorem tyasked_form (op ty res : Nat) (v : Value) (r : Bool) (h : op ≠ 59) (hr : ((formOf op).part == 8) = r) (w : World) :
  Calls Tryz.prog 84 #[.agg #[.int .u16 op, .int .u32 ty, .int .u32 res, v]] w fun e w' => e = .returned (.bool r) ∧ Below w.heap.size w w' := by
 have HO := Own.nil w
 have cO := fun W => of_own op W
 generalize formOf op = f at hr cO
 obtain ⟨fo, fn, ft, fr, ff, fs, fmm, fp⟩ := f
 unfold Fm.val Fm.cells at cO
 simp only at cO hr
 have i1 : ((op : Int) == 59) = false := by rw [beq_eq_false_iff_ne]; omega
 have i2 : ((fp : Int) == 8) = r := by rw [← hr, Bool.eq_iff_iff, beq_iff_eq, beq_iff_eq]; omega
 clear h hr
 go_enter Tryz.func84, Tryz.ntmps84
 go_wp2_with (first | ((first | (with_reducible refine sp_al HO ?_; intro g hg; rw [← hg.out]; clear hg) | (with_reducible refine sp_alc HO ?_; intro g hg; rw [← hg.out]; clear hg) | (with_reducible refine sp_sk HO ?_) | (with_reducible refine sp_skc HO ?_) | (refine sp_wk HO rfl 218 _ _ rfl rfl rfl (by kernel_rfl) (by rfl) (by simp [Value.oneCell']) ?_)); intro W' HO'; clear HO; (try clear kk); have HO := HO'; clear HO'; (try simp only [zTz, zTs, zTa] at HO); (try have kk := HO.kk); skip) | (go_at_call 95; (with_reducible refine (cO _).mono ?_); rintro e w1 ⟨rfl, hn1⟩; replace HO := HO.then hn1; clear hn1; (try clear kk); skip; (try simp only [zTz, zTs, zTa, zDs, zDz] at HO); (try have kk := HO.kk); skip))
 all_goals
  go_ret
  exact ⟨by simp_all, HO.below⟩
theorem tyasked_var (ty res ab ao cm c : Nat) (w : World) (hc : c ≠ 7) (hx : w.cell? ⟨ab, ao + 1, none⟩ = some (.int .u32 c)) :
  Calls Tryz.prog 84 #[.agg #[.int .u16 59, .int .u32 ty, .int .u32 res, .slice (some ⟨ab, ao, none⟩) 1 cm]] w fun e w' => e = .returned (.bool false) ∧ Below w.heap.size w w' := by
 have HO := Own.nil w
 have zA := block_lt_of_cell hx
 have i1 : ((c : Int) == 7) = false := by rw [beq_eq_false_iff_ne]; omega
 clear hc
 go_enter Tryz.func84, Tryz.ntmps84
 go_wp2_with (first | ((first | (with_reducible refine sp_al HO ?_; intro g hg; rw [← hg.out]; clear hg) | (with_reducible refine sp_alc HO ?_; intro g hg; rw [← hg.out]; clear hg) | (with_reducible refine sp_sk HO ?_) | (with_reducible refine sp_skc HO ?_)); intro W' HO'; clear HO; (try clear kk); have HO := HO'; clear HO'; (try simp only [zTz, zTs, zTa] at HO); (try have kk := HO.kk); skip))
 go_ret
 exact ⟨rfl, HO.below⟩
theorem tyeqNil (w : World) : (binOp .neq 103 .nilFunc .nilFunc).run Tryz.prog w = .ok (.bool false) w := by kernel_rfl
theorem tyeqFn (n : Nat) (xs ys : Array Value) (w : World) : (binOp .neq 103 (.func (.func n) xs ys) .nilFunc).run Tryz.prog w = .ok (.bool true) w := by kernel_rfl
section
variable {K T mk b o cap back : Nat} {l : List In} {sv : Nat → Option Addr × Nat} {fm : Nat → Option Nat} {tab : Nat → Option TyD} {w : World}
theorem tyfits_skip (h : Ckr K T mk b o cap back l sv fm tab w) (k : Nat) (hk : k < l.length)
  (cA : ∀ W, Below w.heap.size w W → Calls Tryz.prog 84 #[inV l[k] (sv k)] W fun e w' => e = .returned (.bool false) ∧ Below W.heap.size W w') :
  Calls Tryz.prog 51 #[.pointer (some ⟨K, 0, none⟩), .int .i64 k] w fun e w' => e = .returned (.bool true) ∧ Below w.heap.size w w' := by
 have HO := Own.nil w
 have g2 := h.c2
 have zK := block_lt_of_cell g2
 have zb := h.ms.lt
 have e0 := h.ms.op k hk
 have e1 := h.ms.ty k hk
 have e2 := h.ms.res k hk
 have e3 := h.ms.args k hk
 clear h
 have i5 : (k : Int) < l.length := by omega
 obtain ⟨ll, hll⟩ : ∃ ll, Hid (ll = l.length) := ⟨_, hid rfl⟩
 rw [← hll.out] at i5 g2
 generalize l[k] = i at e0 e1 e2 e3 cA
 generalize sv k = s at e3 cA
 obtain ⟨op, ty, res, args⟩ := i
 obtain ⟨sa, sc⟩ := s
 unfold inV at cA
 simp only at e0 e1 e2 e3 cA
 go_enter Tryz.func51, Tryz.ntmps51
 go_wp2_with (first | ((first | (with_reducible refine sp_al HO ?_; intro g hg; rw [← hg.out]; clear hg) | (with_reducible refine sp_alc HO ?_; intro g hg; rw [← hg.out]; clear hg) | (with_reducible refine sp_sk HO ?_) | (with_reducible refine sp_skc HO ?_) | (refine sp_wk HO rfl 41 _ _ rfl rfl rfl (by kernel_rfl) (by rfl) (by simp [Value.oneCell']) ?_)); intro W' HO'; clear HO; (try clear kk); have HO := HO'; clear HO'; (try simp only [zTz, zTs, zTa] at HO); (try have kk := HO.kk); skip) | (refine sp_lk HO rfl 41 _ rfl rfl _ Tryz.underlying41 rfl (by kernel_rfl) ?_) | (go_at_call 84; (with_reducible refine (cA _ HO.below).mono ?_); rintro e w1 ⟨rfl, hn1⟩; replace HO := HO.then hn1; clear hn1; (try clear kk); skip; (try simp only [zTz, zTs, zTa, zDs, zDz] at HO); (try have kk := HO.kk); skip))
 go_ret
 exact ⟨rfl, HO.below⟩
theorem tyfits_fn (h : Ckr K T mk b o cap back l sv fm tab w) (k : Nat) (hk : k < l.length) (hop : l[k].op = 54)
  (cA : ∀ W, Below w.heap.size w W → Calls Tryz.prog 84 #[inV l[k] (sv k)] W fun e w' => e = .returned (.bool true) ∧ Below W.heap.size W w')
  (cF : ∀ W, Below w.heap.size w W → Calls Tryz.prog 85 #[.pointer (some ⟨K, 0, none⟩), inV l[k] (sv k), .int .i64 k] W fun e w' => e = .returned (.bool true) ∧ Below W.heap.size W w') :
  Calls Tryz.prog 51 #[.pointer (some ⟨K, 0, none⟩), .int .i64 k] w fun e w' => e = .returned (.bool true) ∧ Below w.heap.size w w' := by
 have HO := Own.nil w
 have g2 := h.c2
 have zK := block_lt_of_cell g2
 have zb := h.ms.lt
 have e0 := h.ms.op k hk
 have e1 := h.ms.ty k hk
 have e2 := h.ms.res k hk
 have e3 := h.ms.args k hk
 clear h
 have i5 : (k : Int) < l.length := by omega
 obtain ⟨ll, hll⟩ : ∃ ll, Hid (ll = l.length) := ⟨_, hid rfl⟩
 rw [← hll.out] at i5 g2
 generalize l[k] = i at e0 e1 e2 e3 cA cF hop
 generalize sv k = s at e3 cA cF
 obtain ⟨op, ty, res, args⟩ := i
 obtain ⟨sa, sc⟩ := s
 unfold inV at cA cF
 simp only at e0 e1 e2 e3 cA cF hop
 subst hop
 have e0' : w.cell? ⟨b, o + k * 4, none⟩ = some (.int .u16 54) := e0
 have cA' : ∀ W, Below w.heap.size w W → Calls Tryz.prog 84 #[.agg #[.int .u16 54, .int .u32 ty, .int .u32 res, .slice sa args.length sc]] W fun e w' => e = .returned (.bool true) ∧ Below W.heap.size W w' := cA
 have cF' : ∀ W, Below w.heap.size w W → Calls Tryz.prog 85 #[.pointer (some ⟨K, 0, none⟩), .agg #[.int .u16 54, .int .u32 ty, .int .u32 res, .slice sa args.length sc], .int .i64 k] W fun e w' => e = .returned (.bool true) ∧ Below W.heap.size W w' := cF
 clear e0 cA cF
 go_enter Tryz.func51, Tryz.ntmps51
 go_wp2_with (first | ((first | (with_reducible refine sp_al HO ?_; intro g hg; rw [← hg.out]; clear hg) | (with_reducible refine sp_alc HO ?_; intro g hg; rw [← hg.out]; clear hg) | (with_reducible refine sp_sk HO ?_) | (with_reducible refine sp_skc HO ?_) | (refine sp_wk HO rfl 41 _ _ rfl rfl rfl (by kernel_rfl) (by rfl) (by simp [Value.oneCell']) ?_)); intro W' HO'; clear HO; (try clear kk); have HO := HO'; clear HO'; (try simp only [zTz, zTs, zTa] at HO); (try have kk := HO.kk); skip) | (refine sp_lk HO rfl 41 _ rfl rfl _ Tryz.underlying41 rfl (by kernel_rfl) ?_) | (go_at_call 84; (with_reducible refine (cA' _ HO.below).mono ?_); rintro e w1 ⟨rfl, hn1⟩; replace HO := HO.then hn1; clear hn1; (try clear kk); skip; (try simp only [zTz, zTs, zTa, zDs, zDz] at HO); (try have kk := HO.kk); skip) | (go_at_call 85; (with_reducible refine (cF' _ HO.below).mono ?_); rintro e w1 ⟨rfl, hn1⟩; replace HO := HO.then hn1; clear hn1; (try clear kk); skip; (try simp only [zTz, zTs, zTa, zDs, zDz] at HO); (try have kk := HO.kk); skip))
 go_ret
 exact ⟨rfl, HO.below⟩
theorem tyfits_nil (h : Ckr K T mk b o cap back l sv fm tab w) (k : Nat) (hk : k < l.length) (hop : l[k].op ≠ 54)
  (cA : ∀ W, Below w.heap.size w W → Calls Tryz.prog 84 #[inV l[k] (sv k)] W fun e w' => e = .returned (.bool true) ∧ Below W.heap.size W w')
  (cF : ∀ W, Below w.heap.size w W → Calls Tryz.prog 86 #[.pointer (some ⟨K, 0, none⟩), .int .u16 l[k].op] W fun e w' => e = .returned .nilFunc ∧ Below W.heap.size W w') :
  Calls Tryz.prog 51 #[.pointer (some ⟨K, 0, none⟩), .int .i64 k] w fun e w' => e = .returned (.bool true) ∧ Below w.heap.size w w' := by
 have HO := Own.nil w
 have g2 := h.c2
 have zK := block_lt_of_cell g2
 have zb := h.ms.lt
 have e0 := h.ms.op k hk
 have e1 := h.ms.ty k hk
 have e2 := h.ms.res k hk
 have e3 := h.ms.args k hk
 clear h
 have i5 : (k : Int) < l.length := by omega
 obtain ⟨ll, hll⟩ : ∃ ll, Hid (ll = l.length) := ⟨_, hid rfl⟩
 rw [← hll.out] at i5 g2
 generalize l[k] = i at e0 e1 e2 e3 cA cF hop
 generalize sv k = s at e3 cA cF
 obtain ⟨op, ty, res, args⟩ := i
 obtain ⟨sa, sc⟩ := s
 unfold inV at cA
 simp only at e0 e1 e2 e3 cA cF hop
 have i1 : ((op : Int) == 54) = false := by rw [beq_eq_false_iff_ne]; omega
 clear hop
 have he := tyeqNil
 go_enter Tryz.func51, Tryz.ntmps51
 go_wp2_with (first | ((first | (with_reducible refine sp_al HO ?_; intro g hg; rw [← hg.out]; clear hg) | (with_reducible refine sp_alc HO ?_; intro g hg; rw [← hg.out]; clear hg) | (with_reducible refine sp_sk HO ?_) | (with_reducible refine sp_skc HO ?_) | (refine sp_wk HO rfl 41 _ _ rfl rfl rfl (by kernel_rfl) (by rfl) (by simp [Value.oneCell']) ?_)); intro W' HO'; clear HO; (try clear kk); have HO := HO'; clear HO'; (try simp only [zTz, zTs, zTa] at HO); (try have kk := HO.kk); skip) | (refine sp_lk HO rfl 41 _ rfl rfl _ Tryz.underlying41 rfl (by kernel_rfl) ?_) | (go_at_call 84; (with_reducible refine (cA _ HO.below).mono ?_); rintro e w1 ⟨rfl, hn1⟩; replace HO := HO.then hn1; clear hn1; (try clear kk); skip; (try simp only [zTz, zTs, zTa, zDs, zDz] at HO); (try have kk := HO.kk); skip) | (go_at_call 86; (with_reducible refine (cF _ HO.below).mono ?_); rintro e w1 ⟨rfl, hn1⟩; replace HO := HO.then hn1; clear hn1; (try clear kk); skip; (try simp only [zTz, zTs, zTa, zDs, zDz] at HO); (try have kk := HO.kk); skip))
 go_ret
 exact ⟨rfl, HO.below⟩
theorem tyfits_call (h : Ckr K T mk b o cap back l sv fm tab w) (k F : Nat) (r : Bool) (hk : k < l.length) (hop : l[k].op ≠ 54)
  (cA : ∀ W, Below w.heap.size w W → Calls Tryz.prog 84 #[inV l[k] (sv k)] W fun e w' => e = .returned (.bool true) ∧ Below W.heap.size W w')
  (cF : ∀ W, Below w.heap.size w W → Calls Tryz.prog 86 #[.pointer (some ⟨K, 0, none⟩), .int .u16 l[k].op] W fun e w' => e = .returned (.func (.func F) #[.pointer (some ⟨K, 0, none⟩)] #[]) ∧ Below W.heap.size W w')
  (hF : F = 132 ∨ F = 198 ∨ F = 199 ∨ F = 136)
  (cG : ∀ W, Below w.heap.size w W → Calls Tryz.prog F #[.pointer (some ⟨K, 0, none⟩), inV l[k] (sv k)] W fun e w' => e = .returned (.bool r) ∧ Below W.heap.size W w') :
  Calls Tryz.prog 51 #[.pointer (some ⟨K, 0, none⟩), .int .i64 k] w fun e w' => e = .returned (.bool r) ∧ Below w.heap.size w w' := by
 have HO := Own.nil w
 have g2 := h.c2
 have zK := block_lt_of_cell g2
 have zb := h.ms.lt
 have e0 := h.ms.op k hk
 have e1 := h.ms.ty k hk
 have e2 := h.ms.res k hk
 have e3 := h.ms.args k hk
 clear h
 have i5 : (k : Int) < l.length := by omega
 obtain ⟨ll, hll⟩ : ∃ ll, Hid (ll = l.length) := ⟨_, hid rfl⟩
 rw [← hll.out] at i5 g2
 generalize l[k] = i at e0 e1 e2 e3 cA cF cG hop
 generalize sv k = s at e3 cA cF cG
 obtain ⟨op, ty, res, args⟩ := i
 obtain ⟨sa, sc⟩ := s
 unfold inV at cA cG
 simp only at e0 e1 e2 e3 cA cF cG hop
 have i1 : ((op : Int) == 54) = false := by rw [beq_eq_false_iff_ne]; omega
 clear hop
 rcases hF with rfl | rfl | rfl | rfl
 ·have he := fun xs ys => tyeqFn 132 xs ys
  go_enter Tryz.func51, Tryz.ntmps51
  go_wp2_with (first | ((first | (with_reducible refine sp_al HO ?_; intro g hg; rw [← hg.out]; clear hg) | (with_reducible refine sp_alc HO ?_; intro g hg; rw [← hg.out]; clear hg) | (with_reducible refine sp_sk HO ?_) | (with_reducible refine sp_skc HO ?_) | (refine sp_wk HO rfl 41 _ _ rfl rfl rfl (by kernel_rfl) (by rfl) (by simp [Value.oneCell']) ?_)); intro W' HO'; clear HO; (try clear kk); have HO := HO'; clear HO'; (try simp only [zTz, zTs, zTa] at HO); (try have kk := HO.kk); skip) | (refine sp_lk HO rfl 41 _ rfl rfl _ Tryz.underlying41 rfl (by kernel_rfl) ?_) | (go_at_call 84; (with_reducible refine (cA _ HO.below).mono ?_); rintro e w1 ⟨rfl, hn1⟩; replace HO := HO.then hn1; clear hn1; (try clear kk); skip; (try simp only [zTz, zTs, zTa, zDs, zDz] at HO); (try have kk := HO.kk); skip) | (go_at_call 86; (with_reducible refine (cF _ HO.below).mono ?_); rintro e w1 ⟨rfl, hn1⟩; replace HO := HO.then hn1; clear hn1; (try clear kk); skip; (try simp only [zTz, zTs, zTa, zDs, zDz] at HO); (try have kk := HO.kk); skip) | (go_at_call 132; (with_reducible refine (cG _ HO.below).mono ?_); rintro e w1 ⟨rfl, hn1⟩; replace HO := HO.then hn1; clear hn1; (try clear kk); skip; (try simp only [zTz, zTs, zTa, zDs, zDz] at HO); (try have kk := HO.kk); skip))
  go_ret
  exact ⟨rfl, HO.below⟩
 ·have he := fun xs ys => tyeqFn 198 xs ys
  go_enter Tryz.func51, Tryz.ntmps51
  go_wp2_with (first | ((first | (with_reducible refine sp_al HO ?_; intro g hg; rw [← hg.out]; clear hg) | (with_reducible refine sp_alc HO ?_; intro g hg; rw [← hg.out]; clear hg) | (with_reducible refine sp_sk HO ?_) | (with_reducible refine sp_skc HO ?_) | (refine sp_wk HO rfl 41 _ _ rfl rfl rfl (by kernel_rfl) (by rfl) (by simp [Value.oneCell']) ?_)); intro W' HO'; clear HO; (try clear kk); have HO := HO'; clear HO'; (try simp only [zTz, zTs, zTa] at HO); (try have kk := HO.kk); skip) | (refine sp_lk HO rfl 41 _ rfl rfl _ Tryz.underlying41 rfl (by kernel_rfl) ?_) | (go_at_call 84; (with_reducible refine (cA _ HO.below).mono ?_); rintro e w1 ⟨rfl, hn1⟩; replace HO := HO.then hn1; clear hn1; (try clear kk); skip; (try simp only [zTz, zTs, zTa, zDs, zDz] at HO); (try have kk := HO.kk); skip) | (go_at_call 86; (with_reducible refine (cF _ HO.below).mono ?_); rintro e w1 ⟨rfl, hn1⟩; replace HO := HO.then hn1; clear hn1; (try clear kk); skip; (try simp only [zTz, zTs, zTa, zDs, zDz] at HO); (try have kk := HO.kk); skip) | (go_at_call 198; (with_reducible refine (cG _ HO.below).mono ?_); rintro e w1 ⟨rfl, hn1⟩; replace HO := HO.then hn1; clear hn1; (try clear kk); skip; (try simp only [zTz, zTs, zTa, zDs, zDz] at HO); (try have kk := HO.kk); skip))
  go_ret
  exact ⟨rfl, HO.below⟩
 ·have he := fun xs ys => tyeqFn 199 xs ys
  go_enter Tryz.func51, Tryz.ntmps51
  go_wp2_with (first | ((first | (with_reducible refine sp_al HO ?_; intro g hg; rw [← hg.out]; clear hg) | (with_reducible refine sp_alc HO ?_; intro g hg; rw [← hg.out]; clear hg) | (with_reducible refine sp_sk HO ?_) | (with_reducible refine sp_skc HO ?_) | (refine sp_wk HO rfl 41 _ _ rfl rfl rfl (by kernel_rfl) (by rfl) (by simp [Value.oneCell']) ?_)); intro W' HO'; clear HO; (try clear kk); have HO := HO'; clear HO'; (try simp only [zTz, zTs, zTa] at HO); (try have kk := HO.kk); skip) | (refine sp_lk HO rfl 41 _ rfl rfl _ Tryz.underlying41 rfl (by kernel_rfl) ?_) | (go_at_call 84; (with_reducible refine (cA _ HO.below).mono ?_); rintro e w1 ⟨rfl, hn1⟩; replace HO := HO.then hn1; clear hn1; (try clear kk); skip; (try simp only [zTz, zTs, zTa, zDs, zDz] at HO); (try have kk := HO.kk); skip) | (go_at_call 86; (with_reducible refine (cF _ HO.below).mono ?_); rintro e w1 ⟨rfl, hn1⟩; replace HO := HO.then hn1; clear hn1; (try clear kk); skip; (try simp only [zTz, zTs, zTa, zDs, zDz] at HO); (try have kk := HO.kk); skip) | (go_at_call 199; (with_reducible refine (cG _ HO.below).mono ?_); rintro e w1 ⟨rfl, hn1⟩; replace HO := HO.then hn1; clear hn1; (try clear kk); skip; (try simp only [zTz, zTs, zTa, zDs, zDz] at HO); (try have kk := HO.kk); skip))
  go_ret
  exact ⟨rfl, HO.below⟩
 ·have he := fun xs ys => tyeqFn 136 xs ys
  go_enter Tryz.func51, Tryz.ntmps51
  go_wp2_with (first | ((first | (with_reducible refine sp_al HO ?_; intro g hg; rw [← hg.out]; clear hg) | (with_reducible refine sp_alc HO ?_; intro g hg; rw [← hg.out]; clear hg) | (with_reducible refine sp_sk HO ?_) | (with_reducible refine sp_skc HO ?_) | (refine sp_wk HO rfl 41 _ _ rfl rfl rfl (by kernel_rfl) (by rfl) (by simp [Value.oneCell']) ?_)); intro W' HO'; clear HO; (try clear kk); have HO := HO'; clear HO'; (try simp only [zTz, zTs, zTa] at HO); (try have kk := HO.kk); skip) | (refine sp_lk HO rfl 41 _ rfl rfl _ Tryz.underlying41 rfl (by kernel_rfl) ?_) | (go_at_call 84; (with_reducible refine (cA _ HO.below).mono ?_); rintro e w1 ⟨rfl, hn1⟩; replace HO := HO.then hn1; clear hn1; (try clear kk); skip; (try simp only [zTz, zTs, zTa, zDs, zDz] at HO); (try have kk := HO.kk); skip) | (go_at_call 86; (with_reducible refine (cF _ HO.below).mono ?_); rintro e w1 ⟨rfl, hn1⟩; replace HO := HO.then hn1; clear hn1; (try clear kk); skip; (try simp only [zTz, zTs, zTa, zDs, zDz] at HO); (try have kk := HO.kk); skip) | (go_at_call 136; (with_reducible refine (cG _ HO.below).mono ?_); rintro e w1 ⟨rfl, hn1⟩; replace HO := HO.then hn1; clear hn1; (try clear kk); skip; (try simp only [zTz, zTs, zTa, zDs, zDz] at HO); (try have kk := HO.kk); skip))
  go_ret
  exact ⟨rfl, HO.below⟩
end
end Go.Proofs.YtbhijdmlonplgaaGreatDoor
