/- Typing: alike, arithmetic, load, store. -/
import Derived.Test.YtindnnbopaeklaaGreatDoorBc
import Derived.Test.YtindnnbopaeklaaGreatDoorDa
import Derived.Test.YtindnnbopaeklaaGreatDoorAf
namespace Go.Proofs.YtindnnbopaeklaaGreatDoor
set_option linter.unusedVariables false
set_option linter.unusedSimpArgs false
set_option maxRecDepth 100000
set_option maxHeartbeats 4000000
open Go.RowKit Go.MapKept
section
variable {K T mk b o cap back : Nat} {l : List In} {sv : Nat → Option Addr × Nat} {fm : Nat → Option Nat} {tab : Nat → Option TyD} {w : World}
theorem tyalike_own (r : Bool) (h : Ckr K T mk b o cap back l sv fm tab w) (ab ao cm x y jx jy ty : Nat) (h2 : Two ab ao x y w) (hx : fm x = some jx) (hy : fm y = some jy) (ox : (l.getD jx noIn).op ≠ 54) (oy : (l.getD jy noIn).op ≠ 54)
  (cA : ∀ W, Below w.heap.size w W → Calls Tryz.prog 386 #[.pointer (some ⟨T, 0, none⟩), .int .u32 ty, .int .u32 (l.getD jx noIn).ty] W fun e w' => e = .returned (.bool r) ∧ Below W.heap.size W w')
  (cB : ∀ W, Below w.heap.size w W → Calls Tryz.prog 386 #[.pointer (some ⟨T, 0, none⟩), .int .u32 ty, .int .u32 (l.getD jy noIn).ty] W fun e w' => e = .returned (.bool r) ∧ Below W.heap.size W w') :
  Calls Tryz.prog 336 #[.pointer (some ⟨K, 0, none⟩), .int .u32 ty, .slice (some ⟨ab, ao, none⟩) 2 cm] w fun e w' => e = .returned (.bool r) ∧ Below w.heap.size w w' := by
 have HO := Own.nil w
 have cC : ∀ (B C : Nat) (W : World), Below w.heap.size w W → W.cell? ⟨B, 0, none⟩ = some (.pointer (some ⟨K, 0, none⟩)) → W.cell? ⟨C, 0, none⟩ = some (.int .u32 ty) → Calls Tryz.prog 384 #[.slice (some ⟨ab, ao, none⟩) 2 cm, .func (.func 385) #[] #[.pointer (some ⟨B, 0, none⟩), .pointer (some ⟨C, 0, none⟩)]] W fun e w' => e = .returned (.bool (!r)) ∧ Below W.heap.size W w' := fun B C W hb hB hC => by
  have zB := block_lt_of_cell hB
  have zC := block_lt_of_cell hC
  have cX : ∀ W2, Below W.heap.size W W2 → Calls Tryz.prog 385 #[.agg #[.int .u8 1, .int .u32 x, .string ⟨#[]⟩], .pointer (some ⟨B, 0, none⟩), .pointer (some ⟨C, 0, none⟩)] W2 fun e w' => e = .returned (.bool (!r)) ∧ Below W2.heap.size W2 w' := fun W2 hb2 =>
   alikec_own r ((h.below hb).below hb2) B C ty x jx 1 ⟨#[]⟩ (cell_last hB zB hb2) (cell_last hC zC hb2) hx ox (fun W3 hb3 => cA W3 (bcall (bcall hb hb2) hb3))
  have cY : ∀ W2, Below W.heap.size W W2 → Calls Tryz.prog 385 #[.agg #[.int .u8 1, .int .u32 y, .string ⟨#[]⟩], .pointer (some ⟨B, 0, none⟩), .pointer (some ⟨C, 0, none⟩)] W2 fun e w' => e = .returned (.bool (!r)) ∧ Below W2.heap.size W2 w' := fun W2 hb2 =>
   alikec_own r ((h.below hb).below hb2) B C ty y jy 1 ⟨#[]⟩ (cell_last hB zB hb2) (cell_last hC zC hb2) hy oy (fun W3 hb3 => cB W3 (bcall (bcall hb hb2) hb3))
  have h3 := h2.below hb
  cases r with
  | true => exact acontains_own ab ao cm B C false (-1) (.inl ⟨rfl, rfl⟩) (fun W2 hb2 => aindex_none ab ao cm B C x y (h3.below hb2) (fun W3 hb3 => cX W3 (bcall hb2 hb3)) (fun W3 hb3 => cY W3 (bcall hb2 hb3)))
  | false => exact acontains_own ab ao cm B C true 0 (.inr ⟨rfl, rfl⟩) (fun W2 hb2 => aindex_first ab ao cm B C x y (h3.below hb2) (fun W3 hb3 => cX W3 (bcall hb2 hb3)))
 clear cA cB h h2 hx hy ox oy
 go_enter Tryz.func336, Tryz.ntmps336
 go_wp2_with (first | ((first | ((with_reducible first | refine sp_al HO ?_ | refine sp_alc HO ?_); intro g hg; rw [← hg.out]; clear hg) | (with_reducible first | refine sp_sk HO ?_ | refine sp_skc HO ?_)); clear HO; (try clear kk); intro W' HO; (try simp only [zTz, zTs, zTa] at HO); (try have kk := HO.kk)))
 rename_i gB W1 K1 a1
 have cc := cC _ _ W' HO.below (HO.cell 1 0 rfl rfl) (HO.cell 0 0 rfl rfl)
 refine cc.mono ?_
 clear cc cC
 rintro e w1 ⟨rfl, hn1⟩
 replace HO := HO.then hn1
 clear hn1
 cases r
 all_goals
  go_wp2_with fail
  go_ret
  exact ⟨rfl, HO.below⟩
theorem tyarith_own (r : Bool) (op ty res ab ao cm : Nat)
  (cN : ∀ W, Below w.heap.size w W → Calls Tryz.prog 335 #[.pointer (some ⟨K, 0, none⟩), .int .u32 ty] W fun e w' => e = .returned (.bool true) ∧ Below W.heap.size W w')
  (cA : ∀ W, Below w.heap.size w W → Calls Tryz.prog 336 #[.pointer (some ⟨K, 0, none⟩), .int .u32 ty, .slice (some ⟨ab, ao, none⟩) 2 cm] W fun e w' => e = .returned (.bool r) ∧ Below W.heap.size W w') :
  Calls Tryz.prog 293 #[.pointer (some ⟨K, 0, none⟩), .agg #[.int .u16 op, .int .u32 ty, .int .u32 res, .slice (some ⟨ab, ao, none⟩) 2 cm]] w fun e w' => e = .returned (.bool r) ∧ Below w.heap.size w w' := by
 have HO := Own.nil w
 go_enter Tryz.func293, Tryz.ntmps293
 go_wp2_with (first | ((first | ((with_reducible first | refine sp_al HO ?_ | refine sp_alc HO ?_); intro g hg; rw [← hg.out]; clear hg) | (with_reducible first | refine sp_sk HO ?_ | refine sp_skc HO ?_)); clear HO; (try clear kk); intro W' HO; (try simp only [zTz, zTs, zTa] at HO); (try have kk := HO.kk)) | (go_at_call 335; (with_reducible refine (cN _ HO.below).mono ?_); rintro e w1 ⟨rfl, hn1⟩; replace HO := HO.then hn1; clear hn1; (try clear kk); (try simp only [zTz, zTs, zTa, zDs, zDz] at HO); (try have kk := HO.kk)) | (go_at_call 336; (with_reducible refine (cA _ HO.below).mono ?_); rintro e w1 ⟨rfl, hn1⟩; replace HO := HO.then hn1; clear hn1; (try clear kk); (try simp only [zTz, zTs, zTa, zDs, zDz] at HO); (try have kk := HO.kk)))
 go_ret
 exact ⟨rfl, HO.below⟩
theorem tysig_own (h : Ckr K T mk b o cap back l sv fm tab w) (f rt : Nat) (d : TyD) (hd : tab f = some d) (hk : d.kind = 8) (ht : d.times = 0) (hp : d.parts = [rt]) :
  Calls Tryz.prog 286 #[.pointer (some ⟨K, 0, none⟩), .int .u32 f, .int .u32 rt, .slice none 0 0] w fun e w' => e = .returned (.bool true) ∧ Below w.heap.size w w' := by
 have HO := Own.nil w
 have g0 := h.c0
 have zK := block_lt_of_cell g0
 have ed : getD_ tab f = d := by unfold getD_; rw [hd]; rfl
 have cK : ∀ W, Below w.heap.size w W → Calls Tryz.prog 65 #[.pointer (some ⟨T, 0, none⟩), .int .u32 f] W fun e w' => e = .returned (.int .u8 8) ∧ Below W.heap.size W w' := fun W hb => by
  obtain ⟨lo, ht⟩ := (h.below hb).tb
  have := ht.kind f
  rw [ed, hk] at this
  exact this
 have cC : ∀ W, Below w.heap.size w W → Calls Tryz.prog 66 #[.pointer (some ⟨T, 0, none⟩), .int .u32 f] W fun e w' => e = .returned (.int .i64 1) ∧ Below W.heap.size W w' := fun W hb => by
  obtain ⟨lo, ht2⟩ := (h.below hb).tb
  have := ht2.count f (by rw [ed, ht, hp]; simp)
  rw [ed, ht, hp] at this
  exact this
 have cP : ∀ W, Below w.heap.size w W → Calls Tryz.prog 334 #[.pointer (some ⟨K, 0, none⟩), .int .u32 f, .int .i64 0] W fun e w' => e = .returned (.int .u32 rt) ∧ Below W.heap.size W w' := fun W hb =>
  typart_own (K := K) (T := T) (w := W) f 0 rt true (h.below hb).c0 (fun W2 hb2 => by
   obtain ⟨lo, ht2⟩ := ((h.below hb).below hb2).tb
   exact ht2.part_list f 0 rt d hd ht (by rw [hp]; rfl) (by rw [hp]; simp))
 clear h hd hk ht hp ed
 go_enter Tryz.func286, Tryz.ntmps286
 go_wp2_with (first | (go_at_call 65; (with_reducible refine (cK _ HO.below).mono ?_); rintro e w1 ⟨rfl, hn1⟩; replace HO := HO.then hn1; clear hn1; (try clear ho); have ho := Own.old HO) | (go_at_call 66; (with_reducible refine (cC _ HO.below).mono ?_); rintro e w1 ⟨rfl, hn1⟩; replace HO := HO.then hn1; clear hn1; (try clear ho); have ho := Own.old HO) | (go_at_call 334; (with_reducible refine (cP _ HO.below).mono ?_); rintro e w1 ⟨rfl, hn1⟩; replace HO := HO.then hn1; clear hn1; (try clear ho); have ho := Own.old HO))
 refine wp_loop_rounds 1 ?_
 rw [rounds_succ]
 go_wp2_with fail
 go_ret
 exact ⟨rfl, HO.below⟩
theorem tyfunc_own (h : Ckr K T mk b o cap back l sv fm tab w) (k rt res ab ao cm f : Nat) (d : TyD) (hcap : l.length ≤ cap) (hn : l.length ≤ 2000) (hk1 : k + 1 < l.length) (h55 : l[k + 1].op ≠ 55) (hx : w.cell? ⟨ab, ao + 4, none⟩ = some (.int .u32 f)) (hd : tab f = some d) (hk : d.kind = 8) (ht : d.times = 0) (hp : d.parts = [rt]) :
  Calls Tryz.prog 258 #[.pointer (some ⟨K, 0, none⟩), .agg #[.int .u16 54, .int .u32 rt, .int .u32 res, .slice (some ⟨ab, ao, none⟩) 2 cm], .int .i64 k] w fun e w' => e = .returned (.bool true) ∧ Below w.heap.size w w' := by
 have HO := Own.nil w
 have g2 := h.c2
 have zK := block_lt_of_cell g2
 have zA := block_lt_of_cell hx
 have zb := h.ms.lt
 have e0 := h.ms.op (k + 1) hk1
 have e1 := h.ms.ty (k + 1) hk1
 have e2 := h.ms.res (k + 1) hk1
 have e3 := h.ms.args (k + 1) hk1
 have cS : ∀ W, Below w.heap.size w W → Calls Tryz.prog 286 #[.pointer (some ⟨K, 0, none⟩), .int .u32 f, .int .u32 rt, .slice none 0 0] W fun e w' => e = .returned (.bool true) ∧ Below W.heap.size W w' := fun W hb => tysig_own (h.below hb) f rt d hd hk ht hp
 have t0 : ((l[k + 1].op : Int) == 55) = false := by rw [beq_eq_false_iff_ne]; omega
 clear h hd hk ht hp h55
 generalize l[k + 1] = i at e0 e1 e2 e3 t0
 generalize sv (k + 1) = s at e3
 obtain ⟨sa, sc⟩ := s
 simp only at e3
 have i5 : (k : Int) + 1 < l.length := by omega
 have i6 : (k : Int) + 1 ≤ l.length := by omega
 go_enter Tryz.func258, Tryz.ntmps258
 go_wp2_with (first | ((first | ((with_reducible first | refine sp_al HO ?_ | refine sp_alc HO ?_); intro g hg; rw [← hg.out]; clear hg) | (with_reducible first | refine sp_sk HO ?_ | refine sp_skc HO ?_)); clear HO; (try clear kk); intro W' HO; (try simp only [zTz, zTs, zTa] at HO); (try have kk := HO.kk)))
 refine wp_loop_rounds 1 ?_
 rw [rounds_succ]
 go_wp2_with (first | ((first | (with_reducible refine sp_al HO ?_; intro g hg; rw [← hg.out]; clear hg) | (with_reducible first | refine sp_sk HO ?_ | refine sp_skc HO ?_) | (refine sp_wk HO rfl 43 _ _ rfl rfl rfl (by kernel_rfl) (by rfl) (by simp [Value.oneCell']) ?_)); clear HO; (try clear kk); intro W' HO; (try simp only [zTz, zTs, zTa] at HO); (try have kk := HO.kk)))
 replace HO := HO.drop 1
 simp only [List.drop_succ_cons, List.drop_zero] at HO
 (try clear kk)
 (try simp only [zTz, zTs, zTa, zDs, zDz] at HO); (try have kk := HO.kk)
 have bl := HO.below
 have q0 := bl.cell (p := ⟨ab, ao + 4, none⟩) zA
 rw [hx] at q0
 have zA2 : ab < W'.heap.size := Nat.lt_of_lt_of_le zA bl.size
 have z0 := HO.lt 0 rfl
 have B0 := Below.refl W'.heap.size W'
 have cS1 : ∀ W, Below W'.heap.size W' W → _ := fun W hb => cS W (bl.trans (hb.mono bl.size))
 clear cS
 (try replace kk := kk.2)
 go_cut [6] (fun s6 wx => s6 = .bool true ∧ Below w.heap.size w wx)
 case first =>
  go_region_held3 (fun W => (∀ b j, b < W'.heap.size → W.cell? ⟨b, j, none⟩ = W'.cell? ⟨b, j, none⟩) ∧ Below W'.heap.size W' W) ((refine mkS W' _ ?_; repeat (first | exact B0 | refine below_drw ?_ | refine bal ?_ _ | refine bcall ?_ hn1.out | refine row_below ?_ (by first | assumption | omega) _ | refine below_setc ?_ (by first | assumption | omega))))
   (first | (go_at_call 286; (with_reducible refine (cS1 _ (by repeat (first | exact B0 | refine below_drw ?_ | refine bal ?_ _ | refine bcall ?_ hn1.out | refine row_below ?_ (by first | assumption | omega) _ | refine below_setc ?_ (by first | assumption | omega)))).mono ?_); rintro e w2 ⟨rfl, hn0⟩; have hn1 := hid hn0; clear hn0))
  all_goals
   go_wp2_with fail
   rename_i hh
   go_meet
   exact ⟨rfl, bl.trans (hh.2.mono bl.size)⟩
 case rest =>
 obtain ⟨rfl, h1⟩ := hcut
 go_wp2_with fail
 go_ret
 exact ⟨rfl, h1⟩
end
def tyF (K n : Nat) : Value := .func (.func n) #[.pointer (some ⟨K, 0, none⟩)] #[]
def tyAsk (K op : Nat) : Value := if op = 254 then tyF K 298 else if op = 56 ∨ op = 248 then .nilFunc else tyF K 293
theorem tymem_own (K op : Nat) (v : Value) (h : op = 56 ∧ v = .nilFunc ∨ op = 248 ∧ v = .nilFunc) (w : World) :
  Calls Tryz.prog 299 #[.pointer (some ⟨K, 0, none⟩), .int .u16 op] w fun e w' => e = .returned v ∧ Below w.heap.size w w' := by
 rcases h with ⟨rfl, rfl⟩ | ⟨rfl, rfl⟩
 all_goals
  go_enter Tryz.func299, Tryz.ntmps299
  go_wp2_with fail
  go_ret
  exact ⟨rfl, Below.refl _ _⟩
theorem tyasks_mem (K op : Nat) (v : Value) (h : op = 56 ∧ v = .nilFunc ∨ op = 248 ∧ v = .nilFunc) (w : World) :
  Calls Tryz.prog 259 #[.pointer (some ⟨K, 0, none⟩), .int .u16 op] w fun e w' => e = .returned v ∧ Below w.heap.size w w' := by
 have cM := fun W => tymem_own K op v h W
 have HO := Own.nil w
 have ho : op = 56 ∨ op = 248 := by
  rcases h with ⟨h, -⟩ | ⟨h, -⟩ <;> simp [h]
 clear h
 rcases ho with rfl | rfl
 ·have cQ : ∀ W, Calls Tryz.prog 299 #[.pointer (some ⟨K, 0, none⟩), .int .u16 56] W fun e w' => e = .returned v ∧ Below W.heap.size W w' := cM
  go_enter Tryz.func259, Tryz.ntmps259
  go_wp2_with (first | (go_at_call 299; (with_reducible refine (cQ _).mono ?_); rintro e w1 ⟨rfl, hn1⟩; replace HO := HO.then hn1; clear hn1))
  go_ret
  exact ⟨rfl, HO.below⟩
 ·have cQ : ∀ W, Calls Tryz.prog 299 #[.pointer (some ⟨K, 0, none⟩), .int .u16 248] W fun e w' => e = .returned v ∧ Below W.heap.size W w' := cM
  go_enter Tryz.func259, Tryz.ntmps259
  go_wp2_with (first | (go_at_call 299; (with_reducible refine (cQ _).mono ?_); rintro e w1 ⟨rfl, hn1⟩; replace HO := HO.then hn1; clear hn1))
  go_ret
  exact ⟨rfl, HO.below⟩
theorem tyasks_line (K op : Nat) (h : isTwo op = true ∨ op = 254) (w : World) :
  Calls Tryz.prog 259 #[.pointer (some ⟨K, 0, none⟩), .int .u16 op] w fun e w' => e = .returned (tyAsk K op) ∧ Below w.heap.size w w' := by
 have hm : op ∈ [128, 130, 132, 134, 135, 137, 138, 139, 194, 195, 196, 197, 198, 199, 254] := by
  rcases h with h | h
  ·have := isTwo_mem h
   exact List.mem_append_left [254] this
  ·subst h; decide
 clear h
 simp only [List.mem_cons, List.not_mem_nil, or_false] at hm
 rcases hm with rfl | rfl | rfl | rfl | rfl | rfl | rfl | rfl | rfl | rfl | rfl | rfl | rfl | rfl | rfl
 all_goals
  go_enter Tryz.func259, Tryz.ntmps259
  go_wp2_with fail
  go_ret
  exact ⟨rfl, Below.refl _ _⟩
theorem tyasked_form (op ty res : Nat) (v : Value) (r : Bool) (h : op ≠ 59) (hr : ((formOf op).part == 8) = r) (w : World) :
  Calls Tryz.prog 257 #[.agg #[.int .u16 op, .int .u32 ty, .int .u32 res, v]] w fun e w' => e = .returned (.bool r) ∧ Below w.heap.size w w' := by
 have HO := Own.nil w
 have cO := fun W => of_own op W
 generalize formOf op = f at hr cO
 obtain ⟨fo, fn, ft, fr, ff, fs, fmm, fp⟩ := f
 unfold Fm.val Fm.cells at cO
 simp only at cO hr
 have i1 : ((op : Int) == 59) = false := by rw [beq_eq_false_iff_ne]; omega
 have i2 : ((fp : Int) == 8) = r := by rw [← hr, Bool.eq_iff_iff, beq_iff_eq, beq_iff_eq]; omega
 clear h hr
 go_enter Tryz.func257, Tryz.ntmps257
 go_wp2_with (first | ((first | ((with_reducible first | refine sp_al HO ?_ | refine sp_alc HO ?_); intro g hg; rw [← hg.out]; clear hg) | (with_reducible first | refine sp_sk HO ?_ | refine sp_skc HO ?_) | (refine sp_wk HO rfl 192 _ _ rfl rfl rfl (by kernel_rfl) (by rfl) (by simp [Value.oneCell']) ?_)); clear HO; (try clear kk); intro W' HO; (try simp only [zTz, zTs, zTa] at HO); (try have kk := HO.kk)) | (go_at_call 122; (with_reducible refine (cO _).mono ?_); rintro e w1 ⟨rfl, hn1⟩; replace HO := HO.then hn1; clear hn1; (try clear kk); (try simp only [zTz, zTs, zTa, zDs, zDz] at HO); (try have kk := HO.kk)))
 all_goals
  go_ret
  exact ⟨by simp_all, HO.below⟩
theorem tyeqNil (w : World) : (binOp .neq 79 .nilFunc .nilFunc).run Tryz.prog w = .ok (.bool false) w := by kernel_rfl
theorem tyeqFn (n : Nat) (xs ys : Array Value) (w : World) : (binOp .neq 79 (.func (.func n) xs ys) .nilFunc).run Tryz.prog w = .ok (.bool true) w := by kernel_rfl
section
variable {K T mk b o cap back : Nat} {l : List In} {sv : Nat → Option Addr × Nat} {fm : Nat → Option Nat} {tab : Nat → Option TyD} {w : World}
theorem tyfits_skip (h : Ckr K T mk b o cap back l sv fm tab w) (k : Nat) (hk : k < l.length)
  (cA : ∀ W, Below w.heap.size w W → Calls Tryz.prog 257 #[inV l[k] (sv k)] W fun e w' => e = .returned (.bool false) ∧ Below W.heap.size W w') :
  Calls Tryz.prog 224 #[.pointer (some ⟨K, 0, none⟩), .int .i64 k] w fun e w' => e = .returned (.bool true) ∧ Below w.heap.size w w' := by
 have HO := Own.nil w
 have g2 := h.c2
 have zK := block_lt_of_cell g2
 have zb := h.ms.lt
 have e0 := h.ms.op k hk
 have e1 := h.ms.ty k hk
 have e2 := h.ms.res k hk
 have e3 := h.ms.args k hk
 clear h
 have i5 : (k : Int) < l.length := by omega
 obtain ⟨ll, hll⟩ : ∃ ll, Hid (ll = l.length) := ⟨_, hid rfl⟩
 rw [← hll.out] at i5 g2
 generalize l[k] = i at e0 e1 e2 e3 cA
 generalize sv k = s at e3 cA
 obtain ⟨op, ty, res, args⟩ := i
 obtain ⟨sa, sc⟩ := s
 unfold inV at cA
 simp only at e0 e1 e2 e3 cA
 go_enter Tryz.func224, Tryz.ntmps224
 go_wp2_with (first | ((first | ((with_reducible first | refine sp_al HO ?_ | refine sp_alc HO ?_); intro g hg; rw [← hg.out]; clear hg) | (with_reducible first | refine sp_sk HO ?_ | refine sp_skc HO ?_) | (refine sp_wk HO rfl 43 _ _ rfl rfl rfl (by kernel_rfl) (by rfl) (by simp [Value.oneCell']) ?_)); clear HO; (try clear kk); intro W' HO; (try simp only [zTz, zTs, zTa] at HO); (try have kk := HO.kk)) | (refine sp_lk HO rfl 43 _ rfl rfl _ Tryz.underlying43 rfl (by kernel_rfl) ?_) | (go_at_call 257; (with_reducible refine (cA _ HO.below).mono ?_); rintro e w1 ⟨rfl, hn1⟩; replace HO := HO.then hn1; clear hn1; (try clear kk); (try simp only [zTz, zTs, zTa, zDs, zDz] at HO); (try have kk := HO.kk)))
 go_ret
 exact ⟨rfl, HO.below⟩
theorem tyfits_fn (h : Ckr K T mk b o cap back l sv fm tab w) (k : Nat) (hk : k < l.length) (hop : l[k].op = 54)
  (cA : ∀ W, Below w.heap.size w W → Calls Tryz.prog 257 #[inV l[k] (sv k)] W fun e w' => e = .returned (.bool true) ∧ Below W.heap.size W w')
  (cF : ∀ W, Below w.heap.size w W → Calls Tryz.prog 258 #[.pointer (some ⟨K, 0, none⟩), inV l[k] (sv k), .int .i64 k] W fun e w' => e = .returned (.bool true) ∧ Below W.heap.size W w') :
  Calls Tryz.prog 224 #[.pointer (some ⟨K, 0, none⟩), .int .i64 k] w fun e w' => e = .returned (.bool true) ∧ Below w.heap.size w w' := by
 have HO := Own.nil w
 have g2 := h.c2
 have zK := block_lt_of_cell g2
 have zb := h.ms.lt
 have e0 := h.ms.op k hk
 have e1 := h.ms.ty k hk
 have e2 := h.ms.res k hk
 have e3 := h.ms.args k hk
 clear h
 have i5 : (k : Int) < l.length := by omega
 obtain ⟨ll, hll⟩ : ∃ ll, Hid (ll = l.length) := ⟨_, hid rfl⟩
 rw [← hll.out] at i5 g2
 generalize l[k] = i at e0 e1 e2 e3 cA cF hop
 generalize sv k = s at e3 cA cF
 obtain ⟨op, ty, res, args⟩ := i
 obtain ⟨sa, sc⟩ := s
 unfold inV at cA cF
 simp only at e0 e1 e2 e3 cA cF hop
 subst hop
 have e0' : w.cell? ⟨b, o + k * 4, none⟩ = some (.int .u16 54) := e0
 have cA' : ∀ W, Below w.heap.size w W → Calls Tryz.prog 257 #[.agg #[.int .u16 54, .int .u32 ty, .int .u32 res, .slice sa args.length sc]] W fun e w' => e = .returned (.bool true) ∧ Below W.heap.size W w' := cA
 have cF' : ∀ W, Below w.heap.size w W → Calls Tryz.prog 258 #[.pointer (some ⟨K, 0, none⟩), .agg #[.int .u16 54, .int .u32 ty, .int .u32 res, .slice sa args.length sc], .int .i64 k] W fun e w' => e = .returned (.bool true) ∧ Below W.heap.size W w' := cF
 clear e0 cA cF
 go_enter Tryz.func224, Tryz.ntmps224
 go_wp2_with (first | ((first | ((with_reducible first | refine sp_al HO ?_ | refine sp_alc HO ?_); intro g hg; rw [← hg.out]; clear hg) | (with_reducible first | refine sp_sk HO ?_ | refine sp_skc HO ?_) | (refine sp_wk HO rfl 43 _ _ rfl rfl rfl (by kernel_rfl) (by rfl) (by simp [Value.oneCell']) ?_)); clear HO; (try clear kk); intro W' HO; (try simp only [zTz, zTs, zTa] at HO); (try have kk := HO.kk)) | (refine sp_lk HO rfl 43 _ rfl rfl _ Tryz.underlying43 rfl (by kernel_rfl) ?_) | (go_at_call 257; (with_reducible refine (cA' _ HO.below).mono ?_); rintro e w1 ⟨rfl, hn1⟩; replace HO := HO.then hn1; clear hn1; (try clear kk); (try simp only [zTz, zTs, zTa, zDs, zDz] at HO); (try have kk := HO.kk)) | (go_at_call 258; (with_reducible refine (cF' _ HO.below).mono ?_); rintro e w1 ⟨rfl, hn1⟩; replace HO := HO.then hn1; clear hn1; (try clear kk); (try simp only [zTz, zTs, zTa, zDs, zDz] at HO); (try have kk := HO.kk)))
 go_ret
 exact ⟨rfl, HO.below⟩
theorem tyfits_nil (h : Ckr K T mk b o cap back l sv fm tab w) (k : Nat) (hk : k < l.length) (hop : l[k].op ≠ 54)
  (cA : ∀ W, Below w.heap.size w W → Calls Tryz.prog 257 #[inV l[k] (sv k)] W fun e w' => e = .returned (.bool true) ∧ Below W.heap.size W w')
  (cF : ∀ W, Below w.heap.size w W → Calls Tryz.prog 259 #[.pointer (some ⟨K, 0, none⟩), .int .u16 l[k].op] W fun e w' => e = .returned .nilFunc ∧ Below W.heap.size W w') :
  Calls Tryz.prog 224 #[.pointer (some ⟨K, 0, none⟩), .int .i64 k] w fun e w' => e = .returned (.bool true) ∧ Below w.heap.size w w' := by
 have HO := Own.nil w
 have g2 := h.c2
 have zK := block_lt_of_cell g2
 have zb := h.ms.lt
 have e0 := h.ms.op k hk
 have e1 := h.ms.ty k hk
 have e2 := h.ms.res k hk
 have e3 := h.ms.args k hk
 clear h
 have i5 : (k : Int) < l.length := by omega
 obtain ⟨ll, hll⟩ : ∃ ll, Hid (ll = l.length) := ⟨_, hid rfl⟩
 rw [← hll.out] at i5 g2
 generalize l[k] = i at e0 e1 e2 e3 cA cF hop
 generalize sv k = s at e3 cA cF
 obtain ⟨op, ty, res, args⟩ := i
 obtain ⟨sa, sc⟩ := s
 unfold inV at cA
 simp only at e0 e1 e2 e3 cA cF hop
 have i1 : ((op : Int) == 54) = false := by rw [beq_eq_false_iff_ne]; omega
 clear hop
 have he := tyeqNil
 go_enter Tryz.func224, Tryz.ntmps224
 go_wp2_with (first | ((first | ((with_reducible first | refine sp_al HO ?_ | refine sp_alc HO ?_); intro g hg; rw [← hg.out]; clear hg) | (with_reducible first | refine sp_sk HO ?_ | refine sp_skc HO ?_) | (refine sp_wk HO rfl 43 _ _ rfl rfl rfl (by kernel_rfl) (by rfl) (by simp [Value.oneCell']) ?_)); clear HO; (try clear kk); intro W' HO; (try simp only [zTz, zTs, zTa] at HO); (try have kk := HO.kk)) | (refine sp_lk HO rfl 43 _ rfl rfl _ Tryz.underlying43 rfl (by kernel_rfl) ?_) | (go_at_call 257; (with_reducible refine (cA _ HO.below).mono ?_); rintro e w1 ⟨rfl, hn1⟩; replace HO := HO.then hn1; clear hn1; (try clear kk); (try simp only [zTz, zTs, zTa, zDs, zDz] at HO); (try have kk := HO.kk)) | (go_at_call 259; (with_reducible refine (cF _ HO.below).mono ?_); rintro e w1 ⟨rfl, hn1⟩; replace HO := HO.then hn1; clear hn1; (try clear kk); (try simp only [zTz, zTs, zTa, zDs, zDz] at HO); (try have kk := HO.kk)))
 go_ret
 exact ⟨rfl, HO.below⟩
theorem tyfits_call (h : Ckr K T mk b o cap back l sv fm tab w) (k F : Nat) (r : Bool) (hk : k < l.length) (hop : l[k].op ≠ 54)
  (cA : ∀ W, Below w.heap.size w W → Calls Tryz.prog 257 #[inV l[k] (sv k)] W fun e w' => e = .returned (.bool true) ∧ Below W.heap.size W w')
  (cF : ∀ W, Below w.heap.size w W → Calls Tryz.prog 259 #[.pointer (some ⟨K, 0, none⟩), .int .u16 l[k].op] W fun e w' => e = .returned (.func (.func F) #[.pointer (some ⟨K, 0, none⟩)] #[]) ∧ Below W.heap.size W w')
  (hF : F = 293 ∨ F = 298)
  (cG : ∀ W, Below w.heap.size w W → Calls Tryz.prog F #[.pointer (some ⟨K, 0, none⟩), inV l[k] (sv k)] W fun e w' => e = .returned (.bool r) ∧ Below W.heap.size W w') :
  Calls Tryz.prog 224 #[.pointer (some ⟨K, 0, none⟩), .int .i64 k] w fun e w' => e = .returned (.bool r) ∧ Below w.heap.size w w' := by
 have HO := Own.nil w
 have g2 := h.c2
 have zK := block_lt_of_cell g2
 have zb := h.ms.lt
 have e0 := h.ms.op k hk
 have e1 := h.ms.ty k hk
 have e2 := h.ms.res k hk
 have e3 := h.ms.args k hk
 clear h
 have i5 : (k : Int) < l.length := by omega
 obtain ⟨ll, hll⟩ : ∃ ll, Hid (ll = l.length) := ⟨_, hid rfl⟩
 rw [← hll.out] at i5 g2
 generalize l[k] = i at e0 e1 e2 e3 cA cF cG hop
 generalize sv k = s at e3 cA cF cG
 obtain ⟨op, ty, res, args⟩ := i
 obtain ⟨sa, sc⟩ := s
 unfold inV at cA cG
 simp only at e0 e1 e2 e3 cA cF cG hop
 have i1 : ((op : Int) == 54) = false := by rw [beq_eq_false_iff_ne]; omega
 clear hop
 rcases hF with rfl | rfl
 ·have he := fun xs ys => tyeqFn 293 xs ys
  go_enter Tryz.func224, Tryz.ntmps224
  go_wp2_with (first | ((first | ((with_reducible first | refine sp_al HO ?_ | refine sp_alc HO ?_); intro g hg; rw [← hg.out]; clear hg) | (with_reducible first | refine sp_sk HO ?_ | refine sp_skc HO ?_) | (refine sp_wk HO rfl 43 _ _ rfl rfl rfl (by kernel_rfl) (by rfl) (by simp [Value.oneCell']) ?_)); clear HO; (try clear kk); intro W' HO; (try simp only [zTz, zTs, zTa] at HO); (try have kk := HO.kk)) | (refine sp_lk HO rfl 43 _ rfl rfl _ Tryz.underlying43 rfl (by kernel_rfl) ?_) | (go_at_call 257; (with_reducible refine (cA _ HO.below).mono ?_); rintro e w1 ⟨rfl, hn1⟩; replace HO := HO.then hn1; clear hn1; (try clear kk); (try simp only [zTz, zTs, zTa, zDs, zDz] at HO); (try have kk := HO.kk)) | (go_at_call 259; (with_reducible refine (cF _ HO.below).mono ?_); rintro e w1 ⟨rfl, hn1⟩; replace HO := HO.then hn1; clear hn1; (try clear kk); (try simp only [zTz, zTs, zTa, zDs, zDz] at HO); (try have kk := HO.kk)) | (go_at_call 293; (with_reducible refine (cG _ HO.below).mono ?_); rintro e w1 ⟨rfl, hn1⟩; replace HO := HO.then hn1; clear hn1; (try clear kk); (try simp only [zTz, zTs, zTa, zDs, zDz] at HO); (try have kk := HO.kk)))
  go_ret
  exact ⟨rfl, HO.below⟩
 ·have he := fun xs ys => tyeqFn 298 xs ys
  go_enter Tryz.func224, Tryz.ntmps224
  go_wp2_with (first | ((first | ((with_reducible first | refine sp_al HO ?_ | refine sp_alc HO ?_); intro g hg; rw [← hg.out]; clear hg) | (with_reducible first | refine sp_sk HO ?_ | refine sp_skc HO ?_) | (refine sp_wk HO rfl 43 _ _ rfl rfl rfl (by kernel_rfl) (by rfl) (by simp [Value.oneCell']) ?_)); clear HO; (try clear kk); intro W' HO; (try simp only [zTz, zTs, zTa] at HO); (try have kk := HO.kk)) | (refine sp_lk HO rfl 43 _ rfl rfl _ Tryz.underlying43 rfl (by kernel_rfl) ?_) | (go_at_call 257; (with_reducible refine (cA _ HO.below).mono ?_); rintro e w1 ⟨rfl, hn1⟩; replace HO := HO.then hn1; clear hn1; (try clear kk); (try simp only [zTz, zTs, zTa, zDs, zDz] at HO); (try have kk := HO.kk)) | (go_at_call 259; (with_reducible refine (cF _ HO.below).mono ?_); rintro e w1 ⟨rfl, hn1⟩; replace HO := HO.then hn1; clear hn1; (try clear kk); (try simp only [zTz, zTs, zTa, zDs, zDz] at HO); (try have kk := HO.kk)) | (go_at_call 298; (with_reducible refine (cG _ HO.below).mono ?_); rintro e w1 ⟨rfl, hn1⟩; replace HO := HO.then hn1; clear hn1; (try clear kk); (try simp only [zTz, zTs, zTa, zDs, zDz] at HO); (try have kk := HO.kk)))
  go_ret
  exact ⟨rfl, HO.below⟩
theorem tygives_own (h : Ckr K T mk b o cap back l sv fm tab w) (op ty res ab ao cm x j : Nat) (hp : 0 < (getD_ tab back).size) (hx : w.cell? ⟨ab, ao + 1, none⟩ = some (.int .u32 x)) (hf : fm x = some j) (hop : (l.getD j noIn).op ≠ 54) (hty : (l.getD j noIn).ty = back) :
  Calls Tryz.prog 298 #[.pointer (some ⟨K, 0, none⟩), .agg #[.int .u16 op, .int .u32 ty, .int .u32 res, .slice (some ⟨ab, ao, none⟩) 1 cm]] w fun e w' => e = .returned (.bool true) ∧ Below w.heap.size w w' := by
 have HO := Own.nil w
 have zA := block_lt_of_cell hx
 have g0 := h.c0
 have g4 := h.c4
 have zK := block_lt_of_cell g0
 have cP : ∀ W, Below w.heap.size w W → Calls Tryz.prog 136 #[.pointer (some ⟨T, 0, none⟩), .int .u32 back] W fun e w' => e = .returned (.bool true) ∧ Below W.heap.size W w' := fun W hb => by
  obtain ⟨lo, ht⟩ := (h.below hb).tb
  have := ht.plain back
  rw [decide_eq_true hp] at this
  exact this
 have cO : ∀ W, Below w.heap.size w W → Calls Tryz.prog 337 #[.pointer (some ⟨K, 0, none⟩), .int .u32 x] W fun e w' => e = .returned (.int .u32 back) ∧ Below W.heap.size W w' := fun W hb => by
  have := tyof_own (h.below hb) x j hf hop
  rw [hty] at this
  exact this
 clear h hp hf hop hty
 go_enter Tryz.func298, Tryz.ntmps298
 go_wp2_with (first | ((first | ((with_reducible first | refine sp_al HO ?_ | refine sp_alc HO ?_); intro g hg; rw [← hg.out]; clear hg) | (with_reducible first | refine sp_sk HO ?_ | refine sp_skc HO ?_)); clear HO; (try clear kk); intro W' HO; (try simp only [zTz, zTs, zTa] at HO); (try have kk := HO.kk)))
 obtain ⟨gI, rfl⟩ : ∃ q, q = g := ⟨_, rfl⟩
 (try clear kk)
 have hcl : ∀ W W2, (Below w.heap.size w W ∧ W.cell? ⟨gI, 3, none⟩ = some (.slice (some ⟨ab, ao, none⟩) 1 cm)) → Below W.heap.size W W2 → (Below w.heap.size w W2 ∧ W2.cell? ⟨gI, 3, none⟩ = some (.slice (some ⟨ab, ao, none⟩) 1 cm)) := fun _ _ h k => ⟨bcall h.1 k, cell_last h.2 (block_lt_of_cell h.2) k⟩
 have hSw : Below w.heap.size w W'.drew ∧ W'.drew.cell? ⟨gI, 3, none⟩ = some (.slice (some ⟨ab, ao, none⟩) 1 cm) := ⟨HO.drew.below, HO.drew.cell 0 3 rfl rfl⟩
 refine wp_region_s (S := fun W => Below w.heap.size w W ∧ W.cell? ⟨gI, 3, none⟩ = some (.slice (some ⟨ab, ao, none⟩) 1 cm)) (by kernel_rfl) ?_
 refine sTp hcl 0 ?_
 refine sTp hcl 1 ?_
 refine sTp hcl 2 ?_
 refine sTk hcl 3 (v := ?_) (hm := ⟨by rfl, .inl ?_⟩) (hSw := hSw) (h := ?_)
 rotate_left
 ·(intro w hw; have q1 := cell_last g0 zK hw.1; go_simp; first | done | with_reducible rfl)
 try simp only [Act.put, zTa, zTz, zTs]
 refine sTp hcl 4 ?_
 refine sTp hcl 5 ?_
 refine sTp hcl 6 ?_
 refine sTk hcl 7 (v := ?_) (hm := ⟨by rfl, .inl ?_⟩) (hSw := hSw) (h := ?_)
 rotate_left
 ·(intro w hw; have q1 := cell_last g4 zK hw.1; go_simp; first | done | with_reducible rfl)
 try simp only [Act.put, zTa, zTz, zTs]
 refine sTc hcl 8 136 (fun w hw => cP w hw.1) ?_
 refine sTp hcl 9 ?_
 refine sTp hcl 10 ?_
 refine sTp hcl 11 ?_
 refine sTk hcl 12 (v := ?_) (hm := ⟨by rfl, .inl ?_⟩) (hSw := hSw) (h := ?_)
 rotate_left
 ·(intro w hw; have q1 := hw.2; go_simp; first | done | with_reducible rfl)
 try simp only [Act.put, zTa, zTz, zTs]
 refine sTp hcl 13 ?_
 refine sTp hcl 14 ?_
 refine sTk hcl 15 (v := ?_) (hm := ⟨by rfl, .inl ?_⟩) (hSw := hSw) (h := ?_)
 rotate_left
 ·(intro w hw; have q1 := cell_last hx zA hw.1; go_simp; first | done | with_reducible rfl)
 try simp only [Act.put, zTa, zTz, zTs]
 refine sTc hcl 16 337 (fun w hw => cO w hw.1) ?_
 refine sTp hcl 17 ?_
 refine sTp hcl 18 ?_
 refine sTp hcl 19 ?_
 refine sTk hcl 20 (v := ?_) (hm := ⟨by rfl, .inl ?_⟩) (hSw := hSw) (h := ?_)
 rotate_left
 ·(intro w hw; have q1 := cell_last g4 zK hw.1; go_simp; first | done | with_reducible rfl)
 try simp only [Act.put, zTa, zTz, zTs]
 refine sTp hcl 21 ?_
 refine sTp hcl 22 ?_
 refine sTp hcl 23 ?_
 refine wpS_done (by kernel_rfl) (fun W2 hW2 => ?_) _
 replace HO := HO.drew.then hW2
 clear hSw hW2
 go_wp2_with fail
 go_ret
 exact ⟨rfl, HO.below⟩
end
end Go.Proofs.YtindnnbopaeklaaGreatDoor
