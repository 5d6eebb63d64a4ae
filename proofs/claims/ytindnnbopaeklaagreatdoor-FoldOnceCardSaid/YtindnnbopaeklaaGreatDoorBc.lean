/- Typing: what the checker reads; of, part, to, leaf, isNumbers, leaves. -/
import Derived.Test.YtindnnbopaeklaaGreatDoorAz
namespace Go.Proofs.YtindnnbopaeklaaGreatDoor
set_option linter.unusedVariables false
set_option linter.unusedSimpArgs false
set_option maxRecDepth 100000
set_option maxHeartbeats 4000000
open Go.RowKit Go.MapKept
structure Ckr (K T mk b o cap back : Nat) (l : List In) (sv : Nat → Option Addr × Nat) (fm : Nat → Option Nat) (tab : Nat → Option TyD) (W : World) : Prop where
 c0 : W.cell? ⟨K, 0, none⟩ = some (.pointer (some ⟨T, 0, none⟩))
 c2 : W.cell? ⟨K, 2, none⟩ = some (.slice (some ⟨b, o, none⟩) l.length cap)
 c3 : W.cell? ⟨K, 3, none⟩ = some (.map (some mk))
 c4 : W.cell? ⟨K, 4, none⟩ = some (.int .u32 back)
 mp : Mp (.int .u32) keyU (fun _ v j => v = inV (l.getD j noIn) (sv j)) W mk fm
 ms : Ms W b o l sv
 tb : ∃ lo, TbIn lo T tab W
theorem Ckr.below {K T mk b o cap back : Nat} {l : List In} {sv : Nat → Option Addr × Nat} {fm : Nat → Option Nat} {tab : Nat → Option TyD} {W W' : World} (h : Ckr K T mk b o cap back l sv fm tab W) (hb : Below W.heap.size W W') : Ckr K T mk b o cap back l sv fm tab W' := by
 obtain ⟨lo, ht⟩ := h.tb
 exact ⟨cell_last h.c0 (block_lt_of_cell h.c0) hb, cell_last h.c2 (block_lt_of_cell h.c2) hb, cell_last h.c3 (block_lt_of_cell h.c3) hb, cell_last h.c4 (block_lt_of_cell h.c4) hb, h.mp.other (hb.block _ h.mp.lt) (fun _ _ e => e), h.ms.below hb, ⟨lo, ht.below hb⟩⟩
section
variable {K T mk b o cap back : Nat} {l : List In} {sv : Nat → Option Addr × Nat} {fm : Nat → Option Nat} {tab : Nat → Option TyD} {w : World}
theorem tyof_own (h : Ckr K T mk b o cap back l sv fm tab w) (id j : Nat) (hf : fm id = some j) (hop : (l.getD j noIn).op ≠ 54) :
  Calls Tryz.prog 337 #[.pointer (some ⟨K, 0, none⟩), .int .u32 id] w fun e w' => e = .returned (.int .u32 (l.getD j noIn).ty) ∧ Below w.heap.size w w' := by
 have HO := Own.nil w
 have g3 := h.c3
 have zK := block_lt_of_cell g3
 have hl : (Instr.lookup 161 (.map (some mk)) (.int .u32 id) false).run Tryz.prog w = .ok (inV (l.getD j noIn) (sv j)) w := by
  obtain ⟨v, hv, hq⟩ := h.mp.hit keysU Tryz.underlying161 Tryz.underlying23 hf
  subst hv
  exact hq false
 clear h hf
 generalize l.getD j noIn = i at hl hop ⊢
 generalize sv j = s at hl
 obtain ⟨op, ty, res, args⟩ := i
 obtain ⟨sa, sc⟩ := s
 have i1 : ((op : Int) == 54) = false := by rw [beq_eq_false_iff_ne]; intro e; exact hop (by show op = 54; omega)
 clear hop
 unfold inV at hl
 simp only at hl ⊢
 go_enter Tryz.func337, Tryz.ntmps337
 go_wp2_with (first | ((first | (with_reducible refine sp_al HO ?_; intro g hg; rw [← hg.out]; clear hg) | (with_reducible first | refine sp_sk HO ?_ | refine sp_skc HO ?_) | (refine sp_wk HO rfl 43 _ _ rfl rfl rfl (by kernel_rfl) (by rfl) (by simp [Value.oneCell']) ?_)); clear HO; (try clear kk); intro W' HO; (try simp only [zTz, zTs, zTa] at HO); (try have kk := HO.kk)))
 go_ret
 exact ⟨rfl, HO.below⟩
theorem typart_own (ty k p : Nat) (bb : Bool) (g0 : w.cell? ⟨K, 0, none⟩ = some (.pointer (some ⟨T, 0, none⟩))) (cP : ∀ W, Below w.heap.size w W → Calls Tryz.prog 67 #[.pointer (some ⟨T, 0, none⟩), .int .u32 ty, .int .i64 k] W fun e w' => e = .returned (.tuple #[.int .u32 p, .bool bb]) ∧ Below W.heap.size W w') :
  Calls Tryz.prog 334 #[.pointer (some ⟨K, 0, none⟩), .int .u32 ty, .int .i64 k] w fun e w' => e = .returned (.int .u32 p) ∧ Below w.heap.size w w' := by
 have HO := Own.nil w
 have zK := block_lt_of_cell g0
 go_enter Tryz.func334, Tryz.ntmps334
 go_wp2_with (first | (go_at_call 67; (with_reducible refine (cP _ HO.below).mono ?_); rintro e w1 ⟨rfl, hn1⟩; replace HO := HO.then hn1; clear hn1))
 go_ret
 exact ⟨rfl, HO.below⟩
theorem tyleaf_plain (h : Ckr K T mk b o cap back l sv fm tab w) (ty : Nat) (hk : (getD_ tab ty).kind ≠ 4) :
  Calls Tryz.prog 383 #[.pointer (some ⟨K, 0, none⟩), .int .u32 ty] w fun e w' => e = .returned (.int .u8 (getD_ tab ty).kind) ∧ Below w.heap.size w w' := by
 have HO := Own.nil w
 have g0 := h.c0
 have zK := block_lt_of_cell g0
 have cC : ∀ W, Below w.heap.size w W → Calls Tryz.prog 65 #[.pointer (some ⟨T, 0, none⟩), .int .u32 ty] W fun e w' => e = .returned (.int .u8 (getD_ tab ty).kind) ∧ Below W.heap.size W w' := fun W hb => by
  obtain ⟨lo, ht⟩ := (h.below hb).tb
  exact ht.kind ty
 clear h
 generalize (getD_ tab ty).kind = kd at cC hk ⊢
 have i1 : ((kd : Int) == 4) = false := by rw [beq_eq_false_iff_ne]; omega
 clear hk
 go_enter Tryz.func383, Tryz.ntmps383
 go_wp2_with (first | (go_at_call 65; (with_reducible refine (cC _ HO.below).mono ?_); rintro e w1 ⟨rfl, hn1⟩; replace HO := HO.then hn1; clear hn1; (try clear ho); have ho := Own.old HO))
 go_ret
 exact ⟨rfl, HO.below⟩
theorem tynums_own (ty x : Nat) (hx : x = 3) (cL : ∀ W, Below w.heap.size w W → Calls Tryz.prog 383 #[.pointer (some ⟨K, 0, none⟩), .int .u32 ty] W fun e w' => e = .returned (.int .u8 x) ∧ Below W.heap.size W w') :
  Calls Tryz.prog 335 #[.pointer (some ⟨K, 0, none⟩), .int .u32 ty] w fun e w' => e = .returned (.bool true) ∧ Below w.heap.size w w' := by
 have HO := Own.nil w
 subst hx
 go_enter Tryz.func335, Tryz.ntmps335
 go_wp2_with (first | (go_at_call 383; (with_reducible refine (cL _ HO.below).mono ?_); rintro e w1 ⟨rfl, hn1⟩; replace HO := HO.then hn1; clear hn1))
 go_ret
 exact ⟨rfl, HO.below⟩
end
section
variable {K T mk b o cap back : Nat} {l : List In} {sv : Nat → Option Addr × Nat} {fm : Nat → Option Nat} {tab : Nat → Option TyD} {w : World}
theorem alike_same {lo : Nat} (h : TbIn lo T tab w) (x y : Nat) (hs : (getD_ tab x).size ≠ 0) (h1 : (getD_ tab x).kind = (getD_ tab y).kind) (h2 : (getD_ tab x).size = (getD_ tab y).size) (h3 : (getD_ tab x).times = (getD_ tab y).times) (h4 : (getD_ tab x).parts = []) (h5 : (getD_ tab y).parts = []) (h6 : (getD_ tab x).kind ≠ 4 ∧ (getD_ tab x).kind ≠ 5) :
  Calls Tryz.prog 386 #[.pointer (some ⟨T, 0, none⟩), .int .u32 x, .int .u32 y] w fun e w' => e = .returned (.bool true) ∧ Below w.heap.size w w' := by
 obtain ⟨al, f, Dm, -, -, -, hT, hR, -⟩ := h.at_
 have HO := Own.nil w
 have cA : ∀ W, Below w.heap.size w W → Calls Tryz.prog 84 #[.pointer (some ⟨T, 0, none⟩), .int .u32 x] W fun e w' => e = .returned (encT (getT f x)) ∧ Below W.heap.size W w' := fun W hb => tat_own T al f x W (hT.below hb)
 have cB : ∀ W, Below w.heap.size w W → Calls Tryz.prog 84 #[.pointer (some ⟨T, 0, none⟩), .int .u32 y] W fun e w' => e = .returned (encT (getT f y)) ∧ Below W.heap.size W w' := fun W hb => tat_own T al f y W (hT.below hb)
 have e1 := (hR x).1
 have e2 := (hR y).1
 have q1 : (getT f x).size ≠ 0 := by rw [e1.size]; exact hs
 have q2 : (getT f y).kind = (getT f x).kind := by rw [e1.kind, e2.kind, h1]
 have q3 : (getT f y).size = (getT f x).size := by rw [e1.size, e2.size, h2]
 have q4 : (getT f y).times = (getT f x).times := by rw [e1.times, e2.times, h3]
 have q5 : (getT f x).pn = 0 := by rw [e1.pn, h4]; rfl
 have q6 : (getT f y).pn = 0 := by rw [e2.pn, h5]; rfl
 have q7 : (getT f x).kind ≠ 4 ∧ (getT f x).kind ≠ 5 := by rw [e1.kind]; exact h6
 clear h hT hR e1 e2 hs h1 h2 h3 h4 h5 h6
 generalize getT f x = a at cA q1 q2 q3 q4 q5 q7
 generalize getT f y = c at cB q2 q3 q4 q6
 obtain ⟨k1, s1, d1, g1, c1, p1, t1, a1, n1, m1⟩ := a
 obtain ⟨k2, s2, d2, g2, c2, p2, t2, a2, n2, m2⟩ := c
 simp only at q1 q2 q3 q4 q5 q6 q7
 subst q2 q3 q4 q5 q6
 have i1 : ((s2 : Int) == 0) = false := by rw [beq_eq_false_iff_ne]; omega
 have i2 : ((k2 : Int) == 4) = false := by rw [beq_eq_false_iff_ne]; omega
 have i3 : ((k2 : Int) == 5) = false := by rw [beq_eq_false_iff_ne]; omega
 clear q1 q7
 unfold encT at cA cB
 simp only at cA cB
 go_enter Tryz.func386, Tryz.ntmps386
 go_wp2_with (first | (go_at_call 84; (first | (with_reducible refine (cA _ HO.below).mono ?_) | (with_reducible refine (cB _ HO.below).mono ?_)); rintro e w1 ⟨rfl, hn1⟩; replace HO := HO.then hn1; clear hn1) | ((first | (with_reducible refine sp_al HO ?_; intro g hg; rw [← hg.out]; clear hg) | (with_reducible first | refine sp_sk HO ?_ | refine sp_skc HO ?_) | (refine sp_wk HO rfl 146 _ _ rfl rfl rfl (by kernel_rfl) (by rfl) (by simp [Value.oneCell']) ?_)); clear HO; (try clear kk); intro W' HO; (try simp only [zTz, zTs, zTa] at HO); (try have kk := HO.kk)))
 refine wp_loop_rounds 1 ?_
 rw [rounds_succ]
 go_wp2_with fail
 go_ret
 exact ⟨rfl, HO.below⟩
theorem alikec_own (r : Bool) (h : Ckr K T mk b o cap back l sv fm tab w) (B C ty id j kd : Nat) (s : ByteArray) (hB : w.cell? ⟨B, 0, none⟩ = some (.pointer (some ⟨K, 0, none⟩))) (hC : w.cell? ⟨C, 0, none⟩ = some (.int .u32 ty)) (hf : fm id = some j) (hop : (l.getD j noIn).op ≠ 54)
  (cA : ∀ W, Below w.heap.size w W → Calls Tryz.prog 386 #[.pointer (some ⟨T, 0, none⟩), .int .u32 ty, .int .u32 (l.getD j noIn).ty] W fun e w' => e = .returned (.bool r) ∧ Below W.heap.size W w') :
  Calls Tryz.prog 385 #[.agg #[.int .u8 kd, .int .u32 id, .string s], .pointer (some ⟨B, 0, none⟩), .pointer (some ⟨C, 0, none⟩)] w fun e w' => e = .returned (.bool (!r)) ∧ Below w.heap.size w w' := by
 have HO := Own.nil w
 have g0 := h.c0
 have zK := block_lt_of_cell g0
 have zB := block_lt_of_cell hB
 have zC := block_lt_of_cell hC
 have cO : ∀ W, Below w.heap.size w W → Calls Tryz.prog 337 #[.pointer (some ⟨K, 0, none⟩), .int .u32 id] W fun e w' => e = .returned (.int .u32 (l.getD j noIn).ty) ∧ Below W.heap.size W w' := fun W hb => tyof_own (h.below hb) id j hf hop
 generalize (l.getD j noIn).ty = ty2 at cA cO
 clear h hf hop
 go_enter Tryz.func385, Tryz.ntmps385
 go_wp2_with (first | ((first | ((with_reducible first | refine sp_al HO ?_ | refine sp_alc HO ?_); intro g hg; rw [← hg.out]; clear hg) | (with_reducible first | refine sp_sk HO ?_ | refine sp_skc HO ?_)); clear HO; (try clear kk); intro W' HO; (try simp only [zTz, zTs, zTa] at HO); (try have kk := HO.kk)))
 have bl := HO.below
 have q0 := bl.cell (p := ⟨K, 0, none⟩) zK
 have q1 := bl.cell (p := ⟨B, 0, none⟩) zB
 have q2 := bl.cell (p := ⟨C, 0, none⟩) zC
 rw [g0] at q0
 rw [hB] at q1
 rw [hC] at q2
 have zK2 : K < W'.heap.size := Nat.lt_of_lt_of_le zK bl.size
 have zB2 : B < W'.heap.size := Nat.lt_of_lt_of_le zB bl.size
 have zC2 : C < W'.heap.size := Nat.lt_of_lt_of_le zC bl.size
 have z0 := HO.lt 0 rfl
 have B0 := Below.refl W'.heap.size W'
 have cO1 : ∀ W, Below W'.heap.size W' W → _ := fun W hb => cO W (bl.trans (hb.mono bl.size))
 have cA1 : ∀ W, Below W'.heap.size W' W → _ := fun W hb => cA W (bl.trans (hb.mono bl.size))
 clear cO cA
 (try replace kk := kk.2)
 go_cut [4] (fun s4 wx => s4 = .bool (!r) ∧ Below w.heap.size w wx)
 case first =>
  go_region_held3 (fun W => (∀ b j, b < W'.heap.size → W.cell? ⟨b, j, none⟩ = W'.cell? ⟨b, j, none⟩) ∧ Below W'.heap.size W' W) ((refine mkS W' _ ?_; repeat (first | exact B0 | refine below_drw ?_ | refine bcall ?_ hn2.out | refine bcall ?_ hn1.out)))
   (first | (go_at_call 337; (with_reducible refine (cO1 _ (by repeat (first | exact B0 | refine below_drw ?_))).mono ?_); rintro e w2 ⟨rfl, hn0⟩; have hn1 := hid hn0; clear hn0) | (go_at_call 386; (with_reducible refine (cA1 _ (by repeat (first | exact B0 | refine below_drw ?_ | refine bcall ?_ hn1.out))).mono ?_); rintro e w3 ⟨rfl, hn0⟩; have hn2 := hid hn0; clear hn0))
  all_goals
   go_wp2_with fail
   rename_i hh
   go_meet
   exact ⟨rfl, bl.trans (hh.2.mono bl.size)⟩
 case rest =>
 obtain ⟨rfl, h1⟩ := hcut
 go_wp2_with fail
 go_ret
 exact ⟨rfl, h1⟩
structure Two (ab ao x y : Nat) (w : World) : Prop where
 k0 : w.cell? ⟨ab, ao, none⟩ = some (.int .u8 1)
 n0 : w.cell? ⟨ab, ao + 1, none⟩ = some (.int .u32 x)
 s0 : w.cell? ⟨ab, ao + 2, none⟩ = some (.string ⟨#[]⟩)
 k1 : w.cell? ⟨ab, ao + 3, none⟩ = some (.int .u8 1)
 n1 : w.cell? ⟨ab, ao + 4, none⟩ = some (.int .u32 y)
 s1 : w.cell? ⟨ab, ao + 5, none⟩ = some (.string ⟨#[]⟩)
theorem Two.below {ab ao x y : Nat} {w w' : World} (h : Two ab ao x y w) (hb : Below w.heap.size w w') : Two ab ao x y w' := by
 have z := block_lt_of_cell h.k0
 exact ⟨cell_last h.k0 z hb, cell_last h.n0 z hb, cell_last h.s0 z hb, cell_last h.k1 z hb, cell_last h.n1 z hb, cell_last h.s1 z hb⟩
theorem aindex_none (ab ao cm B C x y : Nat) (h : Two ab ao x y w)
  (cX : ∀ W, Below w.heap.size w W → Calls Tryz.prog 385 #[.agg #[.int .u8 1, .int .u32 x, .string ⟨#[]⟩], .pointer (some ⟨B, 0, none⟩), .pointer (some ⟨C, 0, none⟩)] W fun e w' => e = .returned (.bool false) ∧ Below W.heap.size W w')
  (cY : ∀ W, Below w.heap.size w W → Calls Tryz.prog 385 #[.agg #[.int .u8 1, .int .u32 y, .string ⟨#[]⟩], .pointer (some ⟨B, 0, none⟩), .pointer (some ⟨C, 0, none⟩)] W fun e w' => e = .returned (.bool false) ∧ Below W.heap.size W w') :
  Calls Tryz.prog 417 #[.slice (some ⟨ab, ao, none⟩) 2 cm, .func (.func 385) #[] #[.pointer (some ⟨B, 0, none⟩), .pointer (some ⟨C, 0, none⟩)]] w fun e w' => e = .returned (.int .i64 (-1)) ∧ Below w.heap.size w w' := by
 have HO := Own.nil w
 obtain ⟨k0, n0, s0, k1, n1, s1⟩ := h
 have zA := block_lt_of_cell k0
 go_enter Tryz.func417, Tryz.ntmps417
 go_wp2_with fail
 refine wp_loop_rounds 3 ?_
 rw [rounds_succ]
 go_wp2_with (first | (go_at_call 385; (with_reducible refine (cX _ HO.below).mono ?_); rintro e w1 ⟨rfl, hn⟩; replace HO := HO.then hn; clear hn))
 have ho := Own.old HO
 rw [rounds_succ]
 go_wp2_with (first | (go_at_call 385; (with_reducible refine (cY _ HO.below).mono ?_); rintro e w1 ⟨rfl, hn⟩; replace HO := HO.then hn; clear hn))
 rw [rounds_succ]
 go_wp2_with fail
 go_ret
 exact ⟨rfl, HO.below⟩
theorem aindex_first (ab ao cm B C x y : Nat) (h : Two ab ao x y w)
  (cX : ∀ W, Below w.heap.size w W → Calls Tryz.prog 385 #[.agg #[.int .u8 1, .int .u32 x, .string ⟨#[]⟩], .pointer (some ⟨B, 0, none⟩), .pointer (some ⟨C, 0, none⟩)] W fun e w' => e = .returned (.bool true) ∧ Below W.heap.size W w') :
  Calls Tryz.prog 417 #[.slice (some ⟨ab, ao, none⟩) 2 cm, .func (.func 385) #[] #[.pointer (some ⟨B, 0, none⟩), .pointer (some ⟨C, 0, none⟩)]] w fun e w' => e = .returned (.int .i64 0) ∧ Below w.heap.size w w' := by
 have HO := Own.nil w
 obtain ⟨k0, n0, s0, k1, n1, s1⟩ := h
 have zA := block_lt_of_cell k0
 go_enter Tryz.func417, Tryz.ntmps417
 go_wp2_with fail
 refine wp_loop_rounds 1 ?_
 rw [rounds_succ]
 go_wp2_with (first | (go_at_call 385; (with_reducible refine (cX _ HO.below).mono ?_); rintro e w1 ⟨rfl, hn⟩; replace HO := HO.then hn; clear hn))
 go_ret
 exact ⟨rfl, HO.below⟩
theorem acontains_own (ab ao cm B C : Nat) (r : Bool) (n : Int) (hn : n = -1 ∧ r = false ∨ n = 0 ∧ r = true)
  (cX : ∀ W, Below w.heap.size w W → Calls Tryz.prog 417 #[.slice (some ⟨ab, ao, none⟩) 2 cm, .func (.func 385) #[] #[.pointer (some ⟨B, 0, none⟩), .pointer (some ⟨C, 0, none⟩)]] W fun e w' => e = .returned (.int .i64 n) ∧ Below W.heap.size W w') :
  Calls Tryz.prog 384 #[.slice (some ⟨ab, ao, none⟩) 2 cm, .func (.func 385) #[] #[.pointer (some ⟨B, 0, none⟩), .pointer (some ⟨C, 0, none⟩)]] w fun e w' => e = .returned (.bool r) ∧ Below w.heap.size w w' := by
 rcases hn with ⟨rfl, rfl⟩ | ⟨rfl, rfl⟩
 all_goals
  have HO := Own.nil w
  go_enter Tryz.func384, Tryz.ntmps384
  go_wp2_with (first | (go_at_call 417; (with_reducible refine (cX _ HO.below).mono ?_); rintro e w1 ⟨rfl, hn⟩; replace HO := HO.then hn; clear hn))
  go_ret
  exact ⟨rfl, HO.below⟩
end
end Go.Proofs.YtindnnbopaeklaaGreatDoor
