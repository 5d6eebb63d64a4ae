/- Consts: a number's value; the first number that is another's like. -/
import Derived.Test.YtindnnbopaeklaaGreatDoorDc
namespace Go.Proofs.YtindnnbopaeklaaGreatDoor
set_option linter.unusedVariables false
set_option linter.unusedSimpArgs false
set_option maxRecDepth 100000
set_option maxHeartbeats 4000000
open Go.RowKit Go.MapKept
theorem copied1_own (g0 : Nat) (y : Int) (w : World) (h : w.cell? ⟨g0, 0, none⟩ = some (.int .u32 y)) :
  Calls Tryz.prog 204 #[.slice (some ⟨g0, 0, none⟩) 1 1] w fun e w' => (∃ g', e = .returned (.slice (some ⟨g', 0, none⟩) 1 1) ∧ w1P g' y w.heap.size w') ∧ Below w.heap.size w w' := by
 have HO := Own.nil w
 have hm : ∀ W, (Instr.makeSlice 32 (.int .i64 1) (.int .i64 1)).run Tryz.prog W = .ok (.slice (some ⟨W.heap.size, 0, none⟩) 1 1) (W.alloc (.cells #[.int .u32 0] 23)) := by
  have e : wz 1 = #[.int .u32 0] := by kernel_rfl
  have := run_words 1 (by omega)
  rw [e] at this
  exact this
 have z0 := block_lt_of_cell h
 go_enter Tryz.func204, Tryz.ntmps204
 go_wp2_with (first | ((first | ((with_reducible first | refine sp_al HO ?_ | refine sp_alc HO ?_); intro g hg; rw [← hg.out]; clear hg) | (with_reducible first | refine sp_sk HO ?_ | refine sp_skc HO ?_)); clear HO; (try clear kk); intro W' HO; (try simp only [zTz, zTs, zTa] at HO); (try have kk := HO.kk)))
 have hk : W'.cell? ⟨g, 0, none⟩ = some (.int .u32 0) := HO.cell 0 0 rfl rfl
 have hsome : ∀ j, j < [Value.int .u32 y].length → (W'.cell? ⟨g, 0 + j, none⟩).isSome = true := fun j hj => by
  obtain rfl : j = 0 := by simpa using hj
  rw [Nat.zero_add, hk]; rfl
 have hr := run_copy_cells (P := Tryz.prog) W' 32 32 3 23 g 0 1 1 ⟨g0, 0, none⟩ 1 1 [.int .u32 y] rfl (by kernel_rfl) rfl (fun j v hv => by
   cases j with
   | zero =>
    simp only [List.getElem?_cons_zero, Option.some.injEq] at hv
    subst hv
    exact cell_last h z0 HO.below
   | succ j => simp at hv) hsome (fun j _ => HO.melt 0 rfl _) (fun v hv => by
   obtain rfl := List.mem_singleton.1 hv
   simp [Value.oneCell'])
 rw [hr]
 clear hm
 have hge := HO.le 0 rfl
 have hb := cells_below _ g _ hge [Value.int .u32 y] 0 _ HO.below
 have hc : (W'.setCells g 0 [Value.int .u32 y]).cell? ⟨g, 0, none⟩ = some (.int .u32 y) := by
  have := World.cell?_setCells_in g [Value.int .u32 y] 0 W' hsome 0 (by simp)
  exact this
 generalize W'.setCells g 0 [Value.int .u32 y] = W2 at hb hc ⊢
 go_wp2_with fail
 go_ret
 exact ⟨⟨g, rfl, hge, hc⟩, hb⟩
section
variable {lo P T : Nat} {tab : Nat → Option TyD} {cv : Nat → Option (Nat × Nat)} {ids : List Nat} {w : World}
theorem PnIn.below {W W' : World} (h : PnIn lo P T tab cv ids W) (hb : Below W.heap.size W W') : PnIn lo P T tab cv ids W' := Keeps.below (PnIn.keeps P T tab cv ids) h hb
theorem PnIn.look (h : PnIn lo P T tab cv ids w) {id ty y : Nat} (hf : cv id = some (ty, y)) : ∃ mc g, w.cell? ⟨P, 2, none⟩ = some (.map (some mc)) ∧ (∀ c, (Instr.lookup 124 (.map (some mc)) (.int .u32 id) c).run Tryz.prog w = .ok (if c then .tuple #[.agg #[.int .u32 ty, .slice (some ⟨g, 0, none⟩) 1 1], .bool true] else .agg #[.int .u32 ty, .slice (some ⟨g, 0, none⟩) 1 1]) w) ∧ w.cell? ⟨g, 0, none⟩ = some (.int .u32 y) := by
 obtain ⟨mc, fc, Dm, cs, h1, h2, h3, h4, h5, h6, h7, h8, h9⟩ := h.at_
 have := h7 id
 rw [hf] at this
 cases hx : fc id with
 | none => rw [hx] at this; exact this.elim
 | some x =>
  rw [hx] at this
  obtain ⟨e1, e2, e3, e4⟩ := this
  obtain ⟨v', hv, hq⟩ := h6.hit keysU Tryz.underlying124 Tryz.underlying23 hx
  subst hv
  refine ⟨mc, x.at_, h5, fun c => ?_, e4⟩
  have := hq c
  simp only at e1
  rw [encCn, e1, e2] at this
  exact this
theorem cvalue_own (h : PnIn lo P T tab cv ids w) (id ty y : Nat) (hf : cv id = some (ty, y)) :
  Calls Tryz.prog 149 #[.pointer (some ⟨P, 0, none⟩), .int .u32 id] w fun e w' => (∃ g, e = .returned (.tuple #[.int .u32 ty, .slice (some ⟨g, 0, none⟩) 1 1, .bool true]) ∧ w1P g y w.heap.size w') ∧ Below w.heap.size w w' := by
 have HO := Own.nil w
 obtain ⟨mc, xa, hP, hl0, hw⟩ := h.look hf
 have zP := block_lt_of_cell hP
 have hl := hl0 true
 rw [if_pos rfl] at hl
 have h0 := block_lt_of_cell hw
 have cC : ∀ W, Below w.heap.size w W → Calls Tryz.prog 204 #[.slice (some ⟨xa, 0, none⟩) 1 1] W fun e w' => (∃ g', e = .returned (.slice (some ⟨g', 0, none⟩) 1 1) ∧ w1P g' y W.heap.size w') ∧ Below W.heap.size W w' := fun W hb => copied1_own xa y W (cell_last hw h0 hb)
 clear h hf hw hl0
 go_enter Tryz.func149, Tryz.ntmps149
 go_wp2_with (first | ((first | ((with_reducible first | refine sp_al HO ?_ | refine sp_alc HO ?_); intro g hg; rw [← hg.out]; clear hg) | (with_reducible first | refine sp_sk HO ?_ | refine sp_skc HO ?_) | (refine sp_wk HO rfl 142 _ _ rfl rfl rfl (by kernel_rfl) (by rfl) (by simp [Value.oneCell']) ?_)); clear HO; (try clear kk); intro W' HO; (try simp only [zTz, zTs, zTa] at HO); (try have kk := HO.kk)))
 obtain ⟨gV, rfl⟩ : ∃ q, q = g := ⟨_, rfl⟩
 try simp only [Act.put]
 (try have z0 := HO.lt 0 rfl); (try have z1 := HO.lt 1 rfl); (try have z2 := HO.lt 2 rfl); (try have z3 := HO.lt 3 rfl); (try have z4 := HO.lt 4 rfl); (try have z5 := HO.lt 5 rfl); skip
 have B0 := Below.refl W'.heap.size W'
 have bl := HO.below
 have cC1 : ∀ W, Below W'.heap.size W' W → _ := fun W hb => cC W (bl.trans (hb.mono bl.size))
 clear cC
 (try replace kk := kk.2)
 go_cut [4, 5, 6] (fun s4 s5 s6 wx => s4 = .int .u32 ty ∧ s6 = .bool true ∧ ∃ g', s5 = .slice (some ⟨g', 0, none⟩) 1 1 ∧ w1P g' y w.heap.size wx ∧ Below w.heap.size w wx)
 case first =>
  go_region_held3 (fun W => (∀ b j, b < W'.heap.size → W.cell? ⟨b, j, none⟩ = W'.cell? ⟨b, j, none⟩) ∧ Below W'.heap.size W' W) ((refine mkS W' _ ?_; repeat (first | exact B0 | refine below_drw ?_ | refine bal ?_ _ | refine bcall ?_ hn1.out | refine row_below ?_ (by first | assumption | omega) _ | refine below_setc ?_ (by first | assumption | omega))))
   (first | (go_at_call 204; (with_reducible refine (cC1 _ (by repeat (first | exact B0 | refine below_drw ?_ | refine bal ?_ _ | refine bcall ?_ hn1.out | refine row_below ?_ (by first | assumption | omega) _ | refine below_setc ?_ (by first | assumption | omega)))).mono ?_); rintro e w2 ⟨⟨gC, rfl, hq⟩, hn0⟩; have hn1 := hid hn0; clear hn0))
  all_goals
   go_wp2_with fail
   rename_i hh
   go_meet
   refine ⟨rfl, rfl, _, rfl, ⟨?_, hq.2⟩, bl.trans (hh.2.mono bl.size)⟩
   have h1 := hq.1
   have h2 := bl.size
   simp only [size_drw] at h1
   omega
 case rest =>
 obtain ⟨rfl, rfl, g', rfl, h1, h2⟩ := hcut
 go_wp2_with fail
 go_ret3
 exact ⟨⟨g', rfl, h1⟩, h2⟩
theorem equal1_own (g g' c c' : Nat) (x y : Nat) (w : World) (h : w.cell? ⟨g, 0, none⟩ = some (.int .u32 x)) (h' : w.cell? ⟨g', 0, none⟩ = some (.int .u32 y)) :
  Calls Tryz.prog 64 #[.slice (some ⟨g, 0, none⟩) 1 c, .slice (some ⟨g', 0, none⟩) 1 c'] w fun e w' => e = .returned (.bool (decide (x = y))) ∧ Below w.heap.size w w' := by
 by_cases e : x = y
 ·subst e
  rw [decide_eq_true rfl]
  go_enter Tryz.func64, Tryz.ntmps64
  go_wp2_with fail
  refine wp_loop_rounds 2 ?_
  rw [rounds_succ]
  go_wp2_with fail
  go_region
  go_wp2_with fail
  rw [rounds_succ]
  go_wp2_with fail
  go_ret
  exact ⟨rfl, drew_below⟩
 ·rw [decide_eq_false e]
  have i1 : ((x : Int) != y) = true := by rw [bne_iff_ne]; omega
  go_enter Tryz.func64, Tryz.ntmps64
  go_wp2_with fail
  refine wp_loop_rounds 1 ?_
  rw [rounds_succ]
  go_wp2_with fail
  go_region
  go_wp2_with fail
  go_ret
  exact ⟨rfl, drew_below⟩
theorem findc_own (h : PnIn lo P T tab cv ids w) (id ty y z B C D g c : Nat) (hf : cv id = some (ty, y)) (hB : w.cell? ⟨B, 0, none⟩ = some (.pointer (some ⟨P, 0, none⟩))) (hC : w.cell? ⟨C, 0, none⟩ = some (.int .u32 ty)) (hD : w.cell? ⟨D, 0, none⟩ = some (.slice (some ⟨g, 0, none⟩) 1 c)) (hg : w.cell? ⟨g, 0, none⟩ = some (.int .u32 z)) :
  Calls Tryz.prog 83 #[.int .u32 id, .pointer (some ⟨B, 0, none⟩), .pointer (some ⟨C, 0, none⟩), .pointer (some ⟨D, 0, none⟩)] w fun e w' => e = .returned (.bool (decide (y = z))) ∧ Below w.heap.size w w' := by
 have HO := Own.nil w
 obtain ⟨mc, xa, hP, hl0, hw⟩ := h.look hf
 have hl := hl0 false
 rw [if_neg (by decide)] at hl
 have zP := block_lt_of_cell hP
 have zB := block_lt_of_cell hB
 have zC := block_lt_of_cell hC
 have zD := block_lt_of_cell hD
 have zw := block_lt_of_cell hw
 have zg := block_lt_of_cell hg
 have cE : ∀ W, Below w.heap.size w W → _ := fun W hb => equal1_own xa g 1 c y z W (cell_last hw zw hb) (cell_last hg zg hb)
 clear h hf hl0
 generalize decide (y = z) = r at cE ⊢
 go_enter Tryz.func83, Tryz.ntmps83
 go_wp2_with (first | ((first | ((with_reducible first | refine sp_al HO ?_ | refine sp_alc HO ?_); intro g hg; rw [← hg.out]; clear hg) | (with_reducible first | refine sp_sk HO ?_ | refine sp_skc HO ?_) | (refine sp_wk HO rfl 142 _ _ rfl rfl rfl (by kernel_rfl) (by rfl) (by simp [Value.oneCell']) ?_)); clear HO; (try clear kk); intro W' HO; (try simp only [zTz, zTs, zTa] at HO); (try have kk := HO.kk)) | (go_at_call 64; (with_reducible refine (cE _ HO.below).mono ?_); rintro e w1 ⟨rfl, hn1⟩; replace HO := HO.then hn1; clear hn1; (try clear kk); (try simp only [zTz, zTs, zTa, zDs, zDz] at HO); (try have kk := HO.kk)))
 go_ret
 exact ⟨rfl, HO.below⟩
theorem findi_own (x0 x1 r0 r1 : Nat) (b0 b1 : Bool) (g c B C D : Nat) (r : Int) (hr : Hid (r = if b0 then 0 else if b1 then 1 else -1)) (h0 : w.cell? ⟨g, 0, none⟩ = some (.int .u32 x0)) (h1 : w.cell? ⟨g, 1, none⟩ = some (.int .u32 x1))
  (c0 : ∀ W, Below w.heap.size w W → Calls Tryz.prog 83 #[.int .u32 x0, .pointer (some ⟨B, 0, none⟩), .pointer (some ⟨C, 0, none⟩), .pointer (some ⟨D, 0, none⟩)] W fun e w' => e = .returned (.bool b0) ∧ Below W.heap.size W w')
  (c1 : ∀ W, Below w.heap.size w W → Calls Tryz.prog 83 #[.int .u32 x1, .pointer (some ⟨B, 0, none⟩), .pointer (some ⟨C, 0, none⟩), .pointer (some ⟨D, 0, none⟩)] W fun e w' => e = .returned (.bool b1) ∧ Below W.heap.size W w') :
  Calls Tryz.prog 82 #[.slice (some ⟨g, 0, none⟩) 2 c, .func (.func 83) #[] #[.pointer (some ⟨B, 0, none⟩), .pointer (some ⟨C, 0, none⟩), .pointer (some ⟨D, 0, none⟩)]] w fun e w' => e = .returned (.int .i64 r) ∧ Below w.heap.size w w' := by
 have HO := Own.nil w
 have zg := block_lt_of_cell h0
 rw [hr.out]
 clear hr
 cases b0 with
 | true =>
  rw [if_pos rfl]
  go_enter Tryz.func82, Tryz.ntmps82
  go_wp2_with fail
  refine wp_loop_rounds 1 ?_
  rw [rounds_succ]
  go_wp2_with (first | (go_at_call 83; (with_reducible refine (c0 _ HO.below).mono ?_); rintro e w1 ⟨rfl, hn⟩; replace HO := HO.then hn; clear hn))
  go_ret
  exact ⟨rfl, HO.below⟩
 | false =>
  rw [if_neg (by decide)]
  cases b1 with
  | true =>
   rw [if_pos rfl]
   go_enter Tryz.func82, Tryz.ntmps82
   go_wp2_with fail
   refine wp_loop_rounds 2 ?_
   rw [rounds_succ]
   go_wp2_with (first | (go_at_call 83; (with_reducible refine (c0 _ HO.below).mono ?_); rintro e w1 ⟨rfl, hn⟩; replace HO := HO.then hn; clear hn))
   have ho := Own.old HO
   rw [rounds_succ]
   go_wp2_with (first | (go_at_call 83; (with_reducible refine (c1 _ HO.below).mono ?_); rintro e w1 ⟨rfl, hn⟩; replace HO := HO.then hn; clear hn))
   go_ret
   exact ⟨rfl, HO.below⟩
  | false =>
   rw [if_neg (by decide)]
   go_enter Tryz.func82, Tryz.ntmps82
   go_wp2_with fail
   refine wp_loop_rounds 3 ?_
   rw [rounds_succ]
   go_wp2_with (first | (go_at_call 83; (with_reducible refine (c0 _ HO.below).mono ?_); rintro e w1 ⟨rfl, hn⟩; replace HO := HO.then hn; clear hn))
   have ho := Own.old HO
   rw [rounds_succ]
   go_wp2_with (first | (go_at_call 83; (with_reducible refine (c1 _ HO.below).mono ?_); rintro e w1 ⟨rfl, hn⟩; replace HO := HO.then hn; clear hn))
   rw [rounds_succ]
   go_wp2_with fail
   go_ret
   exact ⟨rfl, HO.below⟩
theorem cfind_own (x0 x1 y0 y1 z ty g c : Nat) (h : PnIn lo P T tab cv [x0, x1] w) (f0 : cv x0 = some (ty, y0)) (f1 : cv x1 = some (ty, y1)) (hg : w.cell? ⟨g, 0, none⟩ = some (.int .u32 z)) :
  Calls Tryz.prog 61 #[.pointer (some ⟨P, 0, none⟩), .int .u32 ty, .slice (some ⟨g, 0, none⟩) 1 c] w fun e w' => e = .returned (.tuple #[.int .u32 (if y0 = z then x0 else if y1 = z then x1 else 0 : Nat), .bool (decide (y0 = z) || decide (y1 = z))]) ∧ Below w.heap.size w w' := by
 have HO := Own.nil w
 obtain ⟨mc, fc, Dm, cs, -, -, -, hP, -, -, -, -, hrow⟩ := h.at_
 obtain ⟨aa, cap, rfl, hr⟩ := own_slice hrow
 obtain ⟨gi, rfl, hgi, hlt, hcell⟩ := hr (by simp)
 have i0 : w.cell? ⟨gi, 0, none⟩ = some (.int .u32 x0) := hcell 0 _ rfl
 have i1 : w.cell? ⟨gi, 1, none⟩ = some (.int .u32 x1) := hcell 1 _ rfl
 have hP : w.cell? ⟨P, 1, none⟩ = some (.slice (some ⟨gi, 0, none⟩) 2 cap) := hP
 clear hr hcell hrow
 have zP := block_lt_of_cell hP
 have zg := block_lt_of_cell hg
 obtain ⟨r, hr⟩ : ∃ r : Int, Hid (r = if decide (y0 = z) then 0 else if decide (y1 = z) then 1 else -1) := ⟨_, hid rfl⟩
 have cF : ∀ (B C D : Nat) W, Below w.heap.size w W → W.cell? ⟨B, 0, none⟩ = some (.pointer (some ⟨P, 0, none⟩)) → W.cell? ⟨C, 0, none⟩ = some (.int .u32 ty) → W.cell? ⟨D, 0, none⟩ = some (.slice (some ⟨g, 0, none⟩) 1 c) →
   Calls Tryz.prog 82 #[.slice (some ⟨gi, 0, none⟩) 2 cap, .func (.func 83) #[] #[.pointer (some ⟨B, 0, none⟩), .pointer (some ⟨C, 0, none⟩), .pointer (some ⟨D, 0, none⟩)]] W fun e w' => e = .returned (.int .i64 r) ∧ Below W.heap.size W w' := fun B C D W hb e0 e1 e2 =>
  findi_own x0 x1 0 0 _ _ gi cap B C D r hr (cell_last i0 hlt hb) (cell_last i1 hlt hb)
   (fun W2 h2 => findc_own ((h.below hb).below h2) x0 ty y0 z B C D g c f0 (cell_last e0 (block_lt_of_cell e0) h2) (cell_last e1 (block_lt_of_cell e1) h2) (cell_last e2 (block_lt_of_cell e2) h2) (cell_last (cell_last hg zg hb) (block_lt_of_cell (cell_last hg zg hb)) h2))
   (fun W2 h2 => findc_own ((h.below hb).below h2) x1 ty y1 z B C D g c f1 (cell_last e0 (block_lt_of_cell e0) h2) (cell_last e1 (block_lt_of_cell e1) h2) (cell_last e2 (block_lt_of_cell e2) h2) (cell_last (cell_last hg zg hb) (block_lt_of_cell (cell_last hg zg hb)) h2))
 clear h f0 f1 hgi
 obtain ⟨x, hx⟩ : ∃ x : Nat, Hid (x = if y0 = z then x0 else if y1 = z then x1 else 0) := ⟨_, hid rfl⟩
 obtain ⟨bb, hbb⟩ : ∃ bb : Bool, Hid (bb = (decide (y0 = z) || decide (y1 = z))) := ⟨_, hid rfl⟩
 rw [← hx.out, ← hbb.out]
 have key : (r = 0 ∧ x = x0 ∧ bb = true) ∨ (r = 1 ∧ x = x1 ∧ bb = true) ∨ (r = -1 ∧ x = 0 ∧ bb = false) := by
  rw [hr.out, hx.out, hbb.out]
  by_cases e0 : y0 = z
  ·simp [e0]
  ·by_cases e1 : y1 = z
   ·simp [e0, e1]
   ·simp [e0, e1]
 clear hr hx hbb
 rcases key with ⟨rfl, rfl, rfl⟩ | ⟨rfl, rfl, rfl⟩ | ⟨rfl, rfl, rfl⟩
 all_goals
  go_enter Tryz.func61, Tryz.ntmps61
  go_wp2_with (first | ((first | ((with_reducible first | refine sp_al HO ?_ | refine sp_alc HO ?_); intro g hg; rw [← hg.out]; clear hg) | (with_reducible first | refine sp_sk HO ?_ | refine sp_skc HO ?_)); clear HO; (try clear kk); intro W' HO; (try simp only [zTz, zTs, zTa] at HO); (try have kk := HO.kk)) | (go_at_call 82; (with_reducible refine (cF _ _ _ _ HO.below (HO.cell 2 0 rfl rfl) (HO.cell 1 0 rfl rfl) (HO.cell 0 0 rfl rfl)).mono ?_); rintro e w1 ⟨rfl, hn1⟩; replace HO := HO.then hn1; clear hn1; (try clear kk); (try simp only [zTz, zTs, zTa, zDs, zDz] at HO); (try have kk := HO.kk)))
  go_ret2
  exact ⟨rfl, HO.below⟩
end
end Go.Proofs.YtindnnbopaeklaaGreatDoor
