/- Consts: a null constant. -/
import Derived.Test.YtbhijdmlonplgaaGreatDoorAx
namespace Go.Proofs.YtbhijdmlonplgaaGreatDoor
set_option linter.unusedVariables false
set_option linter.unusedSimpArgs false
set_option maxRecDepth 100000
set_option maxHeartbeats 4000000
open Go.RowKit Go.MapKept
def wz (n : Nat) : Array Value := madeCells #[.int .u32 0] n
theorem wz_size (n : Nat) : (wz n).size = n := size_madeCells _ _
theorem run_words (n : Nat) (h : n ≤ 2000000) (W : World) : (Instr.makeSlice 86 (.int .i64 n) (.int .i64 n)).run Tryz.prog W = .ok (.slice (some ⟨W.heap.size, 0, none⟩) n n) (W.alloc (.cells (wz n) 27)) := by
 obtain ⟨i0, hi, hz0, hz1, hz2⟩ := info_parts (P := Tryz.prog) (e := 27) (z := .int .u32 0) (size := 1) (bytes := 4) (by kernel_rfl)
 have := run_makeSlice (P := Tryz.prog) (w := W) 86 27 i0 (.int .u32 0) rfl hi hz0 .i64 .i64 n n (by omega) (by omega) (by rw [hz1]; omega) (by rw [hz2]; omega) (by omega)
 rw [this, hz1]
 simp [wz, Value.cells]
theorem nothing_own (P T mb : Nat) (f : Nat → Option Ty) (op ty res : Nat) (v : Value) (w : World) (hP : w.cell? ⟨P, 0, none⟩ = some (.pointer (some ⟨T, 0, none⟩))) (h : TbR T mb f w) (hs : 0 < (getT f ty).size ∧ (getT f ty).size ≤ 4096) :
  Calls Tryz.prog 64 #[.pointer (some ⟨P, 0, none⟩), .agg #[.int .u16 op, .int .u32 ty, .int .u32 res, v]] w fun e w' => (∃ g, e = .returned (.tuple #[.slice (some ⟨g, 0, none⟩) (getT f ty).size (getT f ty).size, .int .i64 0]) ∧ w.heap.size ≤ g ∧ ∀ j, w'.cell? ⟨g, j, none⟩ = (wz (getT f ty).size)[j]?) ∧ Below w.heap.size w w' := by
 have HO := Own.nil w
 have zP := block_lt_of_cell hP
 have cP : ∀ W, Below w.heap.size w W → Calls Tryz.prog 106 #[.pointer (some ⟨T, 0, none⟩), .int .u32 ty] W fun e w' => e = .returned (.bool true) ∧ Below W.heap.size W w' := fun W hb => by
  have := tplain_own T mb f ty W (h.below hb)
  rw [decide_eq_true hs.1] at this
  exact this
 have cS : ∀ W, Below w.heap.size w W → Calls Tryz.prog 107 #[.pointer (some ⟨T, 0, none⟩), .int .u32 ty] W fun e w' => e = .returned (.int .i64 (getT f ty).size) ∧ Below W.heap.size W w' := fun W hb => tsize_own T mb f ty W (h.below hb)
 generalize (getT f ty).size = n at hs cS ⊢
 clear h
 have hm := run_words n (by omega)
 have hP2 : ∀ W, Below w.heap.size w W → W.cell? ⟨P, 0, none⟩ = some (.pointer (some ⟨T, 0, none⟩)) := fun W hb => cell_last hP zP hb
 go_enter Tryz.func64, Tryz.ntmps64
 go_wp2_with (first | ((first | (with_reducible refine sp_al HO ?_; intro g hg; rw [← hg.out]; clear hg) | (with_reducible refine sp_alc HO ?_; intro g hg; rw [← hg.out]; clear hg) | (with_reducible refine sp_sk HO ?_) | (with_reducible refine sp_skc HO ?_)); intro W' HO'; clear HO; (try clear kk); have HO := HO'; clear HO'; (try simp only [zTz, zTs, zTa] at HO); (try have kk := HO.kk); skip))
 have q1 := hP2 _ HO.below
 have z0 := HO.lt 0 rfl
 have zP2 : P < W'.heap.size := block_lt_of_cell q1
 have B0 := Below.refl W'.heap.size W'
 have bl := HO.below
 have cP1 : ∀ W, Below W'.heap.size W' W → _ := fun W hb => cP W (bl.trans (hb.mono bl.size))
 obtain ⟨L0, hL, HO3⟩ := name_list HO
 clear HO cP
 (try replace kk := kk.2)
 go_cut [13] from 6 (fun s13 wx => s13 = .bool false ∧ Own noX w L0 wx)
 case first =>
  go_region_held3 (fun W => (∀ b j, b < W'.heap.size → W.cell? ⟨b, j, none⟩ = W'.cell? ⟨b, j, none⟩) ∧ Below W'.heap.size W' W) ((refine mkS W' _ ?_; repeat (first | exact B0 | refine below_drw ?_ | refine bal ?_ _ | refine bcall ?_ hn1.out | refine row_below ?_ (by first | assumption | omega) _ | refine below_setc ?_ (by first | assumption | omega))))
   (first | (go_at_call 106; (with_reducible refine (cP1 _ (by repeat (first | exact B0 | refine below_drw ?_ | refine bal ?_ _ | refine bcall ?_ hn1.out | refine row_below ?_ (by first | assumption | omega) _ | refine below_setc ?_ (by first | assumption | omega)))).mono ?_); rintro e w2 ⟨rfl, hn0⟩; have hn1 := hid hn0; clear hn0))
  all_goals
   go_wp2_with fail
   go_meet
   refine ⟨rfl, HO3.then ?_⟩
   repeat (first | exact B0 | refine below_drw ?_ | refine bal ?_ _ | refine bcall ?_ hn1.out | refine row_below ?_ (by first | assumption | omega) _ | refine below_setc ?_ (by first | assumption | omega))
 case rest =>
 obtain ⟨rfl, HO⟩ := hcut
 rw [hL.out] at HO
 clear HO3 hL B0 bl cP1 q1 z0 zP2
 (try clear kk); skip
 (try simp only [zTz, zTs, zTa, zDs, zDz] at HO); (try have kk := HO.kk); skip
 go_wp2_with fail
 have q1 := hP2 _ HO.below
 have z0 := HO.lt 0 rfl
 generalize wc = W' at q1 z0 kk HO ⊢
 have zP2 : P < W'.heap.size := block_lt_of_cell q1
 have B0 := Below.refl W'.heap.size W'
 have bl := HO.below
 have cS1 : ∀ W, Below W'.heap.size W' W → _ := fun W hb => cS W (bl.trans (hb.mono bl.size))
 clear cS
 go_cut [4, 5] (fun s4 s5 wx => s5 = .int .i64 0 ∧ ∃ g', s4 = .slice (some ⟨g', 0, none⟩) n n ∧ w.heap.size ≤ g' ∧ (∀ j, wx.cell? ⟨g', j, none⟩ = (wz n)[j]?) ∧ Below w.heap.size w wx)
 case first =>
  go_region_held3 (fun W => (∀ b j, b < W'.heap.size → W.cell? ⟨b, j, none⟩ = W'.cell? ⟨b, j, none⟩) ∧ Below W'.heap.size W' W) ((refine mkS W' _ ?_; repeat (first | exact B0 | refine below_drw ?_ | refine bal ?_ _ | refine bcall ?_ hn1.out | refine row_below ?_ (by first | assumption | omega) _ | refine below_setc ?_ (by first | assumption | omega))))
   (first | (go_at_call 107; (with_reducible refine (cS1 _ (by repeat (first | exact B0 | refine below_drw ?_ | refine bal ?_ _ | refine bcall ?_ hn1.out | refine row_below ?_ (by first | assumption | omega) _ | refine below_setc ?_ (by first | assumption | omega)))).mono ?_); rintro e w2 ⟨rfl, hn0⟩; have hn1 := hid hn0; clear hn0))
  all_goals
   go_wp2_with fail
   rename_i hh
   go_meet
   refine ⟨rfl, _, rfl, ?_, fun j => cell_of_row _ _ _ _ _ _ (alloc_at w2 _), bl.trans (hh.2.mono bl.size)⟩
   have h1 := hn1.out.size
   have h2 := bl.size
   simp only [size_drw] at h1
   omega
 case rest =>
 obtain ⟨rfl, g', rfl, h1, h2, h3⟩ := hcut
 go_wp2_with fail
 go_ret2
 exact ⟨⟨g', rfl, h1, h2⟩, h3⟩
theorem infoVr : (Tryz.prog.info? 165).map (·.size) = some 3 := by kernel_rfl
theorem holds_own (P T mb : Nat) (f : Nat → Option Ty) (ty res c p b o ab ao ac : Nat) (w : World) (hP : w.cell? ⟨P, 0, none⟩ = some (.pointer (some ⟨T, 0, none⟩))) (h : TbR T mb f w) (hk : (getT f ty).kind = 7) (hc : (getT f ty).cls = c) (ht : (getT f ty).times = 0) (hn : (getT f ty).pn = 1) (ha : (getT f ty).pa = some ⟨b, o, none⟩) (hp : w.cell? ⟨b, o + 0, none⟩ = some (.int .u32 p)) (hs : (getT f p).size ≤ 4096) (hx : w.cell? ⟨ab, ao + 1, none⟩ = some (.int .u32 c)) :
  Calls Tryz.prog 68 #[.pointer (some ⟨P, 0, none⟩), .agg #[.int .u16 59, .int .u32 ty, .int .u32 res, .slice (some ⟨ab, ao, none⟩) 1 ac]] w fun e w' => (∃ g, e = .returned (.tuple #[.agg #[.int .u32 c, .int .u32 p, .slice (some ⟨g, 0, none⟩) (getT f p).size (getT f p).size], .int .i64 0]) ∧ w.heap.size ≤ g ∧ ∀ j, w'.cell? ⟨g, j, none⟩ = (wz (getT f p).size)[j]?) ∧ Below w.heap.size w w' := by
 have HO := Own.nil w
 have zP := block_lt_of_cell hP
 have cC : ∀ W, Below w.heap.size w W → Calls Tryz.prog 112 #[.pointer (some ⟨T, 0, none⟩), .int .u32 ty] W fun e w' => e = .returned (.tuple #[.int .u32 c, .bool true]) ∧ Below W.heap.size W w' := fun W hb => by
  have := tclass_own T mb f ty W (h.below hb)
  rw [hk, hc] at this
  exact this
 have cQ : ∀ W, Below w.heap.size w W → Calls Tryz.prog 110 #[.pointer (some ⟨T, 0, none⟩), .int .u32 ty, .int .i64 0] W fun e w' => e = .returned (.tuple #[.int .u32 p, .bool true]) ∧ Below W.heap.size W w' := fun W hb => tpart_list T mb f ty 0 p b o W (h.below hb) ht (by omega) (by omega) ha (cell_last hp (block_lt_of_cell hp) hb)
 have cS : ∀ W, Below w.heap.size w W → Calls Tryz.prog 107 #[.pointer (some ⟨T, 0, none⟩), .int .u32 p] W fun e w' => e = .returned (.int .i64 (getT f p).size) ∧ Below W.heap.size W w' := fun W hb => tsize_own T mb f p W (h.below hb)
 generalize (getT f p).size = n at hs cS ⊢
 have zA := block_lt_of_cell hx
 clear h hk hc ht hn ha hp
 have hm := run_words n (by omega)
 have hP2 : ∀ W, Below w.heap.size w W → W.cell? ⟨P, 0, none⟩ = some (.pointer (some ⟨T, 0, none⟩)) := fun W hb => cell_last hP zP hb
 have hx2 : ∀ W, Below w.heap.size w W → W.cell? ⟨ab, ao + 1, none⟩ = some (.int .u32 c) := fun W hb => cell_last hx zA hb
 clear hP hx
 go_enter Tryz.func68, Tryz.ntmps68
 go_wp2_with (first | ((first | (with_reducible refine sp_al HO ?_; intro g hg; rw [← hg.out]; clear hg) | (with_reducible refine sp_alc HO ?_; intro g hg; rw [← hg.out]; clear hg) | (with_reducible refine sp_sk HO ?_) | (with_reducible refine sp_skc HO ?_)); intro W' HO'; clear HO; (try clear kk); have HO := HO'; clear HO'; (try simp only [zTz, zTs, zTa] at HO); (try have kk := HO.kk); skip))
 rename_i gI W1 K1 a1
 obtain ⟨gR, rfl⟩ : ∃ q, q = g := ⟨_, rfl⟩
 have q1 := hP2 _ HO.below
 have q2 := hx2 _ HO.below
 (try have z0 := HO.lt 0 rfl); (try have z1 := HO.lt 1 rfl); (try have z2 := HO.lt 2 rfl); (try have z3 := HO.lt 3 rfl); (try have z4 := HO.lt 4 rfl); (try have z5 := HO.lt 5 rfl); (try have z6 := HO.lt 6 rfl); skip
 have zP2 : P < W'.heap.size := block_lt_of_cell q1
 have B0 := Below.refl W'.heap.size W'
 have bl := HO.below
 have cC1 : ∀ W, Below W'.heap.size W' W → _ := fun W hb => cC W (bl.trans (hb.mono bl.size))
 obtain ⟨L0, hL, HO3⟩ := name_list HO
 clear HO cC
 (try replace kk := kk.2)
 go_cut [6, 7] from 11 (fun s6 s7 wx => s6 = .int .u32 c ∧ s7 = .bool true ∧ Own noX w L0 wx)
 case first =>
  go_region_held3 (fun W => (∀ b j, b < W'.heap.size → W.cell? ⟨b, j, none⟩ = W'.cell? ⟨b, j, none⟩) ∧ Below W'.heap.size W' W) ((refine mkS W' _ ?_; repeat (first | exact B0 | refine below_drw ?_ | refine bal ?_ _ | refine bcall ?_ hn1.out | refine row_below ?_ (by first | assumption | omega) _ | refine below_setc ?_ (by first | assumption | omega))))
   (first | (go_at_call 112; (with_reducible refine (cC1 _ (by repeat (first | exact B0 | refine below_drw ?_ | refine bal ?_ _ | refine bcall ?_ hn1.out | refine row_below ?_ (by first | assumption | omega) _ | refine below_setc ?_ (by first | assumption | omega)))).mono ?_); rintro e w2 ⟨rfl, hn0⟩; have hn1 := hid hn0; clear hn0))
  all_goals
   go_wp2_with fail
   go_meet
   refine ⟨rfl, rfl, HO3.then ?_⟩
   repeat (first | exact B0 | refine below_drw ?_ | refine bal ?_ _ | refine bcall ?_ hn1.out | refine row_below ?_ (by first | assumption | omega) _ | refine below_setc ?_ (by first | assumption | omega))
 case rest =>
 obtain ⟨rfl, rfl, HO⟩ := hcut
 rw [hL.out] at HO
 clear HO3 hL B0 bl cC1 q1 q2 zP2
 (try clear z0); (try clear z1); (try clear z2); (try clear z3); (try clear z4); (try clear z5); (try clear z6)
 (try clear kk); skip
 have q2 := hx2 _ HO.below
 (try simp only [zTz, zTs, zTa, zDs, zDz] at HO); (try have kk := HO.kk); skip
 go_wp2_with (first | ((first | (with_reducible refine sp_al HO ?_; intro g hg; rw [← hg.out]; clear hg) | (with_reducible refine sp_alc HO ?_; intro g hg; rw [← hg.out]; clear hg) | (with_reducible refine sp_sk HO ?_) | (with_reducible refine sp_skc HO ?_) | (refine sp_wk HO rfl 165 _ _ rfl rfl rfl (by kernel_rfl) (by rfl) (by simp [Value.oneCell']) ?_)); intro W' HO'; clear HO; (try clear kk); have HO := HO'; clear HO'; (try simp only [zTz, zTs, zTa] at HO); (try have kk := HO.kk); skip))
 obtain ⟨gV, rfl⟩ : ∃ q, q = g := ⟨_, rfl⟩
 try simp only [Act.put]
 have q1 := hP2 _ HO.below
 have q3 := hx2 _ HO.below
 (try have z0 := HO.lt 0 rfl); (try have z1 := HO.lt 1 rfl); (try have z2 := HO.lt 2 rfl); (try have z3 := HO.lt 3 rfl); (try have z4 := HO.lt 4 rfl); (try have z5 := HO.lt 5 rfl); (try have z6 := HO.lt 6 rfl); skip
 have zP2 : P < W'.heap.size := block_lt_of_cell q1
 have nP : P ≠ gV := by have := ((HO.low _ (List.mem_of_getElem? (i := 0) rfl) gV rfl).1).resolve_right id; omega
 have nI : gI ≠ gV := Ne.symm (HO.ne 0 2 rfl rfl (by omega))
 have O0 := Only.refl gV W'
 have bl := HO.below
 have B0 := Below.refl W'.heap.size W'
 have cQ1 : ∀ W, Below w.heap.size w W → _ := fun W hb => cQ W hb
 have hV : ∀ w2, Below W'.drew.heap.size W'.drew w2 → (∀ j, w2.frozen? ⟨gV, j, none⟩ = false) ∧ ∀ j, w2.cell? ⟨gV, j, none⟩ = (#[.int .u32 c, .int .u32 0, .slice none 0 0] : Array Value)[j]? := fun w2 h => ⟨(HO.drew.then h).melt 0 rfl, (HO.drew.then h).cells 0 rfl⟩
 clear cQ
 (try replace kk := kk.2)
 have HO3 := HO
 clear HO
 go_cut [] from 30 (fun wx => Own noX w [cls gV #[.int .u32 c, .int .u32 p, .slice none 0 0] 165, cls gR #[.int .u32 0, .int .u32 0, .slice none 0 0] 165, cls gI #[.int .u16 59, .int .u32 ty, .int .u32 res, .slice (some ⟨ab, ao, none⟩) 1 ac] 41] wx)
 case first =>
  go_region_held3 (fun W => (∀ b j, b < W'.heap.size → b ≠ gV → W.cell? ⟨b, j, none⟩ = W'.cell? ⟨b, j, none⟩) ∧ Only gV W' W) ((refine mkX gV W' _ ?_; repeat (first | exact O0 | refine only_drew ?_ | refine only_set ?_ | refine only_row ?_ | refine only_map ?_ | refine only_al ?_ _ | refine only_call ?_ hn1.out | refine only_setc ?_ (by first | assumption | omega))))
   (first | (go_at_call 110; (with_reducible refine (cQ1 _ (bl.trans (Below.mono (by repeat (first | exact B0 | refine below_drw ?_ | refine bal ?_ _ | refine bcall ?_ hn1.out | refine row_below ?_ (by first | assumption | omega) _ | refine below_setc ?_ (by first | assumption | omega))) bl.size))).mono ?_); rintro e w2 ⟨rfl, hn0⟩; obtain ⟨rz, rc⟩ := hV _ hn0; have hn1 := hid hn0; clear hn0))
  all_goals
   go_wp2_with fail
   go_meet
   exact (HO3.drew.then hn1.out).set 0 1 _ rfl
 case rest =>
 clear HO3 hV B0 bl cQ1 q1 q2 q3 zP2 O0
 (try clear z0); (try clear z1); (try clear z2); (try clear z3); (try clear z4); (try clear z5); (try clear z6)
 (try clear kk); skip
 have HO := hcut
 clear hcut
 (try simp only [zTz, zTs, zTa, zDs, zDz] at HO); (try have kk := HO.kk); skip
 go_wp2_with (first | ((first | (with_reducible refine sp_al HO ?_; intro g hg; rw [← hg.out]; clear hg) | (with_reducible refine sp_alc HO ?_; intro g hg; rw [← hg.out]; clear hg) | (with_reducible refine sp_sk HO ?_) | (with_reducible refine sp_skc HO ?_) | (refine sp_wk HO rfl 165 _ _ rfl rfl rfl (by kernel_rfl) (by rfl) (by simp [Value.oneCell']) ?_)); intro W' HO'; clear HO; (try clear kk); have HO := HO'; clear HO'; (try simp only [zTz, zTs, zTa] at HO); (try have kk := HO.kk); skip))
 generalize wc = W' at HO kk ⊢
 have q1 := hP2 _ HO.below
 (try have z0 := HO.lt 0 rfl); (try have z1 := HO.lt 1 rfl); (try have z2 := HO.lt 2 rfl); (try have z3 := HO.lt 3 rfl); (try have z4 := HO.lt 4 rfl); (try have z5 := HO.lt 5 rfl); (try have z6 := HO.lt 6 rfl); skip
 have zP2 : P < W'.heap.size := block_lt_of_cell q1
 have nP : P ≠ gV := by have := ((HO.low _ (List.mem_of_getElem? (i := 0) rfl) gV rfl).1).resolve_right id; omega
 have O0 := Only.refl gV W'
 have bl := HO.below
 have B0 := Below.refl W'.heap.size W'
 have hV : ∀ w2, Below W'.drew.heap.size W'.drew w2 → (∀ j, (w2.alloc (.cells (wz n) 27)).frozen? ⟨gV, j, none⟩ = false) ∧ (∀ j, (w2.alloc (.cells (wz n) 27)).cell? ⟨gV, j, none⟩ = (#[.int .u32 c, .int .u32 p, .slice none 0 0] : Array Value)[j]?) ∧ (∀ j, w2.cell? ⟨gV, j, none⟩ = (#[.int .u32 c, .int .u32 p, .slice none 0 0] : Array Value)[j]?) := fun w2 h => ⟨((HO.drew.then h).alloc _).melt 1 rfl, ((HO.drew.then h).alloc _).cells 1 rfl, (HO.drew.then h).cells 0 rfl⟩
 (try replace kk := kk.2)
 have HO3 := HO
 clear HO
 have mkO : ∀ (W : World) (i : Nat) (L : List As) (cs : Array Value), Own noX w L W → L[i]? = some (cls gV cs 165) → cs[1]? = some (.int .u32 p) → W.cell? ⟨P, 0, none⟩ = some (.pointer (some ⟨T, 0, none⟩)) ∧ W.cell? ⟨gV, 1, none⟩ = some (.int .u32 p) ∧ Below w.heap.size w W := fun W i L cs h h1 h2 => ⟨hP2 W h.below, (h.cells i h1 1).trans h2, h.below⟩
 go_cut [] from 61 (fun wx => ∃ g', w.heap.size ≤ g' ∧ Own noX w [cls g' (wz n) 27, cls gV #[.int .u32 c, .int .u32 p, .slice (some ⟨g', 0, none⟩) n n] 165, cls gR #[.int .u32 0, .int .u32 0, .slice none 0 0] 165, cls gI #[.int .u16 59, .int .u32 ty, .int .u32 res, .slice (some ⟨ab, ao, none⟩) 1 ac] 41] wx)
 case first =>
  go_region_held3 (fun W => W.cell? ⟨P, 0, none⟩ = some (.pointer (some ⟨T, 0, none⟩)) ∧ W.cell? ⟨gV, 1, none⟩ = some (.int .u32 p) ∧ Below w.heap.size w W)
   (first | exact mkO _ 0 _ _ HO3.drew rfl rfl | exact mkO _ 0 _ _ (HO3.drew.then hn1.out) rfl rfl | exact mkO _ 1 _ _ ((HO3.drew.then hn1.out).alloc _) rfl rfl | exact mkO _ 1 _ _ (((HO3.drew.then hn1.out).alloc _).set 1 2 _ rfl) rfl rfl | exact mkO _ 0 _ _ HO3 rfl rfl)
   (first | (go_at_call 107; (with_reducible refine (cS _ (bl.trans (Below.mono (by repeat (first | exact B0 | refine below_drw ?_ | refine bal ?_ _ | refine bcall ?_ hn1.out | refine row_below ?_ (by first | assumption | omega) _ | refine below_setc ?_ (by first | assumption | omega))) bl.size))).mono ?_); rintro e w2 ⟨rfl, hn0⟩; obtain ⟨rz, rc, rd⟩ := hV _ hn0; have hn1 := hid hn0; clear hn0))
  all_goals
   go_wp2_with fail
   go_meet
   refine ⟨_, ?_, ((HO3.drew.then hn1.out).alloc _).set 1 2 _ rfl⟩
   have h1 := hn1.out.size
   have h2 := bl.size
   simp only [size_drw] at h1
   omega
 case rest =>
 obtain ⟨g', hg, HO⟩ := hcut
 (try clear kk); skip
 (try simp only [zTz, zTs, zTa, zDs, zDz] at HO); (try have kk := HO.kk); skip
 go_wp2_with (first | ((first | (with_reducible refine sp_al HO ?_; intro g hg; rw [← hg.out]; clear hg) | (with_reducible refine sp_alc HO ?_; intro g hg; rw [← hg.out]; clear hg) | (with_reducible refine sp_sk HO ?_) | (with_reducible refine sp_skc HO ?_) | (refine sp_wk HO rfl 165 _ _ rfl rfl rfl (by kernel_rfl) (by rfl) (by simp [Value.oneCell']) ?_)); intro W' HO'; clear HO; (try clear kk); have HO := HO'; clear HO'; (try simp only [zTz, zTs, zTa] at HO); (try have kk := HO.kk); skip))
 trace_state
 refine bodyPost_ret_by (results_row_tmp rfl _ _ _ 165 #[.int .u32 c, .int .u32 p, .slice (some ⟨g', 0, none⟩) n n] _ _ rfl (HO.blk 2 rfl) Tryz.underlying165 rfl infoVr) rfl ?_
 exact ⟨⟨g', rfl, hg, HO.cells 0 rfl⟩, HO.below⟩
def keyH (k : Nat) : Value := .int .u16 (k : Int)
theorem keysH : Keys (.int .u16) keyH := ⟨fun k => rfl, fun k k' h => by unfold keyH at h; injection h with h1 h2; omega⟩
def encF (v : Value) : Value := v
def fnV (P n : Nat) : Value := .func (.func n) #[.pointer (some ⟨P, 0, none⟩)] #[]
def makersF (P : Nat) : Nat → Option Value := (kup (kup (kup (kup (kup (kup (fun _ => none) 1 (fnV P 64)) 46 (fnV P 64)) 41 (fnV P 65)) 42 (fnV P 65)) 43 (fnV P 66)) 44 (fnV P 67))
theorem cmakers_own (P : Nat) (w : World) :
  Calls Tryz.prog 41 #[.pointer (some ⟨P, 0, none⟩)] w fun e w' => (∃ m, e = .returned (.map (some m)) ∧ w.heap.size ≤ m ∧ Mp (.int .u16) keyH (fun _ v x => v = encF x) w' m (makersF P)) ∧ Below w.heap.size w w' := by
 have HO := Own.nil w
 have hmm := @run_makeMap Tryz.prog
 go_enter Tryz.func41, Tryz.ntmps41
 go_wp2_with (first | ((first | (with_reducible refine sp_al HO ?_; intro g hg; rw [← hg.out]; clear hg) | (with_reducible refine sp_alc HO ?_; intro g hg; rw [← hg.out]; clear hg) | (with_reducible refine sp_sk HO ?_) | (with_reducible refine sp_skc HO ?_)); intro W' HO'; clear HO; (try clear kk); have HO := HO'; clear HO'; (try simp only [zTz, zTs, zTa] at HO); (try have kk := HO.kk); skip))
 clear hmm
 replace HO := HO.recast 0 (A' := mpA (.int .u16) keyH encF _ (fun _ => none)) rfl (fun k hk => hk) (mp_new (HO.blk 0 rfl))
 simp only [List.set_cons_zero] at HO
 obtain ⟨gM, rfl⟩ : ∃ q, q = g := ⟨_, rfl⟩
 obtain ⟨o0, hup, hm2⟩ := Mp.put (HO.at 0 rfl) keysH Tryz.underlying108 Tryz.underlying24 1 (fnV P 64) (fnV P 64) (fun _ _ _ h => h) (fun _ => rfl)
 have hup2 : (Instr.mapUpdate 108 (.map (some gM)) (.int .u16 1) (.func (.func 64) #[.pointer (some ⟨P, 0, none⟩)] #[])).run Tryz.prog W' = .ok () (putMap W' gM o0) := hup
 replace HO := HO.map 0 o0 rfl hm2
 simp only [List.set_cons_zero] at HO
 rw [hup2]
 clear hup hup2 hm2
 generalize putMap W' gM o0 = V0 at HO ⊢
 go_wp2_with fail
 obtain ⟨o1, hup, hm2⟩ := Mp.put (HO.at 0 rfl) keysH Tryz.underlying108 Tryz.underlying24 46 (fnV P 64) (fnV P 64) (fun _ _ _ h => h) (fun _ => rfl)
 have hup2 : (Instr.mapUpdate 108 (.map (some gM)) (.int .u16 46) (.func (.func 64) #[.pointer (some ⟨P, 0, none⟩)] #[])).run Tryz.prog V0 = .ok () (putMap V0 gM o1) := hup
 replace HO := HO.map 0 o1 rfl hm2
 simp only [List.set_cons_zero] at HO
 rw [hup2]
 clear hup hup2 hm2
 generalize putMap V0 gM o1 = V1 at HO ⊢
 go_wp2_with fail
 obtain ⟨o2, hup, hm2⟩ := Mp.put (HO.at 0 rfl) keysH Tryz.underlying108 Tryz.underlying24 41 (fnV P 65) (fnV P 65) (fun _ _ _ h => h) (fun _ => rfl)
 have hup2 : (Instr.mapUpdate 108 (.map (some gM)) (.int .u16 41) (.func (.func 65) #[.pointer (some ⟨P, 0, none⟩)] #[])).run Tryz.prog V1 = .ok () (putMap V1 gM o2) := hup
 replace HO := HO.map 0 o2 rfl hm2
 simp only [List.set_cons_zero] at HO
 rw [hup2]
 clear hup hup2 hm2
 generalize putMap V1 gM o2 = V2 at HO ⊢
 go_wp2_with fail
 obtain ⟨o3, hup, hm2⟩ := Mp.put (HO.at 0 rfl) keysH Tryz.underlying108 Tryz.underlying24 42 (fnV P 65) (fnV P 65) (fun _ _ _ h => h) (fun _ => rfl)
 have hup2 : (Instr.mapUpdate 108 (.map (some gM)) (.int .u16 42) (.func (.func 65) #[.pointer (some ⟨P, 0, none⟩)] #[])).run Tryz.prog V2 = .ok () (putMap V2 gM o3) := hup
 replace HO := HO.map 0 o3 rfl hm2
 simp only [List.set_cons_zero] at HO
 rw [hup2]
 clear hup hup2 hm2
 generalize putMap V2 gM o3 = V3 at HO ⊢
 go_wp2_with fail
 obtain ⟨o4, hup, hm2⟩ := Mp.put (HO.at 0 rfl) keysH Tryz.underlying108 Tryz.underlying24 43 (fnV P 66) (fnV P 66) (fun _ _ _ h => h) (fun _ => rfl)
 have hup2 : (Instr.mapUpdate 108 (.map (some gM)) (.int .u16 43) (.func (.func 66) #[.pointer (some ⟨P, 0, none⟩)] #[])).run Tryz.prog V3 = .ok () (putMap V3 gM o4) := hup
 replace HO := HO.map 0 o4 rfl hm2
 simp only [List.set_cons_zero] at HO
 rw [hup2]
 clear hup hup2 hm2
 generalize putMap V3 gM o4 = V4 at HO ⊢
 go_wp2_with fail
 obtain ⟨o5, hup, hm2⟩ := Mp.put (HO.at 0 rfl) keysH Tryz.underlying108 Tryz.underlying24 44 (fnV P 67) (fnV P 67) (fun _ _ _ h => h) (fun _ => rfl)
 have hup2 : (Instr.mapUpdate 108 (.map (some gM)) (.int .u16 44) (.func (.func 67) #[.pointer (some ⟨P, 0, none⟩)] #[])).run Tryz.prog V4 = .ok () (putMap V4 gM o5) := hup
 replace HO := HO.map 0 o5 rfl hm2
 simp only [List.set_cons_zero] at HO
 rw [hup2]
 clear hup hup2 hm2
 generalize putMap V4 gM o5 = V5 at HO ⊢
 go_wp2_with fail
 trace_state
 go_ret
 exact ⟨⟨gM, rfl, ((HO.low _ (List.mem_of_getElem? (i := 0) rfl) gM rfl).1).resolve_right id, HO.at 0 rfl⟩, HO.below⟩
theorem zeroFn (w : World) : (zeroValue 161).run Tryz.prog w = .ok .nilFunc w := by kernel_rfl
theorem eqNil (w : World) : (binOp .eql 161 .nilFunc .nilFunc).run Tryz.prog w = .ok (.bool true) w := by kernel_rfl
theorem eqFn (n : Nat) (xs ys : Array Value) (w : World) : (binOp .eql 161 (.func (.func n) xs ys) .nilFunc).run Tryz.prog w = .ok (.bool false) w := by kernel_rfl
theorem cadd_none (P M P0 op ty res : Nat) (v : Value) (w : World) (h : Mp (.int .u16) keyH (fun _ v x => v = encF x) w M (makersF P0)) (h1 : op ≠ 59) (h2 : makersF P0 op = none) :
  Calls Tryz.prog 42 #[.pointer (some ⟨P, 0, none⟩), .agg #[.int .u16 op, .int .u32 ty, .int .u32 res, v], .map (some M)] w fun e w' => e = .returned (.int .i64 0) ∧ Below w.heap.size w w' := by
 have HO := Own.nil w
 have hl : ∀ W, Below w.heap.size w W → (Instr.lookup 108 (.map (some M)) (.int .u16 op) false).run Tryz.prog W = .ok .nilFunc W := fun W hb => (h.other (hb.block _ h.lt) (fun _ _ e => e)).miss keysH Tryz.underlying108 Tryz.underlying24 h2 (zeroFn W) false
 have i1 : ((op : Int) == 59) = false := by rw [beq_eq_false_iff_ne]; omega
 clear h h1 h2
 have he := eqNil
 go_enter Tryz.func42, Tryz.ntmps42
 go_wp2_with (first | ((first | (with_reducible refine sp_al HO ?_; intro g hg; rw [← hg.out]; clear hg) | (with_reducible refine sp_alc HO ?_; intro g hg; rw [← hg.out]; clear hg) | (with_reducible refine sp_sk HO ?_) | (with_reducible refine sp_skc HO ?_)); intro W' HO'; clear HO; (try clear kk); have HO := HO'; clear HO'; (try simp only [zTz, zTs, zTa] at HO); (try have kk := HO.kk); skip))
 have hl2 := hl _ HO.below
 try rw [hl2]
 go_wp2_with fail
 trace_state
 go_ret
 exact ⟨rfl, HO.below⟩
end Go.Proofs.YtbhijdmlonplgaaGreatDoor
