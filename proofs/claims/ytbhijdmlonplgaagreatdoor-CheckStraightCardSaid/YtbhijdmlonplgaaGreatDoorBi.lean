/- Face: what the checker reads; class, number, function; calls.Len, Reached. -/
import Derived.Test.YtbhijdmlonplgaaGreatDoorBa
import Derived.Test.YtbhijdmlonplgaaGreatDoorBb
import Derived.Test.YtbhijdmlonplgaaGreatDoorAu
import Derived.Test.YtbhijdmlonplgaaGreatDoorAf
import Derived.Test.YtbhijdmlonplgaaGreatDoorAk
namespace Go.Proofs.YtbhijdmlonplgaaGreatDoor
set_option linter.unusedVariables false
set_option linter.unusedSimpArgs false
set_option maxRecDepth 100000
set_option maxHeartbeats 4000000
open Go.RowKit Go.MapKept
structure DcD where
 at_ : Nat
 room : Nat
 k : Nat
def encDc (x : DcD) : Value := .slice (some ⟨x.at_, 0, none⟩) 1 x.room
def fcCells (i : In) (s : Option Addr × Nat) : Array Value := #[.int .u16 i.op, .int .u32 i.ty, .int .u32 i.res, .slice s.1 i.args.length s.2]
def decA (l : List In) (sv : Nat → Option Addr × Nat) (D : Nat → Prop) (f : Nat → Option DcD) : As := ⟨D, fun W => ∀ id x, f id = some x → D x.at_ ∧ ∀ j, j < 4 → W.cell? ⟨x.at_, j, none⟩ = (fcCells (l.getD x.k noIn) (sv x.k))[j]?, fun W W' h hk id x e => by
 obtain ⟨a, b⟩ := h id x e
 exact ⟨a, fun j hj => (World.cell?_of_block (a := ⟨x.at_, j, none⟩) (hk _ a)).trans (b j hj)⟩⟩
structure Fkr (K P T C gf gc gd b o cap b2 cb id lab y st en : Nat) (l : List In) (sv : Nat → Option Addr × Nat) (tab : Nat → Option TyD) (vs : Nat → Option (Nat × Nat × Nat)) (fk : Nat → Option Nat) (W : World) : Prop where
 c0 : W.cell? ⟨K, 0, none⟩ = some (.pointer (some ⟨P, 0, none⟩))
 c1 : W.cell? ⟨K, 1, none⟩ = some (.pointer (some ⟨T, 0, none⟩))
 c2 : W.cell? ⟨K, 2, none⟩ = some (.pointer (some ⟨C, 0, none⟩))
 c3 : W.cell? ⟨K, 3, none⟩ = some (.slice (some ⟨gf, 0, none⟩) 1 gc)
 c4 : W.cell? ⟨K, 4, none⟩ = some (.slice (some ⟨b, o, none⟩) l.length cap)
 c5 : W.cell? ⟨K, 5, none⟩ = some (.map (some gd))
 pl : ∃ lo, PlIn lo P T tab vs W
 ca : ∃ lo, CaIn C lo W
 fq : ∃ lo, FnQ gf b2 cb id lab y st en lo W
 ms : Ms W b o l sv
 dc : ∃ f D, Mp (.int .u32) keyU (fun _ v x => v = encDc x) W gd f ∧ (decA l sv D f).holds W ∧ (∀ k, D k → k < W.heap.size) ∧ ∀ id, (f id).map (·.k) = fk id
theorem CaIn.below' {C lo : Nat} {W W' : World} (h : CaIn C lo W) (hb : Below W.heap.size W W') : CaIn C lo W' := h.below hb
theorem Fkr.below {K P T C gf gc gd b o cap b2 cb id lab y st en : Nat} {l : List In} {sv : Nat → Option Addr × Nat} {tab : Nat → Option TyD} {vs : Nat → Option (Nat × Nat × Nat)} {fk : Nat → Option Nat} {W W' : World} (h : Fkr K P T C gf gc gd b o cap b2 cb id lab y st en l sv tab vs fk W) (hb : Below W.heap.size W W') : Fkr K P T C gf gc gd b o cap b2 cb id lab y st en l sv tab vs fk W' := by
 have z := block_lt_of_cell h.c0
 obtain ⟨l1, h1⟩ := h.pl
 obtain ⟨l2, h2⟩ := h.ca
 obtain ⟨l3, h3⟩ := h.fq
 obtain ⟨f, D, h4, h5, h6, h7⟩ := h.dc
 exact ⟨cell_last h.c0 z hb, cell_last h.c1 z hb, cell_last h.c2 z hb, cell_last h.c3 z hb, cell_last h.c4 z hb, cell_last h.c5 z hb, ⟨l1, (PlIn.keeps P T tab vs).below h1 hb⟩, ⟨l2, h2.below hb⟩, ⟨l3, (fnkeeps _ _ _ _ _ _ _ _).below h3 hb⟩, h.ms.below hb, ⟨f, D, h4.other (hb.block _ h4.lt) (fun _ _ e => e), (decA l sv D f).loc _ _ h5 (fun k hk => hb.block k (h6 k hk)), fun k hk => Nat.lt_of_lt_of_le (h6 k hk) hb.size, h7⟩⟩
theorem zeroVr (w : World) : (zeroValue 165).run Tryz.prog w = .ok (.agg #[.int .u32 0, .int .u32 0, .slice none 0 0]) w := by kernel_rfl
theorem copied_none (w : World) : Calls Tryz.prog 282 #[.slice none 0 0] w fun e w' => (∃ v, e = .returned v) ∧ Below w.heap.size w w' := by
 have HO := Own.nil w
 have hm : ∀ W : World, (Instr.makeSlice 86 (.int .i64 0) (.int .i64 0)).run Tryz.prog W = .ok (.slice (some ⟨W.heap.size, 0, none⟩) 0 0) (W.alloc (.cells (wz 0) 27)) := run_words 0 (by omega)
 go_enter Tryz.func282, Tryz.ntmps282
 go_wp2_with (first | ((first | (with_reducible refine sp_al HO ?_; intro g hg; rw [← hg.out]; clear hg) | (with_reducible refine sp_alc HO ?_; intro g hg; rw [← hg.out]; clear hg)); intro W' HO'; clear HO; (try clear kk); have HO := HO'; clear HO'; (try simp only [zTz, zTs, zTa] at HO); (try have kk := HO.kk); skip))
 have hr : (Builtin.copy_ #[86, 86] 3 #[.slice (some ⟨g, 0, none⟩) 0 0, .slice none 0 0]).run Tryz.prog W' = .ok (.int .i64 0) W' := by kernel_rfl
 rw [hr]
 go_wp2_with fail
 go_ret
 exact ⟨⟨_, rfl⟩, HO.below⟩
theorem cvariable_none (P mv id : Nat) (fv : Nat → Option VarD) (w : World) (hP : w.cell? ⟨P, 4, none⟩ = some (.map (some mv))) (hm : Mp (.int .u32) keyU (fun _ v x => v = encVr x) w mv fv) (hf : fv id = none) :
  Calls Tryz.prog 219 #[.pointer (some ⟨P, 0, none⟩), .int .u32 id] w fun e w' => (∃ v, e = .returned (.tuple #[.int .u32 0, .int .u32 0, v, .bool false])) ∧ Below w.heap.size w w' := by
 have HO := Own.nil w
 have zP := block_lt_of_cell hP
 have hl : (Instr.lookup 105 (.map (some mv)) (.int .u32 id) true).run Tryz.prog w = .ok (.tuple #[.agg #[.int .u32 0, .int .u32 0, .slice none 0 0], .bool false]) w := hm.miss keysU Tryz.underlying105 Tryz.underlying27 hf (zeroVr w) true
 have cC := fun W => copied_none W
 clear hm hf
 go_enter Tryz.func219, Tryz.ntmps219
 go_wp2_with (first | ((first | (with_reducible refine sp_al HO ?_; intro g hg; rw [← hg.out]; clear hg) | (with_reducible refine sp_alc HO ?_; intro g hg; rw [← hg.out]; clear hg) | (with_reducible refine sp_sk HO ?_) | (with_reducible refine sp_skc HO ?_) | (refine sp_wk HO rfl 165 _ _ rfl rfl rfl (by kernel_rfl) (by rfl) (by simp [Value.oneCell']) ?_)); intro W' HO'; clear HO; (try clear kk); have HO := HO'; clear HO'; (try simp only [zTz, zTs, zTa] at HO); (try have kk := HO.kk); skip))
 obtain ⟨gV, rfl⟩ : ∃ q, q = g := ⟨_, rfl⟩
 try simp only [Act.put]
 have z0 := HO.lt 0 rfl
 have B0 := Below.refl W'.heap.size W'
 have bl := HO.below
 (try replace kk := kk.2)
 go_cut [4, 5, 6, 7] (fun s4 s5 s6 s7 wx => s4 = .int .u32 0 ∧ s5 = .int .u32 0 ∧ s7 = .bool false ∧ (∃ v, s6 = v) ∧ Below w.heap.size w wx)
 case first =>
  go_region_held3 (fun W => (∀ b j, b < W'.heap.size → W.cell? ⟨b, j, none⟩ = W'.cell? ⟨b, j, none⟩) ∧ Below W'.heap.size W' W) ((refine mkS W' _ ?_; repeat (first | exact B0 | refine below_drw ?_ | refine bal ?_ _ | refine bcall ?_ hn1.out | refine row_below ?_ (by first | assumption | omega) _ | refine below_setc ?_ (by first | assumption | omega))))
   (first | (go_at_call 282; (with_reducible refine (cC _).mono ?_); rintro e w2 ⟨⟨v, rfl⟩, hn0⟩; have hn1 := hid hn0; clear hn0))
  all_goals
   go_wp2_with fail
   rename_i hh
   go_meet
   exact ⟨rfl, rfl, rfl, ⟨_, rfl⟩, bl.trans (hh.2.mono bl.size)⟩
 case rest =>
 obtain ⟨rfl, rfl, rfl, ⟨v, rfl⟩, h2⟩ := hcut
 go_wp2_with fail
 refine bodyPost_ret_by (res_four rfl _ _ _) rfl ?_
 exact ⟨⟨_, rfl⟩, h2⟩
section
variable {K P T C gf gc gd b o cap b2 cb id lab y st en : Nat} {l : List In} {sv : Nat → Option Addr × Nat} {tab : Nat → Option TyD} {vs : Nat → Option (Nat × Nat × Nat)} {fk : Nat → Option Nat} {w : World}
theorem var_in {lo : Nat} (h : PlIn lo P T tab vs w) (hz : ∀ id c ty n, vs id = some (c, ty, n) → 0 < n ∧ n ≤ 4096) (v : Nat) :
  Calls Tryz.prog 219 #[.pointer (some ⟨P, 0, none⟩), .int .u32 v] w fun e w' => (∃ x, e = .returned (.tuple #[.int .u32 ((vs v).getD (0, 0, 0)).1, .int .u32 ((vs v).getD (0, 0, 0)).2.1, x, .bool (vs v).isSome])) ∧ Below w.heap.size w w' := by
 obtain ⟨mv, fv, Dm, h1, h2, h3, h4, h5, h6, h7, h8, h9, h10⟩ := h.at_
 have hq := h8 v
 cases hf : fv v with
 | none =>
  rw [hf] at hq
  rw [← hq]
  exact (cvariable_none P mv v fv w h5 h7 hf).mono fun e w' he => by
   obtain ⟨⟨x, e1⟩, e2⟩ := he
   exact ⟨⟨x, e1⟩, e2⟩
 | some x =>
  rw [hf] at hq
  rw [← hq]
  obtain ⟨hn1, hn2⟩ := hz v x.cls x.ty x.n hq.symm
  have hw := h9 v x hf
  refine (cvariable_own P mv v fv x w h5 h7 hf ⟨Nat.zero_le _, hw.2⟩ hn2 (h10 _ hw.1)).mono fun e w' he => ?_
  obtain ⟨⟨g, e1, -⟩, e2⟩ := he
  exact ⟨⟨_, e1⟩, e2⟩
def clsOf (vs : Nat → Option (Nat × Nat × Nat)) (v : Nat) : Nat := if ((vs v).getD (0, 0, 0)).1 = 1 ∨ ((vs v).getD (0, 0, 0)).1 = 3 then ((vs v).getD (0, 0, 0)).1 else 0
theorem fclass_own (h : Fkr K P T C gf gc gd b o cap b2 cb id lab y st en l sv tab vs fk w) (hz : ∀ id c ty n, vs id = some (c, ty, n) → 0 < n ∧ n ≤ 4096 ∧ (c = 1 ∨ c = 3)) (v : Nat) :
  Calls Tryz.prog 144 #[.pointer (some ⟨K, 0, none⟩), .int .u32 v] w fun e w' => e = .returned (.int .u32 (clsOf vs v)) ∧ Below w.heap.size w w' := by
 have HO := Own.nil w
 have g0 := h.c0
 have zK := block_lt_of_cell g0
 have cV : ∀ W, Below w.heap.size w W → Calls Tryz.prog 219 #[.pointer (some ⟨P, 0, none⟩), .int .u32 v] W fun e w' => (∃ x, e = .returned (.tuple #[.int .u32 ((vs v).getD (0, 0, 0)).1, .int .u32 ((vs v).getD (0, 0, 0)).2.1, x, .bool (vs v).isSome])) ∧ Below W.heap.size W w' := fun W hb => by
  obtain ⟨lo, hp⟩ := (h.below hb).pl
  exact var_in hp (fun id c ty n e => ⟨(hz id c ty n e).1, (hz id c ty n e).2.1⟩) v
 unfold clsOf
 have hz2 := hz v
 clear hz h
 cases hf : vs v with
 | none =>
  rw [hf] at cV
  simp only [Option.getD_none, Option.isSome] at cV ⊢
  clear hf hz2
  have cV2 : ∀ W, Below w.heap.size w W → Calls Tryz.prog 219 #[.pointer (some ⟨P, 0, none⟩), .int .u32 v] W fun e w' => (∃ x, e = .returned (.tuple #[.int .u32 0, .int .u32 0, x, .bool false])) ∧ Below W.heap.size W w' := cV
  go_enter Tryz.func144, Tryz.ntmps144
  go_wp2_with (first | (go_at_call 219; (with_reducible refine (cV2 _ HO.below).mono ?_); rintro e w1 ⟨⟨x, rfl⟩, hn1⟩; replace HO := HO.then hn1; clear hn1))
  go_ret
  exact ⟨rfl, HO.below⟩
 | some t =>
  obtain ⟨c, ty, n⟩ := t
  have hc := (hz2 c ty n hf).2.2
  rw [hf] at cV
  simp only [Option.getD_some, Option.isSome] at cV ⊢
  clear hf hz2
  have hcc : (if c = 1 ∨ c = 3 then c else 0) = c := if_pos hc
  rw [hcc]
  clear hcc
  rcases hc with rfl | rfl
  ·have cV2 : ∀ W, Below w.heap.size w W → Calls Tryz.prog 219 #[.pointer (some ⟨P, 0, none⟩), .int .u32 v] W fun e w' => (∃ x, e = .returned (.tuple #[.int .u32 1, .int .u32 ty, x, .bool true])) ∧ Below W.heap.size W w' := cV
   go_enter Tryz.func144, Tryz.ntmps144
   go_wp2_with (first | (go_at_call 219; (with_reducible refine (cV2 _ HO.below).mono ?_); rintro e w1 ⟨⟨x, rfl⟩, hn1⟩; replace HO := HO.then hn1; clear hn1))
   go_ret
   exact ⟨rfl, HO.below⟩
  ·have cV2 : ∀ W, Below w.heap.size w W → Calls Tryz.prog 219 #[.pointer (some ⟨P, 0, none⟩), .int .u32 v] W fun e w' => (∃ x, e = .returned (.tuple #[.int .u32 3, .int .u32 ty, x, .bool true])) ∧ Below W.heap.size W w' := cV
   go_enter Tryz.func144, Tryz.ntmps144
   go_wp2_with (first | (go_at_call 219; (with_reducible refine (cV2 _ HO.below).mono ?_); rintro e w1 ⟨⟨x, rfl⟩, hn1⟩; replace HO := HO.then hn1; clear hn1))
   go_ret
   exact ⟨rfl, HO.below⟩
theorem fnumber_plain (h : Fkr K P T C gf gc gd b o cap b2 cb id lab y st en l sv tab vs fk w) (ty : Nat) (hk : (getD_ tab ty).kind ≠ 4) :
  Calls Tryz.prog 220 #[.pointer (some ⟨K, 0, none⟩), .int .u32 ty] w fun e w' => e = .returned (.tuple #[.int .u32 ty, .bool ((getD_ tab ty).kind == 3)]) ∧ Below w.heap.size w w' := by
 have HO := Own.nil w
 have g1 := h.c1
 have zK := block_lt_of_cell g1
 have cC : ∀ W, Below w.heap.size w W → Calls Tryz.prog 163 #[.pointer (some ⟨T, 0, none⟩), .int .u32 ty] W fun e w' => e = .returned (.int .u8 (getD_ tab ty).kind) ∧ Below W.heap.size W w' := fun W hb => by
  obtain ⟨lo, hp⟩ := (h.below hb).pl
  exact hp.tb.kind ty
 clear h
 generalize (getD_ tab ty).kind = kd at cC hk ⊢
 have i1 : ((kd : Int) == 4) = false := by rw [beq_eq_false_iff_ne]; omega
 obtain ⟨r, hr⟩ : ∃ r, Hid (((kd : Int) == 3) = r) := ⟨_, hid rfl⟩
 have i2 := hr.out
 have i3 : (kd == 3) = r := by rw [← hr.out, Bool.eq_iff_iff, beq_iff_eq, beq_iff_eq]; omega
 rw [i3]
 clear hk i3 hr
 go_enter Tryz.func220, Tryz.ntmps220
 go_wp2_with (first | (go_at_call 163; (with_reducible refine (cC _ HO.below).mono ?_); rintro e w1 ⟨rfl, hn1⟩; replace HO := HO.then hn1; clear hn1; (try clear ho); have ho := Own.old HO))
 all_goals
  go_ret2
  exact ⟨rfl, HO.below⟩
end
section
variable {K P T C gf gc gd b o cap b2 cb id lab y st en : Nat} {l : List In} {sv : Nat → Option Addr × Nat} {tab : Nat → Option TyD} {vs : Nat → Option (Nat × Nat × Nat)} {fk : Nat → Option Nat} {w : World}
theorem fnumber_vec (h : Fkr K P T C gf gc gd b o cap b2 cb id lab y st en l sv tab vs fk w) (ty p : Nat) (hk : (getD_ tab ty).kind = 4) (ht : 0 < (getD_ tab ty).times ∧ (getD_ tab ty).times ≤ 5000) (hl : (getD_ tab ty).parts.length ≤ 2000000) (hp : (getD_ tab ty).part = p) (h3 : (getD_ tab p).kind = 3) :
  Calls Tryz.prog 220 #[.pointer (some ⟨K, 0, none⟩), .int .u32 ty] w fun e w' => e = .returned (.tuple #[.int .u32 p, .bool true]) ∧ Below w.heap.size w w' := by
 have HO := Own.nil w
 have g1 := h.c1
 have zK := block_lt_of_cell g1
 have cC : ∀ W, Below w.heap.size w W → Calls Tryz.prog 163 #[.pointer (some ⟨T, 0, none⟩), .int .u32 ty] W fun e w' => e = .returned (.int .u8 4) ∧ Below W.heap.size W w' := fun W hb => by
  obtain ⟨lo, hp⟩ := (h.below hb).pl
  have := hp.tb.kind ty
  rw [hk] at this
  exact this
 have cP : ∀ W, Below w.heap.size w W → Calls Tryz.prog 110 #[.pointer (some ⟨T, 0, none⟩), .int .u32 ty, .int .i64 0] W fun e w' => e = .returned (.tuple #[.int .u32 p, .bool true]) ∧ Below W.heap.size W w' := fun W hb => by
  obtain ⟨lo, hq⟩ := (h.below hb).pl
  have := hq.tb.part_one ty 0 ht.1 (by omega) ⟨ht.2, hl⟩
  rw [hp] at this
  exact this
 have cD : ∀ W, Below w.heap.size w W → Calls Tryz.prog 163 #[.pointer (some ⟨T, 0, none⟩), .int .u32 p] W fun e w' => e = .returned (.int .u8 3) ∧ Below W.heap.size W w' := fun W hb => by
  obtain ⟨lo, hq⟩ := (h.below hb).pl
  have := hq.tb.kind p
  rw [h3] at this
  exact this
 clear h hk ht hl hp h3
 go_enter Tryz.func220, Tryz.ntmps220
 go_wp2_with (first | (go_at_call 163; (first | (with_reducible refine (cC _ HO.below).mono ?_) | (with_reducible refine (cD _ HO.below).mono ?_)); rintro e w1 ⟨rfl, hn1⟩; replace HO := HO.then hn1; clear hn1; (try clear ho); have ho := Own.old HO) | (go_at_call 110; (with_reducible refine (cP _ HO.below).mono ?_); rintro e w1 ⟨rfl, hn1⟩; replace HO := HO.then hn1; clear hn1; (try clear ho); have ho := Own.old HO))
 go_ret2
 exact ⟨rfl, HO.below⟩
theorem fsays_own (h : Fkr K P T C gf gc gd b o cap b2 cb id lab y st en l sv tab vs fk w) (v kind k : Nat) (a0 a1 a2 : Ag) (hf : fk v = some k) (hk : k < l.length) (ha : l[k].args = [a0, a1, a2]) :
  Calls Tryz.prog 221 #[.pointer (some ⟨K, 0, none⟩), .int .u32 v, .int .u32 kind] w fun e w' => e = .returned (.int .i64 (if a1.n = kind then (a2.n : Int) else -1)) ∧ Below w.heap.size w w' := by
 have HO := Own.nil w
 have g5 := h.c5
 have zK := block_lt_of_cell g5
 obtain ⟨f, D, hm, hd, hD, hr⟩ := h.dc
 have hq := hr v
 rw [hf] at hq
 obtain ⟨x, hx, hxk⟩ := Option.map_eq_some_iff.1 hq
 subst hxk
 obtain ⟨hd1, hd2⟩ := hd v x hx
 have zx := hD _ hd1
 have hl : (Instr.lookup 266 (.map (some gd)) (.int .u32 v) false).run Tryz.prog w = .ok (.slice (some ⟨x.at_, 0, none⟩) 1 x.room) w := by
  obtain ⟨v', hv, hq2⟩ := hm.hit keysU Tryz.underlying266 Tryz.underlying27 hx
  subst hv
  exact hq2 false
 have hsl := h.ms.sl x.k hk
 rw [ha] at hsl
 obtain ⟨ab, ao, ea, hal, hcell⟩ := hsl.at_ (by simp)
 have q1 := (hcell 1 (by simp)).n
 have q2 := (hcell 2 (by simp)).n
 have l2 := (hcell 2 (by simp)).n_lt
 simp only [List.getElem_cons_succ, List.getElem_cons_zero] at q1 q2 l2
 have e : l.getD x.k noIn = l[x.k] := getD_at l hk
 have d0 := hd2 0 (by omega)
 have d1 := hd2 1 (by omega)
 have d2 := hd2 2 (by omega)
 have d3 := hd2 3 (by omega)
 rw [e] at d0 d1 d2 d3
 simp only [fcCells, ha, ea] at d0 d1 d2 d3
 simp at d0 d1 d2 d3
 generalize x.at_ = xb at zx hl d0 d1 d2 d3
 generalize (l[x.k]).op = xo at d0
 generalize (l[x.k]).ty = xt at d1
 generalize (l[x.k]).res = xr at d2
 generalize (sv x.k).2 = xc at d3
 generalize x.room = xm at hl
 generalize a1.n = n1 at q1 ⊢
 generalize a2.n = n2 at q2 l2 ⊢
 have l3 : (n2 : Int) < 4294967296 := by omega
 clear h hm hd hD hr hq hx hd1 hd2 hsl hcell ea e ha hf
 by_cases hkk : n1 = kind
 ·rw [if_pos hkk]
  have i1 : ((n1 : Int) == kind) = true := by rw [beq_iff_eq]; omega
  clear hkk
  go_enter Tryz.func221, Tryz.ntmps221
  go_wp2_with fail
  refine wp_loop_rounds 1 ?_
  rw [rounds_succ]
  go_wp2_with (first | ((first | (with_reducible refine sp_al HO ?_; intro g hg; rw [← hg.out]; clear hg) | (with_reducible refine sp_alc HO ?_; intro g hg; rw [← hg.out]; clear hg) | (with_reducible refine sp_sk HO ?_) | (with_reducible refine sp_skc HO ?_) | (refine sp_wk HO rfl 41 _ _ rfl rfl rfl (by kernel_rfl) (by rfl) (by simp [Value.oneCell']) ?_)); intro W' HO'; clear HO; (try clear kk); have HO := HO'; clear HO'; (try simp only [zTz, zTs, zTa] at HO); (try have kk := HO.kk); skip))
  go_ret
  exact ⟨rfl, HO.below⟩
 ·rw [if_neg hkk]
  have i1 : ((n1 : Int) == kind) = false := by rw [beq_eq_false_iff_ne]; omega
  clear hkk
  go_enter Tryz.func221, Tryz.ntmps221
  go_wp2_with fail
  refine wp_loop_rounds 2 ?_
  rw [rounds_succ]
  go_wp2_with (first | ((first | (with_reducible refine sp_al HO ?_; intro g hg; rw [← hg.out]; clear hg) | (with_reducible refine sp_alc HO ?_; intro g hg; rw [← hg.out]; clear hg) | (with_reducible refine sp_sk HO ?_) | (with_reducible refine sp_skc HO ?_) | (refine sp_wk HO rfl 41 _ _ rfl rfl rfl (by kernel_rfl) (by rfl) (by simp [Value.oneCell']) ?_)); intro W' HO'; clear HO; (try clear kk); have HO := HO'; clear HO'; (try simp only [zTz, zTs, zTa] at HO); (try have kk := HO.kk); skip))
  rw [rounds_succ]
  go_wp2_with fail
  go_ret
  exact ⟨rfl, HO.below⟩
theorem fport_own (v ty n2 sz : Nat) (loc bi : Int) (sg bb b3 : Bool) (c : Nat) (g0 : w.cell? ⟨K, 0, none⟩ = some (.pointer (some ⟨P, 0, none⟩))) (g1 : w.cell? ⟨K, 1, none⟩ = some (.pointer (some ⟨T, 0, none⟩)))
  (cV : ∀ W, Below w.heap.size w W → Calls Tryz.prog 219 #[.pointer (some ⟨P, 0, none⟩), .int .u32 v] W fun e w' => (∃ x, e = .returned (.tuple #[.int .u32 c, .int .u32 ty, x, .bool bb])) ∧ Below W.heap.size W w')
  (cN : ∀ W, Below w.heap.size w W → Calls Tryz.prog 220 #[.pointer (some ⟨K, 0, none⟩), .int .u32 ty] W fun e w' => e = .returned (.tuple #[.int .u32 n2, .bool b3]) ∧ Below W.heap.size W w')
  (cL : ∀ W, Below w.heap.size w W → Calls Tryz.prog 221 #[.pointer (some ⟨K, 0, none⟩), .int .u32 v, .int .u32 30] W fun e w' => e = .returned (.int .i64 loc) ∧ Below W.heap.size W w')
  (cB : ∀ W, Below w.heap.size w W → Calls Tryz.prog 221 #[.pointer (some ⟨K, 0, none⟩), .int .u32 v, .int .u32 11] W fun e w' => e = .returned (.int .i64 bi) ∧ Below W.heap.size W w')
  (cZ : ∀ W, Below w.heap.size w W → Calls Tryz.prog 107 #[.pointer (some ⟨T, 0, none⟩), .int .u32 ty] W fun e w' => e = .returned (.int .i64 sz) ∧ Below W.heap.size W w')
  (cG : ∀ W, Below w.heap.size w W → Calls Tryz.prog 222 #[.pointer (some ⟨T, 0, none⟩), .int .u32 n2] W fun e w' => e = .returned (.bool sg) ∧ Below W.heap.size W w') :
  Calls Tryz.prog 145 #[.pointer (some ⟨K, 0, none⟩), .int .u32 v] w fun e w' => e = .returned (.agg #[.int .u32 v, .int .i64 loc, .int .i64 bi, .int .u32 ty, .int .i64 sz, .bool sg]) ∧ Below w.heap.size w w' := by
 have HO := Own.nil w
 have zK := block_lt_of_cell g0
 go_enter Tryz.func145, Tryz.ntmps145
 go_wp2_with (first | ((first | (with_reducible refine sp_al HO ?_; intro g hg; rw [← hg.out]; clear hg) | (with_reducible refine sp_alc HO ?_; intro g hg; rw [← hg.out]; clear hg) | (with_reducible refine sp_sk HO ?_) | (with_reducible refine sp_skc HO ?_)); intro W' HO'; clear HO; (try clear kk); have HO := HO'; clear HO'; (try simp only [zTz, zTs, zTa] at HO); (try have kk := HO.kk); skip) | (go_at_call 219; (with_reducible refine (cV _ HO.below).mono ?_); rintro e w1 ⟨⟨x, rfl⟩, hn1⟩; replace HO := HO.then hn1; clear hn1; (try clear kk); skip; (try simp only [zTz, zTs, zTa, zDs, zDz] at HO); (try have kk := HO.kk); skip) | (go_at_call 220; (with_reducible refine (cN _ HO.below).mono ?_); rintro e w1 ⟨rfl, hn1⟩; replace HO := HO.then hn1; clear hn1; (try clear kk); skip; (try simp only [zTz, zTs, zTa, zDs, zDz] at HO); (try have kk := HO.kk); skip))
 obtain ⟨gR, rfl⟩ : ∃ q, q = g := ⟨_, rfl⟩
 rename_i W0 W2 K1 a1
 generalize w1 = W' at HO kk ⊢
 clear kk
 have hcl : ∀ W W2, Below w.heap.size w W → Below W.heap.size W W2 → Below w.heap.size w W2 := fun _ _ h k => bcall h k
 have hSw : Below w.heap.size w W'.drew := HO.drew.below
 refine wp_region_s (S := fun W => Below w.heap.size w W) (by kernel_rfl) ?_
 refine sTk hcl 0 (v := ?_) (hm := ⟨by rfl, .inl ?_⟩) (hSw := hSw) (h := ?_)
 rotate_left
 ·(intro w hw; go_simp; first | done | with_reducible rfl)
 try simp only [Act.put, zTa, zTz, zTs]
 refine sTk hcl 1 (v := ?_) (hm := ⟨by rfl, .inl ?_⟩) (hSw := hSw) (h := ?_)
 rotate_left
 ·(intro w hw; go_simp; first | done | with_reducible rfl)
 try simp only [Act.put, zTa, zTz, zTs]
 refine sTk hcl 2 (v := ?_) (hm := ⟨by rfl, .inl ?_⟩) (hSw := hSw) (h := ?_)
 rotate_left
 ·(intro w hw; go_simp; first | done | with_reducible rfl)
 try simp only [Act.put, zTa, zTz, zTs]
 refine sTk hcl 3 (v := _) (hm := ⟨by rfl, .inr ⟨221, _, ?_, fun w hw => cL w hw⟩⟩) (hSw := hSw) (h := ?_)
 ·(intro w hw; go_simp; (try exact u32_in _ (by omega)))
 try simp only [Act.put, zTa, zTz, zTs]
 refine sTk hcl 4 (v := ?_) (hm := ⟨by rfl, .inl ?_⟩) (hSw := hSw) (h := ?_)
 rotate_left
 ·(intro w hw; go_simp; first | done | with_reducible rfl)
 try simp only [Act.put, zTa, zTz, zTs]
 refine sTk hcl 5 (v := ?_) (hm := ⟨by rfl, .inl ?_⟩) (hSw := hSw) (h := ?_)
 rotate_left
 ·(intro w hw; go_simp; first | done | with_reducible rfl)
 try simp only [Act.put, zTa, zTz, zTs]
 refine sTk hcl 6 (v := _) (hm := ⟨by rfl, .inr ⟨221, _, ?_, fun w hw => cB w hw⟩⟩) (hSw := hSw) (h := ?_)
 ·(intro w hw; go_simp; (try exact u32_in _ (by omega)))
 try simp only [Act.put, zTa, zTz, zTs]
 refine sTk hcl 7 (v := ?_) (hm := ⟨by rfl, .inl ?_⟩) (hSw := hSw) (h := ?_)
 rotate_left
 ·(intro w hw; go_simp; first | done | with_reducible rfl)
 try simp only [Act.put, zTa, zTz, zTs]
 refine sTk hcl 8 (v := ?_) (hm := ⟨by rfl, .inl ?_⟩) (hSw := hSw) (h := ?_)
 rotate_left
 ·(intro w hw; go_simp; first | done | with_reducible rfl)
 try simp only [Act.put, zTa, zTz, zTs]
 refine sTk hcl 9 (v := ?_) (hm := ⟨by rfl, .inl ?_⟩) (hSw := hSw) (h := ?_)
 rotate_left
 ·(intro w hw; go_simp; first | done | with_reducible rfl)
 try simp only [Act.put, zTa, zTz, zTs]
 refine sTk hcl 10 (v := ?_) (hm := ⟨by rfl, .inl ?_⟩) (hSw := hSw) (h := ?_)
 rotate_left
 ·(intro w hw; go_simp; first | done | with_reducible rfl)
 try simp only [Act.put, zTa, zTz, zTs]
 refine sTk hcl 11 (v := ?_) (hm := ⟨by rfl, .inl ?_⟩) (hSw := hSw) (h := ?_)
 rotate_left
 ·(intro w hw; have q1 := (hw.cell (p := ⟨K, 1, none⟩) zK).trans g1; go_simp; first | done | with_reducible rfl)
 try simp only [Act.put, zTa, zTz, zTs]
 refine sTk hcl 12 (v := ?_) (hm := ⟨by rfl, .inl ?_⟩) (hSw := hSw) (h := ?_)
 rotate_left
 ·(intro w hw; go_simp; first | done | with_reducible rfl)
 try simp only [Act.put, zTa, zTz, zTs]
 refine sTk hcl 13 (v := _) (hm := ⟨by rfl, .inr ⟨107, _, ?_, fun w hw => cZ w hw⟩⟩) (hSw := hSw) (h := ?_)
 ·(intro w hw; go_simp; (try exact u32_in _ (by omega)))
 try simp only [Act.put, zTa, zTz, zTs]
 refine sTk hcl 14 (v := ?_) (hm := ⟨by rfl, .inl ?_⟩) (hSw := hSw) (h := ?_)
 rotate_left
 ·(intro w hw; go_simp; first | done | with_reducible rfl)
 try simp only [Act.put, zTa, zTz, zTs]
 refine sTk hcl 15 (v := ?_) (hm := ⟨by rfl, .inl ?_⟩) (hSw := hSw) (h := ?_)
 rotate_left
 ·(intro w hw; go_simp; first | done | with_reducible rfl)
 try simp only [Act.put, zTa, zTz, zTs]
 refine sTk hcl 16 (v := ?_) (hm := ⟨by rfl, .inl ?_⟩) (hSw := hSw) (h := ?_)
 rotate_left
 ·(intro w hw; go_simp; first | done | with_reducible rfl)
 try simp only [Act.put, zTa, zTz, zTs]
 refine sTk hcl 17 (v := ?_) (hm := ⟨by rfl, .inl ?_⟩) (hSw := hSw) (h := ?_)
 rotate_left
 ·(intro w hw; have q1 := (hw.cell (p := ⟨K, 1, none⟩) zK).trans g1; go_simp; first | done | with_reducible rfl)
 try simp only [Act.put, zTa, zTz, zTs]
 refine sTk hcl 18 (v := ?_) (hm := ⟨by rfl, .inl ?_⟩) (hSw := hSw) (h := ?_)
 rotate_left
 ·(intro w hw; go_simp; first | done | with_reducible rfl)
 try simp only [Act.put, zTa, zTz, zTs]
 refine sTk hcl 19 (v := _) (hm := ⟨by rfl, .inr ⟨222, _, ?_, fun w hw => cG w hw⟩⟩) (hSw := hSw) (h := ?_)
 ·(intro w hw; go_simp; (try exact u32_in _ (by omega)))
 try simp only [Act.put, zTa, zTz, zTs]
 refine sTk hcl 20 (v := ?_) (hm := ⟨by rfl, .inl ?_⟩) (hSw := hSw) (h := ?_)
 rotate_left
 ·(intro w hw; go_simp; first | done | with_reducible rfl)
 try simp only [Act.put, zTa, zTz, zTs]
 refine wpS_ready (rs := [21]) (by kernel_rfl) (by simp) (fun W2 hW2 => ?_)
 replace HO := HO.drew.then hW2
 clear hW2 hSw
 have k0 := HO.cells 0 rfl
 have m0 := HO.melt 0 rfl
 refine sR1 (fun K hK => ?_)
 go_simp
 have H := (((((HO.set 0 0 (.int .u32 v) rfl).set 0 1 (.int .i64 loc) rfl).set 0 2 (.int .i64 bi) rfl).set 0 3 (.int .u32 ty) rfl).set 0 4 (.int .i64 sz) rfl).set 0 5 (.bool sg) rfl
 refine hK.out _ _ H.below ?_
 clear hK K
 refine wpS_done (by kernel_rfl) (fun W8 hW8 => ?_) _
 replace HO := H.then hW8
 clear H hW8
 try simp only [Act.put, zTa, zTz, zTs]
 go_wp2_with fail
 refine bodyPost_ret_by (res_row rfl _ _ _ 275 #[.int .u32 v, .int .i64 loc, .int .i64 bi, .int .u32 ty, .int .i64 sz, .bool sg] _ _ rfl (HO.blk 0 rfl) Tryz.underlying275 rfl (by kernel_rfl)) rfl ?_
 exact ⟨rfl, HO.below⟩
end
structure PtD where
 v : Nat
 loc : Int
 bi : Int
 ty : Nat
 sz : Nat
 sg : Bool
def ptCells (x : PtD) : Array Value := #[.int .u32 x.v, .int .i64 x.loc, .int .i64 x.bi, .int .u32 x.ty, .int .i64 x.sz, .bool x.sg]
def encPt (x : PtD) : Value := .agg (ptCells x)
structure PtAt (w : World) (g i : Nat) (x : PtD) : Prop where
 c0 : w.cell? ⟨g, i, none⟩ = some (.int .u32 x.v)
 c1 : w.cell? ⟨g, i + 1, none⟩ = some (.int .i64 x.loc)
 c2 : w.cell? ⟨g, i + 2, none⟩ = some (.int .i64 x.bi)
 c3 : w.cell? ⟨g, i + 3, none⟩ = some (.int .u32 x.ty)
 c4 : w.cell? ⟨g, i + 4, none⟩ = some (.int .i64 x.sz)
 c5 : w.cell? ⟨g, i + 5, none⟩ = some (.bool x.sg)
theorem PtAt.below {w w' : World} {g i : Nat} {x : PtD} (h : PtAt w g i x) (hb : Below w.heap.size w w') : PtAt w' g i x := by
 have z := block_lt_of_cell h.c0
 exact ⟨cell_last h.c0 z hb, cell_last h.c1 z hb, cell_last h.c2 z hb, cell_last h.c3 z hb, cell_last h.c4 z hb, cell_last h.c5 z hb⟩
theorem ccmp_own (x y : Int) (h : y < x) (w : World) : Calls Tryz.prog 148 #[.int .i64 x, .int .i64 y] w fun e w' => e = .returned (.int .i64 1) ∧ Below w.heap.size w w' := by
 have cN : ∀ (z : Int) W, Calls Tryz.prog 224 #[.int .i64 z] W fun e w' => e = .returned (.bool false) ∧ w' = W := fun z W => by
  go_enter Tryz.func224, Tryz.ntmps224
  go_wp2_with fail
  go_ret
  exact ⟨by simp, rfl⟩
 have i1 : ¬ x < y := by omega
 go_enter Tryz.func148, Tryz.ntmps148
 go_wp2_with (first | (go_at_call 224; (with_reducible refine (cN _ _).mono ?_); rintro e w1 ⟨rfl, rfl⟩))
 all_goals
  go_ret
  exact ⟨rfl, Below.refl _ _⟩
theorem fcmp_own (x y : PtD) (h : 0 ≤ y.loc ∧ (y.loc < x.loc ∨ x.loc < 0)) (w : World) : Calls Tryz.prog 147 #[encPt x, encPt y] w fun e w' => e = .returned (.int .i64 1) ∧ Below w.heap.size w w' := by
 have HO := Own.nil w
 obtain ⟨xv, xl, xb, xt, xs, xg⟩ := x
 obtain ⟨yv, yl, yb, yt, ys, yg⟩ := y
 unfold encPt ptCells
 simp only at h ⊢
 have h1 := h.1
 rcases h.2 with h2 | h2
 ·have i3 : (0 : Int) ≤ xl := by omega
  have cC := fun W => ccmp_own xl yl h2 W
  clear h
  go_enter Tryz.func147, Tryz.ntmps147
  go_wp2_with (first | ((first | (with_reducible refine sp_al HO ?_; intro g hg; rw [← hg.out]; clear hg) | (with_reducible refine sp_alc HO ?_; intro g hg; rw [← hg.out]; clear hg) | (with_reducible refine sp_sk HO ?_) | (with_reducible refine sp_skc HO ?_)); intro W' HO'; clear HO; (try clear kk); have HO := HO'; clear HO'; (try simp only [zTz, zTs, zTa] at HO); (try have kk := HO.kk); skip) | (go_at_call 148; (with_reducible refine (cC _).mono ?_); rintro e w1 ⟨rfl, hn1⟩; replace HO := HO.then hn1; clear hn1))
  go_ret
  exact ⟨rfl, HO.below⟩
 ·have i3 : ¬ (0 : Int) ≤ xl := by omega
  clear h
  go_enter Tryz.func147, Tryz.ntmps147
  go_wp2_with (first | ((first | (with_reducible refine sp_al HO ?_; intro g hg; rw [← hg.out]; clear hg) | (with_reducible refine sp_alc HO ?_; intro g hg; rw [← hg.out]; clear hg) | (with_reducible refine sp_sk HO ?_) | (with_reducible refine sp_skc HO ?_)); intro W' HO'; clear HO; (try clear kk); have HO := HO'; clear HO'; (try simp only [zTz, zTs, zTa] at HO); (try have kk := HO.kk); skip))
  go_ret
  exact ⟨rfl, HO.below⟩
theorem finsert_own (g cap : Nat) (x y : PtD) (w : World) (h0 : PtAt w g 0 x) (h1 : PtAt w g 6 y) (h : 0 ≤ x.loc ∧ (x.loc < y.loc ∨ y.loc < 0)) :
  Calls Tryz.prog 283 #[.slice (some ⟨g, 0, none⟩) 2 cap, .int .i64 0, .int .i64 2, .func (.func 147) #[] #[]] w fun e w' => e = .returned (.tuple #[]) ∧ Below w.heap.size w w' := by
 have HO := Own.nil w
 have cC : ∀ W, Calls Tryz.prog 147 #[encPt y, encPt x] W fun e w' => e = .returned (.int .i64 1) ∧ Below W.heap.size W w' := fun W => fcmp_own y x h W
 unfold encPt ptCells at cC
 obtain ⟨a0, a1, a2, a3, a4, a5⟩ := h0
 obtain ⟨b0, b1, b2, b3, b4, b5⟩ := h1
 obtain ⟨xv, xl, xb, xt, xs, xg⟩ := x
 obtain ⟨yv, yl, yb, yt, ys, yg⟩ := y
 simp only at a0 a1 a2 a3 a4 a5 b0 b1 b2 b3 b4 b5 cC
 have zg := block_lt_of_cell a0
 clear h
 go_enter Tryz.func283, Tryz.ntmps283
 go_wp2_with fail
 refine wp_loop_rounds 2 ?_
 rw [rounds_succ]
 go_wp2_with fail
 refine wp_loop_rounds 1 ?_
 rw [rounds_succ]
 go_wp2_with fail
 have hcl : ∀ W W2, Below w.heap.size w W → Below W.heap.size W W2 → Below w.heap.size w W2 := fun _ _ h k => bcall h k
 have hSw : Below w.heap.size w w.drew := HO.drew.below
 refine wp_region_s (S := fun W => Below w.heap.size w W) (by kernel_rfl) ?_
 refine sTk hcl 0 (v := ?_) (hm := ⟨by rfl, .inl ?_⟩) (hSw := hSw) (h := ?_)
 rotate_left
 ·(intro w hw; go_simp; first | done | with_reducible rfl)
 try simp only [Act.put, zTa, zTz, zTs]
 refine sTk hcl 1 (v := ?_) (hm := ⟨by rfl, .inl ?_⟩) (hSw := hSw) (h := ?_)
 rotate_left
 ·(intro w hw; go_simp; first | done | with_reducible rfl)
 try simp only [Act.put, zTa, zTz, zTs]
 refine sTk hcl 2 (v := ?_) (hm := ⟨by rfl, .inl ?_⟩) (hSw := hSw) (h := ?_)
 rotate_left
 ·(intro w hw; go_simp; first | done | with_reducible rfl)
 try simp only [Act.put, zTa, zTz, zTs]
 refine sTk hcl 3 (v := ?_) (hm := ⟨by rfl, .inl ?_⟩) (hSw := hSw) (h := ?_)
 rotate_left
 ·(intro w hw; go_simp; first | done | with_reducible rfl)
 try simp only [Act.put, zTa, zTz, zTs]
 refine sTk hcl 4 (v := ?_) (hm := ⟨by rfl, .inl ?_⟩) (hSw := hSw) (h := ?_)
 rotate_left
 ·(intro w hw; go_simp; first | done | with_reducible rfl)
 try simp only [Act.put, zTa, zTz, zTs]
 refine sTk hcl 5 (v := ?_) (hm := ⟨by rfl, .inl ?_⟩) (hSw := hSw) (h := ?_)
 rotate_left
 ·(intro w hw; go_simp; first | done | with_reducible rfl)
 try simp only [Act.put, zTa, zTz, zTs]
 refine sTk hcl 6 (v := ?_) (hm := ⟨by rfl, .inl ?_⟩) (hSw := hSw) (h := ?_)
 rotate_left
 ·(intro w hw; go_simp; first | done | with_reducible rfl)
 try simp only [Act.put, zTa, zTz, zTs]
 refine sTk hcl 7 (v := ?_) (hm := ⟨by rfl, .inl ?_⟩) (hSw := hSw) (h := ?_)
 rotate_left
 ·(intro w hw; go_simp; first | done | with_reducible rfl)
 try simp only [Act.put, zTa, zTz, zTs]
 refine sTk hcl 8 (v := ?_) (hm := ⟨by rfl, .inl ?_⟩) (hSw := hSw) (h := ?_)
 rotate_left
 ·(intro w hw; have q0 := (hw.cell (p := ⟨g, 6, none⟩) zg).trans b0; have q1 := (hw.cell (p := ⟨g, 6 + 1, none⟩) zg).trans b1; have q2 := (hw.cell (p := ⟨g, 6 + 2, none⟩) zg).trans b2; have q3 := (hw.cell (p := ⟨g, 6 + 3, none⟩) zg).trans b3; have q4 := (hw.cell (p := ⟨g, 6 + 4, none⟩) zg).trans b4; have q5 := (hw.cell (p := ⟨g, 6 + 5, none⟩) zg).trans b5; go_simp; first | done | with_reducible rfl)
 try simp only [Act.put, zTa, zTz, zTs]
 refine sTk hcl 9 (v := ?_) (hm := ⟨by rfl, .inl ?_⟩) (hSw := hSw) (h := ?_)
 rotate_left
 ·(intro w hw; go_simp; first | done | with_reducible rfl)
 try simp only [Act.put, zTa, zTz, zTs]
 refine sTk hcl 10 (v := ?_) (hm := ⟨by rfl, .inl ?_⟩) (hSw := hSw) (h := ?_)
 rotate_left
 ·(intro w hw; go_simp; first | done | with_reducible rfl)
 try simp only [Act.put, zTa, zTz, zTs]
 refine sTk hcl 11 (v := ?_) (hm := ⟨by rfl, .inl ?_⟩) (hSw := hSw) (h := ?_)
 rotate_left
 ·(intro w hw; go_simp; first | done | with_reducible rfl)
 try simp only [Act.put, zTa, zTz, zTs]
 try rw [show IntKind.i64.wrap 0 = 0 by kernel_rfl]
 refine sTk hcl 12 (v := ?_) (hm := ⟨by rfl, .inl ?_⟩) (hSw := hSw) (h := ?_)
 rotate_left
 ·(intro w hw; go_simp; first | done | with_reducible rfl)
 try simp only [Act.put, zTa, zTz, zTs]
 refine sTk hcl 13 (v := ?_) (hm := ⟨by rfl, .inl ?_⟩) (hSw := hSw) (h := ?_)
 rotate_left
 ·(intro w hw; have q0 := (hw.cell (p := ⟨g, 0, none⟩) zg).trans a0; have q1 := (hw.cell (p := ⟨g, 0 + 1, none⟩) zg).trans a1; have q2 := (hw.cell (p := ⟨g, 0 + 2, none⟩) zg).trans a2; have q3 := (hw.cell (p := ⟨g, 0 + 3, none⟩) zg).trans a3; have q4 := (hw.cell (p := ⟨g, 0 + 4, none⟩) zg).trans a4; have q5 := (hw.cell (p := ⟨g, 0 + 5, none⟩) zg).trans a5; go_simp; first | done | with_reducible rfl)
 try simp only [Act.put, zTa, zTz, zTs]
 refine sTk hcl 14 (v := _) (hm := ⟨by rfl, .inr ⟨147, _, ?_, fun w hw => cC w⟩⟩) (hSw := hSw) (h := ?_)
 ·(intro w hw; go_simp; (try exact u32_in _ (by omega)))
 try simp only [Act.put, zTa, zTz, zTs]
 refine sTk hcl 15 (v := ?_) (hm := ⟨by rfl, .inl ?_⟩) (hSw := hSw) (h := ?_)
 rotate_left
 ·(intro w hw; go_simp; first | done | with_reducible rfl)
 try simp only [Act.put, zTa, zTz, zTs]
 refine sTk hcl 16 (v := ?_) (hm := ⟨by rfl, .inl ?_⟩) (hSw := hSw) (h := ?_)
 rotate_left
 ·(intro w hw; go_simp; first | done | with_reducible rfl)
 try simp only [Act.put, zTa, zTz, zTs]
 refine wpS_done (by kernel_rfl) (fun W8 hW8 => ?_) _
 replace HO := HO.drew.then hW8
 clear hW8 hSw hcl
 go_wp2_with fail
 rw [rounds_succ]
 go_wp2_with fail
 go_end0
 exact ⟨rfl, HO.below⟩
theorem fstable_own (g cap : Nat) (x y : PtD) (w : World) (h0 : PtAt w g 0 x) (h1 : PtAt w g 6 y) (h : 0 ≤ x.loc ∧ (x.loc < y.loc ∨ y.loc < 0)) :
  Calls Tryz.prog 223 #[.slice (some ⟨g, 0, none⟩) 2 cap, .int .i64 2, .func (.func 147) #[] #[]] w fun e w' => e = .returned (.tuple #[]) ∧ Below w.heap.size w w' := by
 have HO := Own.nil w
 have cI := finsert_own g cap x y w h0 h1 h
 clear h h0 h1
 go_enter Tryz.func223, Tryz.ntmps223
 go_wp2_with fail
 refine wp_loop_rounds 1 ?_
 rw [rounds_succ]
 go_wp2_with (first | (go_at_call 283; (with_reducible refine cI.mono ?_); rintro e w1 ⟨rfl, hn1⟩; replace HO := HO.then hn1; clear hn1))
 refine wp_loop_rounds 1 ?_
 rw [rounds_succ]
 go_wp2_with fail
 go_end0
 exact ⟨rfl, HO.below⟩
theorem fsort_own (g cap : Nat) (x y : PtD) (w : World) (h0 : PtAt w g 0 x) (h1 : PtAt w g 6 y) (h : 0 ≤ x.loc ∧ (x.loc < y.loc ∨ y.loc < 0)) :
  Calls Tryz.prog 146 #[.slice (some ⟨g, 0, none⟩) 2 cap, .func (.func 147) #[] #[]] w fun e w' => e = .returned (.tuple #[]) ∧ Below w.heap.size w w' := by
 have HO := Own.nil w
 have cI := fstable_own g cap x y w h0 h1 h
 clear h h0 h1
 go_enter Tryz.func146, Tryz.ntmps146
 go_wp2_with (first | (go_at_call 223; (with_reducible refine cI.mono ?_); rintro e w1 ⟨rfl, hn1⟩; replace HO := HO.then hn1; clear hn1))
 go_end0
 exact ⟨rfl, HO.below⟩
def idVals (ids : List Ag) (k : Nat) : List Value := (ids.take k).map fun a => .int .u32 a.n
theorem idVals_succ (ids : List Ag) (k : Nat) (h : k < ids.length) : idVals ids (k + 1) = idVals ids k ++ [.int .u32 ids[k].n] := by
 unfold idVals
 rw [List.take_add_one, List.getElem?_eq_getElem h, List.map_append]
 rfl
theorem fentryOf_own (op ty res ab ao ac : Nat) (m f s : Ag) (ids : List Ag) (w : World) (hA : Sl 3 AgAt w (some ⟨ab, ao, none⟩) (m :: f :: s :: ids)) (hn : ids.length ≤ 1000) (hpos : 0 < ids.length) (hc : ids.length + 3 ≤ ac) :
  Calls Tryz.prog 92 #[.agg #[.int .u16 op, .int .u32 ty, .int .u32 res, .slice (some ⟨ab, ao, none⟩) (ids.length + 3) ac]] w fun e w' => ∃ v, e = .returned (.agg #[.int .u32 m.n, .int .u32 f.n, .string s.s, v]) ∧ Own noX w [rw_ w.heap.size 27 1 v ids.length (idVals ids ids.length)] w' := by
 have HO := Own.nil w
 have HA := hid hA
 obtain ⟨b', o', e, zA, hcell⟩ := hA.at_ (by simp)
 cases e
 have q0 := (hcell 0 (by simp)).n
 have q1 := (hcell 1 (by simp)).n
 have q2 := (hcell 2 (by simp)).s
 simp only [List.getElem_cons_succ, List.getElem_cons_zero] at q0 q1 q2
 have hq : ∀ k (h : k < ids.length), w.cell? ⟨ab, ao + 9 + k * 3, none⟩ = some (.int .u8 ids[k].kind) ∧ w.cell? ⟨ab, ao + 9 + k * 3 + 1, none⟩ = some (.int .u32 ids[k].n) ∧ w.cell? ⟨ab, ao + 9 + k * 3 + 2, none⟩ = some (.string ids[k].s) := fun k h => by
  have := hcell (k + 3) (by simp; omega)
  rw [show ao + (k + 3) * 3 = ao + 9 + k * 3 by omega] at this
  exact ⟨this.kind, this.n, this.s⟩
 clear hA hcell
 go_enter Tryz.func92, Tryz.ntmps92
 go_wp2_with (first | ((first | (with_reducible refine sp_al HO ?_; intro g hg; rw [← hg.out]; clear hg) | (with_reducible refine sp_alc HO ?_; intro g hg; rw [← hg.out]; clear hg) | (with_reducible refine sp_sk HO ?_) | (with_reducible refine sp_skc HO ?_)); intro W' HO'; clear HO; (try clear kk); have HO := HO'; clear HO'; (try simp only [zTz, zTs, zTa] at HO); (try have kk := HO.kk); skip))
 rename_i Q0 gI W2 K1 a1
 obtain ⟨gR, rfl⟩ : ∃ q, q = g := ⟨_, rfl⟩
 (try clear kk)
 have i0 : (0 : Int) < ids.length + 3 := by omega
 have i1 : (1 : Int) < ids.length + 3 := by omega
 have i2 : (2 : Int) < ids.length + 3 := by omega
 have hcl : ∀ W W2, (Below w.heap.size w W ∧ W.cell? ⟨gI, 3, none⟩ = some (.slice (some ⟨ab, ao, none⟩) (ids.length + 3) ac)) → Below W.heap.size W W2 → (Below w.heap.size w W2 ∧ W2.cell? ⟨gI, 3, none⟩ = some (.slice (some ⟨ab, ao, none⟩) (ids.length + 3) ac)) := fun _ _ h k => ⟨bcall h.1 k, cell_last h.2 (block_lt_of_cell h.2) k⟩
 have hSw : Below w.heap.size w W'.drew ∧ W'.drew.cell? ⟨gI, 3, none⟩ = some (.slice (some ⟨ab, ao, none⟩) (ids.length + 3) ac) := ⟨HO.drew.below, HO.drew.cell 1 3 rfl rfl⟩
 refine wp_region_s (S := fun W => Below w.heap.size w W ∧ W.cell? ⟨gI, 3, none⟩ = some (.slice (some ⟨ab, ao, none⟩) (ids.length + 3) ac)) (by kernel_rfl) ?_
 refine sTk hcl 0 (v := ?_) (hm := ⟨by rfl, .inl ?_⟩) (hSw := hSw) (h := ?_)
 rotate_left
 ·(intro w hw; go_simp; first | done | with_reducible rfl)
 try simp only [Act.put, zTa, zTz, zTs]
 refine sTk hcl 1 (v := ?_) (hm := ⟨by rfl, .inl ?_⟩) (hSw := hSw) (h := ?_)
 rotate_left
 ·(intro w hw; have q1 := hw.2; go_simp; first | done | with_reducible rfl)
 try simp only [Act.put, zTa, zTz, zTs]
 refine sTk hcl 2 (v := ?_) (hm := ⟨by rfl, .inl ?_⟩) (hSw := hSw) (h := ?_)
 rotate_left
 ·(intro w hw; go_simp; first | done | with_reducible rfl)
 try simp only [Act.put, zTa, zTz, zTs]
 refine sTk hcl 3 (v := ?_) (hm := ⟨by rfl, .inl ?_⟩) (hSw := hSw) (h := ?_)
 rotate_left
 ·(intro w hw; go_simp; first | done | with_reducible rfl)
 try simp only [Act.put, zTa, zTz, zTs]
 refine sTk hcl 4 (v := ?_) (hm := ⟨by rfl, .inl ?_⟩) (hSw := hSw) (h := ?_)
 rotate_left
 ·(intro w hw; have q1 := (hw.1.cell (p := ⟨ab, ao + 0 * 3 + 1, none⟩) zA).trans q0; (try simp only [Nat.zero_mul, Nat.add_zero] at q1); go_simp; first | done | with_reducible rfl)
 try simp only [Act.put, zTa, zTz, zTs]
 refine sTk hcl 5 (v := ?_) (hm := ⟨by rfl, .inl ?_⟩) (hSw := hSw) (h := ?_)
 rotate_left
 ·(intro w hw; go_simp; first | done | with_reducible rfl)
 try simp only [Act.put, zTa, zTz, zTs]
 refine sTk hcl 6 (v := ?_) (hm := ⟨by rfl, .inl ?_⟩) (hSw := hSw) (h := ?_)
 rotate_left
 ·(intro w hw; have q1 := hw.2; go_simp; first | done | with_reducible rfl)
 try simp only [Act.put, zTa, zTz, zTs]
 refine sTk hcl 7 (v := ?_) (hm := ⟨by rfl, .inl ?_⟩) (hSw := hSw) (h := ?_)
 rotate_left
 ·(intro w hw; go_simp; first | done | with_reducible rfl)
 try simp only [Act.put, zTa, zTz, zTs]
 refine sTk hcl 8 (v := ?_) (hm := ⟨by rfl, .inl ?_⟩) (hSw := hSw) (h := ?_)
 rotate_left
 ·(intro w hw; go_simp; first | done | with_reducible rfl)
 try simp only [Act.put, zTa, zTz, zTs]
 refine sTk hcl 9 (v := ?_) (hm := ⟨by rfl, .inl ?_⟩) (hSw := hSw) (h := ?_)
 rotate_left
 ·(intro w hw; have q1 := (hw.1.cell (p := ⟨ab, ao + 1 * 3 + 1, none⟩) zA).trans q1; (try simp only [Nat.one_mul] at q1); go_simp; first | done | with_reducible rfl)
 try simp only [Act.put, zTa, zTz, zTs]
 refine sTk hcl 10 (v := ?_) (hm := ⟨by rfl, .inl ?_⟩) (hSw := hSw) (h := ?_)
 rotate_left
 ·(intro w hw; go_simp; first | done | with_reducible rfl)
 try simp only [Act.put, zTa, zTz, zTs]
 refine sTk hcl 11 (v := ?_) (hm := ⟨by rfl, .inl ?_⟩) (hSw := hSw) (h := ?_)
 rotate_left
 ·(intro w hw; have q1 := hw.2; go_simp; first | done | with_reducible rfl)
 try simp only [Act.put, zTa, zTz, zTs]
 refine sTk hcl 12 (v := ?_) (hm := ⟨by rfl, .inl ?_⟩) (hSw := hSw) (h := ?_)
 rotate_left
 ·(intro w hw; go_simp; first | done | with_reducible rfl)
 try simp only [Act.put, zTa, zTz, zTs]
 refine sTk hcl 13 (v := ?_) (hm := ⟨by rfl, .inl ?_⟩) (hSw := hSw) (h := ?_)
 rotate_left
 ·(intro w hw; go_simp; first | done | with_reducible rfl)
 try simp only [Act.put, zTa, zTz, zTs]
 refine sTk hcl 14 (v := ?_) (hm := ⟨by rfl, .inl ?_⟩) (hSw := hSw) (h := ?_)
 rotate_left
 ·(intro w hw; have q1 := (hw.1.cell (p := ⟨ab, ao + 2 * 3 + 2, none⟩) zA).trans q2; (try simp only [Nat.reduceMul] at q1); go_simp; first | done | with_reducible rfl)
 try simp only [Act.put, zTa, zTz, zTs]
 refine sTk hcl 15 (v := ?_) (hm := ⟨by rfl, .inl ?_⟩) (hSw := hSw) (h := ?_)
 rotate_left
 ·(intro w hw; go_simp; first | done | with_reducible rfl)
 try simp only [Act.put, zTa, zTz, zTs]
 refine wpS_ready (rs := [16]) (by kernel_rfl) (by simp) (fun W2 hW2 => ?_)
 replace HO := HO.drew.then hW2
 clear hW2 hSw
 refine sR1 (fun K hK => ?_)
 go_simp
 have H := HO.alloc (.cells #[.int .u32 0, .int .u32 0, .string ⟨#[]⟩, .slice none 0 0] 209 (0, 0))
 refine hK.out _ _ ⟨H.below, H.cell 2 3 rfl rfl⟩ ?_
 clear hK K HO
 try simp only [Act.put, zTa, zTz, zTs]
 obtain ⟨gE, hE⟩ : ∃ gE, Hid (gE = W2.heap.size) := ⟨_, hid rfl⟩
 rw [← hE.out] at H ⊢
 refine wpS_ready (rs := [17]) (by kernel_rfl) (by simp) (fun W3 hW3 => ?_)
 have HO := H.then hW3
 clear hW3 H
 have k0 := HO.cells 0 rfl
 have m0 := HO.melt 0 rfl
 refine sR1 (fun K hK => ?_)
 go_simp
 have H := (((HO.set 0 0 (.int .u32 m.n) rfl).set 0 1 (.int .u32 f.n) rfl).set 0 2 (.string s.s) rfl).set 0 3 (.slice none 0 0) rfl
 refine hK.out _ _ ⟨H.below, H.cell 2 3 rfl rfl⟩ ?_
 clear hK K k0 m0 hcl
 refine wpS_done (by kernel_rfl) (fun W8 hW8 => ?_) _
 replace HO := H.then hW8
 clear H hW8 hE
 try simp only [Act.put, zTa, zTz, zTs]
 simp only [List.set_cons_zero, List.setIfInBounds_toArray, List.set_cons_succ] at HO
 replace HO := HO.row w.heap.size 27 1
 (try simp only [zTz, zTs, zTa, zDs, zDz] at HO); (try have kk := HO.kk); skip
 have i3 : (3 : Int) ≤ ids.length + 3 := by omega
 have i5 : 3 < ac := by omega
 have i6 : (3 : Int) < ac := by omega
 have i7 : ¬ (ac = 3) := by omega
 have i8 : ¬ (ac - 3 = 0) := by omega
 have i9 : 3 ≤ ac := by omega
 go_wp2_with fail
 (try clear kk); skip
 have H0 : Hid (Own noX w [rw_ w.heap.size 27 1 (.slice none 0 0) 0 (idVals ids 0), cls gE #[.int .u32 m.n, .int .u32 f.n, .string s.s, .slice none 0 0] 209, cls gR #[.int .u32 0, .int .u32 0, .string ⟨#[]⟩, .slice none 0 0] 209, cls gI #[.int .u16 op, .int .u32 ty, .int .u32 res, .slice (some ⟨ab, ao, none⟩) (ids.length + 3) ac] 41] W8) := hid HO
 clear HO
 go_loopw [5, 26] (fun _ x26 wr => ∃ (k : Nat) (v : Value), k ≤ ids.length ∧ x26 = .int .i64 k ∧ Own noX w [rw_ w.heap.size 27 1 v k (idVals ids k), cls gE #[.int .u32 m.n, .int .u32 f.n, .string s.s, v] 209, cls gR #[.int .u32 0, .int .u32 0, .string ⟨#[]⟩, .slice none 0 0] 209, cls gI #[.int .u16 op, .int .u32 ty, .int .u32 res, .slice (some ⟨ab, ao, none⟩) (ids.length + 3) ac] 41] wr) (fun _ x _ => ids.length - (intOf x).toNat)
 case atStart => exact ⟨0, _, by omega, rfl, H0.out⟩
 case round =>
  obtain ⟨k, v, hk, rfl, HO⟩ := hrel
  clear H0
  by_cases hlt : k < ids.length
  ·have hq1 := hq k hlt
   have e0 := cell_last hq1.1 zA HO.below
   have e1 := cell_last hq1.2.1 zA HO.below
   have e2 := cell_last hq1.2.2 zA HO.below
   have zA2 : ab < wr.heap.size := Nat.lt_of_lt_of_le zA HO.size
   have hsc := hid (idVals_succ ids k hlt)
   have i4 : (k : Int) < ids.length := by omega
   have HLT := hid hlt
   clear hq1
   generalize ids[k] = x at e0 e1 e2 hsc
   clear hlt
   (try simp only [zTz, zTs, zTa, zDs, zDz] at HO); (try have kk := HO.kk); skip
   go_wp2_with (first | ((first | (with_reducible refine sp_al HO ?_; intro g hg; rw [← hg.out]; clear hg) | (with_reducible refine sp_sk HO ?_) | (with_reducible refine sp_skc HO ?_) | (refine sp_wk HO rfl 45 _ _ rfl rfl rfl (by kernel_rfl) (by rfl) (by simp [Value.oneCell']) ?_)); intro W' HO'; clear HO; (try clear kk); have HO := HO'; clear HO'; (try simp only [zTz, zTs, zTa] at HO); (try have kk := HO.kk); skip) | ((with_reducible refine at_append ?_); refine sp_append HO el_u32 2 0 rfl rfl rfl _ _ rfl rfl rfl rfl (by simp [Value.oneCell']) (by omega) (by omega) (Nat.le_refl _) ?_; intro gm cm W' HO'; clear HO; (try clear kk); skip; have HO := HO'; clear HO'; (try simp only [zTz, zTs, zTa, zDs, zDz] at HO); (try have kk := HO.kk); skip))
   exact ⟨⟨k + 1, _, HLT.out, by go_num, by rw [hsc.out]; exact HO.drop 2⟩, by have := HLT.out; simp [intOf]; omega⟩
  ·obtain rfl : k = ids.length := by omega
   have i4 : ¬ ((ids.length : Nat) : Int) < ids.length := by omega
   obtain ⟨av, cv, rfl, hx⟩ := HO.slice 0 rfl
   clear hx
   (try simp only [zTz, zTs, zTa, zDs, zDz] at HO); (try have kk := HO.kk); skip
   go_wp2_with (first | ((first | (with_reducible refine sp_sk HO ?_) | (with_reducible refine sp_skc HO ?_) | (refine sp_wk HO rfl 209 _ _ rfl rfl rfl (by kernel_rfl) (by rfl) (by simp [Value.oneCell']) ?_)); intro W' HO'; clear HO; (try clear kk); have HO := HO'; clear HO'; (try simp only [zTz, zTs, zTa] at HO); (try have kk := HO.kk); skip) | (refine sp_lk HO rfl 209 _ rfl rfl _ Tryz.underlying209 rfl (by kernel_rfl) ?_))
   refine bodyPost_ret_by (res_row rfl _ _ _ 209 #[.int .u32 m.n, .int .u32 f.n, .string s.s, _] _ _ rfl (HO.blk 2 rfl) Tryz.underlying209 rfl (by kernel_rfl)) rfl ?_
   exact ⟨_, rfl, HO.sub (.cons_cons _ (.cons _ (.cons _ (.cons _ .slnil))))⟩
theorem el_port : El 211 275 6 48 := El.of Tryz.underlying211 (z := .agg #[.int .u32 0, .int .i64 0, .int .i64 0, .int .u32 0, .int .i64 0, .bool false]) (by kernel_rfl) rfl (by omega)
def ptVals (x y : PtD) : List Value := (ptCells x).toList ++ (ptCells y).toList
theorem pts_at {X : Nat → Prop} {w W : World} {L : List As} {base g c : Nat} {x y : PtD} (h : Own X w L W) (i : Nat) (hi : L[i]? = some (rw_ base 275 6 (.slice (some ⟨g, 0, none⟩) 2 c) 2 (ptVals x y))) : PtAt W g 0 x ∧ PtAt W g 6 y :=
 ⟨⟨h.rowcell i 0 hi rfl, h.rowcell i 1 hi rfl, h.rowcell i 2 hi rfl, h.rowcell i 3 hi rfl, h.rowcell i 4 hi rfl, h.rowcell i 5 hi rfl⟩, ⟨h.rowcell i 6 hi rfl, h.rowcell i 7 hi rfl, h.rowcell i 8 hi rfl, h.rowcell i 9 hi rfl, h.rowcell i 10 hi rfl, h.rowcell i 11 hi rfl⟩⟩
theorem fports_in (K m fn ge ec n0 n1 n2 n3 c0 c1 c2 c3 cl : Nat) (nm : ByteArray) (x y : PtD) (w : World) (h0 : w.cell? ⟨ge, 0, none⟩ = some (.int .u32 n0)) (h1 : w.cell? ⟨ge, 1, none⟩ = some (.int .u32 n1)) (h2 : w.cell? ⟨ge, 2, none⟩ = some (.int .u32 n2)) (h3 : w.cell? ⟨ge, 3, none⟩ = some (.int .u32 n3)) (e0 : c0 = cl) (e1 : c1 = cl) (e2 : c2 ≠ cl) (e3 : c3 ≠ cl)
  (cC0 : ∀ W, Below w.heap.size w W → Calls Tryz.prog 144 #[.pointer (some ⟨K, 0, none⟩), .int .u32 n0] W fun e w' => e = .returned (.int .u32 c0) ∧ Below W.heap.size W w')
  (cC1 : ∀ W, Below w.heap.size w W → Calls Tryz.prog 144 #[.pointer (some ⟨K, 0, none⟩), .int .u32 n1] W fun e w' => e = .returned (.int .u32 c1) ∧ Below W.heap.size W w')
  (cC2 : ∀ W, Below w.heap.size w W → Calls Tryz.prog 144 #[.pointer (some ⟨K, 0, none⟩), .int .u32 n2] W fun e w' => e = .returned (.int .u32 c2) ∧ Below W.heap.size W w')
  (cC3 : ∀ W, Below w.heap.size w W → Calls Tryz.prog 144 #[.pointer (some ⟨K, 0, none⟩), .int .u32 n3] W fun e w' => e = .returned (.int .u32 c3) ∧ Below W.heap.size W w')
  (cP0 : ∀ W, Below w.heap.size w W → Calls Tryz.prog 145 #[.pointer (some ⟨K, 0, none⟩), .int .u32 n0] W fun e w' => e = .returned (encPt x) ∧ Below W.heap.size W w')
  (cP1 : ∀ W, Below w.heap.size w W → Calls Tryz.prog 145 #[.pointer (some ⟨K, 0, none⟩), .int .u32 n1] W fun e w' => e = .returned (encPt y) ∧ Below W.heap.size W w')
  (hxy : 0 ≤ x.loc ∧ (x.loc < y.loc ∨ y.loc < 0)) :
  Calls Tryz.prog 93 #[.pointer (some ⟨K, 0, none⟩), .agg #[.int .u32 m, .int .u32 fn, .string nm, .slice (some ⟨ge, 0, none⟩) 4 ec], .int .u32 cl] w fun e w' => ∃ g c, e = .returned (.slice (some ⟨g, 0, none⟩) 2 c) ∧ Own noX w [rw_ w.heap.size 275 6 (.slice (some ⟨g, 0, none⟩) 2 c) 2 (ptVals x y)] w' := by
 have HO := Own.nil w
 have zE := block_lt_of_cell h0
 have i0 : ((c0 : Int) == cl) = true := by rw [beq_iff_eq]; omega
 have i1 : ((c1 : Int) == cl) = true := by rw [beq_iff_eq]; omega
 have i2 : ((c2 : Int) == cl) = false := by rw [beq_eq_false_iff_ne]; omega
 have i3 : ((c3 : Int) == cl) = false := by rw [beq_eq_false_iff_ne]; omega
 clear e0 e1 e2 e3
 unfold encPt ptCells at cP0
 unfold encPt ptCells at cP1
 go_enter Tryz.func93, Tryz.ntmps93
 replace HO := HO.row w.heap.size 275 6
 go_wp2_with (first | ((first | (with_reducible refine sp_al HO ?_; intro g hg W' HO'; rw [← hg.out]; clear hg) | (with_reducible refine sp_alc HO ?_; intro g hg W' HO'; rw [← hg.out]; clear hg) | (with_reducible refine sp_sk HO ?_; intro W' HO') | (with_reducible refine sp_skc HO ?_; intro W' HO')); clear HO; (try clear kk); have HO := HO'; clear HO'; (try simp only [zTz, zTs, zTa] at HO); (try have kk := HO.kk); skip))
 refine wp_loop_rounds 5 ?_
 rw [rounds_succ]
 go_wp2_with (first | ((first | (with_reducible refine sp_al HO ?_; intro g hg W' HO'; rw [← hg.out]; clear hg) | (with_reducible refine sp_sk HO ?_; intro W' HO') | (with_reducible refine sp_skc HO ?_; intro W' HO')); clear HO; (try clear kk); have HO := HO'; clear HO'; (try simp only [zTz, zTs, zTa] at HO); (try have kk := HO.kk); skip) | (go_at_call 144; (with_reducible refine (cC0 _ HO.below).mono ?_); rintro e w1 ⟨rfl, hn1⟩; replace HO := HO.then hn1; clear hn1; (try clear kk); skip; (try simp only [zTz, zTs, zTa, zDs, zDz] at HO); (try have kk := HO.kk); skip) | (go_at_call 145; (with_reducible refine (cP0 _ HO.below).mono ?_); rintro e w1 ⟨rfl, hn1⟩; replace HO := HO.then hn1; clear hn1; (try clear kk); skip; (try simp only [zTz, zTs, zTa, zDs, zDz] at HO); (try have kk := HO.kk); skip) | ((with_reducible refine at_append ?_); refine sp_append HO el_port 2 0 rfl rfl rfl _ _ rfl rfl rfl rfl (by simp [Value.oneCell']) (by omega) (by omega) (Nat.le_refl _) ?_; intro gm cm W' HO'; clear HO; (try clear kk); skip; have HO := HO'; clear HO'; (try simp only [zTz, zTs, zTa, zDs, zDz] at HO); (try have kk := HO.kk); skip))
 rw [rounds_succ]
 go_wp2_with (first | ((first | (with_reducible refine sp_al HO ?_; intro g hg W' HO'; rw [← hg.out]; clear hg) | (with_reducible refine sp_sk HO ?_; intro W' HO') | (with_reducible refine sp_skc HO ?_; intro W' HO')); clear HO; (try clear kk); have HO := HO'; clear HO'; (try simp only [zTz, zTs, zTa] at HO); (try have kk := HO.kk); skip) | (go_at_call 144; (with_reducible refine (cC1 _ HO.below).mono ?_); rintro e w1 ⟨rfl, hn1⟩; replace HO := HO.then hn1; clear hn1; (try clear kk); skip; (try simp only [zTz, zTs, zTa, zDs, zDz] at HO); (try have kk := HO.kk); skip) | (go_at_call 145; (with_reducible refine (cP1 _ HO.below).mono ?_); rintro e w1 ⟨rfl, hn1⟩; replace HO := HO.then hn1; clear hn1; (try clear kk); skip; (try simp only [zTz, zTs, zTa, zDs, zDz] at HO); (try have kk := HO.kk); skip) | ((with_reducible refine at_append ?_); refine sp_append HO el_port 3 0 rfl rfl rfl _ _ rfl rfl rfl rfl (by simp [Value.oneCell']) (by omega) (by omega) (Nat.le_refl _) ?_; intro gm cm W' HO'; clear HO; (try clear kk); skip; have HO := HO'; clear HO'; (try simp only [zTz, zTs, zTa, zDs, zDz] at HO); (try have kk := HO.kk); skip))
 rw [rounds_succ]
 go_wp2_with (first | ((first | (with_reducible refine sp_al HO ?_; intro g hg W' HO'; rw [← hg.out]; clear hg) | (with_reducible refine sp_sk HO ?_; intro W' HO') | (with_reducible refine sp_skc HO ?_; intro W' HO')); clear HO; (try clear kk); have HO := HO'; clear HO'; (try simp only [zTz, zTs, zTa] at HO); (try have kk := HO.kk); skip) | (go_at_call 144; (with_reducible refine (cC2 _ HO.below).mono ?_); rintro e w1 ⟨rfl, hn1⟩; replace HO := HO.then hn1; clear hn1; (try clear kk); skip; (try simp only [zTz, zTs, zTa, zDs, zDz] at HO); (try have kk := HO.kk); skip))
 rw [rounds_succ]
 go_wp2_with (first | ((first | (with_reducible refine sp_al HO ?_; intro g hg W' HO'; rw [← hg.out]; clear hg) | (with_reducible refine sp_sk HO ?_; intro W' HO') | (with_reducible refine sp_skc HO ?_; intro W' HO')); clear HO; (try clear kk); have HO := HO'; clear HO'; (try simp only [zTz, zTs, zTa] at HO); (try have kk := HO.kk); skip) | (go_at_call 144; (with_reducible refine (cC3 _ HO.below).mono ?_); rintro e w1 ⟨rfl, hn1⟩; replace HO := HO.then hn1; clear hn1; (try clear kk); skip; (try simp only [zTz, zTs, zTa, zDs, zDz] at HO); (try have kk := HO.kk); skip))
 rw [rounds_succ]
 go_wp2_with fail
 have hp := pts_at (x := x) (y := y) HO 3 rfl
 have cS := fsort_own gm cm x y _ hp.1 hp.2 hxy
 refine cS.mono ?_
 clear cS hp
 rintro e w1 ⟨rfl, hn1⟩
 replace HO := HO.then hn1
 clear hn1
 go_wp2_with fail
 go_ret
 exact ⟨_, _, rfl, HO.drop 3⟩
theorem fports_out (K m fn ge ec n0 n1 n2 n3 c0 c1 c2 c3 cl : Nat) (nm : ByteArray) (x y : PtD) (w : World) (h0 : w.cell? ⟨ge, 0, none⟩ = some (.int .u32 n0)) (h1 : w.cell? ⟨ge, 1, none⟩ = some (.int .u32 n1)) (h2 : w.cell? ⟨ge, 2, none⟩ = some (.int .u32 n2)) (h3 : w.cell? ⟨ge, 3, none⟩ = some (.int .u32 n3)) (e0 : c0 ≠ cl) (e1 : c1 ≠ cl) (e2 : c2 = cl) (e3 : c3 = cl)
  (cC0 : ∀ W, Below w.heap.size w W → Calls Tryz.prog 144 #[.pointer (some ⟨K, 0, none⟩), .int .u32 n0] W fun e w' => e = .returned (.int .u32 c0) ∧ Below W.heap.size W w')
  (cC1 : ∀ W, Below w.heap.size w W → Calls Tryz.prog 144 #[.pointer (some ⟨K, 0, none⟩), .int .u32 n1] W fun e w' => e = .returned (.int .u32 c1) ∧ Below W.heap.size W w')
  (cC2 : ∀ W, Below w.heap.size w W → Calls Tryz.prog 144 #[.pointer (some ⟨K, 0, none⟩), .int .u32 n2] W fun e w' => e = .returned (.int .u32 c2) ∧ Below W.heap.size W w')
  (cC3 : ∀ W, Below w.heap.size w W → Calls Tryz.prog 144 #[.pointer (some ⟨K, 0, none⟩), .int .u32 n3] W fun e w' => e = .returned (.int .u32 c3) ∧ Below W.heap.size W w')
  (cP2 : ∀ W, Below w.heap.size w W → Calls Tryz.prog 145 #[.pointer (some ⟨K, 0, none⟩), .int .u32 n2] W fun e w' => e = .returned (encPt x) ∧ Below W.heap.size W w')
  (cP3 : ∀ W, Below w.heap.size w W → Calls Tryz.prog 145 #[.pointer (some ⟨K, 0, none⟩), .int .u32 n3] W fun e w' => e = .returned (encPt y) ∧ Below W.heap.size W w')
  (hxy : 0 ≤ x.loc ∧ (x.loc < y.loc ∨ y.loc < 0)) :
  Calls Tryz.prog 93 #[.pointer (some ⟨K, 0, none⟩), .agg #[.int .u32 m, .int .u32 fn, .string nm, .slice (some ⟨ge, 0, none⟩) 4 ec], .int .u32 cl] w fun e w' => ∃ g c, e = .returned (.slice (some ⟨g, 0, none⟩) 2 c) ∧ Own noX w [rw_ w.heap.size 275 6 (.slice (some ⟨g, 0, none⟩) 2 c) 2 (ptVals x y)] w' := by
 have HO := Own.nil w
 have zE := block_lt_of_cell h0
 have i0 : ((c0 : Int) == cl) = false := by rw [beq_eq_false_iff_ne]; omega
 have i1 : ((c1 : Int) == cl) = false := by rw [beq_eq_false_iff_ne]; omega
 have i2 : ((c2 : Int) == cl) = true := by rw [beq_iff_eq]; omega
 have i3 : ((c3 : Int) == cl) = true := by rw [beq_iff_eq]; omega
 clear e0 e1 e2 e3
 unfold encPt ptCells at cP2
 unfold encPt ptCells at cP3
 go_enter Tryz.func93, Tryz.ntmps93
 replace HO := HO.row w.heap.size 275 6
 go_wp2_with (first | ((first | (with_reducible refine sp_al HO ?_; intro g hg W' HO'; rw [← hg.out]; clear hg) | (with_reducible refine sp_alc HO ?_; intro g hg W' HO'; rw [← hg.out]; clear hg) | (with_reducible refine sp_sk HO ?_; intro W' HO') | (with_reducible refine sp_skc HO ?_; intro W' HO')); clear HO; (try clear kk); have HO := HO'; clear HO'; (try simp only [zTz, zTs, zTa] at HO); (try have kk := HO.kk); skip))
 refine wp_loop_rounds 5 ?_
 rw [rounds_succ]
 go_wp2_with (first | ((first | (with_reducible refine sp_al HO ?_; intro g hg W' HO'; rw [← hg.out]; clear hg) | (with_reducible refine sp_sk HO ?_; intro W' HO') | (with_reducible refine sp_skc HO ?_; intro W' HO')); clear HO; (try clear kk); have HO := HO'; clear HO'; (try simp only [zTz, zTs, zTa] at HO); (try have kk := HO.kk); skip) | (go_at_call 144; (with_reducible refine (cC0 _ HO.below).mono ?_); rintro e w1 ⟨rfl, hn1⟩; replace HO := HO.then hn1; clear hn1; (try clear kk); skip; (try simp only [zTz, zTs, zTa, zDs, zDz] at HO); (try have kk := HO.kk); skip))
 rw [rounds_succ]
 go_wp2_with (first | ((first | (with_reducible refine sp_al HO ?_; intro g hg W' HO'; rw [← hg.out]; clear hg) | (with_reducible refine sp_sk HO ?_; intro W' HO') | (with_reducible refine sp_skc HO ?_; intro W' HO')); clear HO; (try clear kk); have HO := HO'; clear HO'; (try simp only [zTz, zTs, zTa] at HO); (try have kk := HO.kk); skip) | (go_at_call 144; (with_reducible refine (cC1 _ HO.below).mono ?_); rintro e w1 ⟨rfl, hn1⟩; replace HO := HO.then hn1; clear hn1; (try clear kk); skip; (try simp only [zTz, zTs, zTa, zDs, zDz] at HO); (try have kk := HO.kk); skip))
 rw [rounds_succ]
 go_wp2_with (first | ((first | (with_reducible refine sp_al HO ?_; intro g hg W' HO'; rw [← hg.out]; clear hg) | (with_reducible refine sp_sk HO ?_; intro W' HO') | (with_reducible refine sp_skc HO ?_; intro W' HO')); clear HO; (try clear kk); have HO := HO'; clear HO'; (try simp only [zTz, zTs, zTa] at HO); (try have kk := HO.kk); skip) | (go_at_call 144; (with_reducible refine (cC2 _ HO.below).mono ?_); rintro e w1 ⟨rfl, hn1⟩; replace HO := HO.then hn1; clear hn1; (try clear kk); skip; (try simp only [zTz, zTs, zTa, zDs, zDz] at HO); (try have kk := HO.kk); skip) | (go_at_call 145; (with_reducible refine (cP2 _ HO.below).mono ?_); rintro e w1 ⟨rfl, hn1⟩; replace HO := HO.then hn1; clear hn1; (try clear kk); skip; (try simp only [zTz, zTs, zTa, zDs, zDz] at HO); (try have kk := HO.kk); skip) | ((with_reducible refine at_append ?_); refine sp_append HO el_port 2 0 rfl rfl rfl _ _ rfl rfl rfl rfl (by simp [Value.oneCell']) (by omega) (by omega) (Nat.le_refl _) ?_; intro gm cm W' HO'; clear HO; (try clear kk); skip; have HO := HO'; clear HO'; (try simp only [zTz, zTs, zTa, zDs, zDz] at HO); (try have kk := HO.kk); skip))
 rw [rounds_succ]
 go_wp2_with (first | ((first | (with_reducible refine sp_al HO ?_; intro g hg W' HO'; rw [← hg.out]; clear hg) | (with_reducible refine sp_sk HO ?_; intro W' HO') | (with_reducible refine sp_skc HO ?_; intro W' HO')); clear HO; (try clear kk); have HO := HO'; clear HO'; (try simp only [zTz, zTs, zTa] at HO); (try have kk := HO.kk); skip) | (go_at_call 144; (with_reducible refine (cC3 _ HO.below).mono ?_); rintro e w1 ⟨rfl, hn1⟩; replace HO := HO.then hn1; clear hn1; (try clear kk); skip; (try simp only [zTz, zTs, zTa, zDs, zDz] at HO); (try have kk := HO.kk); skip) | (go_at_call 145; (with_reducible refine (cP3 _ HO.below).mono ?_); rintro e w1 ⟨rfl, hn1⟩; replace HO := HO.then hn1; clear hn1; (try clear kk); skip; (try simp only [zTz, zTs, zTa, zDs, zDz] at HO); (try have kk := HO.kk); skip) | ((with_reducible refine at_append ?_); refine sp_append HO el_port 3 0 rfl rfl rfl _ _ rfl rfl rfl rfl (by simp [Value.oneCell']) (by omega) (by omega) (Nat.le_refl _) ?_; intro gm cm W' HO'; clear HO; (try clear kk); skip; have HO := HO'; clear HO'; (try simp only [zTz, zTs, zTa, zDs, zDz] at HO); (try have kk := HO.kk); skip))
 rw [rounds_succ]
 go_wp2_with fail
 have hp := pts_at (x := x) (y := y) HO 3 rfl
 have cS := fsort_own gm cm x y _ hp.1 hp.2 hxy
 refine cS.mono ?_
 clear cS hp
 rintro e w1 ⟨rfl, hn1⟩
 replace HO := HO.then hn1
 clear hn1
 go_wp2_with fail
 go_ret
 exact ⟨_, _, rfl, HO.drop 3⟩
end Go.Proofs.YtbhijdmlonplgaaGreatDoor
