/- Face: what the checker reads; class, number, function; calls.Len, Reached. -/
import Derived.Test.YtlkolghiknbbfaaGreatDoorBa
import Derived.Test.YtlkolghiknbbfaaGreatDoorBb
set_option linter.unusedVariables false
set_option linter.unusedSimpArgs false
set_option maxRecDepth 100000
set_option maxHeartbeats 4000000
namespace Go.Proofs.YtlkolghiknbbfaaGreatDoor
open Go.RowKit Go.MapKept
structure DcD where
 at_ : Nat
 room : Nat
 k : Nat
def Bv (x : DcD) : Value := .slice (some ⟨x.at_, 0, none⟩) 1 x.room
def jC (i : In) (s : Option Addr × Nat) : Array Value := #[.int .u16 i.op, .int .u32 i.ty, .int .u32 i.res, .slice s.1 i.args.length s.2]
def DL (l : List In) (sv : Nat → Option Addr × Nat) (D : Nat → Prop) (f : Nat → Option DcD) : As := ⟨D, fun W => ∀ id x, f id = some x → D x.at_ ∧ ∀ j, j < 4 → W.cell? ⟨x.at_, j, none⟩ = (jC (l.getD x.k ai) (sv x.k))[j]?, fun W W' h hk id x e => by
 obtain ⟨a, b⟩ := h id x e
 exact ⟨a, fun j hj => (World.cell?_of_block (a := ⟨x.at_, j, none⟩) (hk _ a)).trans (b j hj)⟩⟩
structure Hr (K P T C gf gc gd b o cap b2 cb id lab y st en : Nat) (l : List In) (sv : Nat → Option Addr × Nat) (tab : Nat → Option dU) (vs : Nat → Option (Nat × Nat × Nat)) (fk : Nat → Option Nat) (W : World) : Prop where
 c0 : W.cell? ⟨K, 0, none⟩ = some (.pointer (some ⟨P, 0, none⟩))
 c1 : W.cell? ⟨K, 1, none⟩ = some (.pointer (some ⟨T, 0, none⟩))
 c2 : W.cell? ⟨K, 2, none⟩ = some (.pointer (some ⟨C, 0, none⟩))
 c3 : W.cell? ⟨K, 3, none⟩ = some (.slice (some ⟨gf, 0, none⟩) 1 gc)
 c4 : W.cell? ⟨K, 4, none⟩ = some (.slice (some ⟨b, o, none⟩) l.length cap)
 c5 : W.cell? ⟨K, 5, none⟩ = some (.map (some gd))
 pl : ∃ lo, iI lo P T tab vs W
 ca : ∃ lo, mY C lo W
 fq : ∃ lo, Ej gf b2 cb id lab y st en lo W
 ms : Ms W b o l sv
 dc : ∃ f D, Mp (.int .u32) bR (fun _ v x => v = Bv x) W gd f ∧ (DL l sv D f).holds W ∧ (∀ k, D k → k < W.heap.size) ∧ ∀ id, (f id).map (·.k) = fk id
theorem Hr.below {K P T C gf gc gd b o cap b2 cb id lab y st en : Nat} {l : List In} {sv : Nat → Option Addr × Nat} {tab : Nat → Option dU} {vs : Nat → Option (Nat × Nat × Nat)} {fk : Nat → Option Nat} {W W' : World} (h : Hr K P T C gf gc gd b o cap b2 cb id lab y st en l sv tab vs fk W) (hb : Bl W W') : Hr K P T C gf gc gd b o cap b2 cb id lab y st en l sv tab vs fk W' := by
 have z := block_lt_of_cell h.c0;obtain ⟨l1, h1⟩ := h.pl;obtain ⟨l2, h2⟩ := h.ca;obtain ⟨l3, h3⟩ := h.fq;obtain ⟨f, D, h4, h5, h6, h7⟩ := h.dc;exact ⟨ae h.c0 z hb, ae h.c1 z hb, ae h.c2 z hb, ae h.c3 z hb, ae h.c4 z hb, ae h.c5 z hb, ⟨l1, (iI.keeps P T tab vs).below h1 hb⟩, ⟨l2, h2.below hb⟩, ⟨l3, (fE _ _ _ _ _ _ _ _).below h3 hb⟩, h.ms.below hb, ⟨f, D, h4.other (hb.block _ h4.lt) (fun _ _ e => e), (DL l sv D f).loc _ _ h5 (fun k hk => hb.block k (h6 k hk)), fun k hk => Nat.lt_of_lt_of_le (h6 k hk) hb.size, h7⟩⟩
theorem NH (w : World) : (zeroValue 194).run Tryz.prog w = .ok (.agg #[.int .u32 0, .int .u32 0, .slice none 0 0]) w := by kernel_rfl
theorem AZ (w : World) : Calls Tryz.prog 113 #[.slice none 0 0] w fun e w' => (∃ v, e = .returned v) ∧ Bl w w' := by
 have HO := Own.nil w;have hm : ∀ W : World, (Instr.makeSlice 24 (.int .i64 0) (.int .i64 0)).run Tryz.prog W = .ok (.slice (some ⟨W.heap.size, 0, none⟩) 0 0) (W.alloc (.cells (wz 0) 22)) := jF 0 (by omega);go_enter Tryz.func113, Tryz.ntmps113;go_wp2_with (first | (((with_reducible refine aB HO ?_); intro g hg; rw [← hg.out]; clear hg); clear HO; (try clear kk); intro W' HO kk));have hr : (Builtin.copy_ #[24, 24] 3 #[.slice (some ⟨g, 0, none⟩) 0 0, .slice none 0 0]).run Tryz.prog W' = .ok (.int .i64 0) W' := by kernel_rfl
 rw [hr];go_wp2_with fail;go_ret;exact ⟨⟨_, rfl⟩, HO.below⟩
theorem uj (P mv id : Nat) (fv : Nat → Option qO) (w : World) (hP : w.cell? ⟨P, 4, none⟩ = some (.map (some mv))) (hm : Mp (.int .u32) bR (fun _ v x => v = sW x) w mv fv) (hf : fv id = none) :
  Calls Tryz.prog 78 #[.pointer (some ⟨P, 0, none⟩), .int .u32 id] w fun e w' => (∃ v, e = .returned (.tuple #[.int .u32 0, .int .u32 0, v, .bool false])) ∧ Bl w w' := by
 have HO := Own.nil w;have zP := block_lt_of_cell hP;have hl : (Instr.lookup 159 (.map (some mv)) (.int .u32 id) true).run Tryz.prog w = .ok (.tuple #[.agg #[.int .u32 0, .int .u32 0, .slice none 0 0], .bool false]) w := hm.miss dK Tryz.underlying159 Tryz.underlying22 hf (NH w) true;have cC := fun W => AZ W
 clear hm hf;go_enter Tryz.func78, Tryz.ntmps78;go_wp2_with (first | ((first | ((with_reducible refine aB HO ?_); intro g hg; rw [← hg.out]; clear hg) | (with_reducible refine ah HO ?_) | (refine ay 194 HO ?_)); clear HO; (try clear kk); intro W' HO kk));obtain ⟨gV, rfl⟩ : ∃ q, q = g := ⟨_, rfl⟩
 try simp only [Act.put]
 have z0 := HO.lt 0 rfl;have B0 := Below.refl W'.heap.size W';have bl := HO.below;(try replace kk := kk.2);go_cut [4, 5, 6, 7] (fun s4 s5 s6 s7 wx => s4 = .int .u32 0 ∧ s5 = .int .u32 0 ∧ s7 = .bool false ∧ (∃ v, s6 = v) ∧ Bl w wx)
 case first =>
  go_region_held3 (fun W => (∀ b j, b < W'.heap.size → W.cell? ⟨b, j, none⟩ = W'.cell? ⟨b, j, none⟩) ∧ Bl W' W) ((refine mkS W' _ ?_; repeat (first | exact B0 | refine aQ ?_ | refine bP ?_ _ | refine az ?_ hn1.out | refine aG ?_ (by first | assumption | omega) _ | refine aR ?_ (by first | assumption | omega))))
   (first | (go_at_call 113; (with_reducible refine (cC _).mono ?_); rintro e w2 ⟨⟨v, rfl⟩, hn0⟩; have hn1 := hid hn0; clear hn0))
  all_goals
   go_wp2_with fail;rename_i hh;go_meet;exact ⟨rfl, rfl, rfl, ⟨_, rfl⟩, bl.trans (hh.2.mono bl.size)⟩
 case rest =>
 obtain ⟨rfl, rfl, rfl, ⟨v, rfl⟩, h2⟩ := hcut;go_wp2_with fail;refine bodyPost_ret_by (zL rfl _ _ _) rfl ?_;exact ⟨⟨_, rfl⟩, h2⟩
section
variable {K P T C gf gc gd b o cap b2 cb id lab y st en : Nat} {l : List In} {sv : Nat → Option Addr × Nat} {tab : Nat → Option dU} {vs : Nat → Option (Nat × Nat × Nat)} {fk : Nat → Option Nat} {w : World}
theorem Kg {lo : Nat} (h : iI lo P T tab vs w) (hz : ∀ id c ty n, vs id = some (c, ty, n) → 0 < n ∧ n ≤ 4096) (v : Nat) :
  Calls Tryz.prog 78 #[.pointer (some ⟨P, 0, none⟩), .int .u32 v] w fun e w' => (∃ x, e = .returned (.tuple #[.int .u32 ((vs v).getD (0, 0, 0)).1, .int .u32 ((vs v).getD (0, 0, 0)).2.1, x, .bool (vs v).isSome])) ∧ Bl w w' := by
 obtain ⟨mv, fv, Dm, h1, h2, h3, h4, h5, h6, h7, h8, h9, h10⟩ := h.at_;have hq := h8 v
 cases hf : fv v with
 | none =>
  rw [hf] at hq;rw [← hq];exact (uj P mv v fv w h5 h7 hf).mono fun e w' he => by
   obtain ⟨⟨x, e1⟩, e2⟩ := he;exact ⟨⟨x, e1⟩, e2⟩
 | some x =>
  rw [hf] at hq;rw [← hq];obtain ⟨hn1, hn2⟩ := hz v x.aP x.ty x.n hq.symm;have hw := h9 v x hf;refine (jZ P mv v fv x w h5 h7 hf ⟨Nat.zero_le _, hw.2⟩ hn2 (h10 _ hw.1)).mono fun e w' he => ?_
  obtain ⟨⟨g, e1, -⟩, e2⟩ := he;exact ⟨⟨_, e1⟩, e2⟩
def ni (vs : Nat → Option (Nat × Nat × Nat)) (v : Nat) : Nat := if ((vs v).getD (0, 0, 0)).1 = 1 ∨ ((vs v).getD (0, 0, 0)).1 = 3 then ((vs v).getD (0, 0, 0)).1 else 0
theorem eX (h : Hr K P T C gf gc gd b o cap b2 cb id lab y st en l sv tab vs fk w) (hz : ∀ id c ty n, vs id = some (c, ty, n) → 0 < n ∧ n ≤ 4096 ∧ (c = 1 ∨ c = 3)) (v : Nat) :
  Qc 67 #[.pointer (some ⟨K, 0, none⟩), .int .u32 v] w (.int .u32 (ni vs v)) := by
 have HO := Own.nil w;have g0 := h.c0;have zK := block_lt_of_cell g0;have cV : ∀ W, Bl w W → Calls Tryz.prog 78 #[.pointer (some ⟨P, 0, none⟩), .int .u32 v] W fun e w' => (∃ x, e = .returned (.tuple #[.int .u32 ((vs v).getD (0, 0, 0)).1, .int .u32 ((vs v).getD (0, 0, 0)).2.1, x, .bool (vs v).isSome])) ∧ Bl W w' := fun W hb => by
  obtain ⟨lo, hp⟩ := (h.below hb).pl;exact Kg hp (fun id c ty n e => ⟨(hz id c ty n e).1, (hz id c ty n e).2.1⟩) v
 unfold ni;have hz2 := hz v;clear hz h
 cases hf : vs v with
 | none =>
  rw [hf] at cV;simp only [Option.getD_none, Option.isSome] at cV ⊢;clear hf hz2;have cV2 : ∀ W, Bl w W → Calls Tryz.prog 78 #[.pointer (some ⟨P, 0, none⟩), .int .u32 v] W fun e w' => (∃ x, e = .returned (.tuple #[.int .u32 0, .int .u32 0, x, .bool false])) ∧ Bl W w' := cV
  go_enter Tryz.func67, Tryz.ntmps67;go_wp2_with (first | (go_at_call 78; (with_reducible refine (cV2 _ HO.below).mono ?_); rintro e w1 ⟨⟨x, rfl⟩, hn1⟩; replace HO := HO.then hn1; clear hn1));go_ret;exact ⟨rfl, HO.below⟩
 | some t =>
  obtain ⟨c, ty, n⟩ := t;have hc := (hz2 c ty n hf).2.2;rw [hf] at cV;simp only [Option.getD_some, Option.isSome] at cV ⊢;clear hf hz2;have hcc : (if c = 1 ∨ c = 3 then c else 0) = c := if_pos hc;rw [hcc];clear hcc;rcases hc with rfl | rfl
  ·have cV2 : ∀ W, Bl w W → Calls Tryz.prog 78 #[.pointer (some ⟨P, 0, none⟩), .int .u32 v] W fun e w' => (∃ x, e = .returned (.tuple #[.int .u32 1, .int .u32 ty, x, .bool true])) ∧ Bl W w' := cV
   go_enter Tryz.func67, Tryz.ntmps67;go_wp2_with (first | (go_at_call 78; (with_reducible refine (cV2 _ HO.below).mono ?_); rintro e w1 ⟨⟨x, rfl⟩, hn1⟩; replace HO := HO.then hn1; clear hn1));go_ret;exact ⟨rfl, HO.below⟩
  ·have cV2 : ∀ W, Bl w W → Calls Tryz.prog 78 #[.pointer (some ⟨P, 0, none⟩), .int .u32 v] W fun e w' => (∃ x, e = .returned (.tuple #[.int .u32 3, .int .u32 ty, x, .bool true])) ∧ Bl W w' := cV
   go_enter Tryz.func67, Tryz.ntmps67;go_wp2_with (first | (go_at_call 78; (with_reducible refine (cV2 _ HO.below).mono ?_); rintro e w1 ⟨⟨x, rfl⟩, hn1⟩; replace HO := HO.then hn1; clear hn1));go_ret;exact ⟨rfl, HO.below⟩
theorem uM (h : Hr K P T C gf gc gd b o cap b2 cb id lab y st en l sv tab vs fk w) (ty : Nat) (hk : (aD tab ty).kind ≠ 4) :
  Qc 103 #[.pointer (some ⟨K, 0, none⟩), .int .u32 ty] w (.tuple #[.int .u32 ty, .bool ((aD tab ty).kind == 3)]) := by
 have HO := Own.nil w;have g1 := h.c1;have zK := block_lt_of_cell g1;have cC : ∀ W, Bl w W → Qc 142 #[.pointer (some ⟨T, 0, none⟩), .int .u32 ty] W (.int .u8 (aD tab ty).kind) := fun W hb => by
  obtain ⟨lo, hp⟩ := (h.below hb).pl;exact hp.tb.kind ty
 clear h;generalize (aD tab ty).kind = kd at cC hk ⊢;have i1 : ((kd : Int) == 4) = false := by rw [beq_eq_false_iff_ne]; omega
 obtain ⟨r, hr⟩ : ∃ r, Hid (((kd : Int) == 3) = r) := ⟨_, hid rfl⟩;have i2 := hr.out;have i3 : (kd == 3) = r := by rw [← hr.out, Bool.eq_iff_iff, beq_iff_eq, beq_iff_eq]; omega
 rw [i3];clear hk i3 hr;go_enter Tryz.func103, Tryz.ntmps103;go_wp2_with (first | (go_at_call 142; (with_reducible refine (cC _ HO.below).mono ?_); rintro e w1 ⟨rfl, hn1⟩; replace HO := HO.then hn1; clear hn1; (try clear ho); have ho := Own.old HO))
 all_goals
  go_ret2;exact ⟨rfl, HO.below⟩
end
section
variable {K P T C gf gc gd b o cap b2 cb id lab y st en : Nat} {l : List In} {sv : Nat → Option Addr × Nat} {tab : Nat → Option dU} {vs : Nat → Option (Nat × Nat × Nat)} {fk : Nat → Option Nat} {w : World}
theorem zq (h : Hr K P T C gf gc gd b o cap b2 cb id lab y st en l sv tab vs fk w) (ty p : Nat) (hk : (aD tab ty).kind = 4) (ht : 0 < (aD tab ty).times ∧ (aD tab ty).times ≤ 5000) (hl : (aD tab ty).parts.length ≤ 2000000) (hp : (aD tab ty).part = p) (h3 : (aD tab p).kind = 3) :
  Qc 103 #[.pointer (some ⟨K, 0, none⟩), .int .u32 ty] w (.tuple #[.int .u32 p, .bool true]) := by
 have HO := Own.nil w;have g1 := h.c1;have zK := block_lt_of_cell g1;have cC : ∀ W, Bl w W → Qc 142 #[.pointer (some ⟨T, 0, none⟩), .int .u32 ty] W (.int .u8 4) := fun W hb => by
  obtain ⟨lo, hp⟩ := (h.below hb).pl;have := hp.tb.kind ty;rw [hk] at this;exact this
 have cP : ∀ W, Bl w W → Qc 117 #[.pointer (some ⟨T, 0, none⟩), .int .u32 ty, .int .i64 0] W (.tuple #[.int .u32 p, .bool true]) := fun W hb => by
  obtain ⟨lo, hq⟩ := (h.below hb).pl;have := hq.tb.part_one ty 0 ht.1 (by omega) ⟨ht.2, hl⟩;rw [hp] at this;exact this
 have cD : ∀ W, Bl w W → Qc 142 #[.pointer (some ⟨T, 0, none⟩), .int .u32 p] W (.int .u8 3) := fun W hb => by
  obtain ⟨lo, hq⟩ := (h.below hb).pl;have := hq.tb.kind p;rw [h3] at this;exact this
 clear h hk ht hl hp h3;go_enter Tryz.func103, Tryz.ntmps103;go_wp2_with (first | (go_at_call 142; (first | (with_reducible refine (cC _ HO.below).mono ?_) | (with_reducible refine (cD _ HO.below).mono ?_)); rintro e w1 ⟨rfl, hn1⟩; replace HO := HO.then hn1; clear hn1; (try clear ho); have ho := Own.old HO) | (go_at_call 117; (with_reducible refine (cP _ HO.below).mono ?_); rintro e w1 ⟨rfl, hn1⟩; replace HO := HO.then hn1; clear hn1; (try clear ho); have ho := Own.old HO));go_ret2;exact ⟨rfl, HO.below⟩
theorem Hd (h : Hr K P T C gf gc gd b o cap b2 cb id lab y st en l sv tab vs fk w) (v kind k : Nat) (a0 a1 a2 : Ag) (hf : fk v = some k) (hk : k < l.length) (ha : l[k].args = [a0, a1, a2]) :
  Qc 104 #[.pointer (some ⟨K, 0, none⟩), .int .u32 v, .int .u32 kind] w (.int .i64 (if a1.n = kind then (a2.n : Int) else -1)) := by
 have HO := Own.nil w;have g5 := h.c5;have zK := block_lt_of_cell g5;obtain ⟨f, D, hm, hd, hD, hr⟩ := h.dc;have hq := hr v;rw [hf] at hq;obtain ⟨x, hx, hxk⟩ := Option.map_eq_some_iff.1 hq;subst hxk;obtain ⟨hd1, hd2⟩ := hd v x hx;have zx := hD _ hd1;have hl : (Instr.lookup 102 (.map (some gd)) (.int .u32 v) false).run Tryz.prog w = .ok (.slice (some ⟨x.at_, 0, none⟩) 1 x.room) w := by
  obtain ⟨v', hv, hq2⟩ := hm.hit dK Tryz.underlying102 Tryz.underlying22 hx;subst hv;exact hq2 false
 have hsl := h.ms.sl x.k hk;rw [ha] at hsl;obtain ⟨ab, ao, ea, hal, hcell⟩ := hsl.at_ (by simp);have q1 := (hcell 1 (by simp)).n;have q2 := (hcell 2 (by simp)).n;have l2 := (hcell 2 (by simp)).n_lt;simp only [List.getElem_cons_succ, List.getElem_cons_zero] at q1 q2 l2;have e : l.getD x.k ai = l[x.k] := getD_at l hk;have d0 := hd2 0 (by omega);have d1 := hd2 1 (by omega);have d2 := hd2 2 (by omega);have d3 := hd2 3 (by omega);rw [e] at d0 d1 d2 d3;simp only [jC, ha, ea] at d0 d1 d2 d3;simp at d0 d1 d2 d3;generalize x.at_ = xb at zx hl d0 d1 d2 d3;generalize (l[x.k]).op = xo at d0;generalize (l[x.k]).ty = xt at d1;generalize (l[x.k]).res = xr at d2;generalize (sv x.k).2 = xc at d3;generalize x.room = xm at hl;generalize a1.n = n1 at q1 ⊢;generalize a2.n = n2 at q2 l2 ⊢;have l3 : (n2 : Int) < 4294967296 := by omega
 clear h hm hd hD hr hq hx hd1 hd2 hsl hcell ea e ha hf;by_cases hkk : n1 = kind
 ·rw [if_pos hkk]
  have i1 : ((n1 : Int) == kind) = true := by rw [beq_iff_eq]; omega
  clear hkk;go_enter Tryz.func104, Tryz.ntmps104;go_wp2_with fail;refine wp_loop_rounds 1 ?_;rw [rounds_succ];go_wp2_with (first | ((first | ((with_reducible refine aB HO ?_); intro g hg; rw [← hg.out]; clear hg) | (with_reducible refine ah HO ?_) | (refine ay 73 HO ?_)); clear HO; (try clear kk); intro W' HO kk));go_ret;exact ⟨rfl, HO.below⟩
 ·rw [if_neg hkk]
  have i1 : ((n1 : Int) == kind) = false := by rw [beq_eq_false_iff_ne]; omega
  clear hkk;go_enter Tryz.func104, Tryz.ntmps104;go_wp2_with fail;refine wp_loop_rounds 2 ?_;rw [rounds_succ];go_wp2_with (first | ((first | ((with_reducible refine aB HO ?_); intro g hg; rw [← hg.out]; clear hg) | (with_reducible refine ah HO ?_) | (refine ay 73 HO ?_)); clear HO; (try clear kk); intro W' HO kk));rw [rounds_succ];go_wp2_with fail;go_ret;exact ⟨rfl, HO.below⟩
theorem Gc (v ty n2 sz : Nat) (loc bi : Int) (sg bb b3 : Bool) (c : Nat) (g0 : w.cell? ⟨K, 0, none⟩ = some (.pointer (some ⟨P, 0, none⟩))) (g1 : w.cell? ⟨K, 1, none⟩ = some (.pointer (some ⟨T, 0, none⟩)))
  (cV : ∀ W, Bl w W → Calls Tryz.prog 78 #[.pointer (some ⟨P, 0, none⟩), .int .u32 v] W fun e w' => (∃ x, e = .returned (.tuple #[.int .u32 c, .int .u32 ty, x, .bool bb])) ∧ Bl W w')
  (cN : ∀ W, Bl w W → Qc 103 #[.pointer (some ⟨K, 0, none⟩), .int .u32 ty] W (.tuple #[.int .u32 n2, .bool b3]))
  (cL : ∀ W, Bl w W → Qc 104 #[.pointer (some ⟨K, 0, none⟩), .int .u32 v, .int .u32 30] W (.int .i64 loc))
  (cB : ∀ W, Bl w W → Qc 104 #[.pointer (some ⟨K, 0, none⟩), .int .u32 v, .int .u32 11] W (.int .i64 bi))
  (cZ : ∀ W, Bl w W → Qc 105 #[.pointer (some ⟨T, 0, none⟩), .int .u32 ty] W (.int .i64 sz))
  (cG : ∀ W, Bl w W → Qc 106 #[.pointer (some ⟨T, 0, none⟩), .int .u32 n2] W (.bool sg)) :
  Qc 68 #[.pointer (some ⟨K, 0, none⟩), .int .u32 v] w (.agg #[.int .u32 v, .int .i64 loc, .int .i64 bi, .int .u32 ty, .int .i64 sz, .bool sg]) := by
 have HO := Own.nil w;have zK := block_lt_of_cell g0;go_enter Tryz.func68, Tryz.ntmps68;go_wp2_with (first | ((first | ((with_reducible refine aB HO ?_); intro g hg; rw [← hg.out]; clear hg) | (with_reducible refine ah HO ?_)); clear HO; (try clear kk); intro W' HO kk) | (go_at_call 78; (with_reducible refine (cV _ HO.below).mono ?_); rintro e w1 ⟨⟨x, rfl⟩, hn1⟩; replace HO := HO.then hn1; clear hn1; (try clear kk); have kk := HO.kk) | (go_at_call 103; with_reducible refine bq HO (cN _ HO.below) ?_; clear HO; (try clear kk); intro w1 HO kk));obtain ⟨gR, rfl⟩ : ∃ q, q = g := ⟨_, rfl⟩;rename_i W0 W2 K1 a1;generalize w1 = W' at HO kk ⊢;clear kk;have hcl : ∀ W W2, Bl w W → Bl W W2 → Bl w W2 := fun _ _ h k => az h k
 have hSw : Bl w W'.drew := HO.drew.below;refine au (S := fun W => Bl w W) (by kernel_rfl) ?_;refine ag hcl 0 ?_;refine ag hcl 1 ?_;refine ag hcl 2 ?_;refine tV hcl 3 104 (fun w hw => cL w hw) ?_;refine ag hcl 4 ?_;refine ag hcl 5 ?_;refine tV hcl 6 104 (fun w hw => cB w hw) ?_;refine ag hcl 7 ?_;refine ag hcl 8 ?_;refine ag hcl 9 ?_;refine ag hcl 10 ?_;refine ag hcl 11 ?_ (hv := fun w hw => by have q1 := (hw.cell (p := ⟨K, 1, none⟩) zK).trans g1; go_simp; first | done | with_reducible rfl);refine ag hcl 12 ?_;refine tV hcl 13 105 (fun w hw => cZ w hw) ?_;refine ag hcl 14 ?_;refine ag hcl 15 ?_;refine ag hcl 16 ?_;refine ag hcl 17 ?_ (hv := fun w hw => by have q1 := (hw.cell (p := ⟨K, 1, none⟩) zK).trans g1; go_simp; first | done | with_reducible rfl);refine ag hcl 18 ?_;refine tV hcl 19 106 (fun w hw => cG w hw) ?_;refine ag hcl 20 ?_;refine dC [21] fun W2 hW2 => ?_
 replace HO := HO.drew.then hW2
 clear hW2 hSw;have k0 := HO.cells 0 rfl;have m0 := HO.melt 0 rfl;refine dO (fun K hK => ?_);go_simp;have H := (((((HO.set 0 0 (.int .u32 v) rfl).set 0 1 (.int .i64 loc) rfl).set 0 2 (.int .i64 bi) rfl).set 0 3 (.int .u32 ty) rfl).set 0 4 (.int .i64 sz) rfl).set 0 5 (.bool sg) rfl;refine hK.out _ _ H.below ?_;clear hK K;refine kS fun W8 hW8 => ?_
 replace HO := H.then hW8
 clear H hW8
 try simp only [Act.put, yT]
 go_wp2_with fail;refine bodyPost_ret_by (bF rfl _ _ _ 115 #[.int .u32 v, .int .i64 loc, .int .i64 bi, .int .u32 ty, .int .i64 sz, .bool sg] _ _ rfl (HO.blk 0 rfl) Tryz.underlying115 rfl (by kernel_rfl)) rfl ?_;exact ⟨rfl, HO.below⟩
end
structure jO where
 v : Nat
 loc : Int
 bi : Int
 ty : Nat
 sz : Nat
 sg : Bool
def eB (x : jO) : Array Value := #[.int .u32 x.v, .int .i64 x.loc, .int .i64 x.bi, .int .u32 x.ty, .int .i64 x.sz, .bool x.sg]
def eP (x : jO) : Value := .agg (eB x)
structure dN (w : World) (g i : Nat) (x : jO) : Prop where
 c0 : w.cell? ⟨g, i, none⟩ = some (.int .u32 x.v)
 c1 : w.cell? ⟨g, i + 1, none⟩ = some (.int .i64 x.loc)
 c2 : w.cell? ⟨g, i + 2, none⟩ = some (.int .i64 x.bi)
 c3 : w.cell? ⟨g, i + 3, none⟩ = some (.int .u32 x.ty)
 c4 : w.cell? ⟨g, i + 4, none⟩ = some (.int .i64 x.sz)
 c5 : w.cell? ⟨g, i + 5, none⟩ = some (.bool x.sg)
theorem dN.below {w w' : World} {g i : Nat} {x : jO} (h : dN w g i x) (hb : Bl w w') : dN w' g i x := by
 have z := block_lt_of_cell h.c0;exact ⟨ae h.c0 z hb, ae h.c1 z hb, ae h.c2 z hb, ae h.c3 z hb, ae h.c4 z hb, ae h.c5 z hb⟩
theorem JE (x y : Int) (h : y < x) (w : World) : Qc 71 #[.int .i64 x, .int .i64 y] w (.int .i64 1) := by
 have cN : ∀ (z : Int) W, Calls Tryz.prog 108 #[.int .i64 z] W fun e w' => e = .returned (.bool false) ∧ w' = W := fun z W => by
  go_enter Tryz.func108, Tryz.ntmps108;go_wp2_with fail;go_ret;exact ⟨by simp, rfl⟩
 have i1 : ¬ x < y := by omega
 go_enter Tryz.func71, Tryz.ntmps71;go_wp2_with (first | (go_at_call 108; (with_reducible refine (cN _ _).mono ?_); rintro e w1 ⟨rfl, rfl⟩))
 all_goals
  go_ret;exact ⟨rfl, Below.refl _ _⟩
theorem Kh (x y : jO) (h : 0 ≤ y.loc ∧ (y.loc < x.loc ∨ x.loc < 0)) (w : World) : Qc 70 #[eP x, eP y] w (.int .i64 1) := by
 have HO := Own.nil w;obtain ⟨xv, xl, xb, xt, xs, xg⟩ := x;obtain ⟨yv, yl, yb, yt, ys, yg⟩ := y;unfold eP eB;simp only at h ⊢;have h1 := h.1;rcases h.2 with h2 | h2
 ·have i3 : (0 : Int) ≤ xl := by omega
  have cC := fun W => JE xl yl h2 W
  clear h;go_enter Tryz.func70, Tryz.ntmps70;go_wp2_with (first | ((first | ((with_reducible refine aB HO ?_); intro g hg; rw [← hg.out]; clear hg) | (with_reducible refine ah HO ?_)); clear HO; (try clear kk); intro W' HO kk) | (go_at_call 71; with_reducible refine fF HO (cC _) ?_; clear HO; intro w1 HO));go_ret;exact ⟨rfl, HO.below⟩
 ·have i3 : ¬ (0 : Int) ≤ xl := by omega
  clear h;go_enter Tryz.func70, Tryz.ntmps70;go_wp2_with (first | ((first | ((with_reducible refine aB HO ?_); intro g hg; rw [← hg.out]; clear hg) | (with_reducible refine ah HO ?_)); clear HO; (try clear kk); intro W' HO kk));go_ret;exact ⟨rfl, HO.below⟩
theorem yY (g cap : Nat) (x y : jO) (w : World) (h0 : dN w g 0 x) (h1 : dN w g 6 y) (h : 0 ≤ x.loc ∧ (x.loc < y.loc ∨ y.loc < 0)) :
  Qc 156 #[.slice (some ⟨g, 0, none⟩) 2 cap, .int .i64 0, .int .i64 2, .func (.func 70) #[] #[]] w (.tuple #[]) := by
 have HO := Own.nil w;have cC : ∀ W, Qc 70 #[eP y, eP x] W (.int .i64 1) := fun W => Kh y x h W
 unfold eP eB at cC;obtain ⟨a0, a1, a2, a3, a4, a5⟩ := h0;obtain ⟨b0, b1, b2, b3, b4, b5⟩ := h1;obtain ⟨xv, xl, xb, xt, xs, xg⟩ := x;obtain ⟨yv, yl, yb, yt, ys, yg⟩ := y;simp only at a0 a1 a2 a3 a4 a5 b0 b1 b2 b3 b4 b5 cC;have zg := block_lt_of_cell a0;clear h;go_enter Tryz.func156, Tryz.ntmps156;go_wp2_with fail;refine wp_loop_rounds 2 ?_;rw [rounds_succ];go_wp2_with fail;refine wp_loop_rounds 1 ?_;rw [rounds_succ];go_wp2_with fail;have hcl : ∀ W W2, Bl w W → Bl W W2 → Bl w W2 := fun _ _ h k => az h k
 have hSw : Bl w w.drew := HO.drew.below;refine au (S := fun W => Bl w W) (by kernel_rfl) ?_;refine ag hcl 0 ?_;refine ag hcl 1 ?_;refine ag hcl 2 ?_;refine ag hcl 3 ?_;refine ag hcl 4 ?_;refine ag hcl 5 ?_;refine ag hcl 6 ?_;refine ag hcl 7 ?_;refine ag hcl 8 ?_ (hv := fun w hw => by have q0 := (hw.cell (p := ⟨g, 6, none⟩) zg).trans b0; have q1 := (hw.cell (p := ⟨g, 6 + 1, none⟩) zg).trans b1; have q2 := (hw.cell (p := ⟨g, 6 + 2, none⟩) zg).trans b2; have q3 := (hw.cell (p := ⟨g, 6 + 3, none⟩) zg).trans b3; have q4 := (hw.cell (p := ⟨g, 6 + 4, none⟩) zg).trans b4; have q5 := (hw.cell (p := ⟨g, 6 + 5, none⟩) zg).trans b5; go_simp; first | done | with_reducible rfl);refine ag hcl 9 ?_;refine ag hcl 10 ?_;refine ag hcl 11 ?_
 try rw [show IntKind.i64.wrap 0 = 0 by kernel_rfl]
 refine ag hcl 12 ?_;refine ag hcl 13 ?_ (hv := fun w hw => by have q0 := (hw.cell (p := ⟨g, 0, none⟩) zg).trans a0; have q1 := (hw.cell (p := ⟨g, 0 + 1, none⟩) zg).trans a1; have q2 := (hw.cell (p := ⟨g, 0 + 2, none⟩) zg).trans a2; have q3 := (hw.cell (p := ⟨g, 0 + 3, none⟩) zg).trans a3; have q4 := (hw.cell (p := ⟨g, 0 + 4, none⟩) zg).trans a4; have q5 := (hw.cell (p := ⟨g, 0 + 5, none⟩) zg).trans a5; go_simp; first | done | with_reducible rfl);refine tV hcl 14 70 (fun w hw => cC w) ?_;refine ag hcl 15 ?_;refine ag hcl 16 ?_;refine kS fun W8 hW8 => ?_
 replace HO := HO.drew.then hW8
 clear hW8 hSw hcl;go_wp2_with fail;rw [rounds_succ];go_wp2_with fail;go_end0;exact ⟨rfl, HO.below⟩
theorem AY (g cap : Nat) (x y : jO) (w : World) (h0 : dN w g 0 x) (h1 : dN w g 6 y) (h : 0 ≤ x.loc ∧ (x.loc < y.loc ∨ y.loc < 0)) :
  Qc 107 #[.slice (some ⟨g, 0, none⟩) 2 cap, .int .i64 2, .func (.func 70) #[] #[]] w (.tuple #[]) := by
 have HO := Own.nil w;have cI := yY g cap x y w h0 h1 h;clear h h0 h1;go_enter Tryz.func107, Tryz.ntmps107;go_wp2_with fail;refine wp_loop_rounds 1 ?_;rw [rounds_succ];go_wp2_with (first | (go_at_call 156; (with_reducible refine cI.mono ?_); rintro e w1 ⟨rfl, hn1⟩; replace HO := HO.then hn1; clear hn1));refine wp_loop_rounds 1 ?_;rw [rounds_succ];go_wp2_with fail;go_end0;exact ⟨rfl, HO.below⟩
theorem vw (g cap : Nat) (x y : jO) (w : World) (h0 : dN w g 0 x) (h1 : dN w g 6 y) (h : 0 ≤ x.loc ∧ (x.loc < y.loc ∨ y.loc < 0)) :
  Qc 69 #[.slice (some ⟨g, 0, none⟩) 2 cap, .func (.func 70) #[] #[]] w (.tuple #[]) := by
 have HO := Own.nil w;have cI := AY g cap x y w h0 h1 h;clear h h0 h1;go_enter Tryz.func69, Tryz.ntmps69;go_wp2_with (first | (go_at_call 107; (with_reducible refine cI.mono ?_); rintro e w1 ⟨rfl, hn1⟩; replace HO := HO.then hn1; clear hn1));go_end0;exact ⟨rfl, HO.below⟩
def pQ (ids : List Ag) (k : Nat) : List Value := (ids.take k).map fun a => .int .u32 a.n
theorem yV (ids : List Ag) (k : Nat) (h : k < ids.length) : pQ ids (k + 1) = pQ ids k ++ [.int .u32 ids[k].n] := by
 unfold pQ;rw [List.take_add_one, List.getElem?_eq_getElem h, List.map_append];rfl
theorem wW (op ty res ab ao ac : Nat) (m f s : Ag) (ids : List Ag) (w : World) (hA : Sl 3 cz w (some ⟨ab, ao, none⟩) (m :: f :: s :: ids)) (hn : ids.length ≤ 1000) (hpos : 0 < ids.length) (hc : ids.length + 3 ≤ ac) :
  Calls Tryz.prog 21 #[.agg #[.int .u16 op, .int .u32 ty, .int .u32 res, .slice (some ⟨ab, ao, none⟩) (ids.length + 3) ac]] w fun e w' => ∃ v, e = .returned (.agg #[.int .u32 m.n, .int .u32 f.n, .string s.s, v]) ∧ Own aK w [bM w.heap.size 22 1 v ids.length (pQ ids ids.length)] w' := by
 have HO := Own.nil w;have HA := hid hA;obtain ⟨b', o', e, zA, hcell⟩ := hA.at_ (by simp)
 cases e
 have q0 := (hcell 0 (by simp)).n;have q1 := (hcell 1 (by simp)).n;have q2 := (hcell 2 (by simp)).s;simp only [List.getElem_cons_succ, List.getElem_cons_zero] at q0 q1 q2;have hq : ∀ k (h : k < ids.length), w.cell? ⟨ab, ao + 9 + k * 3, none⟩ = some (.int .u8 ids[k].kind) ∧ w.cell? ⟨ab, ao + 9 + k * 3 + 1, none⟩ = some (.int .u32 ids[k].n) ∧ w.cell? ⟨ab, ao + 9 + k * 3 + 2, none⟩ = some (.string ids[k].s) := fun k h => by
  have := hcell (k + 3) (by simp; omega);rw [show ao + (k + 3) * 3 = ao + 9 + k * 3 by omega] at this;exact ⟨this.kind, this.n, this.s⟩
 clear hA hcell;go_enter Tryz.func21, Tryz.ntmps21;go_wp2_with (first | ((first | ((with_reducible refine aB HO ?_); intro g hg; rw [← hg.out]; clear hg) | (with_reducible refine ah HO ?_)); clear HO; (try clear kk); intro W' HO kk));rename_i Q0 gI W2 K1 a1;obtain ⟨gR, rfl⟩ : ∃ q, q = g := ⟨_, rfl⟩;(try clear kk);have i0 : (0 : Int) < ids.length + 3 := by omega
 have i1 : (1 : Int) < ids.length + 3 := by omega
 have i2 : (2 : Int) < ids.length + 3 := by omega
 have hcl : ∀ W W2, (Bl w W ∧ W.cell? ⟨gI, 3, none⟩ = some (.slice (some ⟨ab, ao, none⟩) (ids.length + 3) ac)) → Bl W W2 → (Bl w W2 ∧ W2.cell? ⟨gI, 3, none⟩ = some (.slice (some ⟨ab, ao, none⟩) (ids.length + 3) ac)) := fun _ _ h k => ⟨az h.1 k, ae h.2 (block_lt_of_cell h.2) k⟩
 have hSw : Bl w W'.drew ∧ W'.drew.cell? ⟨gI, 3, none⟩ = some (.slice (some ⟨ab, ao, none⟩) (ids.length + 3) ac) := ⟨HO.drew.below, HO.drew.cell 1 3 rfl rfl⟩;refine au (S := fun W => Bl w W ∧ W.cell? ⟨gI, 3, none⟩ = some (.slice (some ⟨ab, ao, none⟩) (ids.length + 3) ac)) (by kernel_rfl) ?_;refine ag hcl 0 ?_;refine ag hcl 1 ?_ (hv := fun w hw => by have q1 := hw.2; go_simp; first | done | with_reducible rfl);refine ag hcl 2 ?_;refine ag hcl 3 ?_;refine ag hcl 4 ?_ (hv := fun w hw => by have q1 := (hw.1.cell (p := ⟨ab, ao + 0 * 3 + 1, none⟩) zA).trans q0; (try simp only [Nat.zero_mul, Nat.add_zero] at q1); go_simp; first | done | with_reducible rfl);refine ag hcl 5 ?_;refine ag hcl 6 ?_ (hv := fun w hw => by have q1 := hw.2; go_simp; first | done | with_reducible rfl);refine ag hcl 7 ?_;refine ag hcl 8 ?_;refine ag hcl 9 ?_ (hv := fun w hw => by have q1 := (hw.1.cell (p := ⟨ab, ao + 1 * 3 + 1, none⟩) zA).trans q1; (try simp only [Nat.one_mul] at q1); go_simp; first | done | with_reducible rfl);refine ag hcl 10 ?_;refine ag hcl 11 ?_ (hv := fun w hw => by have q1 := hw.2; go_simp; first | done | with_reducible rfl);refine ag hcl 12 ?_;refine ag hcl 13 ?_;refine ag hcl 14 ?_ (hv := fun w hw => by have q1 := (hw.1.cell (p := ⟨ab, ao + 2 * 3 + 2, none⟩) zA).trans q2; (try simp only [Nat.reduceMul] at q1); go_simp; first | done | with_reducible rfl);refine ag hcl 15 ?_;refine dC [16] fun W2 hW2 => ?_
 replace HO := HO.drew.then hW2
 clear hW2 hSw;refine dO (fun K hK => ?_);go_simp;have H := HO.alloc (.cells #[.int .u32 0, .int .u32 0, .string ⟨#[]⟩, .slice none 0 0] 75 (0, 0));refine bX hK ⟨H.below, H.cell 2 3 rfl rfl⟩ ?_;clear hK K HO;obtain ⟨gE, hE⟩ : ∃ gE, Hid (gE = W2.heap.size) := ⟨_, hid rfl⟩;rw [← hE.out] at H ⊢;refine dC [17] fun W3 hW3 => ?_
 have HO := H.then hW3
 clear hW3 H;have k0 := HO.cells 0 rfl;have m0 := HO.melt 0 rfl;refine dO (fun K hK => ?_);go_simp;have H := (((HO.set 0 0 (.int .u32 m.n) rfl).set 0 1 (.int .u32 f.n) rfl).set 0 2 (.string s.s) rfl).set 0 3 (.slice none 0 0) rfl;refine hK.out _ _ ⟨H.below, H.cell 2 3 rfl rfl⟩ ?_;clear hK K k0 m0 hcl;refine kS fun W8 hW8 => ?_
 replace HO := H.then hW8
 clear H hW8 hE
 try simp only [Act.put, yT]
 simp only [yT] at HO;replace HO := HO.row w.heap.size 22 1;(try simp only [yD] at HO); have kk := HO.kk;have i3 : (3 : Int) ≤ ids.length + 3 := by omega
 have i5 : 3 < ac := by omega
 have i6 : (3 : Int) < ac := by omega
 have i7 : ¬ (ac = 3) := by omega
 have i8 : ¬ (ac - 3 = 0) := by omega
 have i9 : 3 ≤ ac := by omega
 go_wp2_with fail;(try clear kk);have H0 : Hid (Own aK w [bM w.heap.size 22 1 (.slice none 0 0) 0 (pQ ids 0), aP gE #[.int .u32 m.n, .int .u32 f.n, .string s.s, .slice none 0 0] 75, aP gR #[.int .u32 0, .int .u32 0, .string ⟨#[]⟩, .slice none 0 0] 75, aP gI #[.int .u16 op, .int .u32 ty, .int .u32 res, .slice (some ⟨ab, ao, none⟩) (ids.length + 3) ac] 73] W8) := hid HO;clear HO;go_loopw [5, 26] (fun _ x26 wr => ∃ (k : Nat) (v : Value), k ≤ ids.length ∧ x26 = .int .i64 k ∧ Own aK w [bM w.heap.size 22 1 v k (pQ ids k), aP gE #[.int .u32 m.n, .int .u32 f.n, .string s.s, v] 75, aP gR #[.int .u32 0, .int .u32 0, .string ⟨#[]⟩, .slice none 0 0] 75, aP gI #[.int .u16 op, .int .u32 ty, .int .u32 res, .slice (some ⟨ab, ao, none⟩) (ids.length + 3) ac] 73] wr) (fun _ x _ => ids.length - (intOf x).toNat)
 case atStart => exact ⟨0, _, by omega, rfl, H0.out⟩
 case round =>
  obtain ⟨k, v, hk, rfl, HO⟩ := hrel;clear H0;by_cases hlt : k < ids.length
  ·have hq1 := hq k hlt
   have e0 := ae hq1.1 zA HO.below;have e1 := ae hq1.2.1 zA HO.below;have e2 := ae hq1.2.2 zA HO.below;have zA2 : ab < wr.heap.size := Nat.lt_of_lt_of_le zA HO.size;have hsc := hid (yV ids k hlt);have i4 : (k : Int) < ids.length := by omega
   have HLT := hid hlt;clear hq1;generalize ids[k] = x at e0 e1 e2 hsc;clear hlt;(try simp only [yD] at HO); have kk := HO.kk;go_wp2_with (first | ((first | (with_reducible refine bf HO ?_; intro g hg; rw [← hg.out]; clear hg) | (with_reducible refine ah HO ?_) | (refine ay 64 HO ?_)); clear HO; (try clear kk); intro W' HO kk) | ((with_reducible refine aA ?_); refine bg HO gG 2 0 rfl rfl rfl _ _ rfl rfl rfl rfl (by simp [Value.oneCell']) (by omega) (by omega) (Nat.le_refl _) ?_; intro gm cm W' HO'; clear HO; (try clear kk); have HO := HO'; clear HO'; (try simp only [yD] at HO); have kk := HO.kk));exact ⟨⟨k + 1, _, HLT.out, by go_num, by rw [hsc.out]; exact HO.drop 2⟩, by have := HLT.out; simp [intOf]; omega⟩
  ·obtain rfl : k = ids.length := by omega
   have i4 : ¬ ((ids.length : Nat) : Int) < ids.length := by omega
   obtain ⟨av, cv, rfl, hx⟩ := HO.slice 0 rfl;clear hx;(try simp only [yD] at HO); have kk := HO.kk;go_wp2_with (first | ((first | (with_reducible refine ah HO ?_) | (refine ay 75 HO ?_)); clear HO; (try clear kk); intro W' HO kk) | (refine bG 75 HO Tryz.underlying75 ?_));refine bodyPost_ret_by (bF rfl _ _ _ 75 #[.int .u32 m.n, .int .u32 f.n, .string s.s, _] _ _ rfl (HO.blk 2 rfl) Tryz.underlying75 rfl (by kernel_rfl)) rfl ?_;exact ⟨_, rfl, HO.sub (.cons_cons _ (.cons _ (.cons _ (.cons _ .slnil))))⟩
theorem qY : El 45 115 6 48 := El.of Tryz.underlying45 (z := .agg #[.int .u32 0, .int .i64 0, .int .i64 0, .int .u32 0, .int .i64 0, .bool false]) (by kernel_rfl) rfl (by omega)
def lI (x y : jO) : List Value := (eB x).toList ++ (eB y).toList
theorem iA {X : Nat → Prop} {w W : World} {L : List As} {base g c : Nat} {x y : jO} (h : Own X w L W) (i : Nat) (hi : L[i]? = some (bM base 115 6 (.slice (some ⟨g, 0, none⟩) 2 c) 2 (lI x y))) : dN W g 0 x ∧ dN W g 6 y :=
 ⟨⟨h.rowcell i 0 hi rfl, h.rowcell i 1 hi rfl, h.rowcell i 2 hi rfl, h.rowcell i 3 hi rfl, h.rowcell i 4 hi rfl, h.rowcell i 5 hi rfl⟩, ⟨h.rowcell i 6 hi rfl, h.rowcell i 7 hi rfl, h.rowcell i 8 hi rfl, h.rowcell i 9 hi rfl, h.rowcell i 10 hi rfl, h.rowcell i 11 hi rfl⟩⟩
theorem vG (K m fn ge ec n0 n1 n2 n3 c0 c1 c2 c3 cl : Nat) (nm : ByteArray) (x y : jO) (w : World) (h0 : w.cell? ⟨ge, 0, none⟩ = some (.int .u32 n0)) (h1 : w.cell? ⟨ge, 1, none⟩ = some (.int .u32 n1)) (h2 : w.cell? ⟨ge, 2, none⟩ = some (.int .u32 n2)) (h3 : w.cell? ⟨ge, 3, none⟩ = some (.int .u32 n3)) (e0 : c0 = cl) (e1 : c1 = cl) (e2 : c2 ≠ cl) (e3 : c3 ≠ cl)
  (cC0 : ∀ W, Bl w W → Qc 67 #[.pointer (some ⟨K, 0, none⟩), .int .u32 n0] W (.int .u32 c0))
  (cC1 : ∀ W, Bl w W → Qc 67 #[.pointer (some ⟨K, 0, none⟩), .int .u32 n1] W (.int .u32 c1))
  (cC2 : ∀ W, Bl w W → Qc 67 #[.pointer (some ⟨K, 0, none⟩), .int .u32 n2] W (.int .u32 c2))
  (cC3 : ∀ W, Bl w W → Qc 67 #[.pointer (some ⟨K, 0, none⟩), .int .u32 n3] W (.int .u32 c3))
  (cP0 : ∀ W, Bl w W → Qc 68 #[.pointer (some ⟨K, 0, none⟩), .int .u32 n0] W (eP x))
  (cP1 : ∀ W, Bl w W → Qc 68 #[.pointer (some ⟨K, 0, none⟩), .int .u32 n1] W (eP y))
  (hxy : 0 ≤ x.loc ∧ (x.loc < y.loc ∨ y.loc < 0)) :
  Calls Tryz.prog 22 #[.pointer (some ⟨K, 0, none⟩), .agg #[.int .u32 m, .int .u32 fn, .string nm, .slice (some ⟨ge, 0, none⟩) 4 ec], .int .u32 cl] w fun e w' => ∃ g c, e = .returned (.slice (some ⟨g, 0, none⟩) 2 c) ∧ Own aK w [bM w.heap.size 115 6 (.slice (some ⟨g, 0, none⟩) 2 c) 2 (lI x y)] w' := by
 have HO := Own.nil w;have zE := block_lt_of_cell h0;have i0 : ((c0 : Int) == cl) = true := by rw [beq_iff_eq]; omega
 have i1 : ((c1 : Int) == cl) = true := by rw [beq_iff_eq]; omega
 have i2 : ((c2 : Int) == cl) = false := by rw [beq_eq_false_iff_ne]; omega
 have i3 : ((c3 : Int) == cl) = false := by rw [beq_eq_false_iff_ne]; omega
 clear e0 e1 e2 e3;unfold eP eB at cP0;unfold eP eB at cP1;go_enter Tryz.func22, Tryz.ntmps22;replace HO := HO.row w.heap.size 115 6;go_wp2_with (first | ((first | (with_reducible refine dQ HO ?_; clear HO; (try clear kk); intro g hg W' HO; rw [← hg.out]; clear hg) | (with_reducible refine qc HO ?_; clear HO; (try clear kk); intro g hg W' HO; rw [← hg.out]; clear hg) | (with_reducible refine dM HO ?_; clear HO; (try clear kk); intro W' HO) | (with_reducible refine bT HO ?_; clear HO; (try clear kk); intro W' HO)); (try simp only [yT] at HO); have kk := HO.kk));refine wp_loop_rounds 5 ?_;rw [rounds_succ];go_wp2_with (first | ((first | (with_reducible refine dQ HO ?_; clear HO; (try clear kk); intro g hg W' HO; rw [← hg.out]; clear hg) | (with_reducible refine dM HO ?_; clear HO; (try clear kk); intro W' HO) | (with_reducible refine bT HO ?_; clear HO; (try clear kk); intro W' HO)); (try simp only [yT] at HO); have kk := HO.kk) | (go_at_call 67; with_reducible refine bq HO (cC0 _ HO.below) ?_; clear HO; (try clear kk); intro w1 HO kk) | (go_at_call 68; with_reducible refine bq HO (cP0 _ HO.below) ?_; clear HO; (try clear kk); intro w1 HO kk) | ((with_reducible refine aA ?_); refine bg HO qY 2 0 rfl rfl rfl _ _ rfl rfl rfl rfl (by simp [Value.oneCell']) (by omega) (by omega) (Nat.le_refl _) ?_; intro gm cm W' HO'; clear HO; (try clear kk); have HO := HO'; clear HO'; (try simp only [yD] at HO); have kk := HO.kk));rw [rounds_succ];go_wp2_with (first | ((first | (with_reducible refine dQ HO ?_; clear HO; (try clear kk); intro g hg W' HO; rw [← hg.out]; clear hg) | (with_reducible refine dM HO ?_; clear HO; (try clear kk); intro W' HO) | (with_reducible refine bT HO ?_; clear HO; (try clear kk); intro W' HO)); (try simp only [yT] at HO); have kk := HO.kk) | (go_at_call 67; with_reducible refine bq HO (cC1 _ HO.below) ?_; clear HO; (try clear kk); intro w1 HO kk) | (go_at_call 68; with_reducible refine bq HO (cP1 _ HO.below) ?_; clear HO; (try clear kk); intro w1 HO kk) | ((with_reducible refine aA ?_); refine bg HO qY 3 0 rfl rfl rfl _ _ rfl rfl rfl rfl (by simp [Value.oneCell']) (by omega) (by omega) (Nat.le_refl _) ?_; intro gm cm W' HO'; clear HO; (try clear kk); have HO := HO'; clear HO'; (try simp only [yD] at HO); have kk := HO.kk));rw [rounds_succ];go_wp2_with (first | ((first | (with_reducible refine dQ HO ?_; clear HO; (try clear kk); intro g hg W' HO; rw [← hg.out]; clear hg) | (with_reducible refine dM HO ?_; clear HO; (try clear kk); intro W' HO) | (with_reducible refine bT HO ?_; clear HO; (try clear kk); intro W' HO)); (try simp only [yT] at HO); have kk := HO.kk) | (go_at_call 67; with_reducible refine bq HO (cC2 _ HO.below) ?_; clear HO; (try clear kk); intro w1 HO kk));rw [rounds_succ];go_wp2_with (first | ((first | (with_reducible refine dQ HO ?_; clear HO; (try clear kk); intro g hg W' HO; rw [← hg.out]; clear hg) | (with_reducible refine dM HO ?_; clear HO; (try clear kk); intro W' HO) | (with_reducible refine bT HO ?_; clear HO; (try clear kk); intro W' HO)); (try simp only [yT] at HO); have kk := HO.kk) | (go_at_call 67; with_reducible refine bq HO (cC3 _ HO.below) ?_; clear HO; (try clear kk); intro w1 HO kk));rw [rounds_succ];go_wp2_with fail;have hp := iA (x := x) (y := y) HO 3 rfl;have cS := vw gm cm x y _ hp.1 hp.2 hxy;refine cS.mono ?_;clear cS hp;rintro e w1 ⟨rfl, hn1⟩;replace HO := HO.then hn1
 clear hn1;go_wp2_with fail;go_ret;exact ⟨_, _, rfl, HO.drop 3⟩
theorem tT (K m fn ge ec n0 n1 n2 n3 c0 c1 c2 c3 cl : Nat) (nm : ByteArray) (x y : jO) (w : World) (h0 : w.cell? ⟨ge, 0, none⟩ = some (.int .u32 n0)) (h1 : w.cell? ⟨ge, 1, none⟩ = some (.int .u32 n1)) (h2 : w.cell? ⟨ge, 2, none⟩ = some (.int .u32 n2)) (h3 : w.cell? ⟨ge, 3, none⟩ = some (.int .u32 n3)) (e0 : c0 ≠ cl) (e1 : c1 ≠ cl) (e2 : c2 = cl) (e3 : c3 = cl)
  (cC0 : ∀ W, Bl w W → Qc 67 #[.pointer (some ⟨K, 0, none⟩), .int .u32 n0] W (.int .u32 c0))
  (cC1 : ∀ W, Bl w W → Qc 67 #[.pointer (some ⟨K, 0, none⟩), .int .u32 n1] W (.int .u32 c1))
  (cC2 : ∀ W, Bl w W → Qc 67 #[.pointer (some ⟨K, 0, none⟩), .int .u32 n2] W (.int .u32 c2))
  (cC3 : ∀ W, Bl w W → Qc 67 #[.pointer (some ⟨K, 0, none⟩), .int .u32 n3] W (.int .u32 c3))
  (cP2 : ∀ W, Bl w W → Qc 68 #[.pointer (some ⟨K, 0, none⟩), .int .u32 n2] W (eP x))
  (cP3 : ∀ W, Bl w W → Qc 68 #[.pointer (some ⟨K, 0, none⟩), .int .u32 n3] W (eP y))
  (hxy : 0 ≤ x.loc ∧ (x.loc < y.loc ∨ y.loc < 0)) :
  Calls Tryz.prog 22 #[.pointer (some ⟨K, 0, none⟩), .agg #[.int .u32 m, .int .u32 fn, .string nm, .slice (some ⟨ge, 0, none⟩) 4 ec], .int .u32 cl] w fun e w' => ∃ g c, e = .returned (.slice (some ⟨g, 0, none⟩) 2 c) ∧ Own aK w [bM w.heap.size 115 6 (.slice (some ⟨g, 0, none⟩) 2 c) 2 (lI x y)] w' := by
 have HO := Own.nil w;have zE := block_lt_of_cell h0;have i0 : ((c0 : Int) == cl) = false := by rw [beq_eq_false_iff_ne]; omega
 have i1 : ((c1 : Int) == cl) = false := by rw [beq_eq_false_iff_ne]; omega
 have i2 : ((c2 : Int) == cl) = true := by rw [beq_iff_eq]; omega
 have i3 : ((c3 : Int) == cl) = true := by rw [beq_iff_eq]; omega
 clear e0 e1 e2 e3;unfold eP eB at cP2;unfold eP eB at cP3;go_enter Tryz.func22, Tryz.ntmps22;replace HO := HO.row w.heap.size 115 6;go_wp2_with (first | ((first | (with_reducible refine dQ HO ?_; clear HO; (try clear kk); intro g hg W' HO; rw [← hg.out]; clear hg) | (with_reducible refine qc HO ?_; clear HO; (try clear kk); intro g hg W' HO; rw [← hg.out]; clear hg) | (with_reducible refine dM HO ?_; clear HO; (try clear kk); intro W' HO) | (with_reducible refine bT HO ?_; clear HO; (try clear kk); intro W' HO)); (try simp only [yT] at HO); have kk := HO.kk));refine wp_loop_rounds 5 ?_;rw [rounds_succ];go_wp2_with (first | ((first | (with_reducible refine dQ HO ?_; clear HO; (try clear kk); intro g hg W' HO; rw [← hg.out]; clear hg) | (with_reducible refine dM HO ?_; clear HO; (try clear kk); intro W' HO) | (with_reducible refine bT HO ?_; clear HO; (try clear kk); intro W' HO)); (try simp only [yT] at HO); have kk := HO.kk) | (go_at_call 67; with_reducible refine bq HO (cC0 _ HO.below) ?_; clear HO; (try clear kk); intro w1 HO kk));rw [rounds_succ];go_wp2_with (first | ((first | (with_reducible refine dQ HO ?_; clear HO; (try clear kk); intro g hg W' HO; rw [← hg.out]; clear hg) | (with_reducible refine dM HO ?_; clear HO; (try clear kk); intro W' HO) | (with_reducible refine bT HO ?_; clear HO; (try clear kk); intro W' HO)); (try simp only [yT] at HO); have kk := HO.kk) | (go_at_call 67; with_reducible refine bq HO (cC1 _ HO.below) ?_; clear HO; (try clear kk); intro w1 HO kk));rw [rounds_succ];go_wp2_with (first | ((first | (with_reducible refine dQ HO ?_; clear HO; (try clear kk); intro g hg W' HO; rw [← hg.out]; clear hg) | (with_reducible refine dM HO ?_; clear HO; (try clear kk); intro W' HO) | (with_reducible refine bT HO ?_; clear HO; (try clear kk); intro W' HO)); (try simp only [yT] at HO); have kk := HO.kk) | (go_at_call 67; with_reducible refine bq HO (cC2 _ HO.below) ?_; clear HO; (try clear kk); intro w1 HO kk) | (go_at_call 68; with_reducible refine bq HO (cP2 _ HO.below) ?_; clear HO; (try clear kk); intro w1 HO kk) | ((with_reducible refine aA ?_); refine bg HO qY 2 0 rfl rfl rfl _ _ rfl rfl rfl rfl (by simp [Value.oneCell']) (by omega) (by omega) (Nat.le_refl _) ?_; intro gm cm W' HO'; clear HO; (try clear kk); have HO := HO'; clear HO'; (try simp only [yD] at HO); have kk := HO.kk));rw [rounds_succ];go_wp2_with (first | ((first | (with_reducible refine dQ HO ?_; clear HO; (try clear kk); intro g hg W' HO; rw [← hg.out]; clear hg) | (with_reducible refine dM HO ?_; clear HO; (try clear kk); intro W' HO) | (with_reducible refine bT HO ?_; clear HO; (try clear kk); intro W' HO)); (try simp only [yT] at HO); have kk := HO.kk) | (go_at_call 67; with_reducible refine bq HO (cC3 _ HO.below) ?_; clear HO; (try clear kk); intro w1 HO kk) | (go_at_call 68; with_reducible refine bq HO (cP3 _ HO.below) ?_; clear HO; (try clear kk); intro w1 HO kk) | ((with_reducible refine aA ?_); refine bg HO qY 3 0 rfl rfl rfl _ _ rfl rfl rfl rfl (by simp [Value.oneCell']) (by omega) (by omega) (Nat.le_refl _) ?_; intro gm cm W' HO'; clear HO; (try clear kk); have HO := HO'; clear HO'; (try simp only [yD] at HO); have kk := HO.kk));rw [rounds_succ];go_wp2_with fail;have hp := iA (x := x) (y := y) HO 3 rfl;have cS := vw gm cm x y _ hp.1 hp.2 hxy;refine cS.mono ?_;clear cS hp;rintro e w1 ⟨rfl, hn1⟩;replace HO := HO.then hn1
 clear hn1;go_wp2_with fail;go_ret;exact ⟨_, _, rfl, HO.drop 3⟩
end Go.Proofs.YtlkolghiknbbfaaGreatDoor
namespace Go.Proofs.YtlkolghiknbbfaaGreatDoor
open Go.RowKit
theorem Bu (x : jO) (W : World) : (binOp .neq 115 (.agg #[.int .u32 x.v, .int .i64 x.loc, .int .i64 x.bi, .int .u32 x.ty, .int .i64 x.sz, .bool x.sg]) (.agg #[.int .u32 x.v, .int .i64 x.loc, .int .i64 x.bi, .int .u32 x.ty, .int .i64 x.sz, .bool x.sg])).run Tryz.prog W = .ok (.bool false) W := by
 have hu := Tryz.underlying115;rw [run_neq_struct, run_equalIn_agg _ _ _ _ _ (by kernel_rfl) (by kernel_rfl)];go_simp
theorem qI (g h c1 c2 : Nat) (x y : jO) (w : World) (g0 : dN w g 0 x) (g1 : dN w g 6 y) (h0 : dN w h 0 x) (h1 : dN w h 6 y) :
  Qc 73 #[.slice (some ⟨g, 0, none⟩) 2 c1, .slice (some ⟨h, 0, none⟩) 2 c2] w (.bool true) := by
 have hx := Bu x;have hy := Bu y;have HO := Own.nil w;obtain ⟨a0, a1, a2, a3, a4, a5⟩ := g0;obtain ⟨b0, b1, b2, b3, b4, b5⟩ := g1;obtain ⟨d0, d1, d2, d3, d4, d5⟩ := h0;obtain ⟨e0, e1, e2, e3, e4, e5⟩ := h1;have z0 := block_lt_of_cell a0;have z1 := block_lt_of_cell d0;go_enter Tryz.func73, Tryz.ntmps73;go_wp2_with fail;refine wp_loop_rounds 3 ?_;rw [rounds_succ];go_wp2_with fail;go_quiet (fail);go_wp2_with fail;rw [rounds_succ];go_wp2_with fail;go_quiet (fail);go_wp2_with fail;rw [rounds_succ];go_wp2_with fail;go_ret;exact ⟨rfl, (HO.drewN _).below⟩
def qA (nm : ByteArray) (m fn gI cI gO cO : Nat) : Value := .agg #[.string nm, .int .u32 m, .int .u32 fn, .slice (some ⟨gI, 0, none⟩) 2 cI, .slice (some ⟨gO, 0, none⟩) 2 cO]
structure sK (gI gO : Nat) (x y u v : jO) (W : World) : Prop where
 i0 : dN W gI 0 x
 i1 : dN W gI 6 y
 o0 : dN W gO 0 u
 o1 : dN W gO 6 v
theorem sK.below {gI gO : Nat} {x y u v : jO} {w W : World} (h : sK gI gO x y u v w) (hb : Bl w W) : sK gI gO x y u v W := ⟨h.i0.below hb, h.i1.below hb, h.o0.below hb, h.o1.below hb⟩
theorem xh (nm : ByteArray) (m fn gI cI gO cO hI kI hO kO : Nat) (x y u v : jO) (w : World) (h1 : sK gI gO x y u v w) (h2 : sK hI hO x y u v w) :
  Qc 26 #[qA nm m fn gI cI gO cO, qA nm m fn hI kI hO kO] w (.bool true) := by
 have cI' : ∀ W, Bl w W → _ := fun W hb => qI gI hI cI kI x y W (h1.below hb).i0 (h1.below hb).i1 (h2.below hb).i0 (h2.below hb).i1
 have cO' : ∀ W, Bl w W → _ := fun W hb => qI gO hO cO kO u v W (h1.below hb).o0 (h1.below hb).o1 (h2.below hb).o0 (h2.below hb).o1
 clear h1 h2;have HQ := Own.nil w;have HO := HQ;clear HQ;unfold qA;go_enter Tryz.func26, Tryz.ntmps26;go_wp2_with (first | ((first | ((with_reducible refine aB HO ?_); intro g hg; rw [← hg.out]; clear hg) | (with_reducible refine ah HO ?_)); clear HO; (try clear kk); intro W' HO kk) | (go_at_call 73; (with_reducible first | refine (cI' _ HO.below).mono ?_ | refine (cO' _ HO.below).mono ?_); rintro e w1 ⟨rfl, hn⟩; replace HO := HO.then hn; clear hn; (try clear kk); (try simp only [yD] at HO); have kk := HO.kk));go_ret;exact ⟨rfl, HO.below⟩
theorem Ij (B : Nat) (nm : ByteArray) (m fn gI cI gO cO hI kI hO kO : Nat) (x y u v : jO) (w : World) (h1 : sK gI gO x y u v w) (h2 : sK hI hO x y u v w) (b0 : w.cell? ⟨B, 0, none⟩ = some (.string nm)) (b1 : w.cell? ⟨B, 1, none⟩ = some (.int .u32 m)) (b2 : w.cell? ⟨B, 2, none⟩ = some (.int .u32 fn)) (b3 : w.cell? ⟨B, 3, none⟩ = some (.slice (some ⟨hI, 0, none⟩) 2 kI)) (b4 : w.cell? ⟨B, 4, none⟩ = some (.slice (some ⟨hO, 0, none⟩) 2 kO)) :
  Qc 25 #[qA nm m fn gI cI gO cO, .pointer (some ⟨B, 0, none⟩)] w (.bool true) := by
 have cS : ∀ W, Bl w W → _ := fun W hb => xh nm m fn gI cI gO cO hI kI hO kO x y u v W (h1.below hb) (h2.below hb)
 clear h1 h2;have zB := block_lt_of_cell b0;have HO := Own.nil w;unfold qA at cS ⊢;go_enter Tryz.func25, Tryz.ntmps25;go_wp2_with (first | ((first | ((with_reducible refine aB HO ?_); intro g hg; rw [← hg.out]; clear hg) | (with_reducible refine ah HO ?_)); clear HO; (try clear kk); intro W' HO kk) | (go_at_call 26; with_reducible refine bq HO (cS _ HO.below) ?_; clear HO; (try clear kk); intro w1 HO kk));go_ret;exact ⟨rfl, HO.below⟩
theorem Gx (B gl cl : Nat) (nm : ByteArray) (m fn gI cI gO cO hI kI hO kO : Nat) (x y u v : jO) (w : World) (h1 : sK gI gO x y u v w) (h2 : sK hI hO x y u v w) (b0 : w.cell? ⟨B, 0, none⟩ = some (.string nm)) (b1 : w.cell? ⟨B, 1, none⟩ = some (.int .u32 m)) (b2 : w.cell? ⟨B, 2, none⟩ = some (.int .u32 fn)) (b3 : w.cell? ⟨B, 3, none⟩ = some (.slice (some ⟨hI, 0, none⟩) 2 kI)) (b4 : w.cell? ⟨B, 4, none⟩ = some (.slice (some ⟨hO, 0, none⟩) 2 kO))
  (l0 : w.cell? ⟨gl, 0, none⟩ = some (.string nm)) (l1 : w.cell? ⟨gl, 1, none⟩ = some (.int .u32 m)) (l2 : w.cell? ⟨gl, 2, none⟩ = some (.int .u32 fn)) (l3 : w.cell? ⟨gl, 3, none⟩ = some (.slice (some ⟨gI, 0, none⟩) 2 cI)) (l4 : w.cell? ⟨gl, 4, none⟩ = some (.slice (some ⟨gO, 0, none⟩) 2 cO)) :
  Qc 24 #[.slice (some ⟨gl, 0, none⟩) 1 cl, .func (.func 25) #[] #[.pointer (some ⟨B, 0, none⟩)]] w (.int .i64 0) := by
 have cS := Ij B nm m fn gI cI gO cO hI kI hO kO x y u v w h1 h2 b0 b1 b2 b3 b4;clear h1 h2;have zl := block_lt_of_cell l0;have HO := Own.nil w;unfold qA at cS;go_enter Tryz.func24, Tryz.ntmps24;go_wp2_with fail;refine wp_loop_rounds 1 ?_;rw [rounds_succ];go_wp2_with (first | ((first | (with_reducible refine bf HO ?_; intro g hg; rw [← hg.out]; clear hg) | (with_reducible refine ah HO ?_)); clear HO; (try clear kk); intro W' HO kk) | (go_at_call 25; (with_reducible refine cS.mono ?_); rintro e w1 ⟨rfl, hn⟩; replace HO := HO.then hn; clear hn));go_ret;exact ⟨rfl, HO.below⟩
theorem uZ (x : jO) (d : Addr) (c : Nat) (w : World) (hz : x.sz = 1) :
  Qc 75 #[eP x, .agg #[.int .i64 x.loc, .int .i64 x.bi, .slice (some d) 1 c]] w (.bool true) := by
 have HO := Own.nil w;unfold eP eB;rw [hz];go_enter Tryz.func75, Tryz.ntmps75;go_wp2_with (first | ((first | ((with_reducible refine aB HO ?_); intro g hg; rw [← hg.out]; clear hg) | (with_reducible refine ah HO ?_)); clear HO; (try clear kk); intro W' HO kk));go_ret;exact ⟨rfl, HO.below⟩
structure BZ (b o : Nat) (x y : jO) (d0 d1 : Addr) (e0 e1 : Nat) (W : World) : Prop where
 a0 : W.cell? ⟨b, o, none⟩ = some (.int .i64 x.loc)
 a1 : W.cell? ⟨b, o + 1, none⟩ = some (.int .i64 x.bi)
 a2 : W.cell? ⟨b, o + 2, none⟩ = some (.slice (some d0) 1 e0)
 b0 : W.cell? ⟨b, o + 3, none⟩ = some (.int .i64 y.loc)
 b1 : W.cell? ⟨b, o + 3 + 1, none⟩ = some (.int .i64 y.bi)
 b2 : W.cell? ⟨b, o + 3 + 2, none⟩ = some (.slice (some d1) 1 e1)
theorem BZ.below {b o : Nat} {x y : jO} {d0 d1 : Addr} {e0 e1 : Nat} {w W : World} (h : BZ b o x y d0 d1 e0 e1 w) (hb : Bl w W) : BZ b o x y d0 d1 e0 e1 W :=
 have k : ∀ {g o : Nat} {v : Value}, w.cell? ⟨g, o, none⟩ = some v → W.cell? ⟨g, o, none⟩ = some v := fun h => ae h (block_lt_of_cell h) hb
 ⟨k h.a0, k h.a1, k h.a2, k h.b0, k h.b1, k h.b2⟩
set_option maxHeartbeats 600000 in
theorem Cc (g c b o s : Nat) (x y : jO) (d0 d1 : Addr) (e0 e1 : Nat) (w : World) (h0 : dN w g 0 x) (h1 : dN w g 6 y) (hs : BZ b o x y d0 d1 e0 e1 w) (hx : x.sz = 1) (hy : y.sz = 1) :
  Qc 74 #[.slice (some ⟨g, 0, none⟩) 2 c, .slice (some ⟨b, o, none⟩) 2 s, .func (.func 75) #[] #[]] w (.bool true) := by
 have cX := fun W => uZ x d0 e0 W hx
 have cY := fun W => uZ y d1 e1 W hy
 unfold eP eB at cX cY;have HS := hid hs;have H0 := hid h0;have H1 := hid h1;clear hs h0 h1 hx hy;have HO := Own.nil w;obtain ⟨a0, a1, a2, a3, a4, a5⟩ := H0.out;obtain ⟨s0, s1, s2, s3, s4, s5⟩ := HS.out;have z0 := block_lt_of_cell a0;have z1 := block_lt_of_cell s0;go_enter Tryz.func74, Tryz.ntmps74;go_wp2_with fail;refine wp_loop_rounds 3 ?_;rw [rounds_succ];go_wp2_with (first | ((first | ((with_reducible refine aB HO ?_); intro g hg; rw [← hg.out]; clear hg) | (with_reducible refine ah HO ?_) | (refine ay 115 HO ?_) | (refine ay 49 HO ?_)); clear HO; (try clear kk); intro W' HO kk) | (refine bG 115 HO Tryz.underlying115 ?_) | (refine bG 49 HO Tryz.underlying49 ?_) | (go_at_call 75; with_reducible refine bq HO (cX _) ?_; clear HO; (try clear kk); intro w1 HO kk));clear a0 a1 a2 a3 a4 a5 s0 s1 s2 s3 s4 s5 z0 z1;obtain ⟨a0, a1, a2, a3, a4, a5⟩ := H1.out;obtain ⟨s0, s1, s2, s3, s4, s5⟩ := HS.out;have z0 := block_lt_of_cell a0;have z1 := block_lt_of_cell s0;rw [rounds_succ];go_wp2_with (first | ((first | ((with_reducible refine aB HO ?_); intro g hg; rw [← hg.out]; clear hg) | (with_reducible refine ah HO ?_) | (refine ay 115 HO ?_) | (refine ay 49 HO ?_)); clear HO; (try clear kk); intro W' HO kk) | (refine bG 115 HO Tryz.underlying115 ?_) | (refine bG 49 HO Tryz.underlying49 ?_) | (go_at_call 75; with_reducible refine bq HO (cY _) ?_; clear HO; (try clear kk); intro w1 HO kk));rw [rounds_succ];go_wp2_with fail;go_ret;exact ⟨rfl, HO.below⟩
theorem Gv (g c b o s : Nat) (x y : jO) (d0 d1 : Addr) (e0 e1 : Nat) (w : World) (h0 : dN w g 0 x) (h1 : dN w g 6 y) (hs : BZ b o x y d0 d1 e0 e1 w) (hx : x.sz = 1) (hy : y.sz = 1) :
  Qc 27 #[.slice (some ⟨g, 0, none⟩) 2 c, .slice (some ⟨b, o, none⟩) 2 s] w (.bool true) := by
 have cE : ∀ W, Bl w W → _ := fun W hb => Cc g c b o s x y d0 d1 e0 e1 W (h0.below hb) (h1.below hb) (hs.below hb) hx hy
 clear h0 h1 hs;have HO := Own.nil w;go_enter Tryz.func27, Tryz.ntmps27;go_wp2_with (first | (go_at_call 74; with_reducible refine fF HO (cE _ HO.below) ?_; clear HO; intro w1 HO));go_ret;exact ⟨rfl, HO.below⟩
end Go.Proofs.YtlkolghiknbbfaaGreatDoor
