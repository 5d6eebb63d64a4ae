/- The kit: arguments. -/
import Derived.Test.YtindnnbopaeklaaGreatDoorAf
import Derived.Test.YtindnnbopaeklaaGreatDoorAe
import Derived.Test.YtindnnbopaeklaaGreatDoorDb
import Derived.Test.YtindnnbopaeklaaGreatDoorAh
namespace Go.Proofs.YtindnnbopaeklaaGreatDoor
set_option linter.unusedVariables false
set_option linter.unusedSimpArgs false
set_option maxRecDepth 100000
set_option maxHeartbeats 4000000
open Go.RowKit
theorem infoArg : (Tryz.prog.info? 45).map (·.size) = some 3 := by kernel_rfl
theorem kenum_own (n : Int) (w : World) : Calls Tryz.prog 10 #[.int .u32 n] w fun e w' => e = .returned (.agg #[.int .u8 4, .int .u32 n, .string ⟨#[]⟩]) ∧ Below w.heap.size w w' := by
 have HO := Own.nil w
 go_enter Tryz.func10, Tryz.ntmps10
 go_wp2_with (first | ((first | ((with_reducible first | refine sp_al HO ?_ | refine sp_alc HO ?_); intro g hg; rw [← hg.out]; clear hg) | (with_reducible first | refine sp_sk HO ?_ | refine sp_skc HO ?_) | (refine sp_wk HO rfl 45 _ _ rfl rfl rfl (by kernel_rfl) (by rfl) (by simp [Value.oneCell']) ?_)); clear HO; (try clear kk); intro W' HO; (try simp only [zTz, zTs, zTa] at HO); (try have kk := HO.kk)))
 refine bodyPost_ret_by (res_row rfl _ _ _ 45 #[.int .u8 4, .int .u32 n, .string ⟨#[]⟩] _ _ rfl (HO.blk 0 rfl) Tryz.underlying45 rfl infoArg) rfl ?_
 exact ⟨rfl, HO.below⟩
theorem kid_own (n : Int) (w : World) : Calls Tryz.prog 12 #[.int .u32 n] w fun e w' => e = .returned (.agg #[.int .u8 1, .int .u32 n, .string ⟨#[]⟩]) ∧ Below w.heap.size w w' := by
 have HO := Own.nil w
 go_enter Tryz.func12, Tryz.ntmps12
 go_wp2_with (first | ((first | ((with_reducible first | refine sp_al HO ?_ | refine sp_alc HO ?_); intro g hg; rw [← hg.out]; clear hg) | (with_reducible first | refine sp_sk HO ?_ | refine sp_skc HO ?_) | (refine sp_wk HO rfl 45 _ _ rfl rfl rfl (by kernel_rfl) (by rfl) (by simp [Value.oneCell']) ?_)); clear HO; (try clear kk); intro W' HO; (try simp only [zTz, zTs, zTa] at HO); (try have kk := HO.kk)))
 refine bodyPost_ret_by (res_row rfl _ _ _ 45 #[.int .u8 1, .int .u32 n, .string ⟨#[]⟩] _ _ rfl (HO.blk 0 rfl) Tryz.underlying45 rfl infoArg) rfl ?_
 exact ⟨rfl, HO.below⟩
theorem knumber_own (n : Int) (w : World) : Calls Tryz.prog 11 #[.int .u32 n] w fun e w' => e = .returned (.agg #[.int .u8 2, .int .u32 n, .string ⟨#[]⟩]) ∧ Below w.heap.size w w' := by
 have HO := Own.nil w
 go_enter Tryz.func11, Tryz.ntmps11
 go_wp2_with (first | ((first | ((with_reducible first | refine sp_al HO ?_ | refine sp_alc HO ?_); intro g hg; rw [← hg.out]; clear hg) | (with_reducible first | refine sp_sk HO ?_ | refine sp_skc HO ?_) | (refine sp_wk HO rfl 45 _ _ rfl rfl rfl (by kernel_rfl) (by rfl) (by simp [Value.oneCell']) ?_)); clear HO; (try clear kk); intro W' HO; (try simp only [zTz, zTs, zTa] at HO); (try have kk := HO.kk)))
 refine bodyPost_ret_by (res_row rfl _ _ _ 45 #[.int .u8 2, .int .u32 n, .string ⟨#[]⟩] _ _ rfl (HO.blk 0 rfl) Tryz.underlying45 rfl infoArg) rfl ?_
 exact ⟨rfl, HO.below⟩
theorem el_inst : El 26 43 4 40 := El.of Tryz.underlying26 (z := .agg #[.int .u16 0, .int .u32 0, .int .u32 0, .slice none 0 0]) (by kernel_rfl) rfl (by omega)
abbrev Pr := In × Option Addr × Nat
def flatI (p : List Pr) : List Value := p.flatMap fun x => [.int .u16 x.1.op, .int .u32 x.1.ty, .int .u32 x.1.res, .slice x.2.1 x.1.args.length x.2.2]
theorem flatI_snoc (p : List Pr) (x : Pr) : flatI (p ++ [x]) = flatI p ++ [.int .u16 x.1.op, .int .u32 x.1.ty, .int .u32 x.1.res, .slice x.2.1 x.1.args.length x.2.2] := by simp [flatI]
def argsA (D : Nat → Prop) (p : List Pr) : As := ⟨D, fun W => ∀ x ∈ p, 0 < x.1.args.length → ∃ b, x.2.1 = some ⟨b, 0, none⟩ ∧ D b ∧ ∀ j v, (x.1.args.flatMap agCells)[j]? = some v → W.cell? ⟨b, j, none⟩ = some v, fun W W' h hk x hx h0 => by
 obtain ⟨b, e, hb, hc⟩ := h x hx h0
 exact ⟨b, e, hb, fun j v hv => (World.cell?_of_block (a := ⟨b, j, none⟩) (hk b hb)).trans (hc j v hv)⟩⟩
structure InFit (i : In) : Prop where
 op : i.op < 65536
 ty : i.ty < 4294967296
 res : i.res < 4294967296
 len : i.args.length ≤ 1000
 arg : ∀ a ∈ i.args, a.kind < 256 ∧ a.n < 4294967296 ∧ a.s.size ≤ 1000
theorem agCells_get : ∀ (l : List Ag) (j : Nat) (h : j < l.length), (l.flatMap agCells)[j * 3]? = some (.int .u8 l[j].kind) ∧ (l.flatMap agCells)[j * 3 + 1]? = some (.int .u32 l[j].n) ∧ (l.flatMap agCells)[j * 3 + 2]? = some (.string l[j].s)
 | [], j, h => absurd h (Nat.not_lt_zero _)
 | a :: l, 0, _ => ⟨rfl, rfl, rfl⟩
 | a :: l, j + 1, h => by
  have ih := agCells_get l j (Nat.lt_of_succ_lt_succ h)
  have e : ∀ q, ((a :: l).flatMap agCells)[(j + 1) * 3 + q]? = (l.flatMap agCells)[j * 3 + q]? := fun q => by
   rw [show (j + 1) * 3 + q = (j * 3 + q) + 1 + 1 + 1 by omega]; rfl
  exact ⟨(e 0).trans ih.1, (e 1).trans ih.2.1, (e 2).trans ih.2.2⟩
theorem flatI_at : ∀ (p : List Pr) (k : Nat) (h : k < p.length), (flatI p)[k * 4]? = some (.int .u16 p[k].1.op) ∧ (flatI p)[k * 4 + 1]? = some (.int .u32 p[k].1.ty) ∧ (flatI p)[k * 4 + 2]? = some (.int .u32 p[k].1.res) ∧ (flatI p)[k * 4 + 3]? = some (.slice p[k].2.1 p[k].1.args.length p[k].2.2)
 | [], k, h => absurd h (Nat.not_lt_zero _)
 | a :: l, 0, _ => ⟨rfl, rfl, rfl, rfl⟩
 | a :: l, k + 1, h => by
  have ih := flatI_at l k (Nat.lt_of_succ_lt_succ h)
  have e : ∀ q, (flatI (a :: l))[(k + 1) * 4 + q]? = (flatI l)[k * 4 + q]? := fun q => by
   rw [show (k + 1) * 4 + q = (k * 4 + q) + 1 + 1 + 1 + 1 by omega]; rfl
  exact ⟨(e 0).trans ih.1, (e 1).trans ih.2.1, (e 2).trans ih.2.2.1, (e 3).trans ih.2.2.2⟩
theorem ms_gen {W : World} {p : List Pr} {D : Nat → Prop} {g : Nat} (hr0 : ∀ q v, (flatI p)[q]? = some v → W.cell? ⟨g, q, none⟩ = some v) (hA : (argsA D p).holds W) (l : List In) (hl : p.map Prod.fst = l) (hp : 0 < l.length) (hf : ∀ k (hk : k < l.length), InFit l[k]) (hD : ∀ b, D b → b < W.heap.size) :
  Ms W g 0 l (fun k => (p.getD k (noIn, none, 0)).2) := by
 subst hl
 have hlen : (p.map Prod.fst).length = p.length := List.length_map ..
 have hfl := flatI_at p
 have e : ∀ k (hk : k < (p.map Prod.fst).length), (p.map Prod.fst)[k] = (p[k]'(by rw [← hlen]; exact hk)).1 := fun k hk => List.getElem_map ..
 have es : ∀ k (hk : k < (p.map Prod.fst).length), (p.getD k (noIn, none, 0)).2 = (p[k]'(by rw [← hlen]; exact hk)).2 := fun k hk => by
  rw [List.getD_eq_getElem?_getD, List.getElem?_eq_getElem (by rw [← hlen]; exact hk)]; rfl
 have hr : ∀ q v, (flatI p)[q]? = some v → W.cell? ⟨g, 0 + q, none⟩ = some v := fun q v hv => by rw [Nat.zero_add]; exact hr0 q v hv
 have hc : ∀ k (hk : k < (p.map Prod.fst).length), _ := fun k hk => hfl k (by rw [← hlen]; exact hk)
 have hz : g < W.heap.size := block_lt_of_cell (hr _ _ (hc 0 hp).1)
 refine ⟨hz, fun k hk => ?_, fun k hk => ?_, fun k hk => ?_, fun k hk => ?_, fun k hk => ⟨fun h0 => ?_⟩, fun k hk => (hf k hk).op, fun k hk => (hf k hk).ty, fun k hk => (hf k hk).res, fun k hk => Nat.le_trans (hf k hk).len (by omega)⟩
 ·rw [e k hk]; exact hr _ _ (hc k hk).1
 ·rw [e k hk]; exact hr _ _ (hc k hk).2.1
 ·rw [e k hk]; exact hr _ _ (hc k hk).2.2.1
 ·rw [e k hk, es k hk]; exact hr _ _ (hc k hk).2.2.2
 ·have hfk := hf k hk
  simp only [e k hk] at h0 hfk ⊢
  rw [es k hk]
  obtain ⟨b, e1, hb, hcc⟩ := hA (p[k]'(by rw [← hlen]; exact hk)) (List.getElem_mem _) h0
  refine ⟨b, 0, e1, hD b hb, fun q hq => ?_⟩
  have h3 := agCells_get _ q hq
  have h4 := hfk.arg _ (List.getElem_mem hq)
  exact ⟨by rw [Nat.zero_add]; exact hcc _ _ h3.1, by rw [Nat.zero_add]; exact hcc _ _ h3.2.1, by rw [Nat.zero_add]; exact hcc _ _ h3.2.2, h4.1, h4.2.1, Nat.le_trans h4.2.2 (by omega)⟩
theorem ms_of {X : Nat → Prop} {w W : World} {L : List As} {p : List Pr} {D : Nat → Prop} {base g c m : Nat} (h : Own X w L W) (i j : Nat) (hi : L[i]? = some (rw_ base 43 4 (.slice (some ⟨g, 0, none⟩) m c) m (flatI p))) (hj : L[j]? = some (argsA D p)) (l : List In) (hl : p.map Prod.fst = l) (hp : 0 < l.length) (hf : ∀ k (hk : k < l.length), InFit l[k]) : Ms W g 0 l (fun k => (p.getD k (noIn, none, 0)).2) :=
 ms_gen (fun q v hv => h.rowcell i q hi hv) (h.at j hj) l hl hp hf (fun b hb => (h.low _ (List.mem_of_getElem? hj) b hb).2)
theorem Own.rowset {X : Nat → Prop} {w W : World} {L : List As} (h : Own X w L W) (i j : Nat) (u : Value) {base g c n sz : Nat} {e : TypeId} {xs : List Value} (hi : L[i]? = some (rw_ base e sz (.slice (some ⟨g, 0, none⟩) n c) n xs)) : Own X w (L.set i (rw_ base e sz (.slice (some ⟨g, 0, none⟩) n c) n (xs.set j u))) (W.setCell ⟨g, j, none⟩ u) := by
 obtain ⟨h1, h2⟩ := World.ownsRow.stored (h.at i hi : W.ownsRow base e sz (.slice (some ⟨g, 0, none⟩) n c) n xs) j u
 exact h.grown i hi h2 h1 (fun k hk => .inl hk)
theorem sp_rowset {P : Program} {ops : Array Oper} {Q : Exit → Act → World → Prop} {l : List Oper} {a : Act} {X : Nat → Prop} {w W : World} {L : List As} (i : Nat) {base g c n sz j : Nat} {u : Value} {e : TypeId} {xs : List Value} (h : Own X w L W) (hi : L[i]? = some (rw_ base e sz (.slice (some ⟨g, 0, none⟩) n c) n xs)) (k : ∀ W', Own X w (L.set i (rw_ base e sz (.slice (some ⟨g, 0, none⟩) n c) n (xs.set j u))) W' → wpList P ops Q l a W') : wpList P ops Q l a (W.setCell ⟨g, j, none⟩ u) := k _ (h.rowset i j u hi)
theorem sp_rowsetc {P : Program} {Q : Exit → Act → World → Prop} {cd : Code} {a : Act} {X : Nat → Prop} {w W : World} {L : List As} (i : Nat) {base g c n sz j : Nat} {u : Value} {e : TypeId} {xs : List Value} (h : Own X w L W) (hi : L[i]? = some (rw_ base e sz (.slice (some ⟨g, 0, none⟩) n c) n xs)) (k : ∀ W', Own X w (L.set i (rw_ base e sz (.slice (some ⟨g, 0, none⟩) n c) n (xs.set j u))) W' → cd.wp P Q a W') : cd.wp P Q a (W.setCell ⟨g, j, none⟩ u) := k _ (h.rowset i j u hi)
theorem flatI_len (p : List Pr) : (flatI p).length = p.length * 4 := by
 induction p with
 | nil => rfl
 | cons a p ih => unfold flatI at ih ⊢; simp only [List.flatMap_cons, List.length_append, ih, List.length_cons]; show 4 + _ = _; omega
theorem agCells_set : ∀ (l : List Ag) (j : Nat) (h : j < l.length) (u : Nat), (l.flatMap agCells).set (j * 3 + 1) (.int .u32 u) = (l.set j ⟨l[j].kind, u, l[j].s⟩).flatMap agCells
 | [], j, h, _ => absurd h (Nat.not_lt_zero _)
 | a :: l, 0, _, u => rfl
 | a :: l, j + 1, h, u => by
  have ih := agCells_set l j (Nat.lt_of_succ_lt_succ h) u
  show ((a :: l).flatMap agCells).set ((j + 1) * 3 + 1) _ = (a :: l.set j _).flatMap agCells
  rw [show (j + 1) * 3 + 1 = (j * 3 + 1) + 1 + 1 + 1 by omega]
  exact congrArg (fun t => (Value.int .u8 a.kind) :: (Value.int .u32 a.n) :: (Value.string a.s) :: t) ih
theorem args_row {w W : World} {D : Nat → Prop} {p : List Pr} {L : List As} {base g c : Nat} {i : In} (h : Own noX w (rw_ base 45 3 (.slice (some ⟨g, 0, none⟩) i.args.length c) i.args.length (i.args.flatMap agCells) :: argsA D p :: L) W) : Own noX w (argsA (fun k => k = g ∨ D k) (p ++ [(i, some ⟨g, 0, none⟩, c)]) :: L) W := by
 have hB := h.at 1 rfl
 have h5 := h.join.recast 0 (A' := argsA (fun k => k = g ∨ D k) (p ++ [(i, some ⟨g, 0, none⟩, c)])) rfl (fun k hk => hk.imp (fun e => by rw [e]; rfl) id) (fun x hx h0 => by
  rcases List.mem_append.1 hx with hx | hx
  ·obtain ⟨b, e, hb, hcc⟩ := hB x hx h0
   exact ⟨b, e, .inr hb, hcc⟩
  ·rw [List.mem_singleton.1 hx]
   exact ⟨g, rfl, .inl rfl, fun j v hv => h.rowcell 0 j rfl hv⟩)
 exact h5
theorem args_no {w W : World} {D : Nat → Prop} {p : List Pr} {L : List As} {i : In} (h : Own noX w (argsA D p :: L) W) (hi : i.args = []) : Own noX w (argsA D (p ++ [(i, none, 0)]) :: L) W :=
 h.recast 0 (A' := argsA D (p ++ [(i, none, 0)])) rfl (fun k hk => hk) (fun x hx h0 => by
  rcases List.mem_append.1 hx with hx | hx
  ·exact h.at 0 rfl x hx h0
  ·rw [List.mem_singleton.1 hx] at h0
   simp [hi] at h0)
def aI (n : Nat) : Ag := ⟨1, n, ⟨#[]⟩⟩
def aN (n : Nat) : Ag := ⟨2, n, ⟨#[]⟩⟩
def aE (n : Nat) : Ag := ⟨4, n, ⟨#[]⟩⟩
def cstL (op a b : Nat) : List In := [⟨14, 0, 0, [aE 0, aE 0]⟩, ⟨21, 0, 1, [aN 32, aN 0]⟩, ⟨33, 0, 2, [aI 1]⟩, ⟨43, 1, 3, [aN a]⟩, ⟨43, 1, 4, [aN b]⟩, ⟨54, 1, 5, [aE 0, aI 2]⟩, ⟨248, 0, 6, []⟩, ⟨op, 1, 7, [aI 3, aI 4]⟩, ⟨254, 0, 0, [aI 7]⟩, ⟨56, 0, 0, []⟩]
theorem infoMdlC : (Tryz.prog.info? 28).map (·.size) = some 3 := by kernel_rfl
theorem cst_fit {op a b : Nat} (ho : op < 65536) (ha : a < 4294967296) (hb : b < 4294967296) : ∀ k (hk : k < (cstL op a b).length), InFit (cstL op a b)[k] := fun k hk => by
 have hz : (⟨#[]⟩ : ByteArray).size = 0 := rfl
 have h : ∀ i ∈ cstL op a b, InFit i := fun i hi => by
  simp only [cstL, List.mem_cons, List.not_mem_nil, or_false] at hi
  rcases hi with rfl | rfl | rfl | rfl | rfl | rfl | rfl | rfl | rfl | rfl <;> refine ⟨?_, ?_, ?_, ?_, ?_⟩ <;> simp [aI, aN, aE, hz] <;> omega
 exact h _ (List.getElem_mem hk)
theorem constant_own (op a b : Nat) (ho : op < 65536) (ha : a < 4294967296) (hb : b < 4294967296) (w : World) :
  Calls Tryz.prog 6 #[.int .u16 op, .int .u32 a, .int .u32 b] w fun e w' => ∃ g sv, e = .returned (.agg #[.int .u32 0, .int .u32 20, .slice (some ⟨g, 0, none⟩) 10 10]) ∧ Ms w' g 0 (cstL op a b) sv ∧ (∀ k (hk : k < (cstL op a b).length), (cstL op a b)[k].args = [] → sv k = (none, 0)) ∧ Below w.heap.size w w' := by
 have HO := Own.nil w
 have c0 : ∀ W, Calls Tryz.prog 10 #[.int .u32 0] W fun e w' => e = .returned (.agg #[.int .u8 4, .int .u32 0, .string ⟨#[]⟩]) ∧ Below W.heap.size W w' := fun W => kenum_own 0 W
 have n0 : ∀ W, Calls Tryz.prog 11 #[.int .u32 0] W fun e w' => e = .returned (.agg #[.int .u8 2, .int .u32 0, .string ⟨#[]⟩]) ∧ Below W.heap.size W w' := fun W => knumber_own 0 W
 have n32 : ∀ W, Calls Tryz.prog 11 #[.int .u32 32] W fun e w' => e = .returned (.agg #[.int .u8 2, .int .u32 32, .string ⟨#[]⟩]) ∧ Below W.heap.size W w' := fun W => knumber_own 32 W
 have nA : ∀ W, Calls Tryz.prog 11 #[.int .u32 a] W fun e w' => e = .returned (.agg #[.int .u8 2, .int .u32 a, .string ⟨#[]⟩]) ∧ Below W.heap.size W w' := fun W => knumber_own a W
 have nB : ∀ W, Calls Tryz.prog 11 #[.int .u32 b] W fun e w' => e = .returned (.agg #[.int .u8 2, .int .u32 b, .string ⟨#[]⟩]) ∧ Below W.heap.size W w' := fun W => knumber_own b W
 have d1 : ∀ W, Calls Tryz.prog 12 #[.int .u32 1] W fun e w' => e = .returned (.agg #[.int .u8 1, .int .u32 1, .string ⟨#[]⟩]) ∧ Below W.heap.size W w' := fun W => kid_own 1 W
 have d2 : ∀ W, Calls Tryz.prog 12 #[.int .u32 2] W fun e w' => e = .returned (.agg #[.int .u8 1, .int .u32 2, .string ⟨#[]⟩]) ∧ Below W.heap.size W w' := fun W => kid_own 2 W
 have d3 : ∀ W, Calls Tryz.prog 12 #[.int .u32 3] W fun e w' => e = .returned (.agg #[.int .u8 1, .int .u32 3, .string ⟨#[]⟩]) ∧ Below W.heap.size W w' := fun W => kid_own 3 W
 have d4 : ∀ W, Calls Tryz.prog 12 #[.int .u32 4] W fun e w' => e = .returned (.agg #[.int .u8 1, .int .u32 4, .string ⟨#[]⟩]) ∧ Below W.heap.size W w' := fun W => kid_own 4 W
 have d7 : ∀ W, Calls Tryz.prog 12 #[.int .u32 7] W fun e w' => e = .returned (.agg #[.int .u8 1, .int .u32 7, .string ⟨#[]⟩]) ∧ Below W.heap.size W w' := fun W => kid_own 7 W
 go_enter Tryz.func6, Tryz.ntmps6
 go_wp2_with (first | (((with_reducible first | refine sp_al HO ?_ | refine sp_alc HO ?_); intro g hg; rw [← hg.out]; clear hg); clear HO; (try clear kk); intro W' HO; (try simp only [zTz, zTs, zTa] at HO); (try have kk := HO.kk)) | (go_at_call 10; (with_reducible refine (c0 _).mono ?_); rintro e w1 ⟨rfl, hn1⟩; replace HO := HO.then hn1; clear hn1; (try clear kk); (try simp only [zTz, zTs, zTa, zDs, zDz] at HO); (try have kk := HO.kk)) | (go_at_call 11; (with_reducible first | refine (n0 _).mono ?_ | refine (n32 _).mono ?_ | refine (nA _).mono ?_ | refine (nB _).mono ?_); rintro e w1 ⟨rfl, hn1⟩; replace HO := HO.then hn1; clear hn1; (try clear kk); (try simp only [zTz, zTs, zTa, zDs, zDz] at HO); (try have kk := HO.kk)) | (go_at_call 12; (with_reducible first | refine (d1 _).mono ?_ | refine (d2 _).mono ?_ | refine (d3 _).mono ?_ | refine (d4 _).mono ?_ | refine (d7 _).mono ?_); rintro e w1 ⟨rfl, hn1⟩; replace HO := HO.then hn1; clear hn1; (try clear kk); (try simp only [zTz, zTs, zTa, zDs, zDz] at HO); (try have kk := HO.kk)) | ((refine sp_wk HO rfl 28 _ _ rfl rfl rfl (by kernel_rfl) (by rfl) (by simp [Value.oneCell']) ?_); clear HO; (try clear kk); intro W' HO; (try simp only [zTz, zTs, zTa] at HO); (try have kk := HO.kk)))
 (try clear kk)
 rename_i g8 V0 V1 V2 g7 V3 V4 V5 g6 V6 V7 g5 V8 V9 g4 V10 V11 g3 V12 V13 V14 g2 V15 V16 V17 g1 V18 g0 V20 V21
 have hp : ∃ p : List Pr, p = [(⟨14, 0, 0, [aE 0, aE 0]⟩, some ⟨g7, 0, none⟩, 2), (⟨21, 0, 1, [aN 32, aN 0]⟩, some ⟨g6, 0, none⟩, 2), (⟨33, 0, 2, [aI 1]⟩, some ⟨g5, 0, none⟩, 1), (⟨43, 1, 3, [aN a]⟩, some ⟨g4, 0, none⟩, 1), (⟨43, 1, 4, [aN b]⟩, some ⟨g3, 0, none⟩, 1), (⟨54, 1, 5, [aE 0, aI 2]⟩, some ⟨g2, 0, none⟩, 2), (⟨248, 0, 6, []⟩, none, 0), (⟨op, 1, 7, [aI 3, aI 4]⟩, some ⟨g1, 0, none⟩, 2), (⟨254, 0, 0, [aI 7]⟩, some ⟨g0, 0, none⟩, 1), (⟨56, 0, 0, []⟩, none, 0)] := ⟨_, rfl⟩
 obtain ⟨p, hp⟩ := hp
 have hr0 : ∀ q v, (flatI p)[q]? = some v → W'.cell? ⟨g, q, none⟩ = some v := fun q v hv => by
  rw [hp] at hv
  rw [HO.cells 0 rfl q, ← Array.getElem?_toList]
  exact hv
 have hA : (argsA (fun k => k < W'.heap.size) p).holds W' := fun x hx h0 => by
  rw [hp] at hx
  simp only [List.mem_cons, List.not_mem_nil, or_false] at hx
  rcases hx with rfl | rfl | rfl | rfl | rfl | rfl | rfl | rfl | rfl | rfl
  ·exact ⟨_, rfl, HO.lt 8 rfl, fun j v hv => by rw [HO.cells 8 rfl j, ← Array.getElem?_toList]; exact hv⟩
  ·exact ⟨_, rfl, HO.lt 7 rfl, fun j v hv => by rw [HO.cells 7 rfl j, ← Array.getElem?_toList]; exact hv⟩
  ·exact ⟨_, rfl, HO.lt 6 rfl, fun j v hv => by rw [HO.cells 6 rfl j, ← Array.getElem?_toList]; exact hv⟩
  ·exact ⟨_, rfl, HO.lt 5 rfl, fun j v hv => by rw [HO.cells 5 rfl j, ← Array.getElem?_toList]; exact hv⟩
  ·exact ⟨_, rfl, HO.lt 4 rfl, fun j v hv => by rw [HO.cells 4 rfl j, ← Array.getElem?_toList]; exact hv⟩
  ·exact ⟨_, rfl, HO.lt 3 rfl, fun j v hv => by rw [HO.cells 3 rfl j, ← Array.getElem?_toList]; exact hv⟩
  ·exact absurd h0 (Nat.lt_irrefl 0)
  ·exact ⟨_, rfl, HO.lt 2 rfl, fun j v hv => by rw [HO.cells 2 rfl j, ← Array.getElem?_toList]; exact hv⟩
  ·exact ⟨_, rfl, HO.lt 1 rfl, fun j v hv => by rw [HO.cells 1 rfl j, ← Array.getElem?_toList]; exact hv⟩
  ·exact absurd h0 (Nat.lt_irrefl 0)
 have hM := ms_gen hr0 hA (cstL op a b) (by rw [hp]; rfl) (by show 0 < 10; omega) (cst_fit ho ha hb) (fun b hb => hb)
 refine bodyPost_ret_by (res_row rfl _ _ _ 28 #[.int .u32 0, .int .u32 20, .slice (some ⟨g, 0, none⟩) 10 10] _ _ rfl (HO.blk 9 rfl) Tryz.underlying28 rfl infoMdlC) rfl ?_
 refine ⟨g, _, rfl, hM, fun k hk he => ?_, HO.below⟩
 rw [hp]
 rw [← getD_at (cstL op a b) hk] at he
 have hk' : k < 10 := hk
 clear hk
 rcases k with _ | _ | _ | _ | _ | _ | _ | _ | _ | _ | k
 ·cases he
 ·cases he
 ·cases he
 ·cases he
 ·cases he
 ·cases he
 ·rfl
 ·cases he
 ·cases he
 ·rfl
 ·omega
end Go.Proofs.YtindnnbopaeklaaGreatDoor
