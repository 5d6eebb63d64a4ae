/- The straight module out of the law's lines; one line turned; the module in memory. -/
import Derived.Test.YtlkolghiknbbfaaGreatDoorBg
import Derived.Deep.SlicePairs
set_option linter.unusedVariables false
set_option linter.unusedSimpArgs false
set_option maxRecDepth 100000
set_option maxHeartbeats 4000000
namespace Go.Proofs.YtlkolghiknbbfaaGreatDoor
open Go.RowKit
section
variable {n : Nat} {f : Nat → Ln}
theorem kw : ax.length = 23 := rfl
theorem JX : aj n f = ax ++ ((List.range n).map (fun j => dZ j (f j)) ++ bQ n) := by
 refine List.ext_getElem? fun k => ?_
 by_cases hk : k < 27 + n
 ·rw [List.getElem?_eq_getElem (by rw [ak]; exact hk), aF]
  by_cases a : k < 23
  ·rw [aI a, List.getElem?_append_left (by rw [kw]; exact a), List.getD_eq_getElem?_getD, List.getElem?_eq_getElem (show k < ax.length by rw [kw]; exact a)]; rfl
  ·rw [List.getElem?_append_right (by rw [kw]; omega), kw]
   by_cases b : k < 23 + n
   ·rw [dY (j := k - 23) (by omega) (by omega), List.getElem?_append_left (by simp; omega), List.getElem?_map, List.getElem?_range (by omega)]; rfl
   ·obtain ⟨j, rfl⟩ : ∃ j, k = 23 + n + j := ⟨k - (23 + n), by omega⟩
    have e : 23 + n + j - 23 = n + j := by omega
    rw [bI rfl, e, List.getElem?_append_right (by simp), List.length_map, List.length_range, Nat.add_sub_cancel_left];rcases (show j = 0 ∨ j = 1 ∨ j = 2 ∨ j = 3 by omega) with rfl | rfl | rfl | rfl <;> rfl
 ·rw [List.getElem?_eq_none (by rw [ak]; omega), List.getElem?_eq_none (by rw [List.length_append, List.length_append, kw, List.length_map, List.length_range, show (bQ n).length = 4 from rfl]; omega)]
theorem KI (ln : Nat → Nat × Int × Int) : qU ln n ++ [⟨62, 0, 0, [eU 12, eU (23 + n)]⟩] ++ [⟨62, 0, 0, [eU 13, eU 9]⟩] ++ [⟨253, 0, 0, []⟩] ++ [⟨56, 0, 0, []⟩] = aj n (xW ln) := by
 rw [JX];simp [qU, bQ]
theorem LY (ln : Nat → Nat × Int × Int) (hn : n ≤ 1000) (h : ∀ k, k < n → eH (ln k).1 = true) : bu n (xW ln) :=
 ⟨hn, h, fun _ _ => .inl rfl, fun k _ => ⟨Nat.le_add_right _ _, by have := nk (ln k).2.1 (k + 2) (by omega); show 22 + bh _ _ < _; omega⟩, fun k _ => ⟨Nat.le_add_right _ _, by have := nk (ln k).2.2 (k + 2) (by omega); show 22 + bh _ _ < _; omega⟩⟩
theorem Bf (ln : Nat → Nat × Int × Int) : Na n (xW ln) (27 + n) := ⟨Nat.le_refl _, fun _ _ _ => rfl, fun h => absurd h (Nat.lt_irrefl _)⟩
structure ui (i : In) : Prop where
 op : i.op < 65536
 ty : i.ty < 4294967296
 res : i.res < 4294967296
 len : i.args.length ≤ 1000
 arg : ∀ a ∈ i.args, a.kind < 256 ∧ a.n < 4294967296 ∧ a.s.size ≤ 1000
theorem KD : ((List.range 23).all fun k => decide ((ax.getD k ai).op < 65536) && decide ((ax.getD k ai).ty < 4294967296) && decide ((ax.getD k ai).res < 4294967296) && decide ((ax.getD k ai).args.length ≤ 1000) && (ax.getD k ai).args.all fun a => decide (a.kind < 256) && decide (a.n < 4294967296) && decide (a.s.size ≤ 1000)) = true := by kernel_rfl
theorem rD {x : Nat} (h : x < 4294967296) : (eU x).kind < 256 ∧ (eU x).n < 4294967296 ∧ (eU x).s.size ≤ 1000 := ⟨by show 1 < 256; omega, h, by show 0 ≤ 1000; omega⟩
theorem yP {op : Nat} (h : eH op = true) : op < 65536 := by
 have := dn h;simp only [List.mem_cons, List.not_mem_nil, or_false] at this;omega
theorem Em (hs : bu n f) {k : Nat} (hk : k < 27 + n) : ui (df n f k) := by
 have hc := kE (n := n) (f := f) k hk;have hsm := hs.small;generalize df n f k = i at hc ⊢
 cases hc with
 | head h =>
  have := List.all_eq_true.1 KD k (List.mem_range.2 h);simp only [Bool.and_eq_true, decide_eq_true_eq, List.all_eq_true] at this;exact ⟨this.1.1.1.1, this.1.1.1.2, this.1.1.2, this.1.2, fun a ha => by have := this.2 a ha; exact ⟨this.1.1, this.1.2, this.2⟩⟩
 | line j h hk =>
  have e1 := hs.x j h;have e2 := hs.y j h;have e3 := hs.ty j h;refine ⟨yP (hs.op j h), by show (f j).ty < _; omega, by show 24 + j < _; omega, by show 2 ≤ 1000; omega, fun a ha => ?_⟩;rcases List.mem_cons.1 ha with rfl | ha
  ·exact rD (by omega)
  ·rcases List.mem_cons.1 ha with rfl | ha
   ·exact rD (by omega)
   ·cases ha
 | tail j h hk =>
  have hid : ∀ {x y : Nat}, x < 4294967296 → y < 4294967296 → ui ⟨62, 0, 0, [eU x, eU y]⟩ := fun {x y} hx hy => ⟨by show 62 < 65536; omega, by show 0 < _; omega, by show 0 < _; omega, by show 2 ≤ 1000; omega, fun a ha => by
   rcases List.mem_cons.1 ha with rfl | ha
   ·exact rD hx
   ·rcases List.mem_cons.1 ha with rfl | ha
    ·exact rD hy
    ·cases ha⟩
  rcases (show j = 0 ∨ j = 1 ∨ j = 2 ∨ j = 3 by omega) with rfl | rfl | rfl | rfl
  ·exact hid (x := 12) (y := 23 + n) (by omega) (by omega)
  ·exact hid (x := 13) (y := 9) (by omega) (by omega)
  ·exact ⟨by show 253 < 65536; omega, by show 0 < _; omega, by show 0 < _; omega, by show 0 ≤ 1000; omega, fun a ha => (by cases ha)⟩
  ·exact ⟨by show 56 < 65536; omega, by show 0 < _; omega, by show 0 < _; omega, by show 0 ≤ 1000; omega, fun a ha => (by cases ha)⟩
theorem rT : ∀ (l : List Ag) (j : Nat) (h : j < l.length), (l.flatMap dm)[j * 3]? = some (.int .u8 l[j].kind) ∧ (l.flatMap dm)[j * 3 + 1]? = some (.int .u32 l[j].n) ∧ (l.flatMap dm)[j * 3 + 2]? = some (.string l[j].s)
 | [], j, h => absurd h (Nat.not_lt_zero _)
 | a :: l, 0, _ => ⟨rfl, rfl, rfl⟩
 | a :: l, j + 1, h => by
  have ih := rT l j (Nat.lt_of_succ_lt_succ h);have e : ∀ q, ((a :: l).flatMap dm)[(j + 1) * 3 + q]? = (l.flatMap dm)[j * 3 + q]? := fun q => by
   rw [show (j + 1) * 3 + q = (j * 3 + q) + 1 + 1 + 1 by omega]; rfl
  exact ⟨(e 0).trans ih.1, (e 1).trans ih.2.1, (e 2).trans ih.2.2⟩
theorem oZ : ∀ (p : List Pr) (k : Nat) (h : k < p.length), (dI p)[k * 4]? = some (.int .u16 p[k].1.op) ∧ (dI p)[k * 4 + 1]? = some (.int .u32 p[k].1.ty) ∧ (dI p)[k * 4 + 2]? = some (.int .u32 p[k].1.res) ∧ (dI p)[k * 4 + 3]? = some (.slice p[k].2.1 p[k].1.args.length p[k].2.2)
 | [], k, h => absurd h (Nat.not_lt_zero _)
 | a :: l, 0, _ => ⟨rfl, rfl, rfl, rfl⟩
 | a :: l, k + 1, h => by
  have ih := oZ l k (Nat.lt_of_succ_lt_succ h);have e : ∀ q, (dI (a :: l))[(k + 1) * 4 + q]? = (dI l)[k * 4 + q]? := fun q => by
   rw [show (k + 1) * 4 + q = (k * 4 + q) + 1 + 1 + 1 + 1 by omega]; rfl
  exact ⟨(e 0).trans ih.1, (e 1).trans ih.2.1, (e 2).trans ih.2.2.1, (e 3).trans ih.2.2.2⟩
theorem Ot {W : World} {p : List Pr} {D : Nat → Prop} {g : Nat} (hr0 : ∀ q v, (dI p)[q]? = some v → W.cell? ⟨g, q, none⟩ = some v) (hA : (fD D p).holds W) (l : List In) (hl : p.map Prod.fst = l) (hp : 0 < l.length) (hf : ∀ k (hk : k < l.length), ui l[k]) (hD : ∀ b, D b → b < W.heap.size) :
  Ms W g 0 l (fun k => (p.getD k (ai, none, 0)).2) := by
 subst hl;have hlen : (p.map Prod.fst).length = p.length := List.length_map ..;have hfl := oZ p;have e : ∀ k (hk : k < (p.map Prod.fst).length), (p.map Prod.fst)[k] = (p[k]'(by rw [← hlen]; exact hk)).1 := fun k hk => List.getElem_map ..
 have es : ∀ k (hk : k < (p.map Prod.fst).length), (p.getD k (ai, none, 0)).2 = (p[k]'(by rw [← hlen]; exact hk)).2 := fun k hk => by
  rw [List.getD_eq_getElem?_getD, List.getElem?_eq_getElem (by rw [← hlen]; exact hk)]; rfl
 have hr : ∀ q v, (dI p)[q]? = some v → W.cell? ⟨g, 0 + q, none⟩ = some v := fun q v hv => by rw [Nat.zero_add]; exact hr0 q v hv
 have hc : ∀ k (hk : k < (p.map Prod.fst).length), _ := fun k hk => hfl k (by rw [← hlen]; exact hk)
 have hz : g < W.heap.size := block_lt_of_cell (hr _ _ (hc 0 hp).1);refine ⟨hz, fun k hk => ?_, fun k hk => ?_, fun k hk => ?_, fun k hk => ?_, fun k hk => ⟨fun h0 => ?_⟩, fun k hk => (hf k hk).op, fun k hk => (hf k hk).ty, fun k hk => (hf k hk).res, fun k hk => Nat.le_trans (hf k hk).len (by omega)⟩
 ·rw [e k hk]; exact hr _ _ (hc k hk).1
 ·rw [e k hk]; exact hr _ _ (hc k hk).2.1
 ·rw [e k hk]; exact hr _ _ (hc k hk).2.2.1
 ·rw [e k hk, es k hk]; exact hr _ _ (hc k hk).2.2.2
 ·have hfk := hf k hk
  simp only [e k hk] at h0 hfk ⊢;rw [es k hk];obtain ⟨b, e1, hb, hcc⟩ := hA (p[k]'(by rw [← hlen]; exact hk)) (List.getElem_mem _) h0;refine ⟨b, 0, e1, hD b hb, fun q hq => ?_⟩;have h3 := rT _ q hq;have h4 := hfk.arg _ (List.getElem_mem hq);exact ⟨by rw [Nat.zero_add]; exact hcc _ _ h3.1, by rw [Nat.zero_add]; exact hcc _ _ h3.2.1, by rw [Nat.zero_add]; exact hcc _ _ h3.2.2, h4.1, h4.2.1, Nat.le_trans h4.2.2 (by omega)⟩
theorem Jt {X : Nat → Prop} {w W : World} {L : List As} {p : List Pr} {D : Nat → Prop} {base g c m : Nat} (h : Own X w L W) (i j : Nat) (hi : L[i]? = some (bM base 73 4 (.slice (some ⟨g, 0, none⟩) m c) m (dI p))) (hj : L[j]? = some (fD D p)) (l : List In) (hl : p.map Prod.fst = l) (hp : 0 < l.length) (hf : ∀ k (hk : k < l.length), ui l[k]) : Ms W g 0 l (fun k => (p.getD k (ai, none, 0)).2) :=
 Ot (fun q v hv => h.rowcell i q hi hv) (h.at j hj) l hl hp hf (fun b hb => (h.low _ (List.mem_of_getElem? hj) b hb).2)
end
structure JH (n : Nat) (f : Nat → Ln) (w : World) (e : Ending) (w' : World) : Prop where
 at_ : ∃ g c p D, e = .returned (.agg #[.int .u32 0, .int .u32 (30 + n : Nat), .slice (some ⟨g, 0, none⟩) (aj n f).length c]) ∧ (aj n f).length ≤ c ∧ uO p (aj n f) ∧ Own aK w [bM w.heap.size 73 4 (.slice (some ⟨g, 0, none⟩) (aj n f).length c) (aj n f).length (dI p), fD D p] w'
theorem vE {D : Nat → Prop} {p : List Pr} {W : World} (h : (fD D p).holds W) (i : In) (hi : i.args = []) : (fD D (p ++ [(i, none, 0)])).holds W := fun x hx h0 => by
 rcases List.mem_append.1 hx with hx | hx
 ·exact h x hx h0
 ·rw [List.mem_singleton.1 hx] at h0
  simp [hi] at h0
end Go.Proofs.YtlkolghiknbbfaaGreatDoor
namespace Go.Proofs.YtlkolghiknbbfaaGreatDoor
open Go.ChangeShapes Go.WideShapes Go.ChangeAt Go.RowKit Go.Deep
theorem xC {H : Type} {enc : TypeId × Value → H} {P : Program} {w : World} {base : Nat} {spare : Nat → Bool} {held : Bool} {t e : TypeId} {f0 f1 f2 : Field} {k0 k1 k2 : IntKind} {fuel : Nat} {cs : List Value} {x : DataW H × List MemPlace} (ht : P.underlying t = some (.slice e)) (he : P.underlying e = some (.struct #[f0, f1, f2]))
  (ce : P.cellsOf e = 3) (o0 : f0.offset = 0) (o1 : f1.offset = 1) (o2 : f2.offset = 2) (c0 : P.cellsOf f0.type = 1) (c1 : P.cellsOf f1.type = 1) (c2 : P.cellsOf f2.type = 1)
  (u0 : P.underlying f0.type = some (.int k0)) (u1 : P.underlying f1.type = some (.int k1)) (u2 : P.underlying f2.type = some (.int k2))
  (h : DataW.trod enc P w base spare held fuel t cs = some x) :
  cs = [.slice none 0 0] ∨ ∃ (a : Addr) (len cap : Nat) (z : Nat → Int × Int × Int), cs = [.slice (some a) len cap] ∧ len ≤ cap ∧ cap ≤ maxLen ∧
   ∀ i, i < len → w.cell? (a.add (i * 3)) = some (.int k0 (z i).1) ∧ w.cell? (a.add (i * 3 + 1)) = some (.int k1 (z i).2.1) ∧ w.cell? (a.add (i * 3 + 2)) = some (.int k2 (z i).2.2) ∧ (Lit.int k0 (z i).1).wf = true ∧ (Lit.int k1 (z i).2.1).wf = true ∧ (Lit.int k2 (z i).2.2).wf = true := by
 rcases open_slice ht h with h0 | ⟨a, len, cap, m, n, D, Pl, rfl, hb, hl, hm, hmm, rfl, hx⟩
 ·exact Or.inl h0.1
 right;have hlm : len ≤ m := by rw [hmm]; split <;> omega
 have each : ∀ i, i < len → ∃ q : Int × Int × Int, w.cell? (a.add (i * 3)) = some (.int k0 q.1) ∧ w.cell? (a.add (i * 3 + 1)) = some (.int k1 q.2.1) ∧ w.cell? (a.add (i * 3 + 2)) = some (.int k2 q.2.2) ∧ (Lit.int k0 q.1).wf = true ∧ (Lit.int k1 q.2.1).wf = true ∧ (Lit.int k2 q.2.2).wf = true := by
  intro i hi;obtain ⟨cs', h1, h2⟩ := hx i (by omega);rw [ce] at h1;obtain ⟨_, hlen, hcell⟩ := World.cells?_some h1;obtain ⟨xs, k, hk, hxy, _, hxl, hf⟩ := DataW.trod_struct he h2
  match xs, hxl, cs', hlen with
  | [y0, y1, y2], _, [v0, v1, v2], _ =>
   have g0 := hf 0 f0 rfl;have g1 := hf 1 f1 rfl;have g2 := hf 2 f2 rfl;simp [o0, o1, o2, c0, c1, c2] at g0 g1 g2;have e0 := hcell 0 (by omega);have e1 := hcell 1 (by omega);have e2 := hcell 2 (by omega);rw [add_add] at e0 e1 e2;obtain ⟨n0, a0, _, w0⟩ := DataW.trod_int u0 g0;obtain ⟨n1, a1, _, w1⟩ := DataW.trod_int u1 g1;obtain ⟨n2, a2, _, w2⟩ := DataW.trod_int u2 g2;simp only [List.cons.injEq, and_true] at a0 a1 a2;subst a0 a1 a2;exact ⟨(n0, n1, n2), by simpa using e0, by simpa using e1, by simpa using e2, w0, w1, w2⟩
 obtain ⟨q, hq⟩ := choose_lt each;exact ⟨a, len, cap, q, rfl, hl, hm, hq⟩
theorem KH {w : World} {x : Addr} {v : Value} (h0 : w.cell? (x.add 0) = some v) : ∃ b o, x = ⟨b, o, none⟩ := by
 obtain ⟨b, o, sp⟩ := x
 cases sp with
 | none => exact ⟨b, o, rfl⟩
 | some s =>
  simp only [Addr.add, if_true, World.cell?] at h0
  split at h0
  ·simp at h0
  ·cases h0
theorem JZ {H : Type} {enc : TypeId × Value → H} {W : World} {a : Option Addr} {m cap : Nat} {d : DataW H} {p1 : List MemPlace}
  (h : ∃ fuel, DataW.trod enc Tryz.prog W 0 (fun _ => true) true fuel 23 (Value.slice a m cap).cells.toList = some (d, p1)) :
  ∃ b o ln, (0 < m → a = some ⟨b, o, none⟩) ∧ wP W b o m ln := by
 obtain ⟨fuel, hf⟩ := h;rcases xC (f0 := { name := "Op", type := 26, offset := 0, embedded := false, tag := "", pkgPath := "", byteOffset := 0 }) (f1 := { name := "A", type := 3, offset := 1, embedded := false, tag := "", pkgPath := "", byteOffset := 8 }) (f2 := { name := "B", type := 3, offset := 2, embedded := false, tag := "", pkgPath := "", byteOffset := 16 }) Tryz.underlying23 Tryz.underlying28 (by kernel_rfl) rfl rfl rfl (by kernel_rfl) (by kernel_rfl) (by kernel_rfl) Tryz.underlying26 Tryz.underlying3 Tryz.underlying3 hf with hcs | ⟨x, len, cp, z, hcs, hl, hm, hx⟩
 ·simp only [Value.cells, List.cons.injEq, Value.slice.injEq, and_true] at hcs
  obtain ⟨rfl, rfl, rfl⟩ := hcs;exact ⟨0, 0, fun _ => (0, 0, 0), fun h => absurd h (Nat.lt_irrefl _), ⟨fun h => absurd h (Nat.lt_irrefl _), fun k h => absurd h (Nat.not_lt_zero _), fun k h => absurd h (Nat.not_lt_zero _), fun k h => absurd h (Nat.not_lt_zero _), fun k h => absurd h (Nat.not_lt_zero _), fun k h => absurd h (Nat.not_lt_zero _), fun k h => absurd h (Nat.not_lt_zero _)⟩⟩
 ·simp only [Value.cells, List.cons.injEq, Value.slice.injEq, and_true] at hcs
  obtain ⟨rfl, rfl, rfl⟩ := hcs;rcases Nat.eq_zero_or_pos m with rfl | hpos
  ·exact ⟨0, 0, fun _ => (0, 0, 0), fun h => absurd h (Nat.lt_irrefl _), ⟨fun h => absurd h (Nat.lt_irrefl _), fun k h => absurd h (Nat.not_lt_zero _), fun k h => absurd h (Nat.not_lt_zero _), fun k h => absurd h (Nat.not_lt_zero _), fun k h => absurd h (Nat.not_lt_zero _), fun k h => absurd h (Nat.not_lt_zero _), fun k h => absurd h (Nat.not_lt_zero _)⟩⟩
  ·obtain ⟨b, o, rfl⟩ := KH (w := W) (hx 0 hpos).1
   have hz : ∀ i, i < m → 0 ≤ (z i).1 ∧ (z i).1 < 65536 ∧ (-9223372036854775808 ≤ (z i).2.1 ∧ (z i).2.1 < 9223372036854775808) ∧ (-9223372036854775808 ≤ (z i).2.2 ∧ (z i).2.2 < 9223372036854775808) := fun i hi => by
    obtain ⟨_, _, _, w0, w1, w2⟩ := hx i hi;simp [Lit.wf, IntKind.min, IntKind.max, IntKind.signed, IntKind.bits] at w0 w1 w2;omega
   refine ⟨b, o, fun k => ((z k).1.toNat, (z k).2.1, (z k).2.2), fun _ => rfl, ⟨fun _ => ?_, fun k hk => ?_, fun k hk => ?_, fun k hk => ?_, fun k hk => ?_, fun k hk => (hz k hk).2.2.1, fun k hk => (hz k hk).2.2.2⟩⟩
   ·have := (hx 0 hpos).1
    rw [bH] at this;exact block_lt_of_cell this
   ·have := (hx k hk).1
    rw [bH] at this;rw [this];simp only [Int.toNat_of_nonneg (hz k hk).1]
   ·have := (hx k hk).2.1
    rw [bH] at this;exact this
   ·have := (hx k hk).2.2.1
    rw [bH] at this;exact this
   ·have := hz k hk
    simp only;omega
end Go.Proofs.YtlkolghiknbbfaaGreatDoor
