/- Layout: the whole cut of a module of one function. -/
import Derived.Test.YtlkolghiknbbfaaGreatDoorAi
set_option linter.unusedVariables false
set_option linter.unusedSimpArgs false
namespace Go.Proofs.YtlkolghiknbbfaaGreatDoor
open Go.RowKit
def Exit.hop (P : Program) (c : Code) (Q : Exit → Act → World → Prop) : Nat → Exit → Act → World → Prop
 | 0, e, a, w => Exit.noGoto Q e a w
 | n + 1, .goto l, a, w => ∃ r, findLabel c l = some r ∧ r.wp P (Exit.hop P c Q n) a w
 | n + 1, e, a, w => Q e a w
theorem wY {P : Program} {c : Code} {Q : Exit → Act → World → Prop} {a : Act} {w : World} (n : Nat) (h : c.wp P (Exit.hop P c Q n) a w) : (Code.scope c).wp P Q a w := by
 intro b k cs;have key : ∀ n (r : Code) a w, r.wp P (Exit.hop P c Q n) a w → ∃ e a' w', Q e a' w' ∧ Arrives P (lone (b.at a (.code r :: .inScope c :: k)) cs w) b k cs e a' w' := by
  intro n
  induction n with
  | zero =>
   intro r a w h;obtain ⟨e, a₁, w₁, hq, harr⟩ := h b (.inScope c :: k) cs
   cases e with
   | normal => exact ⟨.normal, a₁, w₁, hq, Steps.trans harr (.one step_inScope)⟩
   | exit id => exact ⟨.exit id, a₁, w₁, hq, fun k' hk => harr k' (by simp [exitTo, hk])⟩
   | goto l => exact hq.elim
   | ret => exact ⟨_, a₁, w₁, hq, harr⟩
   | panic ch => exact ⟨_, a₁, w₁, hq, harr⟩
   | outgrown => exact ⟨_, a₁, w₁, hq, harr⟩
  | succ n ih =>
   intro r a w h;obtain ⟨e, a₁, w₁, hq, harr⟩ := h b (.inScope c :: k) cs
   cases e with
   | normal => exact ⟨.normal, a₁, w₁, hq, Steps.trans harr (.one step_inScope)⟩
   | exit id => exact ⟨.exit id, a₁, w₁, hq, fun k' hk => harr k' (by simp [exitTo, hk])⟩
   | goto l =>
    obtain ⟨r', hf, hw⟩ := hq;obtain ⟨e₂, a₂, w₂, hq₂, harr₂⟩ := ih r' a₁ w₁ hw;have hg : gotoIn l (.inScope c :: k) = some (.code r' :: .inScope c :: k) := by simp [gotoIn, hf]
    exact ⟨e₂, a₂, w₂, hq₂, .of_steps (harr _ hg) harr₂⟩
   | ret => exact ⟨_, a₁, w₁, hq, harr⟩
   | panic ch => exact ⟨_, a₁, w₁, hq, harr⟩
   | outgrown => exact ⟨_, a₁, w₁, hq, harr⟩
 obtain ⟨e, a₁, w₁, hq, harr⟩ := key n c a w h;exact ⟨e, a₁, w₁, hq, .of_steps (.one step_scope) harr⟩
theorem uH {P : Program} {c : Code} {Q : Exit → Act → World → Prop} {a : Act} {w : World} (n : Nat) (r0 : Code) (h0 : findLabel c 0 = some r0)
  (h : ∀ c' r0', Hid (findLabel c' 0 = some r0' ∧ r0' = r0) → c.wp P (Exit.hop P c' Q n) a w) : (Code.scope c).wp P Q a w :=
 wY n (h c r0 (hid ⟨h0, rfl⟩))
theorem LM {P : Program} {c : Code} {Q : Exit → Act → World → Prop} {a : Act} {w : World} (h : Q .ret a w) : Exit.hop P c Q 0 .ret a w := h
structure jf (l : List In) (t : Nat → Nat) (m : Nat) : Prop where
 cut : rF l t
 len : l.length = m + 2
 fits : t 8 + 2 ≤ m
 fn : bC l (t 8) = 1
 lab : bC l (t 8 + 1) = 3
 no5 : bC l (t 8 + 2) ≠ 5
 plain : ∀ j, t 8 + 2 ≤ j → j < m → bC l j = 0
 ender : bC l m = 7
 fin : bC l (m + 1) = 8
def dB (t : Nat → Nat) (n : Nat) : Nat → Int := fun i => if i < 16 then (if i % 2 = 0 then (t (i / 2) : Int) else (t (i / 2 + 1) : Int)) else if i = 16 then t 8 else n
theorem el_fn : El 103 137 5 72 := El.of Tryz.underlying103 (z := .agg #[.int .u32 0, .int .i64 0, .slice none 0 0, .slice none 0 0, .int .i64 0]) (by kernel_rfl) rfl (by omega)
theorem AL {a : Option Addr} {n cap pos : Nat} {ps : Nat → Int} {fv : Value} (i : Nat) (x y : Int) (hi : i + 1 < 20) :
  upd (upd (Dn a n cap pos ps fv) (2 + i) (.int .i64 x)) (2 + i + 1) (.int .i64 y) = Dn a n cap pos (upd (upd ps i x) (i + 1) y) fv := by
 funext j
 unfold upd Dn;by_cases h1 : j = 2 + i + 1
 ·subst h1
  rw [if_pos rfl, if_neg (by omega), if_neg (by omega), if_neg (by omega)]
  congr 1
  show y = _
  simp only;rw [if_pos (by omega)]
 ·rw [if_neg h1]
  by_cases h2 : j = 2 + i
  ·subst h2
   rw [if_pos rfl, if_neg (by omega), if_neg (by omega), if_neg (by omega)]
   congr 1
   simp only;rw [if_neg (by omega), if_pos (by omega)]
  ·rw [if_neg h2]
   by_cases h3 : j = 0
   ·rw [if_pos h3, if_pos h3]
   ·rw [if_neg h3, if_neg h3]
    by_cases h4 : j = 1
    ·rw [if_pos h4, if_pos h4]
    ·rw [if_neg h4, if_neg h4]
     by_cases h5 : j = 22
     ·rw [if_pos h5, if_pos h5]
     ·rw [if_neg h5, if_neg h5]
      congr 1
      simp only;rw [if_neg (show ¬ j - 2 = i + 1 by omega), if_neg (show ¬ j - 2 = i by omega)]
theorem Cu.ps_ext {C n cap pos : Nat} {a : Option Addr} {ps ps' : Nat → Int} {fv : Value} {W : World} (h : Cu C a n cap pos ps fv W) (he : ∀ i, i < 20 → ps i = ps' i) : Cu C a n cap pos ps' fv W := by
 obtain ⟨cs, h1, h2, h3⟩ := h.row;refine ⟨⟨cs, h1, h2, fun j hj => (h3 j hj).trans ?_⟩⟩;unfold Dn;by_cases h3 : j = 0
 ·rw [if_pos h3, if_pos h3]
 ·rw [if_neg h3, if_neg h3]
  by_cases h4 : j = 1
  ·rw [if_pos h4, if_pos h4]
  ·rw [if_neg h4, if_neg h4]
   by_cases h5 : j = 22
   ·rw [if_pos h5, if_pos h5]
   ·rw [if_neg h5, if_neg h5, he (j - 2) (by omega)]
theorem Oh (t : Nat → Nat) (ps : Nat → Int) (n : Nat) (i : Nat) (hi : i < 20) : upd (upd (upd (upd (lL t ps 8) 16 (t 8)) (16 + 1) (n : Int)) 18 n) (18 + 1) n i = dB t n i := by
 unfold upd lL dB;by_cases h1 : i < 16
 ·rw [if_neg (by omega), if_neg (by omega), if_neg (by omega), if_neg (by omega), if_pos (by omega), if_pos h1]
 ·rw [if_neg h1]
  by_cases h2 : i = 16
  ·subst h2; rfl
  ·rw [if_neg h2]
   (repeat' split) <;> first | rfl | omega
theorem Od {a : Option Addr} {n cap pos : Nat} {ps : Nat → Int} {fv : Value} (v : Value) : upd (Dn a n cap pos ps fv) 22 v = Dn a n cap pos ps v := by
 funext j
 unfold upd Dn;by_cases h5 : j = 22
 ·subst h5; rfl
 ·rw [if_neg h5]
  by_cases h3 : j = 0
  ·rw [if_pos h3, if_pos h3]
  ·rw [if_neg h3, if_neg h3, if_neg h5, if_neg h5]
structure lG (C F : Nat) (a : Option Addr) (n cap pos : Nat) (ps : Nat → Int) (fc : Array Value) (w W : World) : Prop where
 cu : Cu C a n cap pos ps (.slice none 0 0) W
 f : W.heap[F]? = some (.cells fc 137 (0, 0))
 only : Only C w W
section
variable {C F n cap pos : Nat} {a : Option Addr} {ps : Nat → Int} {fc : Array Value} {w W W' : World}
theorem lG.then (h : lG C F a n cap pos ps fc w W) (hb : Bl W W') : lG C F a n cap pos ps fc w W' :=
 ⟨h.cu.below hb h.cu.lt, (hb.block F (Array.getElem?_eq_some_iff.1 h.f).1).trans h.f, h.only.trans (Only.of hb)⟩
theorem lG.only2 (h : lG C F a n cap pos ps fc w W) {q : Nat} (hc : Cu C a n cap q ps (.slice none 0 0) W') (ho : Only C W W') (hF : F ≠ C) : lG C F a n cap q ps fc w W' :=
 ⟨hc, (ho.block F (Array.getElem?_eq_some_iff.1 h.f).1 hF).trans h.f, h.only.trans ho⟩
theorem lG.setPos (h : lG C F a n cap pos ps fc w W) (q : Nat) {v : Int} (hv : v = q) (hF : F ≠ C) : lG C F a n cap q ps fc w (W.setCell ⟨C, 1, none⟩ (.int .i64 v)) := by
 subst hv;have h2 := h.cu.set 1 (.int .i64 (q : Int));rw [oH] at h2;exact h.only2 h2 (Only.set _ _ _) hF
theorem lG.setF (h : lG C F a n cap pos ps fc w W) (j : Nat) (v : Value) (hw : w.heap.size ≤ F) (hF : F ≠ C) : lG C F a n cap pos ps (fc.setIfInBounds j v) w (W.setCell ⟨F, j, none⟩ v) :=
 ⟨h.cu.other (heap_setCell_other W ⟨F, j, none⟩ C v (Ne.symm hF)), heap_setCell_same _ _ j _ _ _ h.f,
  ⟨h.only.os, h.only.tape, h.only.output, by rw [World.size_setCell]; exact h.only.size, fun k hk hg => (heap_setCell_other W ⟨F, j, none⟩ k v (by show k ≠ F; omega)).trans (h.only.block k hk hg)⟩⟩
theorem lG.cells (h : lG C F a n cap pos ps fc w W) : W.cell? ⟨C, 0, none⟩ = some (.slice a n cap) ∧ W.cell? ⟨C, 1, none⟩ = some (.int .i64 pos) ∧ W.cell? ⟨C, 22, none⟩ = some (.slice none 0 0) ∧ W.frozen? ⟨C, 1, none⟩ = false ∧ W.frozen? ⟨C, 22, none⟩ = false ∧ C < W.heap.size ∧ F < W.heap.size :=
 ⟨h.cu.cell 0 (by omega), h.cu.cell 1 (by omega), h.cu.cell 22 (by omega), h.cu.frozen 1, h.cu.frozen 22, h.cu.lt, (Array.getElem?_eq_some_iff.1 h.f).1⟩
end
theorem nJ {W : World} {p : Nat} {x y z u v : Value} {t : TypeId} (h : W.heap[p]? = some (.cells #[x, y, z, u, v] t (0, 0))) : W.cell? ⟨p, 0, none⟩ = some x ∧ W.cell? ⟨p, 1, none⟩ = some y ∧ W.cell? ⟨p, 2, none⟩ = some z ∧ W.cell? ⟨p, 3, none⟩ = some u ∧ W.cell? ⟨p, 4, none⟩ = some v :=
 ⟨(cell_of_row _ _ 0 _ _ _ h).trans rfl, (cell_of_row _ _ 1 _ _ _ h).trans rfl, (cell_of_row _ _ 2 _ _ _ h).trans rfl, (cell_of_row _ _ 3 _ _ _ h).trans rfl, (cell_of_row _ _ 4 _ _ _ h).trans rfl⟩
structure qQ (C F g : Nat) (a : Option Addr) (n cap pos : Nat) (ps : Nat → Int) (fc : Array Value) (lab x y : Nat) (w W : World) : Prop where
 st : lG C F a n cap pos ps fc w W
 hF : w.heap.size ≤ F
 hC : F ≠ C
 gF : F < g
 gC : C < g
 lt : g < W.heap.size
 g0 : W.cell? ⟨g, 0, none⟩ = some (.int .u32 lab)
 g1 : W.cell? ⟨g, 1, none⟩ = some (.int .i64 x)
 g2 : W.cell? ⟨g, 2, none⟩ = some (.int .i64 y)
section
variable {C F g n cap pos lab x y : Nat} {a : Option Addr} {ps : Nat → Int} {fc : Array Value} {w W W' : World}
theorem qQ.then (h : qQ C F g a n cap pos ps fc lab x y w W) (hb : Bl W W') : qQ C F g a n cap pos ps fc lab x y w W' :=
 ⟨h.st.then hb, h.hF, h.hC, h.gF, h.gC, Nat.lt_of_lt_of_le h.lt hb.size, ae h.g0 h.lt hb, ae h.g1 h.lt hb, ae h.g2 h.lt hb⟩
theorem qQ.setPos (h : qQ C F g a n cap pos ps fc lab x y w W) (q : Nat) {v : Int} (hv : v = q) : qQ C F g a n cap q ps fc lab x y w (W.setCell ⟨C, 1, none⟩ (.int .i64 v)) :=
 have hk : ∀ i, (W.setCell ⟨C, 1, none⟩ (.int .i64 v)).cell? ⟨g, i, none⟩ = W.cell? ⟨g, i, none⟩ := fun i => World.cell?_of_block (a := ⟨g, i, none⟩) (heap_setCell_other W ⟨C, 1, none⟩ g _ (by have := h.gC; show g ≠ C; omega))
 ⟨h.st.setPos q hv h.hC, h.hF, h.hC, h.gF, h.gC, by rw [World.size_setCell]; exact h.lt, (hk 0).trans h.g0, (hk 1).trans h.g1, (hk 2).trans h.g2⟩
theorem qQ.setF (h : qQ C F g a n cap pos ps fc lab x y w W) (j : Nat) (v : Value) : qQ C F g a n cap pos ps (fc.setIfInBounds j v) lab x y w (W.setCell ⟨F, j, none⟩ v) :=
 have hk : ∀ i, (W.setCell ⟨F, j, none⟩ v).cell? ⟨g, i, none⟩ = W.cell? ⟨g, i, none⟩ := fun i => World.cell?_of_block (a := ⟨g, i, none⟩) (heap_setCell_other W ⟨F, j, none⟩ g _ (by have := h.gF; show g ≠ F; omega))
 ⟨h.st.setF j v h.hF h.hC, h.hF, h.hC, h.gF, h.gC, by rw [World.size_setCell]; exact h.lt, (hk 0).trans h.g0, (hk 1).trans h.g1, (hk 2).trans h.g2⟩
end
theorem JU {C F n cap p m id fat lab : Nat} {a : Option Addr} {ps : Nat → Int} {w W W' : World} {fc : Array Value} (h : lG C F a n cap p ps fc w W) (k : wG C F p m id fat lab a n cap ps (.slice none 0 0) (.slice none 0 0) W W') (hF : w.heap.size ≤ F) (hC : F ≠ C) :
  ∃ g c2, qQ C F g a n cap (m + 1) ps #[.int .u32 id, .int .i64 fat, .slice none 0 0, .slice (some ⟨g, 0, none⟩) 1 c2, .int .i64 0] lab p (m + 1) w W' := by
 obtain ⟨g, c2, h1, h2, h3, h4, h5, h6⟩ := k.blk;have hz := h.cells;refine ⟨g, c2, ⟨⟨k.cu, h1, ⟨k.but.os.trans h.only.os, k.but.tape.trans h.only.tape, k.but.output.trans h.only.output, Nat.le_trans h.only.size k.but.size, fun i hi hg => (k.but.block i (Nat.lt_of_lt_of_le hi h.only.size) hg (by omega)).trans (h.only.block i hi hg)⟩⟩, hF, hC, by omega, by omega, h3, h4, h5, h6⟩⟩
structure kJ (w : World) (lo g at_ m id lab : Nat) : Prop where
 low : lo ≤ g
 lt : g < w.heap.size
 c0 : w.cell? ⟨g, 0, none⟩ = some (.int .u32 id)
 c1 : w.cell? ⟨g, 1, none⟩ = some (.int .i64 at_)
 c2 : w.cell? ⟨g, 2, none⟩ = some (.slice none 0 0)
 c3 : ∃ gb cb, w.cell? ⟨g, 3, none⟩ = some (.slice (some ⟨gb, 0, none⟩) 1 cb) ∧ lo ≤ gb ∧ gb < w.heap.size ∧ w.cell? ⟨gb, 0, none⟩ = some (.int .u32 lab) ∧ w.cell? ⟨gb, 1, none⟩ = some (.int .i64 ((at_ + 1 : Nat) : Int)) ∧ w.cell? ⟨gb, 2, none⟩ = some (.int .i64 ((m + 1 : Nat) : Int))
 c4 : w.cell? ⟨g, 4, none⟩ = some (.int .i64 ((m + 1 : Nat) : Int))
theorem kJ.below {w w' : World} {lo g at_ m id lab : Nat} (h : kJ w lo g at_ m id lab) (hb : Bl w w') : kJ w' lo g at_ m id lab := by
 obtain ⟨gb, cb, a1, a2, a3, a4, a5, a6⟩ := h.c3;exact ⟨h.low, Nat.lt_of_lt_of_le h.lt hb.size, ae h.c0 h.lt hb, ae h.c1 h.lt hb, ae h.c2 h.lt hb, ⟨gb, cb, ae a1 h.lt hb, a2, Nat.lt_of_lt_of_le a3 hb.size, ae a4 a3 hb, ae a5 a3 hb, ae a6 a3 hb⟩, ae h.c4 h.lt hb⟩
structure Ie (C : Nat) (a : Option Addr) (n cap : Nat) (t : Nat → Nat) (m id lab : Nat) (w w' : World) : Prop where
 cu : ∃ g c1, Cu C a n cap n (dB t n) (.slice (some ⟨g, 0, none⟩) 1 c1) w' ∧ kJ w' w.heap.size g (t 8) m id lab
 only : Only C w w'
theorem Nu {C F g g5 p5 c2 n cap m id at_ lab : Nat} {a : Option Addr} {ps : Nat → Int} {w W5 : World} {lo : Nat} (h : qQ C F g a n cap (m + 2) ps #[.int .u32 id, .int .i64 at_, .slice none 0 0, .slice (some ⟨g, 0, none⟩) 1 c2, .int .i64 ((m + 1 : Nat) : Int)] lab (at_ + 1) (m + 1) w W5)
  (o5 : W5.ownsRow lo 137 5 (.slice (some ⟨g5, 0, none⟩) 1 p5) 1 [.int .u32 id, .int .i64 at_, .slice none 0 0, .slice (some ⟨g, 0, none⟩) 1 c2, .int .i64 ((m + 1 : Nat) : Int)]) (hlt : g5 < W5.heap.size) (hC : C < g5) (hw : w.heap.size ≤ g5) (hn : n = m + 2) :
  Cu C a n cap n ps (.slice (some ⟨g5, 0, none⟩) 1 p5) (W5.setCell ⟨C, 22, none⟩ (.slice (some ⟨g5, 0, none⟩) 1 p5)) ∧ kJ (W5.setCell ⟨C, 22, none⟩ (.slice (some ⟨g5, 0, none⟩) 1 p5)) w.heap.size g5 at_ m id lab ∧ Only C w (W5.setCell ⟨C, 22, none⟩ (.slice (some ⟨g5, 0, none⟩) 1 p5)) := by
 subst hn;have hk : ∀ q i, q ≠ C → (W5.setCell ⟨C, 22, none⟩ (.slice (some ⟨g5, 0, none⟩) 1 p5)).cell? ⟨q, i, none⟩ = W5.cell? ⟨q, i, none⟩ := fun q i hq => World.cell?_of_block (a := ⟨q, i, none⟩) (heap_setCell_other W5 ⟨C, 22, none⟩ q _ hq)
 have hown : ∀ j u, [Value.int .u32 id, .int .i64 at_, .slice none 0 0, .slice (some ⟨g, 0, none⟩) 1 c2, .int .i64 ((m + 1 : Nat) : Int)][j]? = some u → W5.cell? ⟨g5, j, none⟩ = some u := fun j u hu => by
  have := o5.cells (g := g5) rfl j u hu
  rwa [bH, Nat.zero_add] at this
 have h2 := h.st.cu.set 22 (.slice (some ⟨g5, 0, none⟩) 1 p5);rw [Od] at h2;have hg := h.gC;have hgF := h.gF;have hF := h.hF;have h5 : g5 ≠ C := by omega
 have hgC : g ≠ C := by omega
 exact ⟨h2, ⟨hw, by rw [World.size_setCell]; exact hlt, (hk _ _ h5).trans (hown 0 _ rfl), (hk _ _ h5).trans (hown 1 _ rfl), (hk _ _ h5).trans (hown 2 _ rfl), ⟨g, c2, (hk _ _ h5).trans (hown 3 _ rfl), by omega, by rw [World.size_setCell]; exact h.lt, (hk _ _ hgC).trans h.g0, (hk _ _ hgC).trans h.g1, (hk _ _ hgC).trans h.g2⟩, (hk _ _ h5).trans (hown 4 _ rfl)⟩, h.st.only.trans (Only.set _ _ _)⟩
set_option maxRecDepth 100000 in
set_option maxHeartbeats 4000000 in
theorem Mv (w0 : World) (C : Nat) (a : Option Addr) (cap : Nat) (ps : Nat → Int) (l : List In) (t : Nat → Nat) (m : Nat) (w : World) (h0 : Sl 4 fO w0 a l) (hb : Bl w0 w) (hC : w0.heap.size ≤ C) (h : Cu C a l.length cap 0 ps (.slice none 0 0) w) (hn : l.length ≤ 2000) (ht : jf l t m) :
  Calls Tryz.prog 140 #[.pointer (some ⟨C, 0, none⟩)] w fun r w' => r = .returned (.bool true) ∧ Ie C a l.length cap t m (l.getD (t 8) ai).res (l.getD (t 8 + 1) ai).res w w' := by
 have hlen := ht.len;have hfit := ht.fits;have cT := Ll w0 C a cap ps (.slice none 0 0) l t w h0 hb hC h hn ht.cut;have cN : ∀ (p : Nat) (z : Int) (ps : Nat → Int) (W : World), bC l p = z → p ≤ l.length → Bl w0 W → Cu C a l.length cap p ps (.slice none 0 0) W → Qc 184 #[.pointer (some ⟨C, 0, none⟩)] W (.int .i64 z) := fun p z ps W hz hp hW hc => by subst hz; exact lY C a cap p ps _ l W hc (h0.below fO.lasts hW) hp hn
 have hend : bC l (m + 2) = -1 := by unfold bC; rw [dif_neg (by omega)]
 have cN1 := fun ps W => cN (t 8) 1 ps W ht.fn (by omega)
 have cN3 := fun ps W => cN (t 8 + 1) 3 ps W ht.lab (by omega)
 have cN8 := fun ps W => cN (m + 1) 8 ps W ht.fin (by omega)
 have cNe := fun (g c : Nat) (W : World) (hc : Cu C a l.length cap l.length (dB t l.length) (.slice (some ⟨g, 0, none⟩) 1 c) W) (hW : Bl w0 W) => (show Qc 184 #[.pointer (some ⟨C, 0, none⟩)] W (.int .i64 (-1)) by have hz := lY C a cap l.length _ _ l W hc (h0.below fO.lasts hW) (Nat.le_refl _) hn; rw [show bC l l.length = -1 by unfold bC; rw [dif_neg (by omega)]] at hz; exact hz)
 have cR : ∀ ps W, Bl w0 W → Cu C a l.length cap (t 8 + 1) ps (.slice none 0 0) W → Calls Tryz.prog 185 #[.pointer (some ⟨C, 0, none⟩), .int .i64 2] W fun r w' => r = .returned (.slice none 0 0) ∧ Cu C a l.length cap (t 8 + 1) ps (.slice none 0 0) w' ∧ Only C W w' := fun ps W hW hc => (sH w0 C 2 (t 8 + 1) (t 8 + 1) a cap ps _ l W h0 hW hC hc (Nat.le_refl _) (by omega) hn (fun j h1 h2 => by omega) (by rw [ht.lab]; decide)).mono fun r w' h => by
  obtain ⟨⟨v, rfl, hv⟩, h2⟩ := h;exact ⟨by rw [hv rfl], h2⟩
 have cB : ∀ (F id : Nat) ps W, Bl w0 W → w0.heap.size ≤ F → C ≠ F → Cu C a l.length cap (t 8 + 1) ps (.slice none 0 0) W → W.heap[F]? = some (.cells #[.int .u32 id, .int .i64 (t 8), .slice none 0 0, .slice none 0 0, .int .i64 0] 137 (0, 0)) →
   Calls Tryz.prog 186 #[.pointer (some ⟨C, 0, none⟩), .pointer (some ⟨F, 0, none⟩)] W fun r w' => r = .returned (.bool true) ∧ wG C F (t 8 + 1) m id (t 8) (l.getD (t 8 + 1) ai).res a l.length cap ps (.slice none 0 0) (.slice none 0 0) W w' := fun F id ps W hW hF hCF hc hf =>
  Hf w0 C F (t 8 + 1) m id (t 8) a cap ps _ _ l W h0 hW hC hF hCF hc hf hn (by omega) (by omega) ht.no5 (fun j h1 h2 => ht.plain j (by omega) h2) ht.ender
 obtain ⟨b, o, rfl, hbl, hc⟩ := (h0.below fO.lasts hb).at_ (by omega);have e2 := (hc (t 8) (by omega)).res;have hgd : l.getD (t 8) ai = l[t 8]'(by omega) := by rw [List.getD_eq_getElem?_getD, List.getElem?_eq_getElem (by omega)]; rfl
 rw [hgd];generalize (l[t 8]'(by omega)).res = id at e2 ⊢;generalize (l.getD (t 8 + 1) ai).res = lab at cB ⊢;have HB := hid hb;have H := hid h;have E2 := hid e2;have HBL := hid hbl;have zC := h.lt;have hon : ∀ W, Only C w W → Bl w0 W := fun W hW => nM HB.out hW hC
 have hbC : b ≠ C := by
  obtain ⟨b', o', e, hlt, -⟩ := h0.at_ (by omega)
  cases e
  omega
 have i1 : (t 8 : Int) < (l.length : Int) := by omega
 have hm998 : m ≤ 1998 := by omega
 have HLEN := hid hlen;clear hb h e2 hbl hc hgd cN hend ht h0 hlen;go_enter Tryz.func140, Tryz.ntmps140;go_wp2;refine uH 1 _ rfl ?_;intro c' rest0 L0;go_wp2_with (go_at_call 183; (with_reducible refine cT.mono ?_); rintro e w1 ⟨rfl, hu1, ho1⟩; clear cT);have c0 : w1.cell? ⟨C, 0, none⟩ = some (.slice (some ⟨b, o, none⟩) l.length cap) := hu1.cell 0 (by omega);have c1 : w1.cell? ⟨C, 1, none⟩ = some (.int .i64 (t 8)) := hu1.cell 1 (by omega);have g1 := hu1.cell 18 (by omega);have g2 := hu1.cell 19 (by omega);have f1 := hu1.frozen 18;have f2 := hu1.frozen 19;have zC1 := hu1.lt;have HU1 := hid hu1;have HO1 := hid ho1;clear hu1 ho1;go_region;have h2 := (HU1.out.set (2 + 16) (.int .i64 (t 8))).set (2 + 16 + 1) (.int .i64 l.length);rw [AL 16 (t 8) l.length (by omega)] at h2;have HU2 : Hid (Cu C (some ⟨b, o, none⟩) l.length cap (t 8) (upd (upd (lL t ps 8) 16 (t 8)) (16 + 1) l.length) (.slice none 0 0) ((w1.setCell ⟨C, 18, none⟩ (.int .i64 (t 8))).setCell ⟨C, 19, none⟩ (.int .i64 l.length)).drew) := hid (h2.other rfl);have HO2 := hid ((HO1.out.trans (Only.set w1 18 (.int .i64 (t 8)))).trans (Only.set _ 19 (.int .i64 l.length))).drew;clear h2 c0 c1 g1 g2 f1 f2 zC1 HU1 HO1;generalize ((w1.setCell ⟨C, 18, none⟩ (.int .i64 (t 8))).setCell ⟨C, 19, none⟩ (.int .i64 l.length)).drew = w2 at HU2 HO2 ⊢;have c0 : w2.cell? ⟨C, 0, none⟩ = some (.slice (some ⟨b, o, none⟩) l.length cap) := HU2.out.cell 0 (by omega);have g1 := HU2.out.cell 20 (by omega);have g2 := HU2.out.cell 21 (by omega);have f1 := HU2.out.frozen 20;have f2 := HU2.out.frozen 21;have zC1 := HU2.out.lt;go_wp2;go_region;have h2 := (HU2.out.set (2 + 18) (.int .i64 l.length)).set (2 + 18 + 1) (.int .i64 l.length);rw [AL 18 l.length l.length (by omega)] at h2;have HU3 : Hid (Cu C (some ⟨b, o, none⟩) l.length cap (t 8) (dB t l.length) (.slice none 0 0) ((w2.setCell ⟨C, 20, none⟩ (.int .i64 l.length)).setCell ⟨C, 21, none⟩ (.int .i64 l.length)).drew) := hid (Cu.ps_ext (h2.other rfl) (Oh t ps l.length));have HO3 := hid ((HO2.out.trans (Only.set w2 20 (.int .i64 l.length))).trans (Only.set _ 21 (.int .i64 l.length))).drew;clear h2 c0 g1 g2 f1 f2 zC1 HU2 HO2;generalize ((w2.setCell ⟨C, 20, none⟩ (.int .i64 l.length)).setCell ⟨C, 21, none⟩ (.int .i64 l.length)).drew = w3 at HU3 HO3 ⊢;go_wp2;refine wp_label ?_;go_wp2_with (go_at_call 184; (with_reducible refine (cN1 _ _ (hon _ HO3.out) HU3.out).mono ?_); rintro e w4 ⟨rfl, hn4⟩; have hu4 := HU3.out.below hn4 HU3.out.lt; have ho4 := HO3.out.trans (Only.of hn4); replace HU3 := hid hu4; replace HO3 := hid ho4; clear hu4 ho4 hn4);refine iB (fun W => Cu C (some ⟨b, o, none⟩) l.length cap (t 8) (dB t l.length) (.slice none 0 0) W ∧ Only C w W) ⟨HU3.out, HO3.out⟩ ?_;clear HU3 HO3 cN1;rintro w5 ⟨hu5, ho5⟩;have hb5 := hon _ ho5;have c0 : w5.cell? ⟨C, 0, none⟩ = some (.slice (some ⟨b, o, none⟩) l.length cap) := hu5.cell 0 (by omega);have c1 : w5.cell? ⟨C, 1, none⟩ = some (.int .i64 (t 8)) := hu5.cell 1 (by omega);have zC1 := hu5.lt;have e2 : w5.cell? ⟨b, o + t 8 * 4 + 2, none⟩ = some (.int .u32 id) := (World.cell?_of_block (a := ⟨b, o + t 8 * 4 + 2, none⟩) (ho5.block b HBL.out hbC)).trans E2.out;have zb : b < w5.heap.size := Nat.lt_of_lt_of_le HBL.out ho5.size;have HU5 := hid hu5;have HO5 := hid ho5;clear hu5 ho5 hb5;go_region;have hs : lG C w5.heap.size (some ⟨b, o, none⟩) l.length cap (t 8) (dB t l.length) #[.int .u32 id, .int .i64 (t 8), .slice none 0 0, .slice none 0 0, .int .i64 0] w (w5.alloc (.cells #[.int .u32 id, .int .i64 (t 8), .slice none 0 0, .slice none 0 0, .int .i64 0] 137)).drew := ⟨HU5.out.below (bB (bP (Below.refl _ _) _)) HU5.out.lt, alloc_at w5 _, HO5.out.trans (Only.of (bB (bP (Below.refl _ _) _)))⟩;have hwF := HO5.out.size;have hFC : w5.heap.size ≠ C := by omega
 clear HU5 HO5 c0 c1 zC1 e2 zb;generalize (w5.alloc (.cells #[.int .u32 id, .int .i64 (t 8), .slice none 0 0, .slice none 0 0, .int .i64 0] 137)).drew = w6 at hs ⊢;generalize w5.heap.size = F at hs hwF hFC ⊢;obtain ⟨c0, c1, c22, f1, f22, zC1, zF1⟩ := hs.cells;have HS := hid hs;have HWF := hid hwF;have HFC := hid hFC;clear hs hwF hFC;go_wp2_with (go_at_call 185; (with_reducible refine (cR _ _ (hon _ (HS.out.setPos (t 8 + 1) (v := (t 8 : Int) + 1) rfl HFC.out).only) (HS.out.setPos (t 8 + 1) (v := (t 8 : Int) + 1) rfl HFC.out).cu).mono ?_); rintro e w7 ⟨rfl, hu7, ho7⟩; have h7 := (HS.out.setPos (t 8 + 1) (v := (t 8 : Int) + 1) rfl HFC.out).only2 hu7 ho7 HFC.out; obtain ⟨q0, q1, q2, q3, q4⟩ := nJ h7.f; have f2 := frozen_of_row _ _ 2 _ _ h7.f; have zF7 := h7.cells.2.2.2.2.2.2; clear c0 c1 c22 f1 f22 zC1 zF1; replace HS := hid h7; clear hu7 ho7 h7 cR);refine iB (fun W => lG C F (some ⟨b, o, none⟩) l.length cap (t 8 + 1) (dB t l.length) #[.int .u32 id, .int .i64 (t 8), .slice none 0 0, .slice none 0 0, .int .i64 0] w W) (HS.out.setF 2 (.slice none 0 0) HWF.out HFC.out) ?_;clear HS q0 q1 q2 q3 q4 f2 zF7;rintro w8 hs;have HS := hid hs;clear hs;refine wp_label ?_;go_wp2;refine wp_loop_rounds 2 ?_;rw [rounds_succ]
 go_wp2_with (first
  | (go_at_call 184; (with_reducible refine (cN3 _ _ (hon _ HS.out.only) HS.out.cu).mono ?_); rintro e w9 ⟨rfl, hn9⟩; replace HS := hid (HS.out.then hn9); clear hn9)
  | (go_at_call 186; (with_reducible refine (cB F id _ _ (hon _ HS.out.only) (by have := HWF.out; omega) (Ne.symm HFC.out) HS.out.cu HS.out.f).mono ?_); rintro e w10 ⟨rfl, hB⟩; have HT := hid (JU HS.out hB HWF.out HFC.out); clear hB HS cB))
 rw [rounds_succ];obtain ⟨g, c2, h10⟩ := HT.out;clear HT cN3;have HT := hid h10;clear h10;go_wp2_with (go_at_call 184; (with_reducible refine (cN8 _ _ (hon _ HT.out.st.only) HT.out.st.cu).mono ?_); rintro e w11 ⟨rfl, hn11⟩; obtain ⟨q0, q1, q2, q3, q4⟩ := nJ (HT.out.then hn11).st.f; obtain ⟨c0, c1, c22, f1, f22, zC1, zF1⟩ := (HT.out.then hn11).st.cells; have f4 := frozen_of_row _ _ 4 _ _ (HT.out.then hn11).st.f; have hFC := HFC.out; have hCF := Ne.symm HFC.out; replace HT := hid (HT.out.then hn11); clear hn11);have HS4 : Hid (qQ C F g (some ⟨b, o, none⟩) l.length cap (m + 2) (dB t l.length) #[.int .u32 id, .int .i64 (t 8), .slice none 0 0, .slice (some ⟨g, 0, none⟩) 1 c2, .int .i64 ((m + 1 : Nat) : Int)] lab (t 8 + 1) (m + 1) w ((w11.setCell ⟨F, 4, none⟩ (.int .i64 ((m : Int) + 1))).setCell ⟨C, 1, none⟩ (.int .i64 ((m : Int) + 1 + 1)))) := hid ((HT.out.setF 4 (.int .i64 ((m + 1 : Nat) : Int))).setPos (m + 2) (v := ((m + 1 : Nat) : Int) + 1) (by omega));clear HT q0 q1 q2 q3 q4 c0 c1 c22 f1 f22 zC1 zF1 f4 cN8;generalize ((w11.setCell ⟨F, 4, none⟩ (.int .i64 ((m : Int) + 1))).setCell ⟨C, 1, none⟩ (.int .i64 ((m : Int) + 1 + 1))) = W4 at HS4 ⊢;obtain ⟨x0, x1, x2, x3, x4⟩ := nJ HS4.out.st.f;obtain ⟨c0, c1, q22, f1, f22, zC, zF⟩ := HS4.out.st.cells;clear c0 c1 f1;go_region_law (refine mI (w := (W4.alloc (.cells #[.int .u32 id, .int .i64 (t 8), .slice none 0 0, .slice (some ⟨g, 0, none⟩) 1 c2, .int .i64 ((m + 1 : Nat) : Int)] 137)).drew) el_fn rfl (.tmp 99) (.tmp 101) rfl ?_ #[.int .u32 id, .int .i64 (t 8), .slice none 0 0, .slice (some ⟨g, 0, none⟩) 1 c2, .int .i64 ((m + 1 : Nat) : Int)] W4.heap.size ?_ ?_ rfl ?_ ?_ ?_; (first | rfl | simp [Act.eval, Act.put]); (first | rfl | simp [Act.eval, Act.put]); exact alloc_at W4 _; simp [Value.oneCell']; omega; intro g5 p5 w5 k1 k2 k3 k4; have hb5 := hid (az (bB (bP (Below.refl _ W4) (.cells #[.int .u32 id, .int .i64 (t 8), .slice none 0 0, .slice (some ⟨g, 0, none⟩) 1 c2, .int .i64 ((m + 1 : Nat) : Int)] 137))) k2); have h5 := hid (HS4.out.then hb5.out); have q5 : w5.cell? ⟨C, 22, none⟩ = some (.slice none 0 0) := h5.out.st.cells.2.2.1; have f5 : w5.frozen? ⟨C, 22, none⟩ = false := h5.out.st.cells.2.2.2.2.1; have o5 := hid k1; have g5l := hid k3; have g5h := hid k4; clear k1 k2 k3 k4)
 all_goals
  have hgs := g5l.out;have hsz : (W4.alloc (.cells #[.int .u32 id, .int .i64 (t 8), .slice none 0 0, .slice (some ⟨g, 0, none⟩) 1 c2, .int .i64 ((m + 1 : Nat) : Int)] 137)).drew.heap.size = W4.heap.size + 1 := by show (W4.heap.push _).size = _; simp
  rw [hsz] at hgs;have hw4 := HS4.out.st.only.size;obtain ⟨e1, e2, e3⟩ := Nu h5.out o5.out g5h.out (by omega) (by omega) HLEN.out;have H1 := hid e1;have H2 := hid e2;have H3 := hid e3;clear e1 e2 e3 x0 x1 x2 x3 x4 q22 f22 zC zF q5 f5 hsz hgs hw4 HS4 h5 o5 g5h g5l hb5;generalize w5.setCell ⟨C, 22, none⟩ (.slice (some ⟨g5, 0, none⟩) 1 p5) = w6 at H1 H2 H3 ⊢;go_wp2;refine wp_goto ?_;refine ⟨rest0, L0.out.1, ?_⟩;rw [L0.out.2];go_wp2_with (go_at_call 184; (with_reducible refine (cNe _ _ _ H1.out (hon _ H3.out)).mono ?_); rintro e w7 ⟨rfl, hn7⟩; replace H2 := hid (H2.out.below hn7); replace H3 := hid (H3.out.trans (Only.of hn7)); replace H1 := hid (H1.out.below hn7 H1.out.lt); clear hn7);refine LM ?_;go_ret;exact ⟨rfl, ⟨g5, p5, H1.out, H2.out⟩, H3.out⟩
theorem Ew (w : World) (o0 o1 : Obj) : ((w.alloc o0).alloc o1).heap[w.heap.size]? = some o0 := (Below.heap_alloc _ _ _ (by simp)).trans (alloc_at w o0)
structure Lh (g : Nat) (a : Option Addr) (n cap : Nat) (t : Nat → Nat) (m id lab : Nat) (w w' : World) : Prop where
 low : w.heap.size ≤ g
 cu : ∃ gf c1, Cu g a n cap n (dB t n) (.slice (some ⟨gf, 0, none⟩) 1 c1) w' ∧ kJ w' w.heap.size gf (t 8) m id lab
 below : Bl w w'
theorem kJ.lower {w : World} {lo lo' g at_ m id lab : Nat} (h : kJ w lo g at_ m id lab) (hl : lo' ≤ lo) : kJ w lo' g at_ m id lab := by
 obtain ⟨gb, cb, a1, a2, a3⟩ := h.c3;exact ⟨Nat.le_trans hl h.low, h.lt, h.c0, h.c1, h.c2, ⟨gb, cb, a1, Nat.le_trans hl a2, a3⟩, h.c4⟩
theorem kJ.keep {w w' : World} {lo g at_ m id lab : Nat} (h : kJ w lo g at_ m id lab) (hs : w.heap.size ≤ w'.heap.size) (hb : ∀ k, lo ≤ k → k < w.heap.size → w'.heap[k]? = w.heap[k]?) : kJ w' lo g at_ m id lab := by
 obtain ⟨gb, cb, a1, a2, a3, a4, a5, a6⟩ := h.c3;have hg : ∀ i, w'.cell? ⟨g, i, none⟩ = w.cell? ⟨g, i, none⟩ := fun i => World.cell?_of_block (a := ⟨g, i, none⟩) (hb g h.low h.lt)
 have hk : ∀ i, w'.cell? ⟨gb, i, none⟩ = w.cell? ⟨gb, i, none⟩ := fun i => World.cell?_of_block (a := ⟨gb, i, none⟩) (hb gb a2 a3)
 exact ⟨h.low, Nat.lt_of_lt_of_le h.lt hs, (hg 0).trans h.c0, (hg 1).trans h.c1, (hg 2).trans h.c2, ⟨gb, cb, (hg 3).trans a1, a2, Nat.lt_of_lt_of_le a3 hs, (hk 0).trans a4, (hk 1).trans a5, (hk 2).trans a6⟩, (hg 4).trans h.c4⟩
theorem size_setRow (w : World) (g : Nat) (cs : Array Value) : (w.setRow g cs).heap.size = w.heap.size := by show (w.heap.modify g _).size = _; rw [Array.size_modify]
theorem kJ.setRow {w : World} {lo g at_ m id lab q : Nat} (h : kJ w lo g at_ m id lab) (cs : Array Value) (hq : q < lo) : kJ (w.setRow q cs) lo g at_ m id lab := h.keep (by rw [size_setRow]; exact Nat.le_refl _) (fun k hk _ => dL cs (by omega))
theorem Mh {w w1 : World} {o0 o1 : Obj} (hn : Below ((w.alloc o0).alloc o1).heap.size ((w.alloc o0).alloc o1) w1) :
  w1.heap[w.heap.size]? = some o0 ∧ w1.heap[w.heap.size + 1]? = some o1 ∧ Bl w w1 :=
 ⟨(hn.block _ (by simp <;> omega)).trans (Ew w o0 o1), (hn.block _ (by simp)).trans (ko w o0 o1), az (bP (bP (Below.refl _ w) o0) o1) hn⟩
theorem NY {W : World} {C : Nat} {a : Option Addr} {n cap : Nat} {cs : Array Value} (h : W.heap[C]? = some (.cells cs 178 (0, 0))) (hc : cs = #[.slice a n cap, .int .i64 0, .int .i64 0, .int .i64 0, .int .i64 0, .int .i64 0, .int .i64 0, .int .i64 0, .int .i64 0, .int .i64 0, .int .i64 0, .int .i64 0, .int .i64 0, .int .i64 0, .int .i64 0, .int .i64 0, .int .i64 0, .int .i64 0, .int .i64 0, .int .i64 0, .int .i64 0, .int .i64 0, .slice none 0 0]) : Cu C a n cap 0 (fun _ => 0) (.slice none 0 0) W := by
 subst hc;refine ⟨⟨_, h, rfl, fun j hj => ?_⟩⟩;iterate 23 (rcases j with _ | j; · rfl)
 omega
set_option maxRecDepth 100000 in
set_option maxHeartbeats 2000000 in
theorem rG (gen bound : Nat) (a : Option Addr) (cap : Nat) (l : List In) (t : Nat → Nat) (m : Nat) (w : World) (h : Sl 4 fO w a l) (hs : iN bound l) (ht : jf l t m) :
  Calls Tryz.prog 96 #[.agg #[.int .u32 gen, .int .u32 bound, .slice a l.length cap]] w fun r w' => ∃ g, r = .returned (.tuple #[.pointer (some ⟨g, 0, none⟩), .agg #[.int .i64 0, .int .i64 0]]) ∧ Lh g a l.length cap t m (l.getD (t 8) ai).res (l.getD (t 8 + 1) ai).res w w' := by
 have hn := hs.len;have cS : ∀ W, Bl w W → Qc 139 #[.agg #[.int .u32 gen, .int .u32 bound, .slice a l.length cap]] W (.agg #[.int .i64 0, .int .i64 0]) := fun W hW => Be gen bound a cap l W (h.below fO.lasts hW) hs
 have cC : ∀ (C : Nat) W, Bl w W → w.heap.size ≤ C → Cu C a l.length cap 0 (fun _ => 0) (.slice none 0 0) W → Calls Tryz.prog 140 #[.pointer (some ⟨C, 0, none⟩)] W fun r w' => r = .returned (.bool true) ∧ Ie C a l.length cap t m (l.getD (t 8) ai).res (l.getD (t 8 + 1) ai).res W w' := fun C W hW hC hc => Mv w C a cap _ l t m W h hW hC hc hn ht
 generalize (l.getD (t 8) ai).res = id at cC ⊢;generalize (l.getD (t 8 + 1) ai).res = lab at cC ⊢;have HM := hid (Ew w (.cells #[.int .u32 gen, .int .u32 bound, .slice a l.length cap] 34) (.cells #[.int .i64 0, .int .i64 0] 39));have HS := hid (ko w (.cells #[.int .u32 gen, .int .u32 bound, .slice a l.length cap] 34) (.cells #[.int .i64 0, .int .i64 0] 39));have HB := hid (bP (bP (Below.refl _ w) (.cells #[.int .u32 gen, .int .u32 bound, .slice a l.length cap] 34)) (.cells #[.int .i64 0, .int .i64 0] 39));clear h hs ht;go_enter Tryz.func96, Tryz.ntmps96
 go_wp2_with (first
  | (refine wpList_load_row rfl 34 _ rfl w.heap.size rfl 34 _ _ _ HM.out Tryz.underlying34 rfl xq ?_)
  | (go_at_call 139; go_loud ((with_reducible refine (cS _ HB.out).mono ?_); rintro e w1 ⟨rfl, hn1⟩; have hr := Mh hn1; clear hn1 cS; obtain ⟨r1, r2, r3⟩ := hr; have m2 : w1.cell? ⟨w.heap.size, 2, none⟩ = some (.slice a l.length cap) := (cell_of_row _ _ 2 _ _ _ r1).trans rfl; have zw : w.heap.size + 1 < w1.heap.size := (Array.getElem?_eq_some_iff.1 r2).1; have zw0 : w.heap.size < w1.heap.size := (by omega); have R2 := hid r2; have R3 := hid r3; clear r1 r2 r3))
  | (go_at_call 140; go_loud (have hcc := cC (w1.heap.size + 1); (with_reducible refine Calls.mono (hcc _ ?_ ?_ ?_) ?_); exact bP (bP R3.out _) _; omega; exact NY (ko w1 _ _) rfl; rintro e w3 ⟨rfl, hE⟩; have s3 := hid ((hE.only.block (w.heap.size + 1) (by simp <;> omega) (by omega)).trans ((Below.heap_alloc _ _ _ (by simp <;> omega)).trans ((Below.heap_alloc w1 _ _ zw).trans R2.out))); have hB3 := hid ((bP (bP R3.out _) _).trans (hE.only.below (B := w.heap.size) (by omega) (by simp <;> omega))); have HE := hid hE; clear hE cC))
  | (refine wpList_store_row rfl 39 _ _ rfl (w.heap.size + 1) #[.int .i64 0, .int .i64 0] rfl rfl 39 _ s3.out aC rfl (by simp [Value.oneCell']) ?_))
 refine bodyPost_ret_by (bU rfl _ _ (w.heap.size + 1) 39 #[.int .i64 0, .int .i64 0] _ _ rfl (dH _ s3.out) Tryz.underlying39 rfl aC) rfl ?_;refine ⟨w1.heap.size + 1, rfl, by omega, ?_, aG hB3.out (by omega) _⟩;obtain ⟨gf, c1, k1, k2⟩ := HE.out.cu;have hz3 := k1.lt;exact ⟨gf, c1, k1.other (dL _ (by omega)), (k2.setRow _ (by simp <;> omega)).lower (by simp <;> omega)⟩
end Go.Proofs.YtlkolghiknbbfaaGreatDoor
