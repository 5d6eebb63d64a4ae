/- Rows: the walk of 'ArithLifts'. -/
import Derived.Test.YtlheggnoegedcaaLiftboth
namespace Go.Proofs.Ytlheggnoegedcaa
set_option linter.unusedVariables false
open Go.ChangeShapes Go.WideShapes Go.ChangeAt Go.RowKit
theorem info36 : (Try.prog.info? 36).map (fun i => (i.zero, i.size, i.bytes)) = some (some (.slice none 0 0), 1, 24) := by kernel_rfl
/-- A row of the call's own whose block is as it was. -/
theorem own_keep {w w' : World} {base n : Nat} {e : TypeId} {v : Value} {xs : List Value} (h : w.ownsRow base e 1 v n xs) (hb : ∀ k, v.ownBlock = some k → w'.heap[k]? = w.heap[k]?) : w'.ownsRow base e 1 v n xs := by
  refine ⟨h.1, ?_⟩
  rcases h.2 with h2 | ⟨g, cap, cur, rfl, h2, h3, h4⟩
  · exact .inl h2
  · exact .inr ⟨g, cap, cur, rfl, h2, (hb g rfl).trans h3, h4⟩
/-- The rows that are copied so far, as values. -/
def rvw (Bf : Nat → Nat) (n : Nat → Nat) (k m : Nat) : List Value := (List.range m).map fun i => if i < k then .slice (some ⟨Bf i, 0, none⟩) (n i) (n i) else .slice none 0 0
theorem rvw_get (Bf : Nat → Nat) (n : Nat → Nat) (k m i : Nat) (h : i < m) : (rvw Bf n k m)[i]? = some (if i < k then .slice (some ⟨Bf i, 0, none⟩) (n i) (n i) else .slice none 0 0) := by simp [rvw, h]
theorem rvw_length (Bf : Nat → Nat) (n : Nat → Nat) (k m : Nat) : (rvw Bf n k m).length = m := by simp [rvw]
theorem rvw_zero (Bf : Nat → Nat) (n : Nat → Nat) (m : Nat) : (madeCells #[Value.slice none 0 0] (m * 1)).toList = rvw Bf n 0 m := by
  apply List.ext_getElem?
  intro i
  rw [Nat.mul_one]
  by_cases h : i < m
  · rw [rvw_get _ _ _ _ _ h]
    simp [madeCells, h, Nat.mod_one]
  · simp [madeCells, rvw, h]
theorem rvw_set (Bf : Nat → Nat) (n : Nat → Nat) (k m B : Nat) (hk : k < m) : (rvw Bf n k m).set k (.slice (some ⟨B, 0, none⟩) (n k) (n k)) = rvw (fun i => if i = k then B else Bf i) n (k + 1) m := by
  apply List.ext_getElem?
  intro i
  rw [List.getElem?_set]
  by_cases e : k = i
  · subst e
    rw [if_pos rfl, if_pos (by rw [rvw_length]; exact hk), rvw_get _ _ _ _ _ hk, if_pos (by omega), if_pos rfl]
  · rw [if_neg e]
    by_cases h : i < m
    · rw [rvw_get _ _ _ _ _ h, rvw_get _ _ _ _ _ h, if_neg (Ne.symm e)]
      by_cases h2 : i < k
      · rw [if_pos h2, if_pos (by omega)]
      · rw [if_neg h2, if_neg (by omega)]
    · simp [rvw, h]
/-- The copies so far. -/
structure Copied (w : World) (C k : Nat) (Bf n : Nat → Nat) (g : Nat → Nat → Int) : Prop where
  own : ∀ i, i < k → C < Bf i ∧ w.ownsRow C 23 1 (.slice (some ⟨Bf i, 0, none⟩) (n i) (n i)) (n i) (wl (g i) (n i))
  rise : ∀ i j, i < j → j < k → Bf i < Bf j
theorem Copied.lt {w : World} {C k : Nat} {Bf n : Nat → Nat} {g : Nat → Nat → Int} (h : Copied w C k Bf n g) (i : Nat) (hi : i < k) : Bf i < w.heap.size := ((h.own i hi).2.lt (Bf i) rfl).2
theorem Copied.next {w w1 w2 : World} {C k : Nat} {Bf n : Nat → Nat} {g : Nat → Nat → Int} (h : Copied w C k Bf n g) (hC : C < w.heap.size)
    (hb : Below w.heap.size w w1) (ho : w1.ownsRow w.heap.size 23 1 (.slice (some ⟨w.heap.size, 0, none⟩) (n k) (n k)) (n k) (wl (g k) (n k))) (hg : w1.grownBy w2 (some C)) :
    Copied w2 C (k + 1) (fun i => if i = k then w.heap.size else Bf i) n g := by
  refine ⟨fun i hi => ?_, fun i j hij hj => ?_⟩
  · by_cases e : i = k
    · subst e
      rw [if_pos rfl]
      refine ⟨hC, ?_⟩
      have h1 := own_wider ho (b2 := C) (by omega)
      exact h1.kept hg (.inr (by simp only [Value.ownBlock, ne_eq, Option.some.injEq]; omega))
    · rw [if_neg e]
      have h1 := h.own i (by omega)
      refine ⟨h1.1, (own_below h1.2 hb).kept hg (.inr ?_)⟩
      simp only [Value.ownBlock, ne_eq, Option.some.injEq]
      omega
  · by_cases e : j = k
    · rw [if_pos e, if_neg (by omega)]
      exact h.lt i (by omega)
    · rw [if_neg e, if_neg (by omega)]
      exact h.rise i j hij (by omega)
/-- The copies are rows. -/
theorem Copied.rws {w : World} {C m : Nat} {Bf n : Nat → Nat} {g : Nat → Nat → Int} (h : Copied w C m Bf n g) (hC : C < w.heap.size) (hc : w.ownsRow C 36 1 (.slice (some ⟨C, 0, none⟩) m m) m (rvw Bf n m m))
    (hmany : m ≤ 1048576) (hfew : ∀ i, i < m → n i ≤ 1048576) (h0 : ∀ i, i < m → ∀ j, j < n i → 0 ≤ g i j) (h1 : ∀ i, i < m → ∀ j, j < n i → g i j < 4294967296) : Rws w (some ⟨C, 0, none⟩) m (fun i => some ⟨Bf i, 0, none⟩) n n g :=
  ⟨hmany, hfew, fun i hi => Wd.own (h.own i hi).2 (by have := hfew i hi; omega) (h0 i hi) (h1 i hi), fun _ => ⟨C, 0, rfl, hC, fun i hi => by rw [Nat.zero_add, hc.cellAt i (by omega), rvw_get _ _ _ _ _ hi, if_pos hi]⟩⟩
/-- What has become of a world some of whose copies were written over. -/
structure Spoilt (w w' : World) (Bf : Nat → Nat) (k : Nat) : Prop where
  os : w'.os = w.os
  tape : w'.tape = w.tape
  output : w'.output = w.output
  size : w.heap.size ≤ w'.heap.size
  block : ∀ b, b < w.heap.size → (∀ i, i < k → b ≠ Bf i) → w'.heap[b]? = w.heap[b]?
theorem Spoilt.refl (w : World) (Bf : Nat → Nat) : Spoilt w w Bf 0 := ⟨rfl, rfl, rfl, Nat.le_refl _, fun _ _ _ => rfl⟩
theorem Spoilt.below {w w1 w2 : World} {Bf : Nat → Nat} {k : Nat} (h : Spoilt w w1 Bf k) (hb : Below w1.heap.size w1 w2) : Spoilt w w2 Bf k :=
  ⟨hb.os.trans h.os, hb.tape.trans h.tape, hb.output.trans h.output, Nat.le_trans h.size hb.size, fun b hlt hne => (hb.block b (Nat.lt_of_lt_of_le hlt h.size)).trans (h.block b hlt hne)⟩
theorem Spoilt.only {w w1 w2 : World} {Bf : Nat → Nat} {k : Nat} (h : Spoilt w w1 Bf k) (hb : Only (Bf k) w1 w2) : Spoilt w w2 Bf (k + 1) :=
  ⟨hb.os.trans h.os, hb.tape.trans h.tape, hb.output.trans h.output, by rw [hb.size]; exact h.size, fun b hlt hne => (hb.block b (hne k (by omega))).trans (h.block b hlt (fun i hi => hne i (by omega)))⟩
theorem Spoilt.down {w0 w w' : World} {Bf : Nat → Nat} {k : Nat} (h : Spoilt w w' Bf k) (hb : Below w0.heap.size w0 w) (hB : ∀ i, i < k → w0.heap.size ≤ Bf i) : Below w0.heap.size w0 w' :=
  ⟨h.os.trans hb.os, h.tape.trans hb.tape, h.output.trans hb.output, Nat.le_trans hb.size h.size, fun b hlt => (h.block b (Nat.lt_of_lt_of_le hlt hb.size) (fun i hi => by have := hB i hi; omega)).trans (hb.block b hlt)⟩
theorem drew_below {w : World} : Below w.heap.size w w.drew := ⟨rfl, rfl, rfl, Nat.le_refl _, fun _ _ => rfl⟩
/-- What the second loop is told of one round. -/
structure Told (wq : World) (C B k nk : Nat) (Ak : Option Addr) (gk : Nat → Int) (lb lo : Nat) (ck : Nat) : Prop where
  c1 : wq.cell? ⟨C, k, none⟩ = some (.slice (some ⟨B, 0, none⟩) nk nk)
  c2 : wq.cell? ⟨lb, lo + k, none⟩ = some (.slice Ak nk ck)
  w1 : Cw wq (some ⟨B, 0, none⟩) nk gk
  w2 : Cw wq Ak nk gk
  row : ∃ cs, wq.heap[B]? = some (.cells cs 23 (0, 0)) ∧ nk ≤ cs.size
theorem told {w w3 wr wq : World} {C m k lb lo : Nat} {Bf n c : Nat → Nat} {g : Nat → Nat → Int} {A : Nat → Option Addr} (hk : k < m) (hcp : Copied wr C m Bf n g) (hrow : wr.ownsRow C 36 1 (.slice (some ⟨C, 0, none⟩) m m) m (rvw Bf n m m))
    (hC : C < wr.heap.size) (h3 : Below wr.heap.size wr w3) (hs : Spoilt w3 wq Bf k) (hw : w.heap.size ≤ C) (hbw : Below w.heap.size w wr) (hfew : ∀ i, i < m → n i ≤ 1048576) (hl : lb < w.heap.size)
    (hlc : ∀ i, i < m → w.cell? ⟨lb, lo + i, none⟩ = some (.slice (A i) (n i) (c i))) (hlw : ∀ i, i < m → Wd w (A i) (n i) (g i)) : Told wq C (Bf k) k (n k) (A k) (g k) lb lo (c k) := by
  have hdn : Below w.heap.size w wq := hs.down (bcall hbw h3) (fun i hi => by have := (hcp.own i (by omega)).1; omega)
  have keep : ∀ b, b < wr.heap.size → (∀ i, i < k → b ≠ Bf i) → wq.heap[b]? = wr.heap[b]? := fun b hb hne => (hs.block b (Nat.lt_of_lt_of_le hb h3.size) hne).trans (h3.block b hb)
  have hro : wq.ownsRow C 36 1 (.slice (some ⟨C, 0, none⟩) m m) m (rvw Bf n m m) := own_keep hrow (fun b hb => by
    cases hb
    exact keep C hC (fun i hi => by have := (hcp.own i (by omega)).1; omega))
  have hbo : wq.ownsRow C 23 1 (.slice (some ⟨Bf k, 0, none⟩) (n k) (n k)) (n k) (wl (g k) (n k)) := own_keep (hcp.own k hk).2 (fun b hb => by
    cases hb
    exact keep (Bf k) (hcp.lt k hk) (fun i hi => by have := hcp.rise i k hi hk; omega))
  have hf := hfew k hk
  refine ⟨?_, (hdn.cell (p := ⟨lb, lo + k, none⟩) hl).trans (hlc k hk), ?_, ((hlw k hk).below hdn).cw, ?_⟩
  · rw [hro.cellAt k (by omega), rvw_get _ _ _ _ _ hk, if_pos hk]
  · obtain ⟨a, cap, he, h⟩ := Cw.own hbo (by omega)
    cases he
    exact h
  · rcases hbo.2 with ⟨he, _⟩ | ⟨g2, cap, cur, he, _, h3, h4, _, h5, _⟩
    · cases he
    · cases he
      exact ⟨cur, h3, by omega⟩
set_option maxRecDepth 100000 in
set_option maxHeartbeats 16000000 in
theorem walk_lifts (op : Int) (a : Option Addr) (m cap : Nat) (A : Nat → Option Addr) (n c : Nat → Nat) (g : Nat → Nat → Int) (w : World) (h : Rws w a m A n c g) :
    Calls Try.prog 12 #[.int .u16 op, .slice a m cap] w fun e w' => e = .returned (.bool true) ∧ Below w.heap.size w w' := by
  obtain ⟨k, er, f, hk, s25, s26⟩ := says_both op m n g h.many h.few
  have c25 := s25 a A cap c w h
  have S26 := hid s26
  have hmany := h.many
  have hfew := hid h.few
  have hws := hid h.words
  have hat := hid h.at_
  have her : (er == er) = true := by simp
  obtain ⟨i0, hi, hz0, hz1, hz2⟩ := info_parts info36
  clear s25 s26 h
  go_enter Try.func12, Try.ntmps12
  go_wp2_with (first | (go_at_call 25; (with_reducible refine c25.mono ?_); rintro e w1 ⟨⟨v, rfl, hov⟩, hn1⟩) | (at_make; refine wpList_make_full w1 rfl _ _ 44 rfl w1.heap.size 36 i0 (.slice none 0 0) 1 Try.underlying44 hi hz0 hz1 _ _ _ _ m rfl rfl rfl rfl (by rw [hz2]; omega) (by unfold maxLen; omega) (Nat.le_refl _) ?_; intro W1 hown hgr))
  have hst : Copied W1 w1.heap.size 0 (fun _ => 0) n g := ⟨fun i hi => by omega, fun i j _ hj => by omega⟩
  have hown0 : W1.ownsRow w1.heap.size 36 1 (.slice (some ⟨w1.heap.size, 0, none⟩) m m) m (rvw (fun _ => 0) n 0 m) := by rw [← rvw_zero]; exact hown
  have hB0 : Below w1.heap.size w1 W1 := (Below.refl _ _).grown hgr (Nat.le_refl _) (fun k hk => by cases hk)
  have hC0 : w1.heap.size < W1.heap.size := ((hown.lt w1.heap.size rfl)).2
  have HV := hid hov
  clear hown hgr hi hz0 hz1 hz2 hov c25
  go_loopw [8] (fun i wr => ∃ (j : Nat) (Bf : Nat → Nat), j ≤ m ∧ i = .int .i64 j ∧ wr.ownsRow w1.heap.size 36 1 (.slice (some ⟨w1.heap.size, 0, none⟩) m m) m (rvw Bf n j m) ∧ w1.heap.size < wr.heap.size ∧ Below w1.heap.size w1 wr ∧ Copied wr w1.heap.size j Bf n g) (fun i _ => m - (intOf i).toNat)
  case atStart => exact ⟨0, fun _ => 0, by omega, rfl, hown0, hC0, hB0, hst⟩
  case round =>
    clear hst hown0 hB0 hC0
    obtain ⟨j, Bf, hj, rfl, ho, hC, hB, hcp⟩ := hrel
    have HO := hid ho
    have HCP := hid hcp
    have hBw : Below w.heap.size w wr := bcall hn1 hB
    clear ho hcp
    by_cases hlt : j < m
    · obtain ⟨b, o, rfl, hbl, hc⟩ := hat.out (by omega)
      have hc1 : wr.cell? ⟨b, o + j, none⟩ = some (.slice (A j) (n j) (c j)) := (hBw.cell (p := ⟨b, o + j, none⟩) hbl).trans (hc j hlt)
      have c24 := copy_words (A j) (n j) (c j) (g j) wr ((hws.out j hlt).below hBw)
      clear hc hbl
      go_wp2_with (go_at_call 24; (with_reducible refine c24.mono ?_); rintro e w2 ⟨rfl, hown2, hn2⟩; have H2 := hid hown2; have hk2 := HO.out.kept (row := none) ⟨hn2.os, hn2.tape, hn2.output, hn2.size, fun k hk _ => hn2.block k hk⟩ (.inr (by simp [Value.ownBlock])); have hcell2 : w2.cell? ⟨w1.heap.size, j, none⟩ = some (.slice none 0 0) := (by rw [hk2.cellAt j (by omega), rvw_get _ _ _ _ _ hlt, if_neg (Nat.lt_irrefl j)]); have hf2 := hk2.frozenAt j; have hst := hid (hk2.stored j (.slice (some ⟨wr.heap.size, 0, none⟩) (n j) (n j))); clear hown2 hk2)
      go_roundw
      case rel =>
        refine ⟨j + 1, fun i => if i = j then wr.heap.size else Bf i, by omega, by go_num, ?_, ?_, ?_, ?_⟩
        · have h1 := hst.out.1
          rw [rvw_set _ _ _ _ _ hlt] at h1
          exact h1
        · exact Nat.lt_of_lt_of_le (Nat.lt_of_lt_of_le hC hn2.size) hst.out.2.size
        · exact Below.setCell (bcall hB hn2) (Nat.le_refl _) _
        · exact HCP.out.next hC hn2 H2.out hst.out.2
      case measure => simp [intOf]; omega
    · obtain rfl : m = j := by omega
      clear hlt hj
      have c26 := S26.out (some ⟨w1.heap.size, 0, none⟩) (fun i => some ⟨Bf i, 0, none⟩) m n wr (HCP.out.rws hC HO.out hmany hfew.out (fun i hi => (hws.out i hi).lo) (fun i hi => (hws.out i hi).hi))
      go_wp2_with (go_at_call 26; (with_reducible refine c26.mono ?_); rintro e w3 ⟨⟨x, rfl, hox⟩, hn3⟩)
      have HX := hid hox
      clear hox c26
      go_loopw [11] (fun i wq => ∃ j : Nat, j ≤ m ∧ i = .int .i64 j ∧ Spoilt w3 wq Bf j) (fun i _ => m - (intOf i).toNat)
      case atStart => exact ⟨0, by omega, rfl, Spoilt.refl _ _⟩
      case round =>
        rename World => wq
        obtain ⟨j, hj, rfl, hs⟩ := hrel
        by_cases hlt : j < m
        · obtain ⟨b, o, rfl, hbl, hc⟩ := hat.out (by omega)
          have T := told hlt HCP.out HO.out hC hn3 hs hn1.size hBw hfew.out hbl hc hws.out
          have d1 := T.c1
          have d2 := T.c2
          have q2 := T.w2
          have q1 := T.w1
          obtain ⟨cs, hg, hz⟩ := T.row
          have HG := hid hg
          have HZ := hid hz
          have HS := hid hs
          have i0 : (0 : Int) ≤ (j : Int) := by omega
          have hlj := hfew.out j hlt
          have hBj : Bf j < wq.heap.size := Nat.lt_of_lt_of_le (Nat.lt_of_lt_of_le (HCP.out.lt j hlt) hn3.size) hs.size
          have c27 := words_same (some ⟨Bf j, 0, none⟩) (A j) (n j) (n j) (c j) (g j) wq.drew (q1.below drew_below) (q2.below drew_below)
          have hcr : m = j → False := by omega
          clear T hg hz hs hc q1 q2 hcr
          go_wp2_with fail
          go_region_held3 (fun w' => w'.cell? ⟨w1.heap.size, j, none⟩ = some (.slice (some ⟨Bf j, 0, none⟩) (n j) (n j)) ∧ w'.cell? ⟨b, o + j, none⟩ = some (.slice (A j) (n j) (c j))) (go_keep)
            (first | (go_at_call 27; (with_reducible refine c27.mono ?_); rintro e w4 ⟨rfl, hn4⟩; have k0 := (hn4.cell (p := ⟨w1.heap.size, j, none⟩) (block_lt_of_cell (a := ⟨w1.heap.size, j, none⟩) d1)).trans d1; have k1 := (hn4.cell (p := ⟨b, o + j, none⟩) (block_lt_of_cell (a := ⟨b, o + j, none⟩) d2)).trans d2))
          have hB4 : Below wq.heap.size wq w4 := bcall drew_below hn4
          have c28 := spoil_words (Bf j) (n j) (n j) cs w4 (by omega) HZ.out ((hB4.block (Bf j) hBj).trans HG.out)
          clear c27 d1 d2 k1 hBj
          go_wp2_with (go_at_call 28; (with_reducible refine c28.mono ?_); rintro e w5 ⟨rfl, ho5⟩)
          go_roundw
          case rel => exact ⟨j + 1, by omega, by go_num, (HS.out.below hB4).only ho5⟩
          case measure => simp [intOf]; omega
        · obtain rfl : m = j := by omega
          clear hlt hj
          have hbl : Below w.heap.size w wq := hs.down (bcall hBw hn3) (fun i hi => by have := (HCP.out.own i hi).1; have := hn1.size; omega)
          obtain ⟨av, cv, rfl, hcv⟩ := Cw.own (own_keep (w' := wq) HV.out (fun b hb => by
            have hlt := (HV.out.lt b hb).2
            have h1 := hs.block b (Nat.lt_of_lt_of_le (Nat.lt_trans hlt hC) hn3.size) (fun i hi => by have := (HCP.out.own i hi).1; omega)
            exact (h1.trans (hn3.block b (Nat.lt_trans hlt hC))).trans (hB.block b hlt))) (by omega)
          obtain ⟨ax, cx, rfl, hcx⟩ := Cw.own (own_keep (w' := wq) HX.out (fun b hb => by
            have hlt := HX.out.lt b hb
            exact hs.block b hlt.2 (fun i hi => by have := HCP.out.lt i hi; omega))) (by omega)
          have c27 := words_same ax av k cx cv f wq hcx hcv
          clear hs hcv hcx
          go_wp2_with (go_at_call 27; (with_reducible refine c27.mono ?_); rintro e w4 ⟨rfl, hn4⟩)
          go_ret
          exact ⟨rfl, bcall hbl hn4⟩
end Go.Proofs.Ytlheggnoegedcaa
