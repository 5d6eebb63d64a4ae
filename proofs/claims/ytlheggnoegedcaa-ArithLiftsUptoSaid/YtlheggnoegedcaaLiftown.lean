/- Rows: one element of the program's own ('arith.row'). -/
import Derived.Test.YtlheggnoegedcaaLiftrows
namespace Go.Proofs.Ytlheggnoegedcaa
set_option linter.unusedVariables false
open Go.ChangeShapes Go.WideShapes Go.ChangeAt Go.RowKit
/-- What 'row' hands back: a fresh block of so many words. -/
def Fresh (w w' : World) (e : Ending) (k : Nat) (x y : Int) : Prop :=
  (∃ B, e = .returned (.slice (some ⟨B, 0, none⟩) k k) ∧ w.heap.size ≤ B ∧ B < w'.heap.size ∧ w'.cell? ⟨B, 0, none⟩ = some (.int .u32 x) ∧ (k = 2 → w'.cell? ⟨B, 1, none⟩ = some (.int .u32 y))) ∧ Below w.heap.size w w'
theorem fresh_one {w w1 : World} (h : Below w.heap.size w w1) (x y : Int) : Fresh w (w1.alloc (.cells #[.int .u32 x] 23)) (.returned (.slice (some ⟨w1.heap.size, 0, none⟩) 1 1)) 1 x y :=
  ⟨⟨w1.heap.size, rfl, h.size, by simp, by rw [cell_of_row _ _ _ _ _ _ (alloc_at _ _)]; rfl, fun e => by cases e⟩, bal h _⟩
theorem fresh_two {w w1 : World} (h : Below w.heap.size w w1) (x y : Int) : Fresh w (w1.alloc (.cells #[.int .u32 x, .int .u32 y] 23)) (.returned (.slice (some ⟨w1.heap.size, 0, none⟩) 2 2)) 2 x y :=
  ⟨⟨w1.heap.size, rfl, h.size, by simp, by rw [cell_of_row _ _ _ _ _ _ (alloc_at _ _)]; rfl, fun e => by rw [cell_of_row _ _ _ _ _ _ (alloc_at _ _)]; rfl⟩, bal h _⟩
theorem undrew {w w' : World} (h : Below w.drew.heap.size w.drew w') : Below w.heap.size w w' := ⟨h.os, h.tape, h.output, h.size, h.block⟩
set_option maxHeartbeats 4000000 in
theorem row_1 (op : Int) (b o cap : Nat) (g : Nat → Int) (w : World) (h : Wd w (some ⟨b, o, none⟩) 1 g) :
    Calls Try.prog 47 #[.int .u16 op, .slice (some ⟨b, o, none⟩) 1 cap] w fun e w' => Fresh w w' e 1 (unS op (g 0)) 0 := by
  have c1 := unary_own op (g 0) (h.lo 0 (by omega)) (h.hi 0 (by omega))
  obtain ⟨b', o', he, hb, hc⟩ := h.at_ (by omega)
  cases he
  have d0 := hc 0 (by omega)
  rw [Nat.add_zero] at d0
  clear hc h
  go_enter Try.func47, Try.ntmps47
  go_wp2_with (go_at_call 18; (with_reducible refine (c1 _).mono ?_); rintro e w1 ⟨rfl, hB1⟩)
  go_ret
  exact fresh_one hB1 _ _
set_option maxHeartbeats 4000000 in
theorem row_3 (op : Int) (b o m cap : Nat) (g : Nat → Int) (w : World) (h3 : 3 ≤ m) (h : Wd w (some ⟨b, o, none⟩) m g) :
    Calls Try.prog 47 #[.int .u16 op, .slice (some ⟨b, o, none⟩) m cap] w fun e w' => Fresh w w' e 1 (fldR op m g) 0 := by
  have c1 := field_own op (some ⟨b, o, none⟩) m cap g
  have t1 : ((m : Int) == 1) = false := by simp; omega
  have t2 : ((m : Int) == 2) = false := by simp; omega
  have H := hid h
  clear h
  go_enter Try.func47, Try.ntmps47
  go_wp2_with (go_at_call 23; (with_reducible refine (c1 _ H.out).mono ?_); rintro e w1 ⟨rfl, hB1⟩)
  go_ret
  exact fresh_one hB1 _ _
set_option maxHeartbeats 4000000 in
theorem row_2p (op : Int) (b o cap : Nat) (g : Nat → Int) (w : World) (h : Wd w (some ⟨b, o, none⟩) 2 g) (hp : isPr op = true) :
    Calls Try.prog 47 #[.int .u16 op, .slice (some ⟨b, o, none⟩) 2 cap] w fun e w' => Fresh w w' e 2 (pairS op (g 0) (g 1)).1 (liS op g) := by
  have c1 := fun W => (pair_own op (g 0) (g 1) (h.lo 0 (by omega)) (h.hi 0 (by omega)) (h.lo 1 (by omega)) (h.hi 1 (by omega)) W).mono (R' := fun e w' => e = .returned (.tuple #[.int .u32 (pairS op (g 0) (g 1)).1, .int .u32 (pairS op (g 0) (g 1)).2.1, .bool true]) ∧ Below W.heap.size W w') (by
    rintro e w' ⟨rfl, rfl⟩
    refine ⟨?_, bal (Below.refl _ _) _⟩
    rw [three, pr_is, hp])
  obtain ⟨b', o', he, hb, hc⟩ := h.at_ (by omega)
  cases he
  have d0 := hc 0 (by omega)
  have d1 := hc 1 (by omega)
  rw [Nat.add_zero] at d0
  unfold liS
  clear hc h hp
  generalize (pairS op (g 0) (g 1)).1 = x at c1 ⊢
  generalize (pairS op (g 0) (g 1)).2.1 = y at c1 ⊢
  go_enter Try.func47, Try.ntmps47
  go_wp2_with fail
  go_region_held3 (fun w' => w'.cell? ⟨b, o, none⟩ = some (.int .u32 (g 0)) ∧ w'.cell? ⟨b, o + 1, none⟩ = some (.int .u32 (g 1))) (go_keep)
    (first | (go_at_call 14; (with_reducible refine (c1 _).mono ?_); rintro e w4 ⟨rfl, hn4⟩; have k0 := (hn4.cell (p := ⟨b, o, none⟩) hb).trans (by assumption); have k1 := (hn4.cell (p := ⟨b, o + 1, none⟩) hb).trans (by assumption)))
  go_wp2
  go_ret
  exact fresh_two (undrew hn4) _ _
set_option maxHeartbeats 4000000 in
theorem row_2b (op : Int) (b o cap : Nat) (g : Nat → Int) (w : World) (h : Wd w (some ⟨b, o, none⟩) 2 g) (hp : isPr op = false) :
    Calls Try.prog 47 #[.int .u16 op, .slice (some ⟨b, o, none⟩) 2 cap] w fun e w' => Fresh w w' e 1 (binS op (g 0) (g 1)) 0 := by
  have c1 := fun W => (pair_own op (g 0) (g 1) (h.lo 0 (by omega)) (h.hi 0 (by omega)) (h.lo 1 (by omega)) (h.hi 1 (by omega)) W).mono (R' := fun e w' => e = .returned (.tuple #[.int .u32 (pairS op (g 0) (g 1)).1, .int .u32 (pairS op (g 0) (g 1)).2.1, .bool false]) ∧ Below W.heap.size W w') (by
    rintro e w' ⟨rfl, rfl⟩
    refine ⟨?_, bal (Below.refl _ _) _⟩
    rw [three, pr_is, hp])
  have c2 := binary_own op (g 0) (g 1) (h.lo 0 (by omega)) (h.hi 0 (by omega)) (h.lo 1 (by omega)) (h.hi 1 (by omega))
  obtain ⟨b', o', he, hb, hc⟩ := h.at_ (by omega)
  cases he
  have d0 := hc 0 (by omega)
  have d1 := hc 1 (by omega)
  rw [Nat.add_zero] at d0
  clear hc h hp
  generalize (pairS op (g 0) (g 1)).1 = x at c1
  generalize (pairS op (g 0) (g 1)).2.1 = y at c1
  generalize binS op (g 0) (g 1) = z at c2 ⊢
  go_enter Try.func47, Try.ntmps47
  go_wp2_with fail
  go_region_held3 (fun w' => w'.cell? ⟨b, o, none⟩ = some (.int .u32 (g 0)) ∧ w'.cell? ⟨b, o + 1, none⟩ = some (.int .u32 (g 1))) (go_keep)
    (first | (go_at_call 14; (with_reducible refine (c1 _).mono ?_); rintro e w4 ⟨rfl, hn4⟩; have k0 := (hn4.cell (p := ⟨b, o, none⟩) hb).trans (by assumption); have k1 := (hn4.cell (p := ⟨b, o + 1, none⟩) hb).trans (by assumption)))
  replace hn4 := undrew hn4
  have hb4 : b < w4.heap.size := Nat.lt_of_lt_of_le hb hn4.size
  go_wp2_with fail
  go_region_held3 (fun w' => w'.cell? ⟨b, o, none⟩ = some (.int .u32 (g 0)) ∧ w'.cell? ⟨b, o + 1, none⟩ = some (.int .u32 (g 1))) (go_keep)
    (first | (go_at_call 16; (with_reducible refine (c2 _).mono ?_); rintro e w5 ⟨rfl, hn5⟩; have l0 := (hn5.cell (p := ⟨b, o, none⟩) hb4).trans (by assumption); have l1 := (hn5.cell (p := ⟨b, o + 1, none⟩) hb4).trans (by assumption)))
  go_wp2
  go_ret
  exact fresh_one (bcall hn4 (undrew hn5)) _ _
end Go.Proofs.Ytlheggnoegedcaa
