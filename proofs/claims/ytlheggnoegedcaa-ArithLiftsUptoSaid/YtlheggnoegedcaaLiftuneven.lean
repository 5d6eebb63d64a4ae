/- Rows: are they of one length? ('slices.ContainsFunc' over rows). -/
import Derived.Test.YtlheggnoegedcaaLiftfind
namespace Go.Proofs.Ytlheggnoegedcaa
set_option linter.unusedVariables false
open Go.ChangeShapes Go.WideShapes Go.ChangeAt Go.RowKit
/-- The closure that asks for another length: it holds the box of the rows. -/
def fuv (B : Nat) : Value := .func (.func 42) #[] #[.pointer (some ⟨B, 0, none⟩)]
theorem uneven_one (B b o m cap n0 c0 n c : Nat) (a A0 : Option Addr) (w : World) (h1 : w.cell? ⟨B, 0, none⟩ = some (.slice (some ⟨b, o, none⟩) m cap)) (h2 : w.cell? ⟨b, o, none⟩ = some (.slice A0 n0 c0)) (hm0 : 0 < m) :
    Calls Try.prog 42 #[.slice a n c, .pointer (some ⟨B, 0, none⟩)] w fun e w' => e = .returned (.bool ((n : Int) != (n0 : Int))) ∧ w' = w := by
  go_enter Try.func42, Try.ntmps42
  go_wp2
  go_ret
  exact ⟨rfl, rfl⟩
set_option maxHeartbeats 1000000 in
theorem index_uneven (B b o m cap : Nat) (A : Nat → Option Addr) (n c : Nat → Nat) (w : World) (hB0 : B < w.heap.size) (hbox : w.cell? ⟨B, 0, none⟩ = some (.slice (some ⟨b, o, none⟩) m cap))
    (hb : b < w.heap.size) (hc0 : ∀ i, i < m → w.cell? ⟨b, o + i, none⟩ = some (.slice (A i) (n i) (c i))) (hmany : m ≤ 1048576) :
    Calls Try.prog 89 #[.slice (some ⟨b, o, none⟩) m cap, fuv B] w fun e w' => (∃ r : Int, e = .returned (.int .i64 r) ∧ ((∀ i, i < m → n i = n 0) ∧ r = -1 ∨ (∃ i, i < m ∧ n i ≠ n 0) ∧ 0 ≤ r)) ∧ Below w.heap.size w w' := by
  have hc := hid hc0
  have hbx := hid hbox
  clear hc0 hbox
  unfold fuv
  go_enter Try.func89, Try.ntmps89
  go_wp2
  go_loopw [8] (fun i wr => ∃ k : Nat, k ≤ m ∧ i = .int .i64 k ∧ (∀ j, j < k → n j = n 0) ∧ Below w.heap.size w wr) (fun i _ => m - (intOf i).toNat)
  case atStart => exact ⟨0, by omega, rfl, fun j hj => by omega, Below.refl _ _⟩
  case round =>
    obtain ⟨k, hk, rfl, hz, hB⟩ := hrel
    have HZ := hid hz
    clear hz
    by_cases hlt : k < m
    · have d0 : wr.cell? ⟨B, 0, none⟩ = some (.slice (some ⟨b, o, none⟩) m cap) := (hB.cell (p := ⟨B, 0, none⟩) hB0).trans hbx.out
      have d1 : wr.cell? ⟨b, o, none⟩ = some (.slice (A 0) (n 0) (c 0)) := (hB.cell (p := ⟨b, o, none⟩) hb).trans (hc.out 0 (by omega))
      have d2 : wr.cell? ⟨b, o + k, none⟩ = some (.slice (A k) (n k) (c k)) := (hB.cell (p := ⟨b, o + k, none⟩) hb).trans (hc.out k hlt)
      have c1 := uneven_one B b o m cap (n 0) (c 0) (n k) (c k) (A k) (A 0) wr d0 d1 (by omega)
      by_cases e : n k = n 0
      · rw [show ((n k : Int) != (n 0 : Int)) = false by simp; omega] at c1
        have E := hid e
        clear e d0 d1
        go_wp2_with (go_at_call 42; (with_reducible refine c1.mono ?_); rintro e w1 ⟨rfl, rfl⟩)
        go_roundw
        case rel =>
          refine ⟨k + 1, by omega, by go_num, fun j hj => ?_, hB⟩
          by_cases e : j = k
          · rw [e]; exact E.out
          · exact HZ.out j (by omega)
        case measure => simp [intOf]; omega
      · rw [show ((n k : Int) != (n 0 : Int)) = true by simp; omega] at c1
        have E := hid e
        clear e d0 d1
        go_wp2_with (go_at_call 42; (with_reducible refine c1.mono ?_); rintro e w1 ⟨rfl, rfl⟩)
        go_ret
        exact ⟨⟨_, rfl, .inr ⟨⟨k, hlt, E.out⟩, by omega⟩⟩, hB⟩
    · obtain rfl : k = m := by omega
      clear hlt
      go_wp2
      go_ret
      exact ⟨⟨_, rfl, .inl ⟨HZ.out, rfl⟩⟩, hB⟩
theorem uneven_no (B b o m cap : Nat) (A : Nat → Option Addr) (n c : Nat → Nat) (w : World) (hB0 : B < w.heap.size) (hbox : w.cell? ⟨B, 0, none⟩ = some (.slice (some ⟨b, o, none⟩) m cap))
    (hb : b < w.heap.size) (hc0 : ∀ i, i < m → w.cell? ⟨b, o + i, none⟩ = some (.slice (A i) (n i) (c i))) (hmany : m ≤ 1048576) (hev : ∀ i, i < m → n i = n 0) :
    Calls Try.prog 41 #[.slice (some ⟨b, o, none⟩) m cap, fuv B] w fun e w' => e = .returned (.bool false) ∧ Below w.heap.size w w' := by
  have c1 := index_uneven B b o m cap A n c w hB0 hbox hb hc0 hmany
  have HE := hid hev
  clear hc0 hbox hev
  unfold fuv at c1 ⊢
  go_enter Try.func41, Try.ntmps41
  go_wp2_with (go_at_call 89; (with_reducible refine c1.mono ?_); rintro e w1 ⟨⟨r, rfl, hr⟩, hB⟩; rcases hr with ⟨h1, rfl⟩ | ⟨h1, h2⟩)
  · go_ret
    exact ⟨rfl, hB⟩
  · obtain ⟨i, hi, hne⟩ := h1
    exact absurd (HE.out i hi) hne
theorem uneven_yes (B b o m cap : Nat) (A : Nat → Option Addr) (n c : Nat → Nat) (w : World) (hB0 : B < w.heap.size) (hbox : w.cell? ⟨B, 0, none⟩ = some (.slice (some ⟨b, o, none⟩) m cap))
    (hb : b < w.heap.size) (hc0 : ∀ i, i < m → w.cell? ⟨b, o + i, none⟩ = some (.slice (A i) (n i) (c i))) (hmany : m ≤ 1048576) (hex : ∃ i, i < m ∧ n i ≠ n 0) :
    Calls Try.prog 41 #[.slice (some ⟨b, o, none⟩) m cap, fuv B] w fun e w' => e = .returned (.bool true) ∧ Below w.heap.size w w' := by
  have c1 := index_uneven B b o m cap A n c w hB0 hbox hb hc0 hmany
  have HE := hid hex
  clear hc0 hbox hex
  unfold fuv at c1 ⊢
  go_enter Try.func41, Try.ntmps41
  go_wp2_with (go_at_call 89; (with_reducible refine c1.mono ?_); rintro e w1 ⟨⟨r, rfl, hr⟩, hB⟩; rcases hr with ⟨h1, rfl⟩ | ⟨h1, h2⟩)
  · obtain ⟨i, hi, hne⟩ := HE.out
    exact absurd (h1 i hi) hne
  · go_ret
    exact ⟨rfl, hB⟩
end Go.Proofs.Ytlheggnoegedcaa
