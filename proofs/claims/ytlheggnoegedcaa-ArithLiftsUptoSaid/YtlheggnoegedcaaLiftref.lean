/- Rows: the reference. -/
import Derived.Test.YtlheggnoegedcaaLiftspec
namespace Go.Proofs.Ytlheggnoegedcaa
set_option linter.unusedVariables false
open Go.ChangeShapes Go.WideShapes Go.ChangeAt Go.RowKit
set_option maxRecDepth 100000 in
set_option maxHeartbeats 4000000 in
theorem lift_ref_arity (op : Int) (a : Option Addr) (m cap : Nat) (w : World) (h : (m : Int) ≠ arS op ∨ m = 0) (hmany : m ≤ 1048576) :
    Calls Try.prog 25 #[.int .u16 op, .slice a m cap] w fun e w' => e = .returned (.tuple #[.slice none 0 0, .int .i64 2]) ∧ Below w.heap.size w w' := by
  have c0 := arity_ref op
  have hB := Below.refl w.heap.size w
  by_cases hz : arS op = 0
  · rw [hz] at c0
    clear h hz
    go_enter Try.func25, Try.ntmps25
    go_wp2_with (go_at_call 21; (with_reducible refine (c0 _).mono ?_); rintro e w1 ⟨rfl, hn1⟩; replace hB := bcall hB hn1; clear hn1)
    go_ret2
    exact ⟨rfl, hB⟩
  · have h1 : (arS op == 0) = false := by simpa using hz
    have h2 : ((m : Int) != arS op) = true := by
      rcases h with h | h
      · simpa using h
      · subst h; simpa using Ne.symm hz
    clear h hz
    generalize arS op = n at c0 h1 h2
    go_enter Try.func25, Try.ntmps25
    go_wp2_with (go_at_call 21; (with_reducible refine (c0 _).mono ?_); rintro e w1 ⟨rfl, hn1⟩; replace hB := bcall hB hn1; clear hn1)
    go_ret2
    exact ⟨rfl, hB⟩
set_option maxRecDepth 100000 in
set_option maxHeartbeats 4000000 in
theorem lift_ref_uneven (op : Int) (a : Option Addr) (m cap : Nat) (A : Nat → Option Addr) (n c : Nat → Nat) (g : Nat → Nat → Int) (w : World) (h : Rws w a m A n c g)
    (hm : (m : Int) = arS op) (hm0 : 0 < m) (hex : ∃ i, i < m ∧ n i ≠ n 0) :
    Calls Try.prog 25 #[.int .u16 op, .slice a m cap] w fun e w' => e = .returned (.tuple #[.slice none 0 0, .int .i64 2]) ∧ Below w.heap.size w w' := by
  have c0 := arity_ref op
  rw [← hm] at c0
  have hB := Below.refl w.heap.size w
  have h1 : ((m : Int) == 0) = false := by simp; omega
  have hmany := h.many
  have hfew := hid h.few
  obtain ⟨b, o, rfl, hb, hc0⟩ := h.at_ hm0
  have hc := hid hc0
  have hEx := hid hex
  clear h hm hex hc0
  go_enter Try.func25, Try.ntmps25
  go_wp2_with (go_at_call 21; (with_reducible refine (c0 _).mono ?_); rintro e w1 ⟨rfl, hn1⟩; replace hB := bcall hB hn1; clear hn1)
  go_loopw [6] (fun i wr => ∃ k : Nat, k ≤ m ∧ i = .int .i64 k ∧ Below w.heap.size w wr ∧ ∀ j, j < k → n j = n 0) (fun i _ => m - (intOf i).toNat)
  case atStart => exact ⟨0, by omega, rfl, hB, fun j hj => by omega⟩
  case round =>
    clear hB
    obtain ⟨k, hk, rfl, hBl, hall⟩ := hrel
    have hAll := hid hall
    clear hall
    by_cases hlt : k < m
    · have d0 : wr.cell? ⟨b, o, none⟩ = some (.slice (A 0) (n 0) (c 0)) := (hBl.cell (p := ⟨b, o, none⟩) hb).trans (hc.out 0 (by omega))
      have d1 : wr.cell? ⟨b, o + k, none⟩ = some (.slice (A k) (n k) (c k)) := (hBl.cell (p := ⟨b, o + k, none⟩) hb).trans (hc.out k hlt)
      by_cases he : n k = n 0
      · rw [he] at d1
        go_wp2
        go_quiet (fail)
        go_wp2
        go_roundw
        case rel =>
          refine ⟨k + 1, by omega, by go_num, belowN hBl _, fun j hj => ?_⟩
          by_cases e : j = k
          · rw [e]; exact he
          · exact hAll.out j (by omega)
        case measure => simp [intOf]; omega
      · have hne : ((n k : Int) != (n 0 : Int)) = true := by simp; omega
        clear he
        go_wp2
        go_quiet (fail)
        go_wp2
        go_ret2
        exact ⟨rfl, belowN hBl _⟩
    · exfalso
      obtain rfl : k = m := by omega
      obtain ⟨i, hi, hne⟩ := hEx.out
      exact hne (hAll.out i hi)
end Go.Proofs.Ytlheggnoegedcaa
