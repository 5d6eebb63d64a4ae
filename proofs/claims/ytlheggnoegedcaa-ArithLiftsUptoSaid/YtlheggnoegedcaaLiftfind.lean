/- Rows: finding a word ('slices.Contains', 'slices.ContainsFunc'). -/
import Derived.Test.YtlheggnoegedcaaLiftown
namespace Go.Proofs.Ytlheggnoegedcaa
set_option linter.unusedVariables false
open Go.ChangeShapes Go.WideShapes Go.ChangeAt Go.RowKit
theorem cnt_step (g : Nat → Int) (k n : Nat) (h : k ≤ n) : cnt g k ≤ cnt g n ∧ cnt g n - cnt g k ≤ n - k := by
  induction n with
  | zero => obtain rfl : k = 0 := by omega
            simp
  | succ n ih =>
    by_cases e : k = n + 1
    · subst e; simp
    · have := ih (by omega)
      have := cnt_le g n
      simp only [cnt]
      split <;> omega
theorem cnt_pos (g : Nat → Int) (k n : Nat) (h : k < n) (hk : g k ≠ 0) : 0 < cnt g n := by
  have := (cnt_step g (k + 1) n h).1
  simp only [cnt, if_neg hk] at this
  omega
theorem cnt_less (g : Nat → Int) (k n : Nat) (h : k < n) (hk : g k = 0) : cnt g n ≠ n := by
  have := cnt_step g (k + 1) n h
  have h2 := cnt_le g k
  simp only [cnt, if_pos hk] at this
  omega
theorem isnt_zero (x : Int) (w : World) : Calls Try.prog 45 #[.int .u32 x] w fun e w' => e = .returned (.bool (x != 0)) ∧ w' = w := by
  go_enter Try.func45, Try.ntmps45
  go_wp2
  go_ret
  exact ⟨rfl, rfl⟩
set_option maxHeartbeats 1000000 in
theorem index_func (a : Option Addr) (n cap : Nat) (g : Nat → Int) (w : World) (h : Cw w a n g) :
    Calls Try.prog 90 #[.slice a n cap, fv 45] w fun e w' => (∃ r : Int, e = .returned (.int .i64 r) ∧ (cnt g n = 0 ∧ r = -1 ∨ 0 < cnt g n ∧ 0 ≤ r)) ∧ Below w.heap.size w w' := by
  have hby := h.bytes
  have H := hid h
  clear h
  unfold fv
  go_enter Try.func90, Try.ntmps90
  go_wp2
  go_loopw [8] (fun i wr => ∃ k : Nat, k ≤ n ∧ i = .int .i64 k ∧ cnt g k = 0 ∧ Below w.heap.size w wr) (fun i _ => n - (intOf i).toNat)
  case atStart => exact ⟨0, by omega, rfl, rfl, Below.refl _ _⟩
  case round =>
    obtain ⟨k, hk, rfl, hz, hB⟩ := hrel
    have HZ := hid hz
    clear hz
    by_cases hlt : k < n
    · obtain ⟨b, o, rfl, hb, hc⟩ := H.out.at_ (by omega)
      have d1 : wr.cell? ⟨b, o + k, none⟩ = some (.int .u32 (g k)) := (hB.cell (p := ⟨b, o + k, none⟩) hb).trans (hc k hlt)
      clear hc
      have c1 := isnt_zero (g k)
      by_cases e : g k = 0
      · rw [show (g k != 0) = false by simpa using e] at c1
        have E := hid e
        clear e
        go_wp2_with (go_at_call 45; (with_reducible refine (c1 _).mono ?_); rintro e w1 ⟨rfl, rfl⟩)
        go_roundw
        case rel => exact ⟨k + 1, by omega, by go_num, by simp only [cnt, if_pos E.out, HZ.out], hB⟩
        case measure => simp [intOf]; omega
      · rw [show (g k != 0) = true by simpa using e] at c1
        have E := hid e
        clear e
        go_wp2_with (go_at_call 45; (with_reducible refine (c1 _).mono ?_); rintro e w1 ⟨rfl, rfl⟩)
        go_ret
        exact ⟨⟨_, rfl, .inr ⟨cnt_pos g k n hlt E.out, by omega⟩⟩, hB⟩
    · obtain rfl : k = n := by omega
      clear hlt
      go_wp2
      go_ret
      exact ⟨⟨_, rfl, .inl ⟨HZ.out, rfl⟩⟩, hB⟩
set_option maxHeartbeats 1000000 in
theorem index_zero (a : Option Addr) (n cap : Nat) (g : Nat → Int) (w : World) (h : Cw w a n g) :
    Calls Try.prog 91 #[.slice a n cap, .int .u32 0] w fun e w' => (∃ r : Int, e = .returned (.int .i64 r) ∧ (cnt g n = n ∧ r = -1 ∨ cnt g n ≠ n ∧ 0 ≤ r)) ∧ Below w.heap.size w w' := by
  have hby := h.bytes
  have H := hid h
  clear h
  go_enter Try.func91, Try.ntmps91
  go_wp2
  go_loopw [8] (fun i wr => ∃ k : Nat, k ≤ n ∧ i = .int .i64 k ∧ cnt g k = k ∧ Below w.heap.size w wr) (fun i _ => n - (intOf i).toNat)
  case atStart => exact ⟨0, by omega, rfl, rfl, Below.refl _ _⟩
  case round =>
    obtain ⟨k, hk, rfl, hz, hB⟩ := hrel
    have HZ := hid hz
    clear hz
    by_cases hlt : k < n
    · obtain ⟨b, o, rfl, hb, hc⟩ := H.out.at_ (by omega)
      have d1 : wr.cell? ⟨b, o + k, none⟩ = some (.int .u32 (g k)) := (hB.cell (p := ⟨b, o + k, none⟩) hb).trans (hc k hlt)
      clear hc
      by_cases e : g k = 0
      · have E := hid e
        rw [e] at d1
        clear e
        go_wp2
        go_ret
        exact ⟨⟨_, rfl, .inr ⟨cnt_less g k n hlt E.out, by omega⟩⟩, hB⟩
      · have E := hid e
        have e1 : ((0 : Int) == g k) = false := by simpa using Ne.symm e
        clear e
        go_wp2
        go_roundw
        case rel => exact ⟨k + 1, by omega, by go_num, by simp only [cnt, if_neg E.out, HZ.out], hB⟩
        case measure => simp [intOf]; omega
    · obtain rfl : k = n := by omega
      clear hlt
      go_wp2
      go_ret
      exact ⟨⟨_, rfl, .inl ⟨HZ.out, rfl⟩⟩, hB⟩
theorem contains_func (a : Option Addr) (n cap : Nat) (g : Nat → Int) (w : World) (h : Cw w a n g) :
    Calls Try.prog 44 #[.slice a n cap, fv 45] w fun e w' => e = .returned (.bool (decide (0 < cnt g n))) ∧ Below w.heap.size w w' := by
  have c1 := index_func a n cap g w h
  unfold fv at c1 ⊢
  go_enter Try.func44, Try.ntmps44
  go_wp2_with (go_at_call 90; (with_reducible refine c1.mono ?_); rintro e w1 ⟨⟨r, rfl, hr⟩, hB⟩; rcases hr with ⟨h1, rfl⟩ | ⟨h1, h2⟩)
  all_goals go_ret
  · exact ⟨by rw [h1]; rfl, hB⟩
  · exact ⟨by rw [decide_eq_true h1]; rfl, hB⟩
theorem contains_zero (a : Option Addr) (n cap : Nat) (g : Nat → Int) (w : World) (h : Cw w a n g) :
    Calls Try.prog 46 #[.slice a n cap, .int .u32 0] w fun e w' => e = .returned (.bool (!(cnt g n == n))) ∧ Below w.heap.size w w' := by
  have c1 := index_zero a n cap g w h
  go_enter Try.func46, Try.ntmps46
  go_wp2_with (go_at_call 91; (with_reducible refine c1.mono ?_); rintro e w1 ⟨⟨r, rfl, hr⟩, hB⟩; rcases hr with ⟨h1, rfl⟩ | ⟨h1, h2⟩)
  all_goals go_ret
  · exact ⟨by simp [h1], hB⟩
  · exact ⟨by simp [h1], hB⟩
end Go.Proofs.Ytlheggnoegedcaa
