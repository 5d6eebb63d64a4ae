/- Fields of bits: the program's 'Field', and the reference's. -/
import Derived.Test.YtlheggnoegedcaaField
namespace Go.Proofs.Ytlheggnoegedcaa
set_option linter.unusedVariables false
open Go.ChangeShapes Go.WideShapes Go.ChangeAt Go.RowKit
/-- What an operation on fields makes. -/
def fldV (op : Int) (g : Nat → Int) : Int :=
  if op = 169 then (if g 0 = 0 then g 2 else g 1)
  else if op = 201 then insS (g 2 % 32).toNat (wid (g 2) (g 3)) (g 0) (g 1)
  else extS (op == 202) (g 1 % 32).toNat (wid (g 1) (g 2)) (g 0)
/-- Is it one, of so many words? -/
def isFld (op : Int) (len : Nat) : Bool := decide (3 ≤ len) && decide ((len : Int) = arS op)
theorem arS_field (op : Int) (len : Nat) (h : 3 ≤ len) (h2 : (len : Int) = arS op) : (op = 169 ∧ len = 3) ∨ (op = 202 ∧ len = 3) ∨ (op = 203 ∧ len = 3) ∨ (op = 201 ∧ len = 4) := by
  unfold arS at h2
  split at h2
  · omega
  · split at h2
    · rename_i h3; omega
    · split at h2
      · omega
      · split at h2
        · omega
        · split at h2 <;> omega
theorem field_short (F : Nat) (hF : F = 23 ∨ F = 22) (op : Int) (a : Option Addr) (len cap : Nat) (w : World) (h : len < 3) :
    Calls Try.prog F #[.int .u16 op, .slice a len cap] w fun e w' => e = .returned (.tuple #[.int .u32 0, .bool false]) ∧ Below w.heap.size w w' := by
  have h3 : (len : Int) < 3 := by omega
  rcases hF with rfl | rfl
  · go_enter Try.func23, Try.ntmps23
    go_wp2_with fail
    go_ret2
    exact ⟨rfl, Below.refl _ _⟩
  · go_enter Try.func22, Try.ntmps22
    go_wp2_with fail
    go_ret2
    exact ⟨rfl, Below.refl _ _⟩
set_option maxRecDepth 100000 in
theorem field_other (F : Nat) (hF : F = 23 ∨ F = 22) (op : Int) (a : Option Addr) (len cap : Nat) (w : World) (h : 3 ≤ len) (hl : len ≤ 9223372036854775807) (h2 : ¬ (len : Int) = arS op) :
    Calls Try.prog F #[.int .u16 op, .slice a len cap] w fun e w' => e = .returned (.tuple #[.int .u32 0, .bool false]) ∧ Below w.heap.size w w' := by
  have h3 : 3 ≤ (len : Int) := by omega
  have c1 := arity_own op
  have c2 := arity_ref op
  have hb : (((len : Int)) != arS op) = true := by simpa using h2
  generalize arS op = n at c1 c2 hb
  clear h2 h
  have hB := Below.refl w.heap.size w
  rcases hF with rfl | rfl
  · go_enter Try.func23, Try.ntmps23
    go_wp2_with (go_at_call 20; (with_reducible refine (c1 _).mono ?_); rintro e w1 ⟨rfl, hn⟩; replace hB := bcall hB hn; clear hn)
    go_ret2
    exact ⟨rfl, hB⟩
  · go_enter Try.func22, Try.ntmps22
    go_wp2_with (go_at_call 21; (with_reducible refine (c2 _).mono ?_); rintro e w1 ⟨rfl, hn⟩; replace hB := bcall hB hn; clear hn)
    go_ret2
    exact ⟨rfl, hB⟩
theorem ret_F {x y : Int} {w w' : World} (h : x = y) (hb : Below w.heap.size w w') : Ending.returned (.tuple #[.int .u32 x, .bool true]) = .returned (.tuple #[.int .u32 y, .bool true]) ∧ Below w.heap.size w w' := ⟨by rw [h], hb⟩
/-- Three words behind a pointer, whatever world above. -/
def At (w : World) (b o n : Nat) (g : Nat → Int) : Prop := ∀ i, i < n → w.cell? ⟨b, o + i, none⟩ = some (.int .u32 (g i))
theorem At.below {w w' : World} {b o n : Nat} {g : Nat → Int} (h : At w b o n g) (hb : b < w.heap.size) (k : Below w.heap.size w w') : At w' b o n g := fun i hi => (k.cell (p := ⟨b, o + i, none⟩) hb).trans (h i hi)
theorem At.drewN {w : World} {b o n : Nat} {g : Nat → Int} (h : At w b o n g) (q : Nat) : At (w.drewN q) b o n g := h
set_option maxRecDepth 100000 in
theorem own_select (b o cap : Nat) (g : Nat → Int) (w : World) (hbl : b < w.heap.size) (hA : At w b o 3 g) (hlo : ∀ i, i < 3 → 0 ≤ g i) (hhi : ∀ i, i < 3 → g i < 4294967296) :
    Calls Try.prog 23 #[.int .u16 169, .slice (some ⟨b, o, none⟩) 3 cap] w fun e w' => e = .returned (.tuple #[.int .u32 (fldV 169 g), .bool true]) ∧ Below w.heap.size w w' := by
  have c1 := arity_own 169
  rw [show arS 169 = 3 from rfl] at c1
  have hB := Below.refl w.heap.size w
  clear hlo hhi
  by_cases h : g 0 = 0
  · have e : fldV 169 g = g 2 := by simp [fldV, h]
    rw [e]
    have hz : (g 0 != 0) = false := by simpa using h
    clear h e
    go_enter Try.func23, Try.ntmps23
    go_wp2_with (go_at_call 20; (with_reducible refine (c1 _).mono ?_); rintro e w1 ⟨rfl, hn⟩; replace hB := bcall hB hn; have q0 := hA.below hbl hn; have d0 := q0 0 (by omega); have d1 := q0 1 (by omega); have d2 := q0 2 (by omega); simp only [Nat.add_zero] at d0; clear hn q0)
    go_ret2
    exact ⟨rfl, hB⟩
  · have e : fldV 169 g = g 1 := by simp [fldV, h]
    rw [e]
    have hz : (g 0 != 0) = true := by simpa using h
    clear h e
    go_enter Try.func23, Try.ntmps23
    go_wp2_with (go_at_call 20; (with_reducible refine (c1 _).mono ?_); rintro e w1 ⟨rfl, hn⟩; replace hB := bcall hB hn; have q0 := hA.below hbl hn; have d0 := q0 0 (by omega); have d1 := q0 1 (by omega); have d2 := q0 2 (by omega); simp only [Nat.add_zero] at d0; clear hn q0)
    go_ret2
    exact ⟨rfl, hB⟩
set_option maxRecDepth 100000 in
set_option maxHeartbeats 400000 in
theorem own_insert (b o cap : Nat) (g : Nat → Int) (w : World) (hbl : b < w.heap.size) (hA : At w b o 4 g) (hlo : ∀ i, i < 4 → 0 ≤ g i) (hhi : ∀ i, i < 4 → g i < 4294967296) :
    Calls Try.prog 23 #[.int .u16 201, .slice (some ⟨b, o, none⟩) 4 cap] w fun e w' => e = .returned (.tuple #[.int .u32 (fldV 201 g), .bool true]) ∧ Below w.heap.size w w' := by
  have c1 := arity_own 201
  rw [show arS 201 = 4 from rfl] at c1
  have hB := Below.refl w.heap.size w
  have f0 := hlo 0 (by omega)
  have f1 := hhi 0 (by omega)
  have f2 := hlo 1 (by omega)
  have f3 := hhi 1 (by omega)
  have f4 := hlo 2 (by omega)
  have f5 := hhi 2 (by omega)
  have f6 := hlo 3 (by omega)
  have f7 := hhi 3 (by omega)
  have hw := wid_le (g 2) (g 3) f4 f6
  have hI := hid (ins_is (g 2 % 32).toNat (wid (g 2) (g 3)) (g 0) (g 1) hw.2 f0 f1 f2 f3)
  have hf := field_any (g 2) (g 3) f4 f5 f6 f7
  have hm := msk_bd _ hw.1
  have e : fldV 201 g = insS (g 2 % 32).toNat (wid (g 2) (g 3)) (g 0) (g 1) := rfl
  rw [e]
  clear e hlo hhi hw
  generalize insS (g 2 % 32).toNat (wid (g 2) (g 3)) (g 0) (g 1) = v at hI ⊢
  generalize msk (wid (g 2) (g 3)) = m at hI hf hm
  have fin : ∀ (W : World), W.cell? ⟨b, o + 0, none⟩ = some (.int .u32 (g 0)) → W.cell? ⟨b, o + 1, none⟩ = some (.int .u32 (g 1)) → W.cell? ⟨b, o + 2, none⟩ = some (.int .u32 (g 2)) → W.cell? ⟨b, o + 3, none⟩ = some (.int .u32 (g 3)) → True := fun _ _ _ _ _ => trivial
  clear fin
  go_enter Try.func23, Try.ntmps23
  go_wp2_with (go_at_call 20; (with_reducible refine (c1 _).mono ?_); rintro e w1 ⟨rfl, hn⟩; replace hB := bcall hB hn; have q0 := hA.below hbl hn; have d0 := q0 0 (by omega); have d1 := q0 1 (by omega); have d2 := q0 2 (by omega); have d3 := q0 3 (by omega); simp only [Nat.add_zero] at d0; clear hn q0)
  go_quiet ((go_at_call 40; exact Calls.quiet_of_same (hf _)))
  go_wp2
  go_quiet (fail)
  go_wp2
  go_ret2
  exact ret_F hI.out (belowN (belowN hB _) _)
set_option maxRecDepth 100000 in
set_option maxHeartbeats 400000 in
theorem own_ext_202 (b o cap : Nat) (g : Nat → Int) (w : World) (hbl : b < w.heap.size) (hA : At w b o 3 g) (hlo : ∀ i, i < 3 → 0 ≤ g i) (hhi : ∀ i, i < 3 → g i < 4294967296) :
    Calls Try.prog 23 #[.int .u16 202, .slice (some ⟨b, o, none⟩) 3 cap] w fun e w' => e = .returned (.tuple #[.int .u32 (fldV 202 g), .bool true]) ∧ Below w.heap.size w w' := by
  have c1 := arity_own 202
  rw [show arS 202 = 3 from rfl] at c1
  have hB := Below.refl w.heap.size w
  have f0 := hlo 0 (by omega)
  have f1 := hhi 0 (by omega)
  have f2 := hlo 1 (by omega)
  have f3 := hhi 1 (by omega)
  have f4 := hlo 2 (by omega)
  have f5 := hhi 2 (by omega)
  have hw := wid_le (g 1) (g 2) f2 f4
  have hI := extn_is (g 1 % 32).toNat (wid (g 1) (g 2)) (g 0) hw.2 f0 f1
  have hf := field_any (g 1) (g 2) f2 f3 f4 f5
  have hm := msk_bd _ hw.1
  have hh := half (g 1 % 32).toNat (wid (g 1) (g 2)) (g 0) hw.2 f0 f1
  have hhi2 := exts_hi (g 1 % 32).toNat (wid (g 1) (g 2)) (g 0) hw.2 f0 f1
  have hlo2 := exts_lo (g 1 % 32).toNat (wid (g 1) (g 2)) (g 0)
  have hnw := not_word (msk (wid (g 1) (g 2))) hm.1 hm.2
  have e : fldV 202 g = extS true (g 1 % 32).toNat (wid (g 1) (g 2)) (g 0) := rfl
  rw [e]
  clear e hlo hhi hw
  by_cases hc : 0 < wid (g 1) (g 2) ∧ bit (g 0) ((g 1 % 32).toNat + wid (g 1) (g 2) - 1) = 1
  · have hd := hh.2 hc
    have hv := hhi2 hc
    clear hh hhi2 hlo2 hc
    generalize extS true (g 1 % 32).toNat (wid (g 1) (g 2)) (g 0) = v at hv ⊢
    generalize extS false (g 1 % 32).toNat (wid (g 1) (g 2)) (g 0) = x at hI hd hv
    generalize msk (wid (g 1) (g 2)) = m at hI hf hm hd hv hnw
    go_enter Try.func23, Try.ntmps23
    go_wp2_with (go_at_call 20; (with_reducible refine (c1 _).mono ?_); rintro e w1 ⟨rfl, hn⟩; replace hB := bcall hB hn; have q0 := hA.below hbl hn; have d0 := q0 0 (by omega); have d1 := q0 1 (by omega); have d2 := q0 2 (by omega); simp only [Nat.add_zero] at d0; clear hn q0)
    go_quiet ((go_at_call 40; exact Calls.quiet_of_same (hf _)))
    go_wp2
    go_ret2
    exact ret_F rfl (belowN hB _)
  · have hd : ¬ msk (wid (g 1) (g 2)) / 2 < extS false (g 1 % 32).toNat (wid (g 1) (g 2)) (g 0) := fun h => hc (hh.1 h)
    have hv := hlo2 hc
    rw [← hv]
    clear hh hhi2 hlo2 hc hv hnw
    generalize extS false (g 1 % 32).toNat (wid (g 1) (g 2)) (g 0) = x at hI hd ⊢
    generalize msk (wid (g 1) (g 2)) = m at hI hf hm hd
    go_enter Try.func23, Try.ntmps23
    go_wp2_with (go_at_call 20; (with_reducible refine (c1 _).mono ?_); rintro e w1 ⟨rfl, hn⟩; replace hB := bcall hB hn; have q0 := hA.below hbl hn; have d0 := q0 0 (by omega); have d1 := q0 1 (by omega); have d2 := q0 2 (by omega); simp only [Nat.add_zero] at d0; clear hn q0)
    go_quiet ((go_at_call 40; exact Calls.quiet_of_same (hf _)))
    go_wp2
    go_ret2
    exact ret_F rfl (belowN hB _)
set_option maxRecDepth 100000 in
set_option maxHeartbeats 400000 in
theorem own_ext_203 (b o cap : Nat) (g : Nat → Int) (w : World) (hbl : b < w.heap.size) (hA : At w b o 3 g) (hlo : ∀ i, i < 3 → 0 ≤ g i) (hhi : ∀ i, i < 3 → g i < 4294967296) :
    Calls Try.prog 23 #[.int .u16 203, .slice (some ⟨b, o, none⟩) 3 cap] w fun e w' => e = .returned (.tuple #[.int .u32 (fldV 203 g), .bool true]) ∧ Below w.heap.size w w' := by
  have c1 := arity_own 203
  rw [show arS 203 = 3 from rfl] at c1
  have hB := Below.refl w.heap.size w
  have f0 := hlo 0 (by omega)
  have f1 := hhi 0 (by omega)
  have f2 := hlo 1 (by omega)
  have f3 := hhi 1 (by omega)
  have f4 := hlo 2 (by omega)
  have f5 := hhi 2 (by omega)
  have hw := wid_le (g 1) (g 2) f2 f4
  have hI := extn_is (g 1 % 32).toNat (wid (g 1) (g 2)) (g 0) hw.2 f0 f1
  have hf := field_any (g 1) (g 2) f2 f3 f4 f5
  have hm := msk_bd _ hw.1
  have e : fldV 203 g = extS false (g 1 % 32).toNat (wid (g 1) (g 2)) (g 0) := rfl
  rw [e]
  clear e hlo hhi hw
  generalize extS false (g 1 % 32).toNat (wid (g 1) (g 2)) (g 0) = v at hI ⊢
  generalize msk (wid (g 1) (g 2)) = m at hI hf hm
  go_enter Try.func23, Try.ntmps23
  go_wp2_with (go_at_call 20; (with_reducible refine (c1 _).mono ?_); rintro e w1 ⟨rfl, hn⟩; replace hB := bcall hB hn; have q0 := hA.below hbl hn; have d0 := q0 0 (by omega); have d1 := q0 1 (by omega); have d2 := q0 2 (by omega); simp only [Nat.add_zero] at d0; clear hn q0)
  go_quiet ((go_at_call 40; exact Calls.quiet_of_same (hf _)))
  go_wp2
  go_ret2
  exact ret_F rfl (belowN hB _)
end Go.Proofs.Ytlheggnoegedcaa
