/- The walk of 'ArithFields'. -/
import Derived.Test.YtlheggnoegedcaaFieldref
namespace Go.Proofs.Ytlheggnoegedcaa
set_option linter.unusedVariables false
open Go.ChangeShapes Go.WideShapes Go.ChangeAt Go.RowKit
/-- What 'Field' says. -/
def fldR (op : Int) (len : Nat) (g : Nat → Int) : Int := if isFld op len then fldV op g else 0
theorem fld_no {op : Int} {len : Nat} {g : Nat → Int} (h : isFld op len = false) : fldR op len g = 0 := by simp [fldR, h]
theorem fld_yes {op : Int} {len : Nat} {g : Nat → Int} (h : isFld op len = true) : fldR op len g = fldV op g := by simp [fldR, h]
/-- Both sides at once: the four operations, or none. -/
theorem field_by (F : Nat) (hF : F = 23 ∨ F = 22)
    (s1 : ∀ (b o cap : Nat) (g : Nat → Int) (w : World) (hbl : b < w.heap.size) (hA : At w b o 3 g) (hlo : ∀ i, i < 3 → 0 ≤ g i) (hhi : ∀ i, i < 3 → g i < 4294967296) (op : Int) (h : op = 169 ∨ op = 202 ∨ op = 203),
      Calls Try.prog F #[.int .u16 op, .slice (some ⟨b, o, none⟩) 3 cap] w fun e w' => e = .returned (.tuple #[.int .u32 (fldV op g), .bool true]) ∧ Below w.heap.size w w')
    (s2 : ∀ (b o cap : Nat) (g : Nat → Int) (w : World) (hbl : b < w.heap.size) (hA : At w b o 4 g) (hlo : ∀ i, i < 4 → 0 ≤ g i) (hhi : ∀ i, i < 4 → g i < 4294967296),
      Calls Try.prog F #[.int .u16 201, .slice (some ⟨b, o, none⟩) 4 cap] w fun e w' => e = .returned (.tuple #[.int .u32 (fldV 201 g), .bool true]) ∧ Below w.heap.size w w')
    (op : Int) (a : Option Addr) (len cap : Nat) (g : Nat → Int) (w : World) (h : Wd w a len g) :
    Calls Try.prog F #[.int .u16 op, .slice a len cap] w fun e w' => e = .returned (.tuple #[.int .u32 (fldR op len g), .bool (isFld op len)]) ∧ Below w.heap.size w w' := by
  have hb := h.bytes
  by_cases h3 : len < 3
  · have e : isFld op len = false := by simp [isFld]; omega
    rw [fld_no e, e]
    exact field_short F hF op a len cap w h3
  by_cases h4 : (len : Int) = arS op
  · have e : isFld op len = true := by simp [isFld, h4]; omega
    rw [fld_yes e, e]
    obtain ⟨b, o, rfl, hbl, hc⟩ := h.at_ (by omega)
    rcases arS_field op len (by omega) h4 with ⟨ho, rfl⟩ | ⟨ho, rfl⟩ | ⟨ho, rfl⟩ | ⟨rfl, rfl⟩
    · exact s1 b o cap g w hbl hc h.lo h.hi op (.inl ho)
    · exact s1 b o cap g w hbl hc h.lo h.hi op (.inr (.inl ho))
    · exact s1 b o cap g w hbl hc h.lo h.hi op (.inr (.inr ho))
    · exact s2 b o cap g w hbl hc h.lo h.hi
  · have e : isFld op len = false := by simp [isFld, h4]
    rw [fld_no e, e]
    exact field_other F hF op a len cap w (by omega) (by omega) h4
theorem field_own (op : Int) (a : Option Addr) (len cap : Nat) (g : Nat → Int) (w : World) (h : Wd w a len g) :
    Calls Try.prog 23 #[.int .u16 op, .slice a len cap] w fun e w' => e = .returned (.tuple #[.int .u32 (fldR op len g), .bool (isFld op len)]) ∧ Below w.heap.size w w' := by
  refine field_by 23 (.inl rfl) ?_ own_insert op a len cap g w h
  intro b o cap g w hbl hA hlo hhi op ho
  rcases ho with rfl | rfl | rfl
  · exact own_select b o cap g w hbl hA hlo hhi
  · exact own_ext_202 b o cap g w hbl hA hlo hhi
  · exact own_ext_203 b o cap g w hbl hA hlo hhi
theorem field_ref (op : Int) (a : Option Addr) (len cap : Nat) (g : Nat → Int) (w : World) (h : Wd w a len g) :
    Calls Try.prog 22 #[.int .u16 op, .slice a len cap] w fun e w' => e = .returned (.tuple #[.int .u32 (fldR op len g), .bool (isFld op len)]) ∧ Below w.heap.size w w' := by
  refine field_by 22 (.inr rfl) ?_ ?_ op a len cap g w h
  · intro b o cap g w hbl hA hlo hhi op ho
    have f1 := hlo 1 (by omega)
    have f2 := hlo 2 (by omega)
    have hp : g 1 % 32 = (((g 1 % 32).toNat : Nat) : Int) := by omega
    rcases ho with rfl | rfl | rfl
    · exact ref_select b o cap g w hbl hA hlo hhi
    · by_cases hc : g 2 < 32 - g 1 % 32
      · have := ref_ext_202a b o cap g w hbl hA hlo hhi hc (g 2).toNat _ (by omega) (by omega) hp
        have e : fldV 202 g = extS true (g 1 % 32).toNat (g 2).toNat (g 0) := by
          show extS _ _ (wid _ _) _ = _
          unfold wid; rw [if_pos hc]; rfl
        rw [e]; exact this
      · have := ref_ext_202b b o cap g w hbl hA hlo hhi (by omega) (32 - g 1 % 32).toNat _ (by omega) (by omega) hp
        have e : fldV 202 g = extS true (g 1 % 32).toNat (32 - g 1 % 32).toNat (g 0) := by
          show extS _ _ (wid _ _) _ = _
          unfold wid; rw [if_neg hc]; rfl
        rw [e]; exact this
    · by_cases hc : g 2 < 32 - g 1 % 32
      · have := ref_ext_203a b o cap g w hbl hA hlo hhi hc (g 2).toNat _ (by omega) (by omega) hp
        have e : fldV 203 g = extS false (g 1 % 32).toNat (g 2).toNat (g 0) := by
          show extS _ _ (wid _ _) _ = _
          unfold wid; rw [if_pos hc]; rfl
        rw [e]; exact this
      · have := ref_ext_203b b o cap g w hbl hA hlo hhi (by omega) (32 - g 1 % 32).toNat _ (by omega) (by omega) hp
        have e : fldV 203 g = extS false (g 1 % 32).toNat (32 - g 1 % 32).toNat (g 0) := by
          show extS _ _ (wid _ _) _ = _
          unfold wid; rw [if_neg hc]; rfl
        rw [e]; exact this
  · intro b o cap g w hbl hA hlo hhi
    have f2 := hlo 2 (by omega)
    have f3 := hlo 3 (by omega)
    have hp : g 2 % 32 = (((g 2 % 32).toNat : Nat) : Int) := by omega
    by_cases hc : g 3 < 32 - g 2 % 32
    · have := ref_insert_a b o cap g w hbl hA hlo hhi hc (g 3).toNat _ (by omega) (by omega) hp
      have e : fldV 201 g = insS (g 2 % 32).toNat (g 3).toNat (g 0) (g 1) := by
        show insS _ (wid _ _) _ _ = _
        unfold wid; rw [if_pos hc]
      rw [e]; exact this
    · have := ref_insert_b b o cap g w hbl hA hlo hhi (by omega) (32 - g 2 % 32).toNat _ (by omega) (by omega) hp
      have e : fldV 201 g = insS (g 2 % 32).toNat (32 - g 2 % 32).toNat (g 0) (g 1) := by
        show insS _ (wid _ _) _ _ = _
        unfold wid; rw [if_neg hc]
      rw [e]; exact this
theorem walk_fields (op : Int) (a : Option Addr) (len cap : Nat) (g : Nat → Int) (w : World) (h : Wd w a len g) :
    Calls Try.prog 10 #[.int .u16 op, .slice a len cap] w fun e w' => e = .returned (.bool true) ∧ Below w.heap.size w w' := by
  have c1 := field_ref op a len cap g
  have c2 := copy_words a len cap g
  have c3 := fun b W H => field_own op (some ⟨b, 0, none⟩) len len g W H
  have HB := hid h.bytes
  have H0 := hid h.lo
  have H1 := hid h.hi
  have H := hid h
  clear h
  generalize fldR op len g = x at c1 c3
  generalize isFld op len = z at c1 c3
  go_enter Try.func10, Try.ntmps10
  go_wp2_with (first | (go_at_call 22; (with_reducible refine (c1 _ H.out).mono ?_); rintro e W1 ⟨rfl, hB1⟩) | (go_at_call 24; (with_reducible refine (c2 W1 (H.out.below hB1)).mono ?_); rintro e W2 ⟨rfl, ho, hB2⟩) | (go_at_call 23; (with_reducible refine (c3 _ W2 (Wd.own ho HB.out H0.out H1.out)).mono ?_); rintro e W3 ⟨rfl, hB3⟩))
  go_ret
  exact ⟨rfl, bcall (bcall hB1 hB2) hB3⟩
end Go.Proofs.Ytlheggnoegedcaa
