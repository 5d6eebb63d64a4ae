/- Slices of words: what a walk is told of one; a copy in new memory ('kit.CopyWords'). -/
import Derived.Test.YtlheggnoegedcaaArity
import Derived.OwnWalk
namespace Go.Proofs.Ytlheggnoegedcaa
set_option linter.unusedVariables false
open Go.ChangeShapes Go.WideShapes Go.ChangeAt Go.RowKit
/-- The words of a list, as values. -/
def wl (g : Nat → Int) (len : Nat) : List Value := (List.range len).map fun j => Value.int .u32 (g j)
theorem wl_get (g : Nat → Int) (len k : Nat) (h : k < len) : (wl g len)[k]? = some (.int .u32 (g k)) := by simp [wl, h]
theorem wl_length (g : Nat → Int) (len : Nat) : (wl g len).length = len := by simp [wl]
theorem wl_set (g : Nat → Int) (len k : Nat) (v : Int) : (wl g len).set k (.int .u32 v) = wl (fun j => if j = k then v else g j) len := by
  apply List.ext_getElem?
  intro i
  rw [List.getElem?_set]
  by_cases e : k = i
  · subst e
    by_cases h : k < len
    · rw [if_pos rfl, if_pos (by rw [wl_length]; exact h), wl_get _ _ _ h, if_pos rfl]
    · simp [wl, h]
  · rw [if_neg e]
    by_cases h : i < len
    · rw [wl_get _ _ _ h, wl_get _ _ _ h, if_neg (Ne.symm e)]
    · simp [wl, h]
theorem wl_congr {f g : Nat → Int} (len : Nat) (h : ∀ k, k < len → f k = g k) : wl f len = wl g len := by
  unfold wl
  apply List.map_congr_left
  intro k hk
  rw [h k (by simpa using hk)]
theorem wl_zero (len : Nat) : (madeCells #[Value.int .u32 0] (len * 1)).toList = wl (fun _ => 0) len := by
  apply List.ext_getElem?
  intro i
  rw [Nat.mul_one]
  by_cases h : i < len
  · rw [wl_get _ _ _ h]
    simp [madeCells, h, Nat.mod_one]
  · simp [madeCells, wl, h]
/-- What a walk is told of a slice of words: its words, each of 32 bits, and where they lie. -/
structure Wd (w : World) (a : Option Addr) (len : Nat) (g : Nat → Int) : Prop where
  bytes : 4 * len ≤ 140737488355328
  lo : ∀ i, i < len → 0 ≤ g i
  hi : ∀ i, i < len → g i < 4294967296
  at_ : 0 < len → ∃ b o, a = some ⟨b, o, none⟩ ∧ b < w.heap.size ∧ ∀ i, i < len → w.cell? ⟨b, o + i, none⟩ = some (.int .u32 (g i))
theorem Wd.below {w w' : World} {a : Option Addr} {len : Nat} {g : Nat → Int} (h : Wd w a len g) (hb : Below w.heap.size w w') : Wd w' a len g :=
  ⟨h.bytes, h.lo, h.hi, fun hp => by
    obtain ⟨b, o, rfl, hlt, hc⟩ := h.at_ hp
    exact ⟨b, o, rfl, Nat.lt_of_lt_of_le hlt hb.size, fun i hi => (hb.cell (p := ⟨b, o + i, none⟩) hlt).trans (hc i hi)⟩⟩
theorem Wd.own {w : World} {base g0 cap len : Nat} {g : Nat → Int} (h : w.ownsRow base 23 1 (.slice (some ⟨g0, 0, none⟩) len cap) len (wl g len)) (hb : 4 * len ≤ 140737488355328) (h0 : ∀ i, i < len → 0 ≤ g i) (h1 : ∀ i, i < len → g i < 4294967296) : Wd w (some ⟨g0, 0, none⟩) len g :=
  ⟨hb, h0, h1, fun _ => ⟨g0, 0, rfl, (h.lt g0 rfl).2, fun i hi => by rw [Nat.zero_add, h.cellAt i (by omega), wl_get _ _ _ hi]⟩⟩
theorem wd_nil (w : World) : Wd w none 0 (fun _ => 0) := ⟨by omega, fun _ h => by omega, fun _ h => by omega, fun h => by omega⟩
theorem wd_row (w : World) (x : Addr) (len : Nat) (zs : List Int) (hb : 4 * len ≤ 140737488355328) (hl : len ≤ zs.length)
    (hcell : ∀ i, i < zs.length → w.cell? (x.add i) = some (.int .u32 (zs.getD i 0))) (hwz : ∀ n ∈ zs, (Lit.int .u32 n).wf = true) : Wd w (some x) len (fun i => zs.getD i 0) := by
  have hbd : ∀ i, i < len → 0 ≤ zs.getD i 0 ∧ zs.getD i 0 < 4294967296 := by
    intro i hi
    have hm : zs.getD i 0 ∈ zs := by
      rw [List.getD_eq_getElem?_getD, List.getElem?_eq_getElem (by omega)]
      exact List.getElem_mem _
    exact u32_bd (hwz _ hm)
  refine ⟨hb, fun i hi => (hbd i hi).1, fun i hi => (hbd i hi).2, fun hp => ?_⟩
  obtain ⟨b, o, sp⟩ := x
  have h0 := hcell 0 (by omega)
  have hsp : sp = none := by
    cases sp with
    | none => rfl
    | some s =>
      simp only [Addr.add, if_true, World.cell?] at h0
      split at h0
      · simp at h0
      · cases h0
  subst hsp
  refine ⟨b, o, rfl, block_lt_of_cell (a := ⟨b, o, none⟩) h0, fun i hi => ?_⟩
  have h1 := hcell i (by omega)
  have e : (⟨b, o, none⟩ : Addr).add i = ⟨b, o + i, none⟩ := by
    unfold Addr.add
    split
    · rename_i h; subst h; rfl
    · rfl
  rw [e] at h1
  exact h1
theorem info23 : (Try.prog.info? 23).map (fun i => (i.zero, i.size, i.bytes)) = some (some (.int .u32 0), 1, 4) := by kernel_rfl
set_option maxHeartbeats 400000 in
theorem copy_words (a : Option Addr) (len cap : Nat) (g : Nat → Int) (w : World) (h : Wd w a len g) :
    Calls Try.prog 24 #[.slice a len cap] w fun e w' => e = .returned (.slice (some ⟨w.heap.size, 0, none⟩) len len) ∧
      w'.ownsRow w.heap.size 23 1 (.slice (some ⟨w.heap.size, 0, none⟩) len len) len (wl g len) ∧ Below w.heap.size w w' := by
  obtain ⟨i0, hi, hz0, hz1, hz2⟩ := info_parts info23
  have hby := h.bytes
  have hlen : len ≤ 9223372036854775807 := by omega
  have H := hid h
  clear h
  go_enter Try.func24, Try.ntmps24
  go_wp2_with (at_make; refine wpList_make_full w rfl _ _ 36 rfl w.heap.size 23 i0 (.int .u32 0) 1 Try.underlying36 hi hz0 hz1 _ _ _ _ len rfl rfl rfl rfl (by rw [hz2]; omega) (by unfold maxLen; omega) (Nat.le_refl _) ?_; intro W1 hown hgr)
  have hown0 : W1.ownsRow w.heap.size 23 1 (.slice (some ⟨w.heap.size, 0, none⟩) len len) len (wl (fun j => if j < 0 then g j else 0) len) := by
    rw [wl_congr len (g := fun _ => 0) (fun k _ => by simp), ← wl_zero]; exact hown
  have hB0 : Below w.heap.size w W1 := (Below.refl _ _).grown hgr (Nat.le_refl _) (fun k hk => by cases hk)
  clear hown hgr hi hz0 hz1 hz2
  go_loopw [4] (fun i wr => ∃ k : Nat, k ≤ len ∧ i = .int .i64 k ∧ wr.ownsRow w.heap.size 23 1 (.slice (some ⟨w.heap.size, 0, none⟩) len len) len (wl (fun j => if j < k then g j else 0) len) ∧ Below w.heap.size w wr) (fun i _ => len - (intOf i).toNat)
  case atStart => exact ⟨0, by omega, rfl, hown0, hB0⟩
  case round =>
    clear hown0 hB0
    obtain ⟨k, hk, rfl, ho, hB⟩ := hrel
    by_cases hlt : k < len
    · obtain ⟨b, o, rfl, hbl, hc⟩ := H.out.at_ (by omega)
      have hc1 : wr.cell? ⟨b, o + k, none⟩ = some (.int .u32 (g k)) := (hB.cell (p := ⟨b, o + k, none⟩) hbl).trans (hc k hlt)
      have hc2 : wr.cell? ⟨w.heap.size, k, none⟩ = some (.int .u32 0) := by rw [ho.cellAt k (by omega), wl_get _ _ _ hlt, if_neg (Nat.lt_irrefl k)]
      have hf2 := ho.frozenAt k
      have hst := hid (ho.stored k (.int .u32 (g k)))
      have HB := hid hB
      clear hc ho hB
      go_wp2
      go_roundw
      case rel =>
        refine ⟨k + 1, by omega, by go_num, ?_, Below.setCell HB.out (Nat.le_refl _) _⟩
        have h1 := hst.out.1
        rw [wl_set] at h1
        have e : wl (fun j => if j < k + 1 then g j else 0) len = wl (fun j => if j = k then g k else if j < k then g j else 0) len := wl_congr len (fun j _ => by
          by_cases e : j = k
          · subst e; simp
          · by_cases e2 : j < k <;> simp [e, e2] <;> omega)
        rw [e]
        exact h1
      case measure => simp [intOf]; omega
    · obtain rfl : k = len := by omega
      have e : wl (fun j => if j < k then g j else 0) k = wl g k := wl_congr k (fun j hj => by simp [hj])
      rw [e] at ho
      clear e hlt
      go_wp2
      go_ret
      exact ⟨rfl, ho, hB⟩
end Go.Proofs.Ytlheggnoegedcaa
