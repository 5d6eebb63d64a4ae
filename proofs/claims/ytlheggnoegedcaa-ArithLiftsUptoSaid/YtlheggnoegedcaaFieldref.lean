/- Fields of bits: the reference. -/
import Derived.Test.YtlheggnoegedcaaFieldlaw
namespace Go.Proofs.Ytlheggnoegedcaa
set_option linter.unusedVariables false
open Go.ChangeShapes Go.WideShapes Go.ChangeAt Go.RowKit
set_option maxRecDepth 100000 in
theorem ref_select (b o cap : Nat) (g : Nat → Int) (w : World) (hbl : b < w.heap.size) (hA : At w b o 3 g) (hlo : ∀ i, i < 3 → 0 ≤ g i) (hhi : ∀ i, i < 3 → g i < 4294967296) :
    Calls Try.prog 22 #[.int .u16 169, .slice (some ⟨b, o, none⟩) 3 cap] w fun e w' => e = .returned (.tuple #[.int .u32 (fldV 169 g), .bool true]) ∧ Below w.heap.size w w' := by
  have c1 := arity_ref 169
  rw [show arS 169 = 3 from rfl] at c1
  clear hlo hhi
  by_cases h : g 0 = 0
  · have e : fldV 169 g = g 2 := by simp [fldV, h]
    rw [e]
    have hz : (g 0 != 0) = false := by simpa using h
    clear h e
    go_enter Try.func22, Try.ntmps22
    go_wp2_with (go_at_call 21; (with_reducible refine (c1 _).mono ?_); rintro e W0 ⟨rfl, hB0⟩; have q0 := hA.below hbl hB0; have d0 := q0 0 (by omega); have d1 := q0 1 (by omega); have d2 := q0 2 (by omega); simp only [Nat.add_zero] at d0; have hb0 := Nat.lt_of_lt_of_le hbl hB0.size; clear q0)
    go_ret2
    exact ⟨rfl, hB0⟩
  · have e : fldV 169 g = g 1 := by simp [fldV, h]
    rw [e]
    have hz : (g 0 != 0) = true := by simpa using h
    clear h e
    go_enter Try.func22, Try.ntmps22
    go_wp2_with (go_at_call 21; (with_reducible refine (c1 _).mono ?_); rintro e W0 ⟨rfl, hB0⟩; have q0 := hA.below hbl hB0; have d0 := q0 0 (by omega); have d1 := q0 1 (by omega); have d2 := q0 2 (by omega); simp only [Nat.add_zero] at d0; have hb0 := Nat.lt_of_lt_of_le hbl hB0.size; clear q0)
    go_ret2
    exact ⟨rfl, hB0⟩
/-- The bits of a word into which so many bits of a field have been put. -/
def insF (o n : Nat) (a b : Int) (k : Nat) : Int := if o ≤ k ∧ k < o + n then bit b (k - o) else bit a k
theorem insF_bd (o n : Nat) (a b : Int) (k : Nat) : 0 ≤ insF o n a b k ∧ insF o n a b k ≤ 1 := by
  have := bit_bd a k; have := bit_bd b (k - o)
  unfold insF; split <;> omega
theorem insF_next (o k : Nat) (a b : Int) : row (insF o (k + 1) a b) = row (fun j => if j = o + k then bit b k else insF o k a b j) := by
  refine row_congr (fun j _ => ?_)
  unfold insF
  by_cases e : j = o + k
  · subst e
    rw [if_pos ⟨by omega, by omega⟩, if_pos rfl, show o + k - o = k by omega]
  · rw [if_neg e]
    by_cases e2 : o ≤ j ∧ j < o + k
    · rw [if_pos e2, if_pos ⟨e2.1, by omega⟩]
    · rw [if_neg e2, if_neg (by omega)]
theorem insF_none (o : Nat) (a b : Int) : row (insF o 0 a b) = row (bit a) := row_congr (fun j _ => by unfold insF; rw [if_neg (by omega)])
/-- The bits of a field that is taken out. -/
def extF (s : Bool) (o n : Nat) (a : Int) (k : Nat) : Int := if k < n then bit a (o + k) else if s ∧ 0 < n then bit a (o + n - 1) else 0
theorem extF_bd (s : Bool) (o n : Nat) (a : Int) (k : Nat) : 0 ≤ extF s o n a k ∧ extF s o n a k ≤ 1 := by
  have := bit_bd a (o + k); have := bit_bd a (o + n - 1)
  unfold extF; split <;> (try split) <;> omega
theorem fill_skip (f : Nat → Int) (k : Nat) (h : f k = 0) : row (fun j => if j < k + 1 then f j else 0) = row (fun j => if j < k then f j else 0) := by
  refine row_congr (fun j _ => ?_)
  by_cases e : j = k
  · subst e; simp [h]
  · by_cases e2 : j < k <;> simp [e2] <;> omega
set_option maxRecDepth 100000 in
set_option maxHeartbeats 1000000 in
theorem ref_insert_a (b o cap : Nat) (g : Nat → Int) (w : World) (hbl : b < w.heap.size) (hA : At w b o 4 g) (hlo : ∀ i, i < 4 → 0 ≤ g i) (hhi : ∀ i, i < 4 → g i < 4294967296) (hc : g 3 < 32 - g 2 % 32) (n p : Nat) (hn1 : (n : Int) ≤ g 3) (hn2 : g 3 ≤ (n : Int)) (hp : Hid (g 2 % 32 = (p : Int))) :
    Calls Try.prog 22 #[.int .u16 201, .slice (some ⟨b, o, none⟩) 4 cap] w fun e w' => e = .returned (.tuple #[.int .u32 (insS p n (g 0) (g 1)), .bool true]) ∧ Below w.heap.size w w' := by
  have c1 := arity_ref 201
  rw [show arS 201 = 4 from rfl] at c1
  have f0 := hlo 0 (by omega)
  have f1 := hhi 0 (by omega)
  have f2 := hlo 1 (by omega)
  have f3 := hhi 1 (by omega)
  have f4 := hlo 2 (by omega)
  have f5 := hhi 2 (by omega)
  have f6 := hlo 3 (by omega)
  have f7 := hhi 3 (by omega)
  have k0 := bits_B (g 0) f0 f1
  have k1 := bits_B (g 1) f2 f3
  have hof := of_B (insF p n (g 0) (g 1)) (insF_bd p n (g 0) (g 1))
  have hpn : Hid (p + n ≤ 32) := by have := hp.out; show _ ≤ _; omega
  clear hlo hhi
  go_enter Try.func22, Try.ntmps22
  go_wp2_with (first | (go_at_call 21; (with_reducible refine (c1 _).mono ?_); rintro e W0 ⟨rfl, hB0⟩; have q0 := hA.below hbl hB0; have d0 := q0 0 (by omega); have d1 := q0 1 (by omega); have d2 := q0 2 (by omega); have d3 := q0 3 (by omega); simp only [Nat.add_zero] at d0; have hb0 := Nat.lt_of_lt_of_le hbl hB0.size; clear q0) | (go_at_call 38; (with_reducible refine (k0 _).mono ?_); rintro e W1 ⟨rfl, hB1⟩; have m1 := (hB1.cell (p := ⟨b, o + 1, none⟩) hb0).trans d1; have hb1 := Nat.lt_of_lt_of_le hb0 hB1.size) | (go_at_call 38; (with_reducible refine (k1 _).mono ?_); rintro e W2 ⟨rfl, hB2⟩) | (refine wpList_store_row rfl 68 _ _ rfl W1.heap.size rfl 68 (row (fun _ => 0)) (row (bit (g 0))) rfl (alloc_at _ _) (by rw [row_size]; exact info68) rfl (row_one _) ?_; rw [setRow_alloc]) | (refine wpList_store_row rfl 68 _ _ rfl W2.heap.size rfl 68 (row (fun _ => 0)) (row (bit (g 1))) rfl (alloc_at _ _) (by rw [row_size]; exact info68) rfl (row_one _) ?_; rw [setRow_alloc]))
  have hlt12 : W1.heap.size < W2.heap.size := by
    have := hB2.size
    have e : (W1.alloc (.cells (row (bit (g 0))) 68)).heap.size = W1.heap.size + 1 := by
      show (W1.heap.push _).size = _
      simp
    omega
  have hX : W2.heap[W1.heap.size]? = some (.cells (row (bit (g 0))) 68 (0, 0)) := by
    rw [hB2.block _ (by show _ < (W1.heap.push _).size; simp)]; exact alloc_at _ _
  have hBB : Below w.heap.size w W2 := bcall (bal (bcall hB0 hB1) _) hB2
  have hs1 : w.heap.size ≤ W1.heap.size := Nat.le_trans hB0.size hB1.size
  clear k0 k1 d0 d1 d2 d3 m1 hb0 hb1 hA
  go_loopw [10] (fun i wr => ∃ k : Nat, k ≤ n ∧ i = .int .i64 k ∧ wr.heap[W1.heap.size]? = some (.cells (row (insF p k (g 0) (g 1))) 68 (0, 0)) ∧ wr.heap[W2.heap.size]? = some (.cells (row (bit (g 1))) 68 (0, 0)) ∧ Below w.heap.size w wr) (fun i _ => n - (intOf i).toNat)
  case atStart =>
    refine ⟨0, by omega, rfl, ?_, alloc_at _ _, bal hBB _⟩
    rw [heap_alloc_old _ _ hlt12, insF_none]; exact hX
  case round =>
    clear hX
    obtain ⟨k, hk, rfl, g1, g2, hB⟩ := hrel
    by_cases hlt : k < n
    · have hpk : p + k < 32 := by have := hpn.out; omega
      have hidx : (g 2 % 32 + (k : Int)).toNat = p + k := by have := hp.out; omega
      have hix2 : g 2 % 32 + (k : Int) < 32 := by have := hp.out; omega
      have hc1 : wr.cell? ⟨W2.heap.size, k, none⟩ = some (.int .u32 (bit (g 1) k)) := by rw [cell_of_row wr _ _ _ _ _ g2]; exact row_get _ _ (by omega)
      have hc2 : wr.cell? ⟨W1.heap.size, p + k, none⟩ = some (.int .u32 (insF p k (g 0) (g 1) (p + k))) := by rw [cell_of_row wr _ _ _ _ _ g1]; exact row_get _ _ hpk
      have hf2 := frozen_of_row wr W1.heap.size (p + k) _ _ g1
      have hbb := bit_bd (g 1) k
      have G1 := hid g1
      have G2 := hid g2
      clear g1 g2
      go_wp2
      go_roundw
      case rel =>
        refine ⟨k + 1, by omega, by go_num, ?_, ?_, Below.setCell hB hs1 _⟩
        · rw [heap_setCell_same wr W1.heap.size (p + k) _ 68 _ G1.out, row_set, insF_next]
        · rw [heap_setCell_other _ _ _ _ (show W2.heap.size ≠ W1.heap.size by omega)]; exact G2.out
      case measure => simp [intOf]; omega
    · obtain rfl : k = n := by omega
      clear hlt hk
      go_wp2_with (first | (go_at_call 39; refine (hof _).mono ?_; rintro e W3 ⟨rfl, hB3⟩) | (refine wpList_load_row rfl 68 _ rfl W1.heap.size rfl 68 (row (insF p k (g 0) (g 1))) _ _ g1 Try.underlying68 rfl (by rw [row_size]; exact info68) ?_))
      go_ret2
      exact ⟨rfl, bcall hB hB3⟩
set_option maxRecDepth 100000 in
set_option maxHeartbeats 1000000 in
theorem ref_insert_b (b o cap : Nat) (g : Nat → Int) (w : World) (hbl : b < w.heap.size) (hA : At w b o 4 g) (hlo : ∀ i, i < 4 → 0 ≤ g i) (hhi : ∀ i, i < 4 → g i < 4294967296) (hc : 32 - g 2 % 32 ≤ g 3) (n p : Nat) (hn1 : (n : Int) ≤ 32 - g 2 % 32) (hn2 : 32 - g 2 % 32 ≤ (n : Int)) (hp : Hid (g 2 % 32 = (p : Int))) :
    Calls Try.prog 22 #[.int .u16 201, .slice (some ⟨b, o, none⟩) 4 cap] w fun e w' => e = .returned (.tuple #[.int .u32 (insS p n (g 0) (g 1)), .bool true]) ∧ Below w.heap.size w w' := by
  have c1 := arity_ref 201
  rw [show arS 201 = 4 from rfl] at c1
  have f0 := hlo 0 (by omega)
  have f1 := hhi 0 (by omega)
  have f2 := hlo 1 (by omega)
  have f3 := hhi 1 (by omega)
  have f4 := hlo 2 (by omega)
  have f5 := hhi 2 (by omega)
  have f6 := hlo 3 (by omega)
  have f7 := hhi 3 (by omega)
  have k0 := bits_B (g 0) f0 f1
  have k1 := bits_B (g 1) f2 f3
  have hof := of_B (insF p n (g 0) (g 1)) (insF_bd p n (g 0) (g 1))
  have hpn : Hid (p + n ≤ 32) := by have := hp.out; show _ ≤ _; omega
  clear hlo hhi
  go_enter Try.func22, Try.ntmps22
  go_wp2_with (first | (go_at_call 21; (with_reducible refine (c1 _).mono ?_); rintro e W0 ⟨rfl, hB0⟩; have q0 := hA.below hbl hB0; have d0 := q0 0 (by omega); have d1 := q0 1 (by omega); have d2 := q0 2 (by omega); have d3 := q0 3 (by omega); simp only [Nat.add_zero] at d0; have hb0 := Nat.lt_of_lt_of_le hbl hB0.size; clear q0) | (go_at_call 38; (with_reducible refine (k0 _).mono ?_); rintro e W1 ⟨rfl, hB1⟩; have m1 := (hB1.cell (p := ⟨b, o + 1, none⟩) hb0).trans d1; have hb1 := Nat.lt_of_lt_of_le hb0 hB1.size) | (go_at_call 38; (with_reducible refine (k1 _).mono ?_); rintro e W2 ⟨rfl, hB2⟩) | (refine wpList_store_row rfl 68 _ _ rfl W1.heap.size rfl 68 (row (fun _ => 0)) (row (bit (g 0))) rfl (alloc_at _ _) (by rw [row_size]; exact info68) rfl (row_one _) ?_; rw [setRow_alloc]) | (refine wpList_store_row rfl 68 _ _ rfl W2.heap.size rfl 68 (row (fun _ => 0)) (row (bit (g 1))) rfl (alloc_at _ _) (by rw [row_size]; exact info68) rfl (row_one _) ?_; rw [setRow_alloc]))
  have hlt12 : W1.heap.size < W2.heap.size := by
    have := hB2.size
    have e : (W1.alloc (.cells (row (bit (g 0))) 68)).heap.size = W1.heap.size + 1 := by
      show (W1.heap.push _).size = _
      simp
    omega
  have hX : W2.heap[W1.heap.size]? = some (.cells (row (bit (g 0))) 68 (0, 0)) := by
    rw [hB2.block _ (by show _ < (W1.heap.push _).size; simp)]; exact alloc_at _ _
  have hBB : Below w.heap.size w W2 := bcall (bal (bcall hB0 hB1) _) hB2
  have hs1 : w.heap.size ≤ W1.heap.size := Nat.le_trans hB0.size hB1.size
  clear k0 k1 d0 d1 d2 d3 m1 hb0 hb1 hA
  go_loopw [10] (fun i wr => ∃ k : Nat, k ≤ n ∧ i = .int .i64 k ∧ wr.heap[W1.heap.size]? = some (.cells (row (insF p k (g 0) (g 1))) 68 (0, 0)) ∧ wr.heap[W2.heap.size]? = some (.cells (row (bit (g 1))) 68 (0, 0)) ∧ Below w.heap.size w wr) (fun i _ => n - (intOf i).toNat)
  case atStart =>
    refine ⟨0, by omega, rfl, ?_, alloc_at _ _, bal hBB _⟩
    rw [heap_alloc_old _ _ hlt12, insF_none]; exact hX
  case round =>
    clear hX
    obtain ⟨k, hk, rfl, g1, g2, hB⟩ := hrel
    by_cases hlt : k < n
    · have hpk : p + k < 32 := by have := hpn.out; omega
      have hidx : (g 2 % 32 + (k : Int)).toNat = p + k := by have := hp.out; omega
      have hix2 : g 2 % 32 + (k : Int) < 32 := by have := hp.out; omega
      have hc1 : wr.cell? ⟨W2.heap.size, k, none⟩ = some (.int .u32 (bit (g 1) k)) := by rw [cell_of_row wr _ _ _ _ _ g2]; exact row_get _ _ (by omega)
      have hc2 : wr.cell? ⟨W1.heap.size, p + k, none⟩ = some (.int .u32 (insF p k (g 0) (g 1) (p + k))) := by rw [cell_of_row wr _ _ _ _ _ g1]; exact row_get _ _ hpk
      have hf2 := frozen_of_row wr W1.heap.size (p + k) _ _ g1
      have hbb := bit_bd (g 1) k
      have G1 := hid g1
      have G2 := hid g2
      clear g1 g2
      go_wp2
      go_roundw
      case rel =>
        refine ⟨k + 1, by omega, by go_num, ?_, ?_, Below.setCell hB hs1 _⟩
        · rw [heap_setCell_same wr W1.heap.size (p + k) _ 68 _ G1.out, row_set, insF_next]
        · rw [heap_setCell_other _ _ _ _ (show W2.heap.size ≠ W1.heap.size by omega)]; exact G2.out
      case measure => simp [intOf]; omega
    · obtain rfl : k = n := by omega
      clear hlt hk
      go_wp2_with (first | (go_at_call 39; refine (hof _).mono ?_; rintro e W3 ⟨rfl, hB3⟩) | (refine wpList_load_row rfl 68 _ rfl W1.heap.size rfl 68 (row (insF p k (g 0) (g 1))) _ _ g1 Try.underlying68 rfl (by rw [row_size]; exact info68) ?_))
      go_ret2
      exact ⟨rfl, bcall hB hB3⟩
set_option maxRecDepth 100000 in
set_option maxHeartbeats 1000000 in
theorem ref_ext_202a (b o cap : Nat) (g : Nat → Int) (w : World) (hbl : b < w.heap.size) (hA : At w b o 3 g) (hlo : ∀ i, i < 3 → 0 ≤ g i) (hhi : ∀ i, i < 3 → g i < 4294967296) (hc : g 2 < 32 - g 1 % 32) (n p : Nat) (hn1 : (n : Int) ≤ g 2) (hn2 : g 2 ≤ (n : Int)) (hp : Hid (g 1 % 32 = (p : Int))) :
    Calls Try.prog 22 #[.int .u16 202, .slice (some ⟨b, o, none⟩) 3 cap] w fun e w' => e = .returned (.tuple #[.int .u32 (extS true p n (g 0)), .bool true]) ∧ Below w.heap.size w w' := by
  have c1 := arity_ref 202
  rw [show arS 202 = 3 from rfl] at c1
  have f0 := hlo 0 (by omega)
  have f1 := hhi 0 (by omega)
  have f2 := hlo 1 (by omega)
  have f3 := hhi 1 (by omega)
  have f4 := hlo 2 (by omega)
  have f5 := hhi 2 (by omega)
  have k0 := bits_B (g 0) f0 f1
  have hof := of_B (extF true p n (g 0)) (extF_bd true p n (g 0))
  have hpn : Hid (p + n ≤ 32) := by have := hp.out; show _ ≤ _; omega
  clear hlo hhi
  go_enter Try.func22, Try.ntmps22
  go_wp2_with (first | (go_at_call 21; (with_reducible refine (c1 _).mono ?_); rintro e W0 ⟨rfl, hB0⟩; have q0 := hA.below hbl hB0; have d0 := q0 0 (by omega); have d1 := q0 1 (by omega); have d2 := q0 2 (by omega); simp only [Nat.add_zero] at d0; have hb0 := Nat.lt_of_lt_of_le hbl hB0.size; clear q0) | (go_at_call 38; (with_reducible refine (k0 _).mono ?_); rintro e W1 ⟨rfl, hB1⟩) | (refine wpList_store_row rfl 68 _ _ rfl W1.heap.size rfl 68 (row (fun _ => 0)) (row (bit (g 0))) rfl (alloc_at _ _) (by rw [row_size]; exact info68) rfl (row_one _) ?_; rw [setRow_alloc]))
  have hBB : Below w.heap.size w W1 := bcall hB0 hB1
  clear k0 d0 d1 d2 hb0 hA
  go_loopw [12] (fun i wr => ∃ k : Nat, k ≤ 32 ∧ i = .int .i64 k ∧ wr = (W1.alloc (.cells (row (bit (g 0))) 68)).alloc (.cells (row (fun j => if j < k then (extF true p n (g 0)) j else 0)) 68)) (fun i _ => 32 - (intOf i).toNat)
  case atStart => exact ⟨0, by omega, rfl, by rw [fill_none]; rfl⟩
  case round =>
    obtain ⟨k, hk, rfl, rfl⟩ := hrel
    by_cases hk32 : k < 32
    · by_cases hin : k < n
      · have hv : (extF true p n (g 0)) k = bit (g 0) (p + k) := by unfold extF; rw [if_pos hin]
        have hidx : (g 1 % 32 + (k : Int)).toNat = p + k := by have := hp.out; omega
        have hix2 : g 1 % 32 + (k : Int) < 32 := by have := hp.out; have := hpn.out; omega
        have hcell : (row (bit (g 0)))[p + k]? = some (.int .u32 (bit (g 0) (p + k))) := row_get _ _ (by have := hpn.out; omega)
        have hset := row_set (fun j => if j < k then (extF true p n (g 0)) j else 0) k (bit (g 0) (p + k))
        have hnext := fill_next (extF true p n (g 0)) k
        rw [hv] at hnext
        have hnext2 := hid hnext
        have hcell2 := row_get (fun j => if j < k then (extF true p n (g 0)) j else 0) k hk32
        clear hv hnext
        go_wp2
        go_roundw
        case rel => exact ⟨k + 1, by omega, by go_num, by rw [hnext2.out]⟩
        case measure => simp [intOf]; omega
      · by_cases hz : 0 < n
        · have hv : (extF true p n (g 0)) k = bit (g 0) (p + n - 1) := by unfold extF; rw [if_neg hin, if_pos ⟨rfl, hz⟩]
          have hidx : (g 1 % 32 + (g 2) - 1).toNat = p + n - 1 := by have := hp.out; omega
          have hix2 : g 1 % 32 + (g 2) - 1 < 32 := by have := hp.out; omega
          have hcell : (row (bit (g 0)))[p + n - 1]? = some (.int .u32 (bit (g 0) (p + n - 1))) := row_get _ _ (by have := hpn.out; omega)
          have hset := row_set (fun j => if j < k then (extF true p n (g 0)) j else 0) k (bit (g 0) (p + n - 1))
          have hnext := fill_next (extF true p n (g 0)) k
          rw [hv] at hnext
          have hnext2 := hid hnext
          have hcell2 := row_get (fun j => if j < k then (extF true p n (g 0)) j else 0) k hk32
          have hin2 : n ≤ k := by omega
          clear hv hnext hin
          have hE : 0 < g 2 := by omega
          go_wp2
          go_roundw
          case rel => exact ⟨k + 1, by omega, by go_num, by rw [hnext2.out]⟩
          case measure => simp [intOf]; omega
        · skip
          have hv : (extF true p n (g 0)) k = 0 := by unfold extF; rw [if_neg hin, if_neg (fun h => hz h.2)]
          have hnext2 := hid (fill_skip (extF true p n (g 0)) k hv)
          have hin2 : n ≤ k := by omega
          clear hv hin
          have hE : ¬ 0 < g 2 := by omega
          go_wp2
          go_roundw
          case rel => exact ⟨k + 1, by omega, by go_num, by rw [hnext2.out]⟩
          case measure => simp [intOf]; omega
    · obtain rfl : k = 32 := by omega
      rw [fill_whole]
      clear hk32 hk
      go_wp2_with (first | (go_at_call 39; refine (hof _).mono ?_; rintro e W3 ⟨rfl, hB3⟩) | (refine wpList_load_row rfl 68 _ rfl (W1.heap.size + 1) rfl 68 (row (extF true p n (g 0))) _ _ (heap_alloc2_new _ _ _) Try.underlying68 rfl (by rw [row_size]; exact info68) ?_))
      go_ret2
      exact ⟨rfl, bcall (bal (bal hBB _) _) hB3⟩
set_option maxRecDepth 100000 in
set_option maxHeartbeats 1000000 in
theorem ref_ext_202b (b o cap : Nat) (g : Nat → Int) (w : World) (hbl : b < w.heap.size) (hA : At w b o 3 g) (hlo : ∀ i, i < 3 → 0 ≤ g i) (hhi : ∀ i, i < 3 → g i < 4294967296) (hc : 32 - g 1 % 32 ≤ g 2) (n p : Nat) (hn1 : (n : Int) ≤ 32 - g 1 % 32) (hn2 : 32 - g 1 % 32 ≤ (n : Int)) (hp : Hid (g 1 % 32 = (p : Int))) :
    Calls Try.prog 22 #[.int .u16 202, .slice (some ⟨b, o, none⟩) 3 cap] w fun e w' => e = .returned (.tuple #[.int .u32 (extS true p n (g 0)), .bool true]) ∧ Below w.heap.size w w' := by
  have c1 := arity_ref 202
  rw [show arS 202 = 3 from rfl] at c1
  have f0 := hlo 0 (by omega)
  have f1 := hhi 0 (by omega)
  have f2 := hlo 1 (by omega)
  have f3 := hhi 1 (by omega)
  have f4 := hlo 2 (by omega)
  have f5 := hhi 2 (by omega)
  have k0 := bits_B (g 0) f0 f1
  have hof := of_B (extF true p n (g 0)) (extF_bd true p n (g 0))
  have hpn : Hid (p + n ≤ 32) := by have := hp.out; show _ ≤ _; omega
  clear hlo hhi
  go_enter Try.func22, Try.ntmps22
  go_wp2_with (first | (go_at_call 21; (with_reducible refine (c1 _).mono ?_); rintro e W0 ⟨rfl, hB0⟩; have q0 := hA.below hbl hB0; have d0 := q0 0 (by omega); have d1 := q0 1 (by omega); have d2 := q0 2 (by omega); simp only [Nat.add_zero] at d0; have hb0 := Nat.lt_of_lt_of_le hbl hB0.size; clear q0) | (go_at_call 38; (with_reducible refine (k0 _).mono ?_); rintro e W1 ⟨rfl, hB1⟩) | (refine wpList_store_row rfl 68 _ _ rfl W1.heap.size rfl 68 (row (fun _ => 0)) (row (bit (g 0))) rfl (alloc_at _ _) (by rw [row_size]; exact info68) rfl (row_one _) ?_; rw [setRow_alloc]))
  have hBB : Below w.heap.size w W1 := bcall hB0 hB1
  clear k0 d0 d1 d2 hb0 hA
  go_loopw [12] (fun i wr => ∃ k : Nat, k ≤ 32 ∧ i = .int .i64 k ∧ wr = (W1.alloc (.cells (row (bit (g 0))) 68)).alloc (.cells (row (fun j => if j < k then (extF true p n (g 0)) j else 0)) 68)) (fun i _ => 32 - (intOf i).toNat)
  case atStart => exact ⟨0, by omega, rfl, by rw [fill_none]; rfl⟩
  case round =>
    obtain ⟨k, hk, rfl, rfl⟩ := hrel
    by_cases hk32 : k < 32
    · by_cases hin : k < n
      · have hv : (extF true p n (g 0)) k = bit (g 0) (p + k) := by unfold extF; rw [if_pos hin]
        have hidx : (g 1 % 32 + (k : Int)).toNat = p + k := by have := hp.out; omega
        have hix2 : g 1 % 32 + (k : Int) < 32 := by have := hp.out; have := hpn.out; omega
        have hcell : (row (bit (g 0)))[p + k]? = some (.int .u32 (bit (g 0) (p + k))) := row_get _ _ (by have := hpn.out; omega)
        have hset := row_set (fun j => if j < k then (extF true p n (g 0)) j else 0) k (bit (g 0) (p + k))
        have hnext := fill_next (extF true p n (g 0)) k
        rw [hv] at hnext
        have hnext2 := hid hnext
        have hcell2 := row_get (fun j => if j < k then (extF true p n (g 0)) j else 0) k hk32
        clear hv hnext
        go_wp2
        go_roundw
        case rel => exact ⟨k + 1, by omega, by go_num, by rw [hnext2.out]⟩
        case measure => simp [intOf]; omega
      · by_cases hz : 0 < n
        · have hv : (extF true p n (g 0)) k = bit (g 0) (p + n - 1) := by unfold extF; rw [if_neg hin, if_pos ⟨rfl, hz⟩]
          have hidx : (g 1 % 32 + (32 - g 1 % 32) - 1).toNat = p + n - 1 := by have := hp.out; omega
          have hix2 : g 1 % 32 + (32 - g 1 % 32) - 1 < 32 := by have := hp.out; omega
          have hcell : (row (bit (g 0)))[p + n - 1]? = some (.int .u32 (bit (g 0) (p + n - 1))) := row_get _ _ (by have := hpn.out; omega)
          have hset := row_set (fun j => if j < k then (extF true p n (g 0)) j else 0) k (bit (g 0) (p + n - 1))
          have hnext := fill_next (extF true p n (g 0)) k
          rw [hv] at hnext
          have hnext2 := hid hnext
          have hcell2 := row_get (fun j => if j < k then (extF true p n (g 0)) j else 0) k hk32
          have hin2 : n ≤ k := by omega
          clear hv hnext hin
          have hE : 0 < 32 - g 1 % 32 := by omega
          go_wp2
          go_roundw
          case rel => exact ⟨k + 1, by omega, by go_num, by rw [hnext2.out]⟩
          case measure => simp [intOf]; omega
        · exfalso; omega
    · obtain rfl : k = 32 := by omega
      rw [fill_whole]
      clear hk32 hk
      go_wp2_with (first | (go_at_call 39; refine (hof _).mono ?_; rintro e W3 ⟨rfl, hB3⟩) | (refine wpList_load_row rfl 68 _ rfl (W1.heap.size + 1) rfl 68 (row (extF true p n (g 0))) _ _ (heap_alloc2_new _ _ _) Try.underlying68 rfl (by rw [row_size]; exact info68) ?_))
      go_ret2
      exact ⟨rfl, bcall (bal (bal hBB _) _) hB3⟩
set_option maxRecDepth 100000 in
set_option maxHeartbeats 1000000 in
theorem ref_ext_203a (b o cap : Nat) (g : Nat → Int) (w : World) (hbl : b < w.heap.size) (hA : At w b o 3 g) (hlo : ∀ i, i < 3 → 0 ≤ g i) (hhi : ∀ i, i < 3 → g i < 4294967296) (hc : g 2 < 32 - g 1 % 32) (n p : Nat) (hn1 : (n : Int) ≤ g 2) (hn2 : g 2 ≤ (n : Int)) (hp : Hid (g 1 % 32 = (p : Int))) :
    Calls Try.prog 22 #[.int .u16 203, .slice (some ⟨b, o, none⟩) 3 cap] w fun e w' => e = .returned (.tuple #[.int .u32 (extS false p n (g 0)), .bool true]) ∧ Below w.heap.size w w' := by
  have c1 := arity_ref 203
  rw [show arS 203 = 3 from rfl] at c1
  have f0 := hlo 0 (by omega)
  have f1 := hhi 0 (by omega)
  have f2 := hlo 1 (by omega)
  have f3 := hhi 1 (by omega)
  have f4 := hlo 2 (by omega)
  have f5 := hhi 2 (by omega)
  have k0 := bits_B (g 0) f0 f1
  have hof := of_B (extF false p n (g 0)) (extF_bd false p n (g 0))
  have hpn : Hid (p + n ≤ 32) := by have := hp.out; show _ ≤ _; omega
  clear hlo hhi
  go_enter Try.func22, Try.ntmps22
  go_wp2_with (first | (go_at_call 21; (with_reducible refine (c1 _).mono ?_); rintro e W0 ⟨rfl, hB0⟩; have q0 := hA.below hbl hB0; have d0 := q0 0 (by omega); have d1 := q0 1 (by omega); have d2 := q0 2 (by omega); simp only [Nat.add_zero] at d0; have hb0 := Nat.lt_of_lt_of_le hbl hB0.size; clear q0) | (go_at_call 38; (with_reducible refine (k0 _).mono ?_); rintro e W1 ⟨rfl, hB1⟩) | (refine wpList_store_row rfl 68 _ _ rfl W1.heap.size rfl 68 (row (fun _ => 0)) (row (bit (g 0))) rfl (alloc_at _ _) (by rw [row_size]; exact info68) rfl (row_one _) ?_; rw [setRow_alloc]))
  have hBB : Below w.heap.size w W1 := bcall hB0 hB1
  clear k0 d0 d1 d2 hb0 hA
  go_loopw [12] (fun i wr => ∃ k : Nat, k ≤ 32 ∧ i = .int .i64 k ∧ wr = (W1.alloc (.cells (row (bit (g 0))) 68)).alloc (.cells (row (fun j => if j < k then (extF false p n (g 0)) j else 0)) 68)) (fun i _ => 32 - (intOf i).toNat)
  case atStart => exact ⟨0, by omega, rfl, by rw [fill_none]; rfl⟩
  case round =>
    obtain ⟨k, hk, rfl, rfl⟩ := hrel
    by_cases hk32 : k < 32
    · by_cases hin : k < n
      · have hv : (extF false p n (g 0)) k = bit (g 0) (p + k) := by unfold extF; rw [if_pos hin]
        have hidx : (g 1 % 32 + (k : Int)).toNat = p + k := by have := hp.out; omega
        have hix2 : g 1 % 32 + (k : Int) < 32 := by have := hp.out; have := hpn.out; omega
        have hcell : (row (bit (g 0)))[p + k]? = some (.int .u32 (bit (g 0) (p + k))) := row_get _ _ (by have := hpn.out; omega)
        have hset := row_set (fun j => if j < k then (extF false p n (g 0)) j else 0) k (bit (g 0) (p + k))
        have hnext := fill_next (extF false p n (g 0)) k
        rw [hv] at hnext
        have hnext2 := hid hnext
        have hcell2 := row_get (fun j => if j < k then (extF false p n (g 0)) j else 0) k hk32
        clear hv hnext
        go_wp2
        go_roundw
        case rel => exact ⟨k + 1, by omega, by go_num, by rw [hnext2.out]⟩
        case measure => simp [intOf]; omega
      · have hv : (extF false p n (g 0)) k = 0 := by unfold extF; rw [if_neg hin]; simp
        have hnext2 := hid (fill_skip (extF false p n (g 0)) k hv)
        have hin2 : n ≤ k := by omega
        clear hv hin
        go_wp2
        go_roundw
        case rel => exact ⟨k + 1, by omega, by go_num, by rw [hnext2.out]⟩
        case measure => simp [intOf]; omega
    · obtain rfl : k = 32 := by omega
      rw [fill_whole]
      clear hk32 hk
      go_wp2_with (first | (go_at_call 39; refine (hof _).mono ?_; rintro e W3 ⟨rfl, hB3⟩) | (refine wpList_load_row rfl 68 _ rfl (W1.heap.size + 1) rfl 68 (row (extF false p n (g 0))) _ _ (heap_alloc2_new _ _ _) Try.underlying68 rfl (by rw [row_size]; exact info68) ?_))
      go_ret2
      exact ⟨rfl, bcall (bal (bal hBB _) _) hB3⟩
set_option maxRecDepth 100000 in
set_option maxHeartbeats 1000000 in
theorem ref_ext_203b (b o cap : Nat) (g : Nat → Int) (w : World) (hbl : b < w.heap.size) (hA : At w b o 3 g) (hlo : ∀ i, i < 3 → 0 ≤ g i) (hhi : ∀ i, i < 3 → g i < 4294967296) (hc : 32 - g 1 % 32 ≤ g 2) (n p : Nat) (hn1 : (n : Int) ≤ 32 - g 1 % 32) (hn2 : 32 - g 1 % 32 ≤ (n : Int)) (hp : Hid (g 1 % 32 = (p : Int))) :
    Calls Try.prog 22 #[.int .u16 203, .slice (some ⟨b, o, none⟩) 3 cap] w fun e w' => e = .returned (.tuple #[.int .u32 (extS false p n (g 0)), .bool true]) ∧ Below w.heap.size w w' := by
  have c1 := arity_ref 203
  rw [show arS 203 = 3 from rfl] at c1
  have f0 := hlo 0 (by omega)
  have f1 := hhi 0 (by omega)
  have f2 := hlo 1 (by omega)
  have f3 := hhi 1 (by omega)
  have f4 := hlo 2 (by omega)
  have f5 := hhi 2 (by omega)
  have k0 := bits_B (g 0) f0 f1
  have hof := of_B (extF false p n (g 0)) (extF_bd false p n (g 0))
  have hpn : Hid (p + n ≤ 32) := by have := hp.out; show _ ≤ _; omega
  clear hlo hhi
  go_enter Try.func22, Try.ntmps22
  go_wp2_with (first | (go_at_call 21; (with_reducible refine (c1 _).mono ?_); rintro e W0 ⟨rfl, hB0⟩; have q0 := hA.below hbl hB0; have d0 := q0 0 (by omega); have d1 := q0 1 (by omega); have d2 := q0 2 (by omega); simp only [Nat.add_zero] at d0; have hb0 := Nat.lt_of_lt_of_le hbl hB0.size; clear q0) | (go_at_call 38; (with_reducible refine (k0 _).mono ?_); rintro e W1 ⟨rfl, hB1⟩) | (refine wpList_store_row rfl 68 _ _ rfl W1.heap.size rfl 68 (row (fun _ => 0)) (row (bit (g 0))) rfl (alloc_at _ _) (by rw [row_size]; exact info68) rfl (row_one _) ?_; rw [setRow_alloc]))
  have hBB : Below w.heap.size w W1 := bcall hB0 hB1
  clear k0 d0 d1 d2 hb0 hA
  go_loopw [12] (fun i wr => ∃ k : Nat, k ≤ 32 ∧ i = .int .i64 k ∧ wr = (W1.alloc (.cells (row (bit (g 0))) 68)).alloc (.cells (row (fun j => if j < k then (extF false p n (g 0)) j else 0)) 68)) (fun i _ => 32 - (intOf i).toNat)
  case atStart => exact ⟨0, by omega, rfl, by rw [fill_none]; rfl⟩
  case round =>
    obtain ⟨k, hk, rfl, rfl⟩ := hrel
    by_cases hk32 : k < 32
    · by_cases hin : k < n
      · have hv : (extF false p n (g 0)) k = bit (g 0) (p + k) := by unfold extF; rw [if_pos hin]
        have hidx : (g 1 % 32 + (k : Int)).toNat = p + k := by have := hp.out; omega
        have hix2 : g 1 % 32 + (k : Int) < 32 := by have := hp.out; have := hpn.out; omega
        have hcell : (row (bit (g 0)))[p + k]? = some (.int .u32 (bit (g 0) (p + k))) := row_get _ _ (by have := hpn.out; omega)
        have hset := row_set (fun j => if j < k then (extF false p n (g 0)) j else 0) k (bit (g 0) (p + k))
        have hnext := fill_next (extF false p n (g 0)) k
        rw [hv] at hnext
        have hnext2 := hid hnext
        have hcell2 := row_get (fun j => if j < k then (extF false p n (g 0)) j else 0) k hk32
        clear hv hnext
        go_wp2
        go_roundw
        case rel => exact ⟨k + 1, by omega, by go_num, by rw [hnext2.out]⟩
        case measure => simp [intOf]; omega
      · have hv : (extF false p n (g 0)) k = 0 := by unfold extF; rw [if_neg hin]; simp
        have hnext2 := hid (fill_skip (extF false p n (g 0)) k hv)
        have hin2 : n ≤ k := by omega
        clear hv hin
        go_wp2
        go_roundw
        case rel => exact ⟨k + 1, by omega, by go_num, by rw [hnext2.out]⟩
        case measure => simp [intOf]; omega
    · obtain rfl : k = 32 := by omega
      rw [fill_whole]
      clear hk32 hk
      go_wp2_with (first | (go_at_call 39; refine (hof _).mono ?_; rintro e W3 ⟨rfl, hB3⟩) | (refine wpList_load_row rfl 68 _ rfl (W1.heap.size + 1) rfl 68 (row (extF false p n (g 0))) _ _ (heap_alloc2_new _ _ _) Try.underlying68 rfl (by rw [row_size]; exact info68) ?_))
      go_ret2
      exact ⟨rfl, bcall (bal (bal hBB _) _) hB3⟩
end Go.Proofs.Ytlheggnoegedcaa
