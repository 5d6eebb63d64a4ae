/- The reference's moved bits: three operations, each the number that it comes to. -/
import Derived.Test.YtlheggnoegedcaaRow
namespace Go.Proofs.Ytlheggnoegedcaa
set_option linter.unusedVariables false
open Go.ChangeShapes Go.WideShapes Go.ChangeAt Go.RowKit
theorem bit_bd (a : Int) (k : Nat) : 0 ≤ bit a k ∧ bit a k ≤ 1 := by unfold bit; omega
/-- The k-th bit behind a move by n. -/
def mv (op a : Int) (n k : Nat) : Int :=
  if op = 196 then (if n ≤ k then bit a (k - n) else 0) else if k + n < 32 then bit a (k + n) else if op = 195 then bit a 31 else 0
theorem mv_bd (op a : Int) (n k : Nat) : 0 ≤ mv op a n k ∧ mv op a n k ≤ 1 := by
  have := bit_bd a
  unfold mv
  repeat' split
  all_goals first | exact this _ | omega
theorem bits_B (a : Int) (ha : 0 ≤ a) (ha' : a < 4294967296) (w : World) : Calls Try.prog 38 #[.int .u32 a] w fun e w' => e = .returned (.agg (row (bit a))) ∧ Below w.heap.size w w' :=
  (bits_any a ha ha' w).mono fun e w' ⟨h1, h2⟩ => ⟨h1, by rw [h2]; exact bal (bal (Below.refl _ _) _) _⟩
theorem of_B (f : Nat → Int) (hf : ∀ k, 0 ≤ f k ∧ f k ≤ 1) (w : World) : Calls Try.prog 39 #[.agg (row f)] w fun e w' => e = .returned (.int .u32 (hv f 32)) ∧ Below w.heap.size w w' :=
  (of_any f hf w).mono fun e w' ⟨h1, h2⟩ => ⟨h1, by rw [h2]; exact bal (Below.refl _ _) _⟩
theorem mv_next (op a : Int) (n k : Nat) : row (fun j => if j < k + 1 then mv op a n j else 0) = row (fun j => if j = k then mv op a n k else if j < k then mv op a n j else 0) := by
  refine row_congr (fun j _ => ?_)
  by_cases e : j = k
  · subst e; simp
  · by_cases e2 : j < k <;> simp [e, e2] <;> omega
theorem mv_zero (op a : Int) (n k : Nat) (h : mv op a n k = 0) : row (fun j => if j < k + 1 then mv op a n j else 0) = row (fun j => if j < k then mv op a n j else 0) := by
  refine row_congr (fun j _ => ?_)
  by_cases e : j = k
  · subst e; simp [h]
  · by_cases e2 : j < k <;> simp [e2] <;> omega
theorem mv_whole (op a : Int) (n : Nat) : row (fun j => if j < 32 then mv op a n j else 0) = row (mv op a n) := row_congr (fun j hj => by simp [hj])
theorem mv_none (op a : Int) (n : Nat) : row (fun j => if j < 0 then mv op a n j else 0) = row (fun _ => 0) := row_congr (fun j hj => by simp)
set_option maxHeartbeats 400000 in
theorem moved_194 (a b : Int) (ha : 0 ≤ a) (ha' : a < 4294967296) (hb : 0 ≤ b) (hb' : b < 4294967296) (w : World) :
    Calls Try.prog 34 #[.int .u16 194, .int .u32 a, .int .u32 b] w fun e w' => e = .returned (.int .u32 (hv (mv 194 a (b % 32).toNat) 32)) ∧ Below w.heap.size w w' := by
  obtain ⟨n, hn, hn'⟩ : ∃ n : Nat, b % 32 = n ∧ (b % 32).toNat = n := ⟨(b % 32).toNat, by omega, rfl⟩
  have hn2 : n < 32 := by omega
  rw [hn']
  clear hn'
  have hN := hid hn
  clear hn
  have hbits := bits_B a ha ha' w
  go_enter Try.func34, Try.ntmps34
  go_wp2_with (first | (go_at_call 38; refine hbits.mono ?_; rintro e W1 ⟨rfl, hB⟩) | (refine wpList_store_row rfl 68 _ _ rfl W1.heap.size rfl 68 (row (fun _ => 0)) (row (bit a)) rfl (alloc_at _ _) (by rw [row_size]; exact info68) rfl (row_one _) ?_; rw [setRow_alloc]))
  clear hbits
  go_loopw [10] (fun i wr => ∃ k : Nat, k ≤ 32 ∧ i = .int .i64 k ∧ wr = (W1.alloc (.cells (row (bit a)) 68)).alloc (.cells (row (fun j => if j < k then mv 194 a n j else 0)) 68)) (fun i _ => 32 - (intOf i).toNat)
  case atStart =>
    exact ⟨0, by omega, rfl, by rw [mv_none]; rfl⟩
  case round =>
    obtain ⟨k, hk, rfl, rfl⟩ := hrel
    by_cases hlt : k < 32
    · have hd := hlt
      by_cases hc : k + n < 32
      · have hm : mv 194 a n k = bit a (k + n) := by simp [mv, hc]
        have hcell : (row (bit a))[k + n]? = some (.int .u32 (bit a (k + n))) := row_get _ _ hc
        have hidx : ((k : Int) + b % 32).toNat = k + n := by have := hN.out; omega
        have hset := row_set (fun j => if j < k then mv 194 a n j else 0) k (bit a (k + n))
        have hnext := mv_next 194 a n k
        rw [hm] at hnext
        have hnext := hid hnext
        clear hm
        have hci : (k : Int) + b % 32 < 32 := by have := hN.out; omega
        clear hc
        have hcell2 := row_get (fun j => if j < k then mv 194 a n j else 0) k hlt
        go_wp2
        go_roundw
        case rel => exact ⟨k + 1, by omega, by go_num, by rw [hnext.out]⟩
        case measure => simp [intOf]; omega
      · have hm : mv 194 a n k = 0 := by simp [mv, hc]
        have hnext := mv_zero 194 a n k hm
        have hnext := hid hnext
        clear hm
        have hci : 32 ≤ (k : Int) + b % 32 := by have := hN.out; omega
        clear hc
        have hcell2 := row_get (fun j => if j < k then mv 194 a n j else 0) k hlt
        go_wp2
        go_roundw
        case rel => exact ⟨k + 1, by omega, by go_num, by rw [hnext.out]⟩
        case measure => simp [intOf]; omega
    · obtain rfl : k = 32 := by omega
      rw [mv_whole]
      clear hlt hk
      have hof := of_B (mv 194 a n) (mv_bd 194 a n)
      go_wp2_with (first | (go_at_call 39; refine (hof _).mono ?_; rintro e W2 ⟨rfl, hB2⟩) | (refine wpList_load_row rfl 68 _ rfl (W1.heap.size + 1) rfl 68 (row (mv 194 a n)) _ _ (heap_alloc2_new _ _ _) Try.underlying68 rfl (by rw [row_size]; exact info68) ?_))
      go_ret
      exact ⟨rfl, bcall (bal (bal hB _) _) hB2⟩
set_option maxHeartbeats 400000 in
theorem moved_195 (a b : Int) (ha : 0 ≤ a) (ha' : a < 4294967296) (hb : 0 ≤ b) (hb' : b < 4294967296) (w : World) :
    Calls Try.prog 34 #[.int .u16 195, .int .u32 a, .int .u32 b] w fun e w' => e = .returned (.int .u32 (hv (mv 195 a (b % 32).toNat) 32)) ∧ Below w.heap.size w w' := by
  obtain ⟨n, hn, hn'⟩ : ∃ n : Nat, b % 32 = n ∧ (b % 32).toNat = n := ⟨(b % 32).toNat, by omega, rfl⟩
  have hn2 : n < 32 := by omega
  rw [hn']
  clear hn'
  have hN := hid hn
  clear hn
  have hbits := bits_B a ha ha' w
  go_enter Try.func34, Try.ntmps34
  go_wp2_with (first | (go_at_call 38; refine hbits.mono ?_; rintro e W1 ⟨rfl, hB⟩) | (refine wpList_store_row rfl 68 _ _ rfl W1.heap.size rfl 68 (row (fun _ => 0)) (row (bit a)) rfl (alloc_at _ _) (by rw [row_size]; exact info68) rfl (row_one _) ?_; rw [setRow_alloc]))
  clear hbits
  go_loopw [10] (fun i wr => ∃ k : Nat, k ≤ 32 ∧ i = .int .i64 k ∧ wr = (W1.alloc (.cells (row (bit a)) 68)).alloc (.cells (row (fun j => if j < k then mv 195 a n j else 0)) 68)) (fun i _ => 32 - (intOf i).toNat)
  case atStart =>
    exact ⟨0, by omega, rfl, by rw [mv_none]; rfl⟩
  case round =>
    obtain ⟨k, hk, rfl, rfl⟩ := hrel
    by_cases hlt : k < 32
    · have hd := hlt
      by_cases hc : k + n < 32
      · have hm : mv 195 a n k = bit a (k + n) := by simp [mv, hc]
        have hcell : (row (bit a))[k + n]? = some (.int .u32 (bit a (k + n))) := row_get _ _ hc
        have hidx : ((k : Int) + b % 32).toNat = k + n := by have := hN.out; omega
        have hset := row_set (fun j => if j < k then mv 195 a n j else 0) k (bit a (k + n))
        have hnext := mv_next 195 a n k
        rw [hm] at hnext
        have hnext := hid hnext
        clear hm
        have hci : (k : Int) + b % 32 < 32 := by have := hN.out; omega
        clear hc
        have hcell2 := row_get (fun j => if j < k then mv 195 a n j else 0) k hlt
        go_wp2
        go_roundw
        case rel => exact ⟨k + 1, by omega, by go_num, by rw [hnext.out]⟩
        case measure => simp [intOf]; omega
      · have hm : mv 195 a n k = bit a 31 := by simp [mv, hc]
        have hcell : (row (bit a))[31]? = some (.int .u32 (bit a 31)) := row_get _ _ (by omega)
        have hset := row_set (fun j => if j < k then mv 195 a n j else 0) k (bit a 31)
        have hnext := mv_next 195 a n k
        rw [hm] at hnext
        have hnext := hid hnext
        clear hm
        have hci : 32 ≤ (k : Int) + b % 32 := by have := hN.out; omega
        clear hc
        have hcell2 := row_get (fun j => if j < k then mv 195 a n j else 0) k hlt
        go_wp2
        go_roundw
        case rel => exact ⟨k + 1, by omega, by go_num, by rw [hnext.out]⟩
        case measure => simp [intOf]; omega
    · obtain rfl : k = 32 := by omega
      rw [mv_whole]
      clear hlt hk
      have hof := of_B (mv 195 a n) (mv_bd 195 a n)
      go_wp2_with (first | (go_at_call 39; refine (hof _).mono ?_; rintro e W2 ⟨rfl, hB2⟩) | (refine wpList_load_row rfl 68 _ rfl (W1.heap.size + 1) rfl 68 (row (mv 195 a n)) _ _ (heap_alloc2_new _ _ _) Try.underlying68 rfl (by rw [row_size]; exact info68) ?_))
      go_ret
      exact ⟨rfl, bcall (bal (bal hB _) _) hB2⟩
set_option maxHeartbeats 400000 in
theorem moved_196 (a b : Int) (ha : 0 ≤ a) (ha' : a < 4294967296) (hb : 0 ≤ b) (hb' : b < 4294967296) (w : World) :
    Calls Try.prog 34 #[.int .u16 196, .int .u32 a, .int .u32 b] w fun e w' => e = .returned (.int .u32 (hv (mv 196 a (b % 32).toNat) 32)) ∧ Below w.heap.size w w' := by
  obtain ⟨n, hn, hn'⟩ : ∃ n : Nat, b % 32 = n ∧ (b % 32).toNat = n := ⟨(b % 32).toNat, by omega, rfl⟩
  have hn2 : n < 32 := by omega
  rw [hn']
  clear hn'
  have hN := hid hn
  clear hn
  have hbits := bits_B a ha ha' w
  go_enter Try.func34, Try.ntmps34
  go_wp2_with (first | (go_at_call 38; refine hbits.mono ?_; rintro e W1 ⟨rfl, hB⟩) | (refine wpList_store_row rfl 68 _ _ rfl W1.heap.size rfl 68 (row (fun _ => 0)) (row (bit a)) rfl (alloc_at _ _) (by rw [row_size]; exact info68) rfl (row_one _) ?_; rw [setRow_alloc]))
  clear hbits
  go_loopw [10] (fun i wr => ∃ k : Nat, k ≤ 32 ∧ i = .int .i64 k ∧ wr = (W1.alloc (.cells (row (bit a)) 68)).alloc (.cells (row (fun j => if j < k then mv 196 a n j else 0)) 68)) (fun i _ => 32 - (intOf i).toNat)
  case atStart =>
    exact ⟨0, by omega, rfl, by rw [mv_none]; rfl⟩
  case round =>
    obtain ⟨k, hk, rfl, rfl⟩ := hrel
    by_cases hlt : k < 32
    · have hd := hlt
      by_cases hc : n ≤ k
      · have hm : mv 196 a n k = bit a (k - n) := by simp [mv, hc]
        have hcell : (row (bit a))[k - n]? = some (.int .u32 (bit a (k - n))) := row_get _ _ (by omega)
        have hidx : ((k : Int) - b % 32).toNat = k - n := by have := hN.out; omega
        have hset := row_set (fun j => if j < k then mv 196 a n j else 0) k (bit a (k - n))
        have hnext := mv_next 196 a n k
        rw [hm] at hnext
        have hnext := hid hnext
        clear hm
        have hci : b % 32 ≤ k := by have := hN.out; omega
        clear hc
        have hcell2 := row_get (fun j => if j < k then mv 196 a n j else 0) k hlt
        go_wp2
        go_roundw
        case rel => exact ⟨k + 1, by omega, by go_num, by rw [hnext.out]⟩
        case measure => simp [intOf]; omega
      · have hm : mv 196 a n k = 0 := by simp [mv, hc]
        have hnext := mv_zero 196 a n k hm
        have hnext := hid hnext
        clear hm
        have hci : k < b % 32 := by have := hN.out; omega
        clear hc
        have hcell2 := row_get (fun j => if j < k then mv 196 a n j else 0) k hlt
        go_wp2
        go_roundw
        case rel => exact ⟨k + 1, by omega, by go_num, by rw [hnext.out]⟩
        case measure => simp [intOf]; omega
    · obtain rfl : k = 32 := by omega
      rw [mv_whole]
      clear hlt hk
      have hof := of_B (mv 196 a n) (mv_bd 196 a n)
      go_wp2_with (first | (go_at_call 39; refine (hof _).mono ?_; rintro e W2 ⟨rfl, hB2⟩) | (refine wpList_load_row rfl 68 _ rfl (W1.heap.size + 1) rfl 68 (row (mv 196 a n)) _ _ (heap_alloc2_new _ _ _) Try.underlying68 rfl (by rw [row_size]; exact info68) ?_))
      go_ret
      exact ⟨rfl, bcall (bal (bal hB _) _) hB2⟩
end Go.Proofs.Ytlheggnoegedcaa
