/- Rows of 32 words in memory that the call makes: the arrays of the reference's bits. -/
import Derived.Test.YtlheggnoegedcaaPairs
import Derived.LoopTactic
import Derived.Laws.Rows
import Derived.Laws.Tables
namespace Go.Proofs.Ytlheggnoegedcaa
set_option linter.unusedVariables false
open Go.ChangeShapes Go.WideShapes Go.ChangeAt Go.RowKit
/-- A row of 32 words. -/
def row (f : Nat → Int) : Array Value := ((List.range 32).map fun j => Value.int .u32 (f j)).toArray
theorem row_size (f : Nat → Int) : (row f).size = 32 := by simp [row]
theorem row_get (f : Nat → Int) (k : Nat) (h : k < 32) : (row f)[k]? = some (.int .u32 (f k)) := by simp [row, h]
theorem row_set (f : Nat → Int) (k : Nat) (v : Int) : (row f).setIfInBounds k (.int .u32 v) = row (fun j => if j = k then v else f j) := by
  apply Array.ext
  · simp [row]
  · intro i h1 h2
    simp [row] at h1 h2
    by_cases e : i = k
    · subst e; simp [row]
    · rw [Array.getElem_setIfInBounds_ne (h := Ne.symm e)]
      · simp [row, e]
      · simpa [row_size] using h2
theorem row_congr {f g : Nat → Int} (h : ∀ k, k < 32 → f k = g k) : row f = row g := by
  unfold row
  congr 1
  apply List.map_congr_left
  intro k hk
  rw [h k (by simpa using hk)]
/-- A whole row stored over another. -/
theorem wpList_store_row {P : Program} {ops : Array Oper} {rest : List Oper} {o : Oper} {a : Act} {w : World} {Q : Exit → Act → World → Prop} (hgd : o.guard = none) (ty : TypeId) (x y : Operand) (ho : o.op = .store ty x y)
    (g : Nat) (hx : a.eval x = .pointer (some ⟨g, 0, none⟩)) (t : TypeId) (old cells : Array Value) (hy : a.eval y = .agg cells) (hg : w.heap[g]? = some (.cells old t (0, 0)))
    (hi : (P.info? ty).map (·.size) = some cells.size) (hs : old.size = cells.size) (hp : cells.all (·.oneCell') = true)
    (h : wpList P ops Q rest (a.put o.dst undef) (w.setRow g cells)) : wpList P ops Q (o :: rest) a w := by
  refine wpList_plain hgd fun _ hK => ?_
  unfold Oper.wp execOp
  simp only [ho, hx, hy, Instr.storeAt, Instr.sureAddr, Sem.run_bind, Sem.run_pure, Result.andThen_ok, run_storeVar_row w g t ty old cells hg hi hs hp]
  exact hK _ _ h
theorem w_ext {a b : World} (h : a.heap = b.heap) (h1 : a.tape = b.tape) (h2 : a.drawn = b.drawn) (h3 : a.os = b.os) (h4 : a.output = b.output) : a = b := by
  cases a; cases b; simp_all
theorem setRow_alloc (w : World) (old c : Array Value) (t : TypeId) : (w.alloc (.cells old t)).setRow w.heap.size c = w.alloc (.cells c t) := by
  refine w_ext ?_ rfl rfl rfl rfl
  simp only [World.setRow]
  have e1 : ∀ o, (w.alloc o).heap = w.heap.push o := fun _ => rfl
  rw [e1, e1]
  apply Array.ext
  · simp
  · intro i h1 h2
    simp at h1 h2
    by_cases e : i = w.heap.size
    · subst e; simp [Array.getElem_modify]
    · rw [Array.getElem_modify, if_neg (by omega), Array.getElem_push_lt (by omega), Array.getElem_push_lt (by omega)]
theorem setRow_past (w : World) (o : Obj) (g : Nat) (c : Array Value) (hg : g < w.heap.size) : (w.alloc o).setRow g c = (w.setRow g c).alloc o := by
  refine w_ext ?_ rfl rfl rfl rfl
  have e1 : ∀ (w : World) o, (w.alloc o).heap = w.heap.push o := fun _ _ => rfl
  rw [e1]
  simp only [World.setRow, e1]
  apply Array.ext
  · simp
  · intro i h1 h2
    simp at h1 h2
    by_cases e : i = w.heap.size
    · subst e
      simp only [Array.getElem_modify, if_neg (show ¬ g = w.heap.size by omega)]
      simp [Array.getElem_push]
    · rw [Array.getElem_modify, Array.getElem_push_lt (by omega), Array.getElem_push_lt (by simpa using by omega), Array.getElem_modify]
theorem row_one (f : Nat → Int) : (row f).all (·.oneCell') = true := by
  simp [row, Value.oneCell']
/-- The k-th bit of a number. -/
def bit (a : Int) (k : Nat) : Int := a / 2 ^ k % 2
theorem info68 : (Try.prog.info? 68).map (·.size) = some 32 := by kernel_rfl
theorem div_pow_succ (a : Int) (k : Nat) : a / 2 ^ k / 2 = a / 2 ^ (k + 1) := by
  rw [Int.pow_succ, Int.ediv_ediv_of_nonneg (by exact Int.le_of_lt (Int.pow_pos (by omega)))]
theorem div_pow_bd (a : Int) (k : Nat) (h : 0 ≤ a) (h' : a < 4294967296) : 0 ≤ a / 2 ^ k ∧ a / 2 ^ k < 4294967296 := by
  have hp : (0 : Int) < 2 ^ k := Int.pow_pos (by omega)
  have h1 := Int.ediv_nonneg h (Int.le_of_lt hp)
  have h2 := Int.ediv_le_self (2 ^ k) h
  omega
theorem bits_any (a : Int) (ha : 0 ≤ a) (ha' : a < 4294967296) (w : World) : Calls Try.prog 38 #[.int .u32 a] w fun e w' => e = .returned (.agg (row (bit a))) ∧ w' = (w.alloc (.cells (row (bit a)) 68)).alloc (.cells (row (bit a)) 68) := by
  have hz : row (fun j => if j < 0 then bit a j else 0) = row (fun _ => 0) := row_congr (fun k _ => by simp)
  go_enter Try.func38, Try.ntmps38
  go_wp2
  go_loopw [0, 4] (fun x i wr => ∃ k : Nat, k ≤ 32 ∧ i = .int .i64 k ∧ x = .int .u32 (a / 2 ^ k) ∧ wr = (w.alloc (.cells (row (fun _ => 0)) 68)).alloc (.cells (row (fun j => if j < k then bit a j else 0)) 68)) (fun _ i _ => 32 - (intOf i).toNat)
  case atStart =>
    exact ⟨0, by omega, rfl, by simp, by rw [hz]; rfl⟩
  case round =>
    obtain ⟨k, hk, rfl, rfl, rfl⟩ := hrel
    have hd := div_pow_bd a k ha ha'
    by_cases hlt : k < 32
    · have hcell := row_get (fun j => if j < k then bit a j else 0) k hlt
      have hset := row_set (fun j => if j < k then bit a j else 0) k (a / 2 ^ k % 2)
      go_wp2
      go_roundw
      case rel =>
        refine ⟨k + 1, by omega, by go_num, by rw [div_pow_succ], ?_⟩
        congr 2
        refine row_congr (fun j _ => ?_)
        by_cases e : j = k
        · subst e; simp [bit]
        · by_cases e2 : j < k <;> simp [e, e2] <;> omega
      case measure => simp [intOf]; omega
    · obtain rfl : k = 32 := by omega
      have hrow : row (fun j => if j < 32 then bit a j else 0) = row (bit a) := row_congr (fun j hj => by simp [hj])
      rw [hrow]
      clear hrow hd hlt hk
      have hw : ((w.alloc (.cells (row (fun _ => 0)) 68)).alloc (.cells (row (bit a)) 68)).setRow w.heap.size (row (bit a)) = (w.alloc (.cells (row (bit a)) 68)).alloc (.cells (row (bit a)) 68) := by
        rw [setRow_past _ _ _ _ (by show _ < (w.heap.push _).size; simp), setRow_alloc]
      go_wp2_with (first | (refine wpList_load_row rfl 68 _ rfl (w.heap.size + 1) rfl 68 (row (bit a)) _ _ (heap_alloc2_new _ _ _) Try.underlying68 rfl (by rw [row_size]; exact info68) ?_) | (refine wpList_store_row rfl 68 _ _ rfl w.heap.size rfl 68 (row (fun _ => 0)) (row (bit a)) rfl (heap_alloc2_old _ _ _) (by rw [row_size]; exact info68) rfl (row_one _) ?_; rw [hw]; clear hw))
      refine bodyPost_ret_by (results_cell_row rfl _ _ w.heap.size 68 (row (bit a)) _ _ rfl (heap_alloc2_old _ _ _) Try.underlying68 rfl (by rw [row_size]; exact info68)) rfl ?_
      exact ⟨rfl, rfl⟩
/-- The number of the n highest of 32 bits. -/
def hv (f : Nat → Int) : Nat → Int
  | 0 => 0
  | n + 1 => 2 * hv f n + f (31 - n)
theorem hv_bd (f : Nat → Int) (hf : ∀ k, 0 ≤ f k ∧ f k ≤ 1) (n : Nat) : 0 ≤ hv f n ∧ hv f n < 2 ^ n := by
  induction n with
  | zero => simp [hv]
  | succ n ih =>
    have := hf (31 - n)
    rw [hv, Int.pow_succ]
    omega
theorem hv_bd31 (f : Nat → Int) (hf : ∀ k, 0 ≤ f k ∧ f k ≤ 1) (n : Nat) (hn : n ≤ 31) : 0 ≤ hv f n ∧ hv f n < 2147483648 := by
  have h := hv_bd f hf n
  have : (2 : Int) ^ n ≤ 2 ^ 31 := by exact_mod_cast Nat.pow_le_pow_right (by omega : 0 < 2) hn
  omega
theorem of_any (f : Nat → Int) (hf : ∀ k, 0 ≤ f k ∧ f k ≤ 1) (w : World) : Calls Try.prog 39 #[.agg (row f)] w fun e w' => e = .returned (.int .u32 (hv f 32)) ∧ w' = w.alloc (.cells (row f) 68) := by
  go_enter Try.func39, Try.ntmps39
  go_wp2
  go_loop [3, 4] (fun x i => ∃ n : Nat, n ≤ 32 ∧ i = .int .i64 (31 - n) ∧ x = .int .u32 (hv f n)) (fun _ i => (intOf i + 1).toNat)
  case atStart =>
    exact ⟨0, by omega, rfl, rfl⟩
  case round =>
    obtain ⟨n, hn, rfl, rfl⟩ := hrel
    by_cases hlt : n ≤ 31
    · have hb := hv_bd31 f hf n hlt
      have hk := hf (31 - n)
      have hcell : (row f)[31 - n]? = some (.int .u32 (f (31 - n))) := row_get f (31 - n) (by omega)
      have e1 : ((31 : Int) - n).toNat = 31 - n := by omega
      go_wp2
      go_round
      case rel => exact ⟨n + 1, by omega, by go_num, rfl⟩
      case measure => simp [intOf]; omega
    · obtain rfl : n = 32 := by omega
      go_wp2
      go_ret
      exact ⟨rfl, rfl⟩
theorem hv_bit (x : Int) (f : Nat → Int) (hx : 0 ≤ x) (hx' : x < 4294967296) (h : ∀ k, k < 32 → f k = bit x k) : hv f 32 = x := by
  have key : ∀ n, n ≤ 32 → hv f n = x / 2 ^ (32 - n) := by
    intro n
    induction n with
    | zero => intro _; rw [hv]; omega
    | succ n ih =>
      intro hn
      rw [hv, ih (by omega), h (31 - n) (by omega)]
      have e : 32 - n = (31 - n) + 1 := by omega
      have e2 : 32 - (n + 1) = 31 - n := by omega
      rw [e, e2, ← div_pow_succ]
      unfold bit
      omega
  have := key 32 (by omega)
  simpa using this
end Go.Proofs.Ytlheggnoegedcaa
