/- What 'Lift' says, and small laws for its two rows. -/
import Derived.Test.YtlheggnoegedcaaRws
namespace Go.Proofs.Ytlheggnoegedcaa
set_option linter.unusedVariables false
open Go.ChangeShapes Go.WideShapes Go.ChangeAt Go.RowKit
/-- One element's first answer. -/
def liF (op : Int) (m : Nat) (h : Nat → Int) : Int :=
  if m = 1 then unS op (h 0) else if m = 2 then (if isPr op then (pairS op (h 0) (h 1)).1 else binS op (h 0) (h 1)) else fldR op m h
/-- One element's second answer. -/
def liS (op : Int) (h : Nat → Int) : Int := (pairS op (h 0) (h 1)).2.1
/-- Are there two answers? -/
def two (op : Int) (m : Nat) : Bool := decide (m = 2) && isPr op
/-- How many words are not zero. -/
def cnt (g : Nat → Int) : Nat → Nat
  | 0 => 0
  | k + 1 => cnt g k + (if g k = 0 then 0 else 1)
theorem cnt_le (g : Nat → Int) (n : Nat) : cnt g n ≤ n := by
  induction n with
  | zero => exact Nat.le_refl _
  | succ k ih => simp only [cnt]; split <;> omega
def liLen (op : Int) (m n : Nat) : Nat := if op = 154 ∨ op = 155 then 1 else if two op m then n + n else n
def liW (op : Int) (m n : Nat) (g : Nat → Nat → Int) : Nat → Int :=
  if op = 154 then fun _ => tr (decide (0 < cnt (g 0) n)) else if op = 155 then fun _ => tr (cnt (g 0) n == n)
  else fun j => if j < n then liF op m (fun i => g i j) else liS op (fun i => g i (j - n))
theorem li_154 (m n : Nat) (g : Nat → Nat → Int) : liLen 154 m n = 1 ∧ liW 154 m n g = fun _ => tr (decide (0 < cnt (g 0) n)) := ⟨rfl, rfl⟩
theorem li_155 (m n : Nat) (g : Nat → Nat → Int) : liLen 155 m n = 1 ∧ liW 155 m n g = fun _ => tr (cnt (g 0) n == n) := ⟨rfl, rfl⟩
theorem li_two (op : Int) (m n : Nat) (g : Nat → Nat → Int) (h1 : op ≠ 154) (h2 : op ≠ 155) (h : two op m = true) :
    liLen op m n = n + n ∧ wl (liW op m n g) (n + n) = wl (fun j => if j < n then liF op m (fun i => g i j) else liS op (fun i => g i (j - n))) (n + n) := by
  simp [liLen, liW, h1, h2, h]
theorem li_one (op : Int) (m n : Nat) (g : Nat → Nat → Int) (h1 : op ≠ 154) (h2 : op ≠ 155) (h : two op m = false) :
    liLen op m n = n ∧ wl (liW op m n g) n = wl (fun j => liF op m (fun i => g i j)) n := by
  refine ⟨by simp [liLen, h1, h2, h], wl_congr n (fun k hk => ?_)⟩
  simp [liW, h1, h2, hk]
/-- A new block of one word. -/
theorem own_one (w : World) (base : Nat) (z : Int) (hb : base ≤ w.heap.size) : (w.alloc (.cells #[.int .u32 z] 23)).ownsRow base 23 1 (.slice (some ⟨w.heap.size, 0, none⟩) 1 1) 1 (wl (fun _ => z) 1) :=
  ⟨rfl, .inr ⟨w.heap.size, 1, #[.int .u32 z], rfl, hb, alloc_at w _, Nat.le_refl _, by unfold maxLen; omega, rfl, rfl⟩⟩
/-- Two rows that do not share a block. -/
def Apart (v1 v2 : Value) : Prop := v1.ownBlock = none ∨ v1.ownBlock ≠ v2.ownBlock
theorem Apart.ne {v1 v2 : Value} (h : Apart v1 v2) : v2.ownBlock = none ∨ v2.ownBlock ≠ v1.ownBlock := by
  rcases h with h | h
  · cases e : v2.ownBlock with
    | none => left; rfl
    | some k => right; rw [h]; simp
  · exact .inr (Ne.symm h)
theorem Apart.step {v1 v2 : Value} {s g1 : Nat} (h : Apart v1 v2) (h2 : ∀ k, v2.ownBlock = some k → k < s) (hd : v1.ownBlock = some g1 ∨ s < g1) : v2.ownBlock ≠ some g1 := by
  intro e
  have := h2 g1 e
  rcases hd with hd | hd
  · rcases h with ha | ha
    · rw [ha] at hd; cases hd
    · exact ha (hd.trans e.symm)
  · omega
theorem Apart.both {v2 : Value} {s g1 g2 c1 c2 n : Nat} (h : v2.ownBlock ≠ some g1) (h1 : g1 < s) (hd : v2.ownBlock = some g2 ∨ s < g2) : Apart (.slice (some ⟨g1, 0, none⟩) n c1) (.slice (some ⟨g2, 0, none⟩) n c2) := by
  right
  simp only [Value.ownBlock, ne_eq, Option.some.injEq]
  rintro rfl
  rcases hd with hd | hd
  · exact h hd
  · omega
/-- What stands in the two rows. -/
def Rows2 (t : Bool) (w : World) (base k : Nat) (F S : Nat → Int) (v1 v2 : Value) : Prop :=
  w.ownsRow base 23 1 v1 k (wl F k) ∧ (t = false ∧ v2 = .slice none 0 0 ∨ t = true ∧ w.ownsRow base 23 1 v2 k (wl S k) ∧ Apart v1 v2)
theorem Rows2.none (t : Bool) (w : World) (base : Nat) (F S : Nat → Int) : Rows2 t w base 0 F S (.slice none 0 0) (.slice none 0 0) := by
  refine ⟨World.ownsRow_nil w base 23 1, ?_⟩
  cases t
  · exact .inl ⟨rfl, rfl⟩
  · exact .inr ⟨rfl, World.ownsRow_nil w base 23 1, .inl rfl⟩
theorem Rows2.below {t : Bool} {w w' : World} {base k : Nat} {F S : Nat → Int} {v1 v2 : Value} (h : Rows2 t w base k F S v1 v2) (hb : Below w.heap.size w w') : Rows2 t w' base k F S v1 v2 := by
  refine ⟨own_below h.1 hb, ?_⟩
  rcases h.2 with h2 | ⟨h2, h3, h4⟩
  · exact .inl h2
  · exact .inr ⟨h2, own_below h3 hb, h4⟩
theorem Rows2.one {t : Bool} {w w' : World} {base k : Nat} {F S : Nat → Int} {v1 v2 v : Value} (h : Rows2 t w base k F S v1 v2) (ht : t = false) (h1 : w'.ownsRow base 23 1 v (k + 1) (wl F (k + 1))) : Rows2 t w' base (k + 1) F S v v2 := by
  refine ⟨h1, ?_⟩
  rcases h.2 with h2 | ⟨h2, _⟩
  · exact .inl h2
  · rw [ht] at h2; cases h2
end Go.Proofs.Ytlheggnoegedcaa
