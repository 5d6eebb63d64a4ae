/- Regions that draw their order and write one block that was there. -/
import Derived.Test.YtindnnbopaeklaaGreatDoorAf
import Derived.Test.YtindnnbopaeklaaGreatDoorAh
import Derived.Test.YtindnnbopaeklaaGreatDoorAa
import Derived.Laws.EntriesVeiled
import Derived.Laws.Strings2
namespace Go.Proofs.YtindnnbopaeklaaGreatDoor
set_option linter.unusedVariables false
set_option linter.unusedSimpArgs false
open Go.RowKit
section
variable {g : Nat} {w W W' : World}
theorem only_set {j : Nat} {v : Value} (h : Only g w W) : Only g w (W.setCell ⟨g, j, none⟩ v) := h.trans (Only.set W j v)
theorem only_call (h : Only g w W) (hn : Below W.heap.size W W') : Only g w W' := h.trans (Only.of hn)
theorem only_al (h : Only g w W) (o : Obj) : Only g w (W.alloc o) := h.trans (Only.of (bal (Below.refl _ W) o))
theorem only_drew (h : Only g w W) : Only g w W.drew := h.drew
theorem only_row {cs : Array Value} (h : Only g w W) : Only g w (W.setRow g cs) := h.trans ⟨rfl, rfl, rfl, by show W.heap.size ≤ (W.heap.modify g _).size; rw [Array.size_modify]; exact Nat.le_refl _, fun k _ hk => row_other cs hk⟩
theorem only_map {o : Obj} (h : Only g w W) : Only g w (putMap W g o) := h.trans ⟨rfl, rfl, rfl, by rw [putMap_size]; exact Nat.le_refl _, fun k _ hk => putMap_other W o hk⟩
theorem only_setc {j k : Nat} {v : Value} (h : Only g w W) (hk : w.heap.size ≤ k) : Only g w (W.setCell ⟨k, j, none⟩ v) :=
 ⟨h.os, h.tape, h.output, by rw [World.size_setCell]; exact h.size, fun i hi hg => (heap_setCell_other W ⟨k, j, none⟩ i v (by show i ≠ k; omega)).trans (h.block i hi hg)⟩
end
theorem mkX (g : Nat) (W0 : World) : ∀ W, Only g W0 W → (∀ b j, b < W0.heap.size → b ≠ g → W.cell? ⟨b, j, none⟩ = W0.cell? ⟨b, j, none⟩) ∧ Only g W0 W := fun W h => ⟨fun b j hb hg => World.cell?_of_block (a := ⟨b, j, none⟩) (h.block b hb hg), h⟩
theorem sp_exit {X : Nat → Prop} {w W : World} {L : List As} {Q : Exit → Act → World → Prop} {e : Exit} {a : Act} (h : Own X w L W) (k : ∀ W', Own X w L W' → Q e a W') : Q e a W := k _ h
end Go.Proofs.YtindnnbopaeklaaGreatDoor
namespace Go.Proofs.YtindnnbopaeklaaGreatDoor
set_option linter.unusedVariables false
set_option linter.unusedSimpArgs false
set_option maxRecDepth 100000
set_option maxHeartbeats 1000000
open Go.RowKit
def digitsS : ByteArray := ⟨#[48, 49, 50, 51, 52, 53, 54, 55, 56, 57, 97, 98, 99, 100, 101, 102, 103, 104, 105, 106, 107, 108, 109, 110, 111, 112, 113, 114, 115, 116, 117, 118, 119, 120, 121, 122]⟩
def smallsS : ByteArray := ⟨#[48, 48, 48, 49, 48, 50, 48, 51, 48, 52, 48, 53, 48, 54, 48, 55, 48, 56, 48, 57, 49, 48, 49, 49, 49, 50, 49, 51, 49, 52, 49, 53, 49, 54, 49, 55, 49, 56, 49, 57, 50, 48, 50, 49, 50, 50, 50, 51, 50, 52, 50, 53, 50, 54, 50, 55, 50, 56, 50, 57, 51, 48, 51, 49, 51, 50, 51, 51, 51, 52, 51, 53, 51, 54, 51, 55, 51, 56, 51, 57, 52, 48, 52, 49, 52, 50, 52, 51, 52, 52, 52, 53, 52, 54, 52, 55, 52, 56, 52, 57, 53, 48, 53, 49, 53, 50, 53, 51, 53, 52, 53, 53, 53, 54, 53, 55, 53, 56, 53, 57, 54, 48, 54, 49, 54, 50, 54, 51, 54, 52, 54, 53, 54, 54, 54, 55, 54, 56, 54, 57, 55, 48, 55, 49, 55, 50, 55, 51, 55, 52, 55, 53, 55, 54, 55, 55, 55, 56, 55, 57, 56, 48, 56, 49, 56, 50, 56, 51, 56, 52, 56, 53, 56, 54, 56, 55, 56, 56, 56, 57, 57, 48, 57, 49, 57, 50, 57, 51, 57, 52, 57, 53, 57, 54, 57, 55, 57, 56, 57, 57]⟩
def itoaS (n : Nat) : ByteArray := if n < 10 then digitsS.extract n (n + 1) else smallsS.extract (n * 2) (n * 2 + 2)
theorem small_own (n : Nat) (w : World) (h : n < 100) : Calls Tryz.prog 267 #[.int .i64 n] w fun e w' => e = .returned (.string (itoaS n)) ∧ w' = w := by
 by_cases h1 : n < 10
 ·have e1 : itoaS n = digitsS.extract n (n + 1) := if_pos h1
  rw [e1]
  have hs : ∀ w, (Instr.slice 9 (.string digitsS) (some (.int .i64 (n : Int))) (some (.int .i64 ((n : Int) + 1))) none).run Tryz.prog w = .ok (.string (digitsS.extract n (n + 1))) w := fun w => by
   have := run_slice_string (P := Tryz.prog) (w := w) 9 digitsS .i64 .i64 n (n + 1) Tryz.underlying9 (by omega) (by omega) (by show _ ≤ ((36 : Nat) : Int); omega)
   rw [this]
   congr
  unfold digitsS at hs ⊢
  have h2 : (n : Int) < 10 := by omega
  clear e1
  go_enter Tryz.func267, Tryz.ntmps267
  go_wp2_with fail
  go_ret
  exact ⟨rfl, rfl⟩
 ·have e1 : itoaS n = smallsS.extract (n * 2) (n * 2 + 2) := if_neg h1
  rw [e1]
  have hs : ∀ w, (Instr.slice 9 (.string smallsS) (some (.int .i64 ((n : Int) * 2))) (some (.int .i64 ((n : Int) * 2 + 2))) none).run Tryz.prog w = .ok (.string (smallsS.extract (n * 2) (n * 2 + 2))) w := fun w => by
   have := run_slice_string (P := Tryz.prog) (w := w) 9 smallsS .i64 .i64 (n * 2) (n * 2 + 2) Tryz.underlying9 (by omega) (by omega) (by show _ ≤ ((200 : Nat) : Int); omega)
   rw [this]
   congr
  unfold smallsS at hs ⊢
  have h2 : ¬ (n : Int) < 10 := by omega
  have h3 : (n : Int) < 100 := by omega
  clear e1
  go_enter Tryz.func267, Tryz.ntmps267
  go_wp2_with fail
  go_ret
  exact ⟨rfl, rfl⟩
theorem fmt_own (n : Nat) (w : World) (h : n < 100) : Calls Tryz.prog 228 #[.int .i64 n, .int .i64 10] w fun e w' => e = .returned (.string (itoaS n)) ∧ w' = w := by
 have c1 := fun W => small_own n W h
 have h2 : (n : Int) < 100 := by omega
 obtain ⟨s, hs⟩ : ∃ s, Hid (s = itoaS n) := ⟨_, hid rfl⟩
 rw [← hs.out] at c1 ⊢
 go_enter Tryz.func228, Tryz.ntmps228
 go_wp2_with (go_at_call 267; (with_reducible refine (c1 _).mono ?_); rintro e w1 ⟨rfl, rfl⟩)
 go_ret
 exact ⟨rfl, rfl⟩
theorem iitoa_own (n : Nat) (w : World) (h : n < 100) : Calls Tryz.prog 179 #[.int .i64 n] w fun e w' => e = .returned (.string (itoaS n)) ∧ w' = w := by
 have c1 := fun W => fmt_own n W h
 obtain ⟨s, hs⟩ : ∃ s, Hid (s = itoaS n) := ⟨_, hid rfl⟩
 rw [← hs.out] at c1 ⊢
 go_enter Tryz.func179, Tryz.ntmps179
 go_wp2_with (go_at_call 228; (with_reducible refine (c1 _).mono ?_); rintro e w1 ⟨rfl, rfl⟩)
 go_ret
 exact ⟨rfl, rfl⟩
theorem itoa_own (n : Nat) (w : World) (h : n < 100) : Calls Tryz.prog 135 #[.int .i64 n] w fun e w' => e = .returned (.string (itoaS n)) ∧ w' = w := by
 have c1 := fun W => iitoa_own n W h
 obtain ⟨s, hs⟩ : ∃ s, Hid (s = itoaS n) := ⟨_, hid rfl⟩
 rw [← hs.out] at c1 ⊢
 go_enter Tryz.func135, Tryz.ntmps135
 go_wp2_with (go_at_call 179; (with_reducible refine (c1 _).mono ?_); rintro e w1 ⟨rfl, rfl⟩)
 go_ret
 exact ⟨rfl, rfl⟩
end Go.Proofs.YtindnnbopaeklaaGreatDoor
