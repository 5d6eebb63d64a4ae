/- Regions that draw their order and write one block that was there. -/
import Derived.Test.YtlkolghiknbbfaaGreatDoorAf
import Derived.Test.YtlkolghiknbbfaaGreatDoorAh
set_option linter.unusedVariables false
set_option linter.unusedSimpArgs false
set_option maxRecDepth 100000
set_option maxHeartbeats 4000000
namespace Go.Proofs.YtlkolghiknbbfaaGreatDoor
open Go.RowKit
section
variable {g : Nat} {w W W' : World}
theorem fM {j : Nat} {v : Value} (h : Only g w W) : Only g w (W.setCell ⟨g, j, none⟩ v) := h.trans (Only.set W j v)
theorem eO (h : Only g w W) (hn : Bl W W') : Only g w W' := h.trans (Only.of hn)
theorem iE (h : Only g w W) (o : Obj) : Only g w (W.alloc o) := h.trans (Only.of (bP (Below.refl _ W) o))
theorem bz (h : Only g w W) : Only g w W.drew := h.drew
theorem fP {cs : Array Value} (h : Only g w W) : Only g w (W.setRow g cs) := h.trans ⟨rfl, rfl, rfl, by show W.heap.size ≤ (W.heap.modify g _).size; rw [Array.size_modify]; exact Nat.le_refl _, fun k _ hk => dL cs hk⟩
theorem fJ {o : Obj} (h : Only g w W) : Only g w (aT W g o) := h.trans ⟨rfl, rfl, rfl, by rw [jg]; exact Nat.le_refl _, fun k _ hk => jw W o hk⟩
theorem eG {j k : Nat} {v : Value} (h : Only g w W) (hk : w.heap.size ≤ k) : Only g w (W.setCell ⟨k, j, none⟩ v) :=
 ⟨h.os, h.tape, h.output, by rw [World.size_setCell]; exact h.size, fun i hi hg => (heap_setCell_other W ⟨k, j, none⟩ i v (by show i ≠ k; omega)).trans (h.block i hi hg)⟩
end
theorem vT (g : Nat) (W0 : World) : ∀ W, Only g W0 W → (∀ b j, b < W0.heap.size → b ≠ g → W.cell? ⟨b, j, none⟩ = W0.cell? ⟨b, j, none⟩) ∧ Only g W0 W := fun W h => ⟨fun b j hb hg => World.cell?_of_block (a := ⟨b, j, none⟩) (h.block b hb hg), h⟩
theorem gu {X : Nat → Prop} {w W : World} {L : List As} {Q : Exit → Act → World → Prop} {e : Exit} {a : Act} (h : Own X w L W) (k : ∀ W', Own X w L W' → Q e a W') : Q e a W := k _ h
end Go.Proofs.YtlkolghiknbbfaaGreatDoor
namespace Go.Proofs.YtlkolghiknbbfaaGreatDoor
open Go.RowKit
def mG : ByteArray := ⟨#[48, 49, 50, 51, 52, 53, 54, 55, 56, 57, 97, 98, 99, 100, 101, 102, 103, 104, 105, 106, 107, 108, 109, 110, 111, 112, 113, 114, 115, 116, 117, 118, 119, 120, 121, 122]⟩
def mo : ByteArray := ⟨#[48, 48, 48, 49, 48, 50, 48, 51, 48, 52, 48, 53, 48, 54, 48, 55, 48, 56, 48, 57, 49, 48, 49, 49, 49, 50, 49, 51, 49, 52, 49, 53, 49, 54, 49, 55, 49, 56, 49, 57, 50, 48, 50, 49, 50, 50, 50, 51, 50, 52, 50, 53, 50, 54, 50, 55, 50, 56, 50, 57, 51, 48, 51, 49, 51, 50, 51, 51, 51, 52, 51, 53, 51, 54, 51, 55, 51, 56, 51, 57, 52, 48, 52, 49, 52, 50, 52, 51, 52, 52, 52, 53, 52, 54, 52, 55, 52, 56, 52, 57, 53, 48, 53, 49, 53, 50, 53, 51, 53, 52, 53, 53, 53, 54, 53, 55, 53, 56, 53, 57, 54, 48, 54, 49, 54, 50, 54, 51, 54, 52, 54, 53, 54, 54, 54, 55, 54, 56, 54, 57, 55, 48, 55, 49, 55, 50, 55, 51, 55, 52, 55, 53, 55, 54, 55, 55, 55, 56, 55, 57, 56, 48, 56, 49, 56, 50, 56, 51, 56, 52, 56, 53, 56, 54, 56, 55, 56, 56, 56, 57, 57, 48, 57, 49, 57, 50, 57, 51, 57, 52, 57, 53, 57, 54, 57, 55, 57, 56, 57, 57]⟩
def iM (n : Nat) : ByteArray := if n < 10 then mG.extract n (n + 1) else mo.extract (n * 2) (n * 2 + 2)
theorem EI (n : Nat) (w : World) (h : n < 100) : Calls Tryz.prog 289 #[.int .i64 n] w fun e w' => e = .returned (.string (iM n)) ∧ w' = w := by
 by_cases h1 : n < 10
 ·have e1 : iM n = mG.extract n (n + 1) := if_pos h1
  rw [e1];have hs : ∀ w, (Instr.slice 9 (.string mG) (some (.int .i64 (n : Int))) (some (.int .i64 ((n : Int) + 1))) none).run Tryz.prog w = .ok (.string (mG.extract n (n + 1))) w := fun w => by
   have := run_slice_string (P := Tryz.prog) (w := w) 9 mG .i64 .i64 n (n + 1) Tryz.underlying9 (by omega) (by omega) (by show _ ≤ ((36 : Nat) : Int); omega);rw [this]
   congr
  unfold mG at hs ⊢;have h2 : (n : Int) < 10 := by omega
  clear e1;go_enter Tryz.func289, Tryz.ntmps289;go_wp2_with fail;go_ret;exact ⟨rfl, rfl⟩
 ·have e1 : iM n = mo.extract (n * 2) (n * 2 + 2) := if_neg h1
  rw [e1];have hs : ∀ w, (Instr.slice 9 (.string mo) (some (.int .i64 ((n : Int) * 2))) (some (.int .i64 ((n : Int) * 2 + 2))) none).run Tryz.prog w = .ok (.string (mo.extract (n * 2) (n * 2 + 2))) w := fun w => by
   have := run_slice_string (P := Tryz.prog) (w := w) 9 mo .i64 .i64 (n * 2) (n * 2 + 2) Tryz.underlying9 (by omega) (by omega) (by show _ ≤ ((200 : Nat) : Int); omega);rw [this]
   congr
  unfold mo at hs ⊢;have h2 : ¬ (n : Int) < 10 := by omega
  have h3 : (n : Int) < 100 := by omega
  clear e1;go_enter Tryz.func289, Tryz.ntmps289;go_wp2_with fail;go_ret;exact ⟨rfl, rfl⟩
theorem Mk (n : Nat) (w : World) (h : n < 100) : Calls Tryz.prog 258 #[.int .i64 n, .int .i64 10] w fun e w' => e = .returned (.string (iM n)) ∧ w' = w := by
 have c1 := fun W => EI n W h
 have h2 : (n : Int) < 100 := by omega
 obtain ⟨s, hs⟩ : ∃ s, Hid (s = iM n) := ⟨_, hid rfl⟩;rw [← hs.out] at c1 ⊢;go_enter Tryz.func258, Tryz.ntmps258;go_wp2_with (go_at_call 289; (with_reducible refine (c1 _).mono ?_); rintro e w1 ⟨rfl, rfl⟩);go_ret;exact ⟨rfl, rfl⟩
theorem Gi (n : Nat) (w : World) (h : n < 100) : Calls Tryz.prog 210 #[.int .i64 n] w fun e w' => e = .returned (.string (iM n)) ∧ w' = w := by
 have c1 := fun W => Mk n W h
 obtain ⟨s, hs⟩ : ∃ s, Hid (s = iM n) := ⟨_, hid rfl⟩;rw [← hs.out] at c1 ⊢;go_enter Tryz.func210, Tryz.ntmps210;go_wp2_with (go_at_call 258; (with_reducible refine (c1 _).mono ?_); rintro e w1 ⟨rfl, rfl⟩);go_ret;exact ⟨rfl, rfl⟩
theorem zk (n : Nat) (w : World) (h : n < 100) : Calls Tryz.prog 172 #[.int .i64 n] w fun e w' => e = .returned (.string (iM n)) ∧ w' = w := by
 have c1 := fun W => Gi n W h
 obtain ⟨s, hs⟩ : ∃ s, Hid (s = iM n) := ⟨_, hid rfl⟩;rw [← hs.out] at c1 ⊢;go_enter Tryz.func172, Tryz.ntmps172;go_wp2_with (go_at_call 210; (with_reducible refine (c1 _).mono ?_); rintro e w1 ⟨rfl, rfl⟩);go_ret;exact ⟨rfl, rfl⟩
end Go.Proofs.YtlkolghiknbbfaaGreatDoor
