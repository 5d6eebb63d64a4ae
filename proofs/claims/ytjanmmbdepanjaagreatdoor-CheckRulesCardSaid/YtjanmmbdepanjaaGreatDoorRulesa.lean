/- The names of the checks: the list of the rules; going over it. -/
import Derived.Test.YtjanmmbdepanjaaGreatDoorRows
import Derived.RangeFuncNested
import Derived.RangeFuncLeaves
import Derived.Shelf.Abstract
import Derived.WalkKit
import Derived.OwnWalkIn
import Derived.TacticsInMore
import Derived.LoopNIn
import Derived.LoopIn
import Derived.Below
namespace Go.Proofs.YtjanmmbdepanjaaGreatDoor
set_option linter.unusedVariables false
open Go.RowKit Go.Shelf
attribute [local go_sem] Oper.semAt_some
/-- The k-th check's name. -/
def nm : Nat → ByteArray
  | 0 => ⟨#[115, 104, 97, 112, 101]⟩ | 1 => ⟨#[108, 97, 121, 111, 117, 116]⟩ | 2 => ⟨#[105, 100, 115]⟩ | 3 => ⟨#[116, 121, 112, 101, 115]⟩ | 4 => ⟨#[99, 111, 110, 115, 116, 115]⟩
  | 5 => ⟨#[110, 101, 115, 116]⟩ | 6 => ⟨#[99, 97, 108, 108, 115]⟩ | 7 => ⟨#[116, 121, 112, 105, 110, 103]⟩ | 8 => ⟨#[102, 108, 111, 119]⟩ | _ => ⟨#[102, 97, 99, 101]⟩
/-- The k-th check's function. -/
def fo : Nat → Nat
  | 0 => 10 | 1 => 11 | 2 => 12 | 3 => 13 | 4 => 15
  | 5 => 17 | 6 => 18 | 7 => 20 | 8 => 21 | _ => 22
def fval (k : Nat) : Value := .func (.func (fo k)) #[] #[]
theorem names_own (w : World) : Calls Tryz.prog 4 #[] w fun e w' => e = .returned (.slice (some ⟨w.heap.size, 0, none⟩) 10 10) ∧
    w' = w.alloc (.cells #[.string (nm 0), .string (nm 1), .string (nm 2), .string (nm 3), .string (nm 4), .string (nm 5), .string (nm 6), .string (nm 7), .string (nm 8), .string (nm 9)] 9) := by
  go_enter Tryz.func4, Tryz.ntmps4
  go_wp2
  go_ret
  exact ⟨rfl, rfl⟩
/-- The list of the rules, as it lies. -/
def ruleCells : Array Value := #[.string (nm 0), fval 0, .string (nm 1), fval 1, .string (nm 2), fval 2, .string (nm 3), fval 3, .string (nm 4), fval 4, .string (nm 5), fval 5, .string (nm 6), fval 6, .string (nm 7), fval 7, .string (nm 8), fval 8, .string (nm 9), fval 9]
theorem rules_own (w : World) : Calls Tryz.prog 9 #[] w fun e w' => e = .returned (.slice (some ⟨w.heap.size, 0, none⟩) 10 10) ∧ w' = w.alloc (.cells ruleCells 34) := by
  go_enter Tryz.func9, Tryz.ntmps9
  go_wp2
  go_ret
  exact ⟨rfl, rfl⟩
theorem each_own (w : World) : Calls Tryz.prog 7 #[] w fun e w' => e = .returned (.func (.func 8) #[] #[]) ∧ w' = w := by
  go_enter Tryz.func7, Tryz.ntmps7
  go_wp2
  go_ret
  exact ⟨rfl, rfl⟩
theorem rules_fn (w : World) : Calls Tryz.prog 5 #[] w fun e w' => e = .returned (.func (.func 6) #[] #[]) ∧ w' = w := by
  go_enter Tryz.func5, Tryz.ntmps5
  go_wp2
  go_ret
  exact ⟨rfl, rfl⟩
end Go.Proofs.YtjanmmbdepanjaaGreatDoor
