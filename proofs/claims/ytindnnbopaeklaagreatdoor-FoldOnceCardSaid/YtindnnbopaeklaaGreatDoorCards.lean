/-
  DERIVED. GIVEN WITH THE SEED: THE CARDS: each row of YtindnnbopaeklaaGreatDoorRows.lean that lists a variable, with what it lists TIED to the program's text (the seventh form; the later family's looks); each row that meets fmt, with fmt's text TOLD by the authors' own Lean function (tested against real Go, not proved from fmt's source: count such statements apart). THE CARD IS WHAT COUNTS. Prove the row's statement (the work); the ties are given (YtindnnbopaeklaaGreatDoorTie.lean); close each card by the builder's one call (the guide's Derived/Test/ToyasCard.lean, 'card_holds'). Laid BY PROGRAM, IN A SANDBOX (cutbox-door.mjs). By AI agents, Wed Nov 11 2026. No macro, syntax, notation, axiom, sorry.
-/
import Derived.Test.YtindnnbopaeklaaGreatDoorRows
import GoSem.ClaimSeven
namespace Go.Proofs.YtindnnbopaeklaaGreatDoor
namespace Rows

/-- THE TIED CARD OF 'intagliolaw25.FoldOnce'. -/
def foldOnceCard : Claim7 := { stood := { row := foldOnceRow, standIns := [], harness := (true, "9708cc79071e004eb4ac608fc8388b694efac697df528b0fcb9c68f4c2054cba"), looks := false }, kinds := [], alts := [], laidByText := true, laidKinds := [.data, .data, .data], laidTests := true, laidLooks := .later }
def FoldOnceCardSaid : Prop := Claim7.holds Tryz.pinned (.plain (OpenSpec.ofChange foldOnceSpec)) foldOnceCard

/-- THE SECOND FORM's CARD OF 'intagliolaw25.FoldOnce'. -/
def foldOnceUptoCard : Claim7 := { stood := { row := foldOnceUptoRow, standIns := [], harness := (true, "9708cc79071e004eb4ac608fc8388b694efac697df528b0fcb9c68f4c2054cba"), looks := false }, kinds := [], alts := [], laidByText := true, laidKinds := [.data, .data, .data], laidTests := true, laidLooks := .later }
def FoldOnceUptoCardSaid : Prop := Claim7.holds Tryz.pinned (.plain (OpenSpec.upto foldOnceSpec)) foldOnceUptoCard
end Rows
end Go.Proofs.YtindnnbopaeklaaGreatDoor
