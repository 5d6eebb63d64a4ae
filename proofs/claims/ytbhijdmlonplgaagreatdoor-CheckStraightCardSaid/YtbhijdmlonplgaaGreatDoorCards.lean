/-
  DERIVED. GIVEN WITH THE SEED: THE CARDS: each row of YtbhijdmlonplgaaGreatDoorRows.lean that lists a variable, with what it lists TIED to the program's text (the seventh form; the later family's looks); each row that meets fmt, with fmt's text TOLD by the authors' own Lean function (tested against real Go, not proved from fmt's source: count such statements apart). THE CARD IS WHAT COUNTS. Prove the row's statement (the work); the ties are given (YtbhijdmlonplgaaGreatDoorTie.lean); close each card by the builder's one call (the guide's Derived/Test/ToyasCard.lean, 'card_holds'). Laid BY PROGRAM, IN A SANDBOX (cutbox-door.mjs). By AI agents, Wed Nov 11 2026. No macro, syntax, notation, axiom, sorry.
-/
import Derived.Test.YtbhijdmlonplgaaGreatDoorRows
import GoSem.ClaimSeven
namespace Go.Proofs.YtbhijdmlonplgaaGreatDoor
namespace Rows

/-- THE TIED CARD OF 'intagliolaw21.CheckStraight'. -/
def checkStraightCard : Claim7 := { stood := { row := checkStraightRow, standIns := [], harness := (true, "5ab4d7f4ee6715b10258ec25a53b8825fc5c2165caa915b24b7f6bdf660ced35"), looks := false }, kinds := [], alts := [], laidByText := true, laidKinds := [.data, .data, .data], laidTests := true, laidLooks := .later }
def CheckStraightCardSaid : Prop := Claim7.holds Tryz.pinned (.plain (OpenSpec.ofChange checkStraightSpec)) checkStraightCard

/-- THE SECOND FORM's CARD OF 'intagliolaw21.CheckStraight'. -/
def checkStraightUptoCard : Claim7 := { stood := { row := checkStraightUptoRow, standIns := [], harness := (true, "5ab4d7f4ee6715b10258ec25a53b8825fc5c2165caa915b24b7f6bdf660ced35"), looks := false }, kinds := [], alts := [], laidByText := true, laidKinds := [.data, .data, .data], laidTests := true, laidLooks := .later }
def CheckStraightUptoCardSaid : Prop := Claim7.holds Tryz.pinned (.plain (OpenSpec.upto checkStraightSpec)) checkStraightUptoCard
end Rows
end Go.Proofs.YtbhijdmlonplgaaGreatDoor
