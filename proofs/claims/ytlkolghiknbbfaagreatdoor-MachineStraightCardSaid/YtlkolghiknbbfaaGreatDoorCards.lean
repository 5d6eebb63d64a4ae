/-
  DERIVED. GIVEN WITH THE SEED: THE CARDS: each row of YtlkolghiknbbfaaGreatDoorRows.lean that lists a variable, with what it lists TIED to the program's text (the seventh form; the later family's looks); each row that meets fmt, with fmt's text TOLD by the authors' own Lean function (tested against real Go, not proved from fmt's source: count such statements apart). THE CARD IS WHAT COUNTS. Prove the row's statement (the work); the ties are given (YtlkolghiknbbfaaGreatDoorTie.lean); close each card by the builder's one call (the guide's Derived/Test/ToyasCard.lean, 'card_holds'). Laid BY PROGRAM, IN A SANDBOX (cutbox-door.mjs). By AI agents, Wed Nov 11 2026. No macro, syntax, notation, axiom, sorry.
-/
import Derived.Test.YtlkolghiknbbfaaGreatDoorRows
import GoSem.ClaimSeven
namespace Go.Proofs.YtlkolghiknbbfaaGreatDoor
namespace Rows

/-- THE TIED CARD OF 'intagliolaw23.MachineStraight'. -/
def machineStraightCard : Claim7 := { stood := { row := machineStraightRow, standIns := [], harness := (true, "83ca0512e5731c90e55a9df0ace0b5edd56a2abe8b54ad096f0c09f6e1e5ed78"), looks := false }, kinds := [], alts := [], laidByText := true, laidKinds := [.data, .data, .data], laidTests := true, laidLooks := .later }
def MachineStraightCardSaid : Prop := Claim7.holds Tryz.pinned (.plain (OpenSpec.ofChange machineStraightSpec)) machineStraightCard

/-- THE SECOND FORM's CARD OF 'intagliolaw23.MachineStraight'. -/
def machineStraightUptoCard : Claim7 := { stood := { row := machineStraightUptoRow, standIns := [], harness := (true, "83ca0512e5731c90e55a9df0ace0b5edd56a2abe8b54ad096f0c09f6e1e5ed78"), looks := false }, kinds := [], alts := [], laidByText := true, laidKinds := [.data, .data, .data], laidTests := true, laidLooks := .later }
def MachineStraightUptoCardSaid : Prop := Claim7.holds Tryz.pinned (.plain (OpenSpec.upto machineStraightSpec)) machineStraightUptoCard
end Rows
end Go.Proofs.YtlkolghiknbbfaaGreatDoor
