/-
  No cell of these rows narrows 'for every input' (looked for: loops, veiled, ifaces, maps, wideKeys, modest, calm, conditions, laid).
  DERIVED. THE GIVEN ROWS OF THIS SEAT. 10 by the template 'for every input the law returns true; each argument reads behind the call as it read before'; 0 by the template 'total and deterministic' (their statements: YtlheggnoegedcaaTotals.lean).
  GIVEN WITH THE SEED: the statements are not yours to turn. If you find one false, say at which input.
  Laid BY PROGRAM, IN A SANDBOX (cutbox-rows.mjs): the forced cells as the released guide's own fill.sh prints them over the translation 52e8025a639da20b… (all of the seat's roots in one cut). By AI agents, Wed Nov 11 2026. No macro, syntax, notation, axiom, sorry.
-/
import Derived.Test.YtlheggnoegedcaaChecked
import GoSem.Claim
import GoSem.ClaimJoined
import GoSem.ClaimMapViews
import Derived.JoinedTies
import Derived.KernelRfl
namespace Go.Proofs.Ytlheggnoegedcaa
/- THE CELL 'sum', in the pinned program and in every row, IS THE sha256 OF THE DUMP (.gsa) THAT YtlheggnoegedcaaProg.lean LOADS. Nothing in Lean hashes anything: it is a label: what it is worth is what the hold of that sum in a sandbox is worth. -/
noncomputable def Try.pinned : Pinned := { name := "ytlheggnoegedcaa", sum := "52e8025a639da20baedd997c86c0a8f08d1e4588d4aa60a4a9bb1b6fdea18f01", checked := Try.checked }
namespace Rows
def none {H : Type} : Left H := { results := [], args := [] }

/-- 'intagliolaw13.ArithPairs': WHATEVER THE INPUT: true; the input reads as it did. -/
def arithPairsSpec : ChangeSpec := { name := "arithPairs", fn := fun _ => fun
  | [d1, d2, d3] => { results := [.lit (.bool true)], args := [d1, d2, d3] }
  | _ => none }
def arithPairsRow : OpenClaim := { program := "ytlheggnoegedcaa", sum := "52e8025a639da20baedd997c86c0a8f08d1e4588d4aa60a4a9bb1b6fdea18f01", func := "intaglio/intagliolaw13.ArithPairs", spec := "arithPairs", unfollowed := true, recurses := true, apart := false }
def ArithPairsSaid : Prop := arithPairsRow.holds Try.pinned (OpenSpec.ofChange arithPairsSpec)

/-- ITS FALSE NEIGHBOUR: 'it returns false'. Refute it at one input. -/
def arithPairsWrong : ChangeSpec := { name := "arithPairs", fn := fun _ => fun
  | [d1, d2, d3] => { results := [.lit (.bool false)], args := [d1, d2, d3] }
  | _ => none }
def ArithPairsWrongFalsely : Prop := arithPairsRow.holds Try.pinned (OpenSpec.ofChange arithPairsWrong)

/-- 'intagliolaw13.ArithWide': WHATEVER THE INPUT: true; the input reads as it did. -/
def arithWideSpec : ChangeSpec := { name := "arithWide", fn := fun _ => fun
  | [d1, d2] => { results := [.lit (.bool true)], args := [d1, d2] }
  | _ => none }
def arithWideRow : OpenClaim := { program := "ytlheggnoegedcaa", sum := "52e8025a639da20baedd997c86c0a8f08d1e4588d4aa60a4a9bb1b6fdea18f01", func := "intaglio/intagliolaw13.ArithWide", spec := "arithWide", unfollowed := true, recurses := true, apart := false }
def ArithWideSaid : Prop := arithWideRow.holds Try.pinned (OpenSpec.ofChange arithWideSpec)

/-- ITS FALSE NEIGHBOUR: 'it returns false'. Refute it at one input. -/
def arithWideWrong : ChangeSpec := { name := "arithWide", fn := fun _ => fun
  | [d1, d2] => { results := [.lit (.bool false)], args := [d1, d2] }
  | _ => none }
def ArithWideWrongFalsely : Prop := arithWideRow.holds Try.pinned (OpenSpec.ofChange arithWideWrong)

/-- 'intagliolaw13.ArithBinary': WHATEVER THE INPUT: true; the input reads as it did. -/
def arithBinarySpec : ChangeSpec := { name := "arithBinary", fn := fun _ => fun
  | [d1, d2, d3] => { results := [.lit (.bool true)], args := [d1, d2, d3] }
  | _ => none }
def arithBinaryRow : OpenClaim := { program := "ytlheggnoegedcaa", sum := "52e8025a639da20baedd997c86c0a8f08d1e4588d4aa60a4a9bb1b6fdea18f01", func := "intaglio/intagliolaw13.ArithBinary", spec := "arithBinary", unfollowed := true, recurses := true, apart := false }
def ArithBinarySaid : Prop := arithBinaryRow.holds Try.pinned (OpenSpec.ofChange arithBinarySpec)

/-- ITS FALSE NEIGHBOUR: 'it returns false'. Refute it at one input. -/
def arithBinaryWrong : ChangeSpec := { name := "arithBinary", fn := fun _ => fun
  | [d1, d2, d3] => { results := [.lit (.bool false)], args := [d1, d2, d3] }
  | _ => none }
def ArithBinaryWrongFalsely : Prop := arithBinaryRow.holds Try.pinned (OpenSpec.ofChange arithBinaryWrong)

/-- 'intagliolaw13.ArithDivides': WHATEVER THE INPUT: true; the input reads as it did. -/
def arithDividesSpec : ChangeSpec := { name := "arithDivides", fn := fun _ => fun
  | [d1, d2] => { results := [.lit (.bool true)], args := [d1, d2] }
  | _ => none }
def arithDividesRow : OpenClaim := { program := "ytlheggnoegedcaa", sum := "52e8025a639da20baedd997c86c0a8f08d1e4588d4aa60a4a9bb1b6fdea18f01", func := "intaglio/intagliolaw13.ArithDivides", spec := "arithDivides", unfollowed := true, recurses := true, apart := false }
def ArithDividesSaid : Prop := arithDividesRow.holds Try.pinned (OpenSpec.ofChange arithDividesSpec)

/-- ITS FALSE NEIGHBOUR: 'it returns false'. Refute it at one input. -/
def arithDividesWrong : ChangeSpec := { name := "arithDivides", fn := fun _ => fun
  | [d1, d2] => { results := [.lit (.bool false)], args := [d1, d2] }
  | _ => none }
def ArithDividesWrongFalsely : Prop := arithDividesRow.holds Try.pinned (OpenSpec.ofChange arithDividesWrong)

/-- 'intagliolaw13.ArithOrders': WHATEVER THE INPUT: true; the input reads as it did. -/
def arithOrdersSpec : ChangeSpec := { name := "arithOrders", fn := fun _ => fun
  | [d1, d2] => { results := [.lit (.bool true)], args := [d1, d2] }
  | _ => none }
def arithOrdersRow : OpenClaim := { program := "ytlheggnoegedcaa", sum := "52e8025a639da20baedd997c86c0a8f08d1e4588d4aa60a4a9bb1b6fdea18f01", func := "intaglio/intagliolaw13.ArithOrders", spec := "arithOrders", unfollowed := true, recurses := true, apart := false }
def ArithOrdersSaid : Prop := arithOrdersRow.holds Try.pinned (OpenSpec.ofChange arithOrdersSpec)

/-- ITS FALSE NEIGHBOUR: 'it returns false'. Refute it at one input. -/
def arithOrdersWrong : ChangeSpec := { name := "arithOrders", fn := fun _ => fun
  | [d1, d2] => { results := [.lit (.bool false)], args := [d1, d2] }
  | _ => none }
def ArithOrdersWrongFalsely : Prop := arithOrdersRow.holds Try.pinned (OpenSpec.ofChange arithOrdersWrong)

/-- 'intagliolaw13.ArithRing': WHATEVER THE INPUT: true; the input reads as it did. -/
def arithRingSpec : ChangeSpec := { name := "arithRing", fn := fun _ => fun
  | [d1, d2, d3] => { results := [.lit (.bool true)], args := [d1, d2, d3] }
  | _ => none }
def arithRingRow : OpenClaim := { program := "ytlheggnoegedcaa", sum := "52e8025a639da20baedd997c86c0a8f08d1e4588d4aa60a4a9bb1b6fdea18f01", func := "intaglio/intagliolaw13.ArithRing", spec := "arithRing", unfollowed := true, recurses := true, apart := false }
def ArithRingSaid : Prop := arithRingRow.holds Try.pinned (OpenSpec.ofChange arithRingSpec)

/-- ITS FALSE NEIGHBOUR: 'it returns false'. Refute it at one input. -/
def arithRingWrong : ChangeSpec := { name := "arithRing", fn := fun _ => fun
  | [d1, d2, d3] => { results := [.lit (.bool false)], args := [d1, d2, d3] }
  | _ => none }
def ArithRingWrongFalsely : Prop := arithRingRow.holds Try.pinned (OpenSpec.ofChange arithRingWrong)

/-- 'intagliolaw13.ArithUnary': WHATEVER THE INPUT: true; the input reads as it did. -/
def arithUnarySpec : ChangeSpec := { name := "arithUnary", fn := fun _ => fun
  | [d1, d2] => { results := [.lit (.bool true)], args := [d1, d2] }
  | _ => none }
def arithUnaryRow : OpenClaim := { program := "ytlheggnoegedcaa", sum := "52e8025a639da20baedd997c86c0a8f08d1e4588d4aa60a4a9bb1b6fdea18f01", func := "intaglio/intagliolaw13.ArithUnary", spec := "arithUnary", unfollowed := true, recurses := true, apart := false }
def ArithUnarySaid : Prop := arithUnaryRow.holds Try.pinned (OpenSpec.ofChange arithUnarySpec)

/-- ITS FALSE NEIGHBOUR: 'it returns false'. Refute it at one input. -/
def arithUnaryWrong : ChangeSpec := { name := "arithUnary", fn := fun _ => fun
  | [d1, d2] => { results := [.lit (.bool false)], args := [d1, d2] }
  | _ => none }
def ArithUnaryWrongFalsely : Prop := arithUnaryRow.holds Try.pinned (OpenSpec.ofChange arithUnaryWrong)

/-- 'intagliolaw13.ArithFields': WHATEVER THE INPUT: true; the input reads as it did. -/
def arithFieldsSpec : ChangeSpec := { name := "arithFields", fn := fun _ => fun
  | [d1, d2] => { results := [.lit (.bool true)], args := [d1, d2] }
  | _ => none }
def arithFieldsRow : OpenClaim := { program := "ytlheggnoegedcaa", sum := "52e8025a639da20baedd997c86c0a8f08d1e4588d4aa60a4a9bb1b6fdea18f01", func := "intaglio/intagliolaw13.ArithFields", spec := "arithFields", unfollowed := true, recurses := true, apart := false }
def ArithFieldsSaid : Prop := arithFieldsRow.holds Try.pinned (OpenSpec.ofChange arithFieldsSpec)

/-- ITS FALSE NEIGHBOUR: 'it returns false'. Refute it at one input. -/
def arithFieldsWrong : ChangeSpec := { name := "arithFields", fn := fun _ => fun
  | [d1, d2] => { results := [.lit (.bool false)], args := [d1, d2] }
  | _ => none }
def ArithFieldsWrongFalsely : Prop := arithFieldsRow.holds Try.pinned (OpenSpec.ofChange arithFieldsWrong)

/-- 'intagliolaw13.ArithBits': WHATEVER THE INPUT: true; the input reads as it did. -/
def arithBitsSpec : ChangeSpec := { name := "arithBits", fn := fun _ => fun
  | [d] => { results := [.lit (.bool true)], args := [d] }
  | _ => none }
def arithBitsRow : OpenClaim := { program := "ytlheggnoegedcaa", sum := "52e8025a639da20baedd997c86c0a8f08d1e4588d4aa60a4a9bb1b6fdea18f01", func := "intaglio/intagliolaw13.ArithBits", spec := "arithBits", unfollowed := true, recurses := true, apart := false }
def ArithBitsSaid : Prop := arithBitsRow.holds Try.pinned (OpenSpec.ofChange arithBitsSpec)

/-- ITS FALSE NEIGHBOUR: 'it returns false'. Refute it at one input. -/
def arithBitsWrong : ChangeSpec := { name := "arithBits", fn := fun _ => fun
  | [d] => { results := [.lit (.bool false)], args := [d] }
  | _ => none }
def ArithBitsWrongFalsely : Prop := arithBitsRow.holds Try.pinned (OpenSpec.ofChange arithBitsWrong)

/-- 'intagliolaw13.ArithLifts': WHATEVER THE INPUT: true; the input reads as it did. -/
def arithLiftsSpec : ChangeSpec := { name := "arithLifts", fn := fun _ => fun
  | [d1, d2] => { results := [.lit (.bool true)], args := [d1, d2] }
  | _ => none }
def arithLiftsRow : OpenClaim := { program := "ytlheggnoegedcaa", sum := "52e8025a639da20baedd997c86c0a8f08d1e4588d4aa60a4a9bb1b6fdea18f01", func := "intaglio/intagliolaw13.ArithLifts", spec := "arithLifts", unfollowed := true, recurses := true, apart := false }
def ArithLiftsSaid : Prop := arithLiftsRow.holds Try.pinned (OpenSpec.ofChange arithLiftsSpec)

/-- ITS FALSE NEIGHBOUR: 'it returns false'. Refute it at one input. -/
def arithLiftsWrong : ChangeSpec := { name := "arithLifts", fn := fun _ => fun
  | [d1, d2] => { results := [.lit (.bool false)], args := [d1, d2] }
  | _ => none }
def ArithLiftsWrongFalsely : Prop := arithLiftsRow.holds Try.pinned (OpenSpec.ofChange arithLiftsWrong)

/- THE SECOND FORM. 'bulk': how many values and letters a reading holds, each counted each time it is reached (what is shared counts as often as it is met; a slice's spare places count too). A statement '..UptoSaid' is the law's where the arguments, and the package variables that the reading takes, are together of bulk at most 1048576: NARROWER than '..Said'. Prove '..Said' where nothing that the law and all that it calls make is longer than what came in: it says more and counts as full. Else prove '..UptoSaid'. A law counts once. -/
mutual
def uptoBulk {H : Type} : DataW H → Nat
  | .lit (.string bytes) => bytes.length + 1
  | .lit _ => 1
  | .nil => 1
  | .ptr d => uptoBulk d + 1
  | .slice elems spare => uptoBulkAll elems + uptoBulkAll spare + 1
  | .agg parts => uptoBulkAll parts + 1
  | .iface _ d => uptoBulk d + 1
  | .map entries => uptoBulkEntries entries + 1
  | .held _ => 1
def uptoBulkAll {H : Type} : List (DataW H) → Nat
  | [] => 0
  | d :: r => uptoBulk d + uptoBulkAll r
def uptoBulkEntries {H : Type} : List (Lit × DataW H) → Nat
  | [] => 0
  | x :: r => uptoBulkEntry x + uptoBulkEntries r
def uptoBulkEntry {H : Type} : Lit × DataW H → Nat
  | (.string bytes, d) => bytes.length + uptoBulk d + 1
  | (_, d) => uptoBulk d + 1
 end
def uptoSmall : (H : Type) → List (DataW H) → Bool := fun _ ds => decide (uptoBulkAll ds ≤ 1048576)
def OpenSpec.upto (s : _root_.Go.ChangeSpec) : _root_.Go.OpenSpec := { _root_.Go.OpenSpec.ofChange s with cond := some uptoSmall }

/-- 'intagliolaw13.ArithPairs', WHERE WHAT IT READS IS OF BULK AT MOST 1048576: true; the input reads as it did. -/
def arithPairsUptoRow : OpenClaim := { program := "ytlheggnoegedcaa", sum := "52e8025a639da20baedd997c86c0a8f08d1e4588d4aa60a4a9bb1b6fdea18f01", func := "intaglio/intagliolaw13.ArithPairs", spec := "arithPairs", unfollowed := true, recurses := true, apart := false, narrowed := true }
def ArithPairsUptoSaid : Prop := arithPairsUptoRow.holds Try.pinned (OpenSpec.upto arithPairsSpec)

/-- 'intagliolaw13.ArithWide', WHERE WHAT IT READS IS OF BULK AT MOST 1048576: true; the input reads as it did. -/
def arithWideUptoRow : OpenClaim := { program := "ytlheggnoegedcaa", sum := "52e8025a639da20baedd997c86c0a8f08d1e4588d4aa60a4a9bb1b6fdea18f01", func := "intaglio/intagliolaw13.ArithWide", spec := "arithWide", unfollowed := true, recurses := true, apart := false, narrowed := true }
def ArithWideUptoSaid : Prop := arithWideUptoRow.holds Try.pinned (OpenSpec.upto arithWideSpec)

/-- 'intagliolaw13.ArithBinary', WHERE WHAT IT READS IS OF BULK AT MOST 1048576: true; the input reads as it did. -/
def arithBinaryUptoRow : OpenClaim := { program := "ytlheggnoegedcaa", sum := "52e8025a639da20baedd997c86c0a8f08d1e4588d4aa60a4a9bb1b6fdea18f01", func := "intaglio/intagliolaw13.ArithBinary", spec := "arithBinary", unfollowed := true, recurses := true, apart := false, narrowed := true }
def ArithBinaryUptoSaid : Prop := arithBinaryUptoRow.holds Try.pinned (OpenSpec.upto arithBinarySpec)

/-- 'intagliolaw13.ArithDivides', WHERE WHAT IT READS IS OF BULK AT MOST 1048576: true; the input reads as it did. -/
def arithDividesUptoRow : OpenClaim := { program := "ytlheggnoegedcaa", sum := "52e8025a639da20baedd997c86c0a8f08d1e4588d4aa60a4a9bb1b6fdea18f01", func := "intaglio/intagliolaw13.ArithDivides", spec := "arithDivides", unfollowed := true, recurses := true, apart := false, narrowed := true }
def ArithDividesUptoSaid : Prop := arithDividesUptoRow.holds Try.pinned (OpenSpec.upto arithDividesSpec)

/-- 'intagliolaw13.ArithOrders', WHERE WHAT IT READS IS OF BULK AT MOST 1048576: true; the input reads as it did. -/
def arithOrdersUptoRow : OpenClaim := { program := "ytlheggnoegedcaa", sum := "52e8025a639da20baedd997c86c0a8f08d1e4588d4aa60a4a9bb1b6fdea18f01", func := "intaglio/intagliolaw13.ArithOrders", spec := "arithOrders", unfollowed := true, recurses := true, apart := false, narrowed := true }
def ArithOrdersUptoSaid : Prop := arithOrdersUptoRow.holds Try.pinned (OpenSpec.upto arithOrdersSpec)

/-- 'intagliolaw13.ArithRing', WHERE WHAT IT READS IS OF BULK AT MOST 1048576: true; the input reads as it did. -/
def arithRingUptoRow : OpenClaim := { program := "ytlheggnoegedcaa", sum := "52e8025a639da20baedd997c86c0a8f08d1e4588d4aa60a4a9bb1b6fdea18f01", func := "intaglio/intagliolaw13.ArithRing", spec := "arithRing", unfollowed := true, recurses := true, apart := false, narrowed := true }
def ArithRingUptoSaid : Prop := arithRingUptoRow.holds Try.pinned (OpenSpec.upto arithRingSpec)

/-- 'intagliolaw13.ArithUnary', WHERE WHAT IT READS IS OF BULK AT MOST 1048576: true; the input reads as it did. -/
def arithUnaryUptoRow : OpenClaim := { program := "ytlheggnoegedcaa", sum := "52e8025a639da20baedd997c86c0a8f08d1e4588d4aa60a4a9bb1b6fdea18f01", func := "intaglio/intagliolaw13.ArithUnary", spec := "arithUnary", unfollowed := true, recurses := true, apart := false, narrowed := true }
def ArithUnaryUptoSaid : Prop := arithUnaryUptoRow.holds Try.pinned (OpenSpec.upto arithUnarySpec)

/-- 'intagliolaw13.ArithFields', WHERE WHAT IT READS IS OF BULK AT MOST 1048576: true; the input reads as it did. -/
def arithFieldsUptoRow : OpenClaim := { program := "ytlheggnoegedcaa", sum := "52e8025a639da20baedd997c86c0a8f08d1e4588d4aa60a4a9bb1b6fdea18f01", func := "intaglio/intagliolaw13.ArithFields", spec := "arithFields", unfollowed := true, recurses := true, apart := false, narrowed := true }
def ArithFieldsUptoSaid : Prop := arithFieldsUptoRow.holds Try.pinned (OpenSpec.upto arithFieldsSpec)

/-- 'intagliolaw13.ArithBits', WHERE WHAT IT READS IS OF BULK AT MOST 1048576: true; the input reads as it did. -/
def arithBitsUptoRow : OpenClaim := { program := "ytlheggnoegedcaa", sum := "52e8025a639da20baedd997c86c0a8f08d1e4588d4aa60a4a9bb1b6fdea18f01", func := "intaglio/intagliolaw13.ArithBits", spec := "arithBits", unfollowed := true, recurses := true, apart := false, narrowed := true }
def ArithBitsUptoSaid : Prop := arithBitsUptoRow.holds Try.pinned (OpenSpec.upto arithBitsSpec)

/-- 'intagliolaw13.ArithLifts', WHERE WHAT IT READS IS OF BULK AT MOST 1048576: true; the input reads as it did. -/
def arithLiftsUptoRow : OpenClaim := { program := "ytlheggnoegedcaa", sum := "52e8025a639da20baedd997c86c0a8f08d1e4588d4aa60a4a9bb1b6fdea18f01", func := "intaglio/intagliolaw13.ArithLifts", spec := "arithLifts", unfollowed := true, recurses := true, apart := false, narrowed := true }
def ArithLiftsUptoSaid : Prop := arithLiftsUptoRow.holds Try.pinned (OpenSpec.upto arithLiftsSpec)

end Rows
end Go.Proofs.Ytlheggnoegedcaa
