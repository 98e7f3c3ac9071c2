/-
  No cell of these rows narrows 'for every input' (looked for: loops, veiled, ifaces, maps, wideKeys, modest, calm, conditions, laid).
  DERIVED. THE GIVEN ROWS OF THIS SEAT. 17 by the template 'for every input the law returns true; each argument reads behind the call as it read before'; 0 by the template 'total and deterministic' (their statements: YteodlmgmmpkpoaaTotals.lean).
  GIVEN WITH THE SEED: the statements are not yours to turn. If you find one false, say at which input.
  Laid BY PROGRAM, IN A SANDBOX (cutbox-rows.mjs): the forced cells as the released guide's own fill.sh prints them over the translation e86646df669134fa… (all of the seat's roots in one cut). By AI agents, Wed Nov 11 2026. No macro, syntax, notation, axiom, sorry.
-/
import Derived.Test.YteodlmgmmpkpoaaChecked
import GoSem.Claim
import GoSem.ClaimJoined
import GoSem.ClaimMapViews
import Derived.JoinedTies
import Derived.KernelRfl
namespace Go.Proofs.Yteodlmgmmpkpoaa
/- THE CELL 'sum', in the pinned program and in every row, IS THE sha256 OF THE DUMP (.gsa) THAT YteodlmgmmpkpoaaProg.lean LOADS. Nothing in Lean hashes anything: it is a label: what it is worth is what the hold of that sum in a sandbox is worth. -/
noncomputable def Try.pinned : Pinned := { name := "yteodlmgmmpkpoaa", sum := "e86646df669134fa124294fc3e2799a07747a585a9be06975b092fa5d6c78219", checked := Try.checked }
namespace Rows
def none {H : Type} : Left H := { results := [], args := [] }

/-- 'swashplatelaw01.SpansGreatest': WHATEVER THE INPUT: true; the input reads as it did. -/
def spansGreatestSpec : ChangeSpec := { name := "spansGreatest", fn := fun _ => fun
  | [d1, d2, d3] => { results := [.lit (.bool true)], args := [d1, d2, d3] }
  | _ => none }
def spansGreatestRow : OpenClaim := { program := "yteodlmgmmpkpoaa", sum := "e86646df669134fa124294fc3e2799a07747a585a9be06975b092fa5d6c78219", func := "swashplate/swashplatelaw01.SpansGreatest", spec := "spansGreatest", unfollowed := true, recurses := true, apart := false }
def SpansGreatestSaid : Prop := spansGreatestRow.holds Try.pinned (OpenSpec.ofChange spansGreatestSpec)

/-- ITS FALSE NEIGHBOUR: 'it returns false'. Refute it at one input. -/
def spansGreatestWrong : ChangeSpec := { name := "spansGreatest", fn := fun _ => fun
  | [d1, d2, d3] => { results := [.lit (.bool false)], args := [d1, d2, d3] }
  | _ => none }
def SpansGreatestWrongFalsely : Prop := spansGreatestRow.holds Try.pinned (OpenSpec.ofChange spansGreatestWrong)

/-- 'swashplatelaw01.SpansChecks': WHATEVER THE INPUT: true; the input reads as it did. -/
def spansChecksSpec : ChangeSpec := { name := "spansChecks", fn := fun _ => fun
  | [d1, d2] => { results := [.lit (.bool true)], args := [d1, d2] }
  | _ => none }
def spansChecksRow : OpenClaim := { program := "yteodlmgmmpkpoaa", sum := "e86646df669134fa124294fc3e2799a07747a585a9be06975b092fa5d6c78219", func := "swashplate/swashplatelaw01.SpansChecks", spec := "spansChecks", unfollowed := true, recurses := true, apart := false }
def SpansChecksSaid : Prop := spansChecksRow.holds Try.pinned (OpenSpec.ofChange spansChecksSpec)

/-- ITS FALSE NEIGHBOUR: 'it returns false'. Refute it at one input. -/
def spansChecksWrong : ChangeSpec := { name := "spansChecks", fn := fun _ => fun
  | [d1, d2] => { results := [.lit (.bool false)], args := [d1, d2] }
  | _ => none }
def SpansChecksWrongFalsely : Prop := spansChecksRow.holds Try.pinned (OpenSpec.ofChange spansChecksWrong)

/-- 'swashplatelaw01.SpansBounds': WHATEVER THE INPUT: true; the input reads as it did. -/
def spansBoundsSpec : ChangeSpec := { name := "spansBounds", fn := fun _ => fun
  | [d1, d2] => { results := [.lit (.bool true)], args := [d1, d2] }
  | _ => none }
def spansBoundsRow : OpenClaim := { program := "yteodlmgmmpkpoaa", sum := "e86646df669134fa124294fc3e2799a07747a585a9be06975b092fa5d6c78219", func := "swashplate/swashplatelaw01.SpansBounds", spec := "spansBounds", unfollowed := true, recurses := true, apart := false }
def SpansBoundsSaid : Prop := spansBoundsRow.holds Try.pinned (OpenSpec.ofChange spansBoundsSpec)

/-- ITS FALSE NEIGHBOUR: 'it returns false'. Refute it at one input. -/
def spansBoundsWrong : ChangeSpec := { name := "spansBounds", fn := fun _ => fun
  | [d1, d2] => { results := [.lit (.bool false)], args := [d1, d2] }
  | _ => none }
def SpansBoundsWrongFalsely : Prop := spansBoundsRow.holds Try.pinned (OpenSpec.ofChange spansBoundsWrong)

/-- 'swashplatelaw01.SpansValues': WHATEVER THE INPUT: true; the input reads as it did. -/
def spansValuesSpec : ChangeSpec := { name := "spansValues", fn := fun _ => fun
  | [d1, d2, d3] => { results := [.lit (.bool true)], args := [d1, d2, d3] }
  | _ => none }
def spansValuesRow : OpenClaim := { program := "yteodlmgmmpkpoaa", sum := "e86646df669134fa124294fc3e2799a07747a585a9be06975b092fa5d6c78219", func := "swashplate/swashplatelaw01.SpansValues", spec := "spansValues", unfollowed := true, recurses := true, apart := false }
def SpansValuesSaid : Prop := spansValuesRow.holds Try.pinned (OpenSpec.ofChange spansValuesSpec)

/-- ITS FALSE NEIGHBOUR: 'it returns false'. Refute it at one input. -/
def spansValuesWrong : ChangeSpec := { name := "spansValues", fn := fun _ => fun
  | [d1, d2, d3] => { results := [.lit (.bool false)], args := [d1, d2, d3] }
  | _ => none }
def SpansValuesWrongFalsely : Prop := spansValuesRow.holds Try.pinned (OpenSpec.ofChange spansValuesWrong)

/-- 'swashplatetop.TopSlung': WHATEVER THE INPUT: true; the input reads as it did. -/
def topSlungSpec : ChangeSpec := { name := "topSlung", fn := fun _ => fun
  | [d1, d2, d3] => { results := [.lit (.bool true)], args := [d1, d2, d3] }
  | _ => none }
def topSlungRow : OpenClaim := { program := "yteodlmgmmpkpoaa", sum := "e86646df669134fa124294fc3e2799a07747a585a9be06975b092fa5d6c78219", func := "swashplate/swashplatetop.TopSlung", spec := "topSlung", unfollowed := true, recurses := true, apart := false }
def TopSlungSaid : Prop := topSlungRow.holds Try.pinned (OpenSpec.ofChange topSlungSpec)

/-- ITS FALSE NEIGHBOUR: 'it returns false'. Refute it at one input. -/
def topSlungWrong : ChangeSpec := { name := "topSlung", fn := fun _ => fun
  | [d1, d2, d3] => { results := [.lit (.bool false)], args := [d1, d2, d3] }
  | _ => none }
def TopSlungWrongFalsely : Prop := topSlungRow.holds Try.pinned (OpenSpec.ofChange topSlungWrong)

/-- 'swashplatelaw01.SpansBelow': WHATEVER THE INPUT: true; the input reads as it did. -/
def spansBelowSpec : ChangeSpec := { name := "spansBelow", fn := fun _ => fun
  | [d1, d2, d3] => { results := [.lit (.bool true)], args := [d1, d2, d3] }
  | _ => none }
def spansBelowRow : OpenClaim := { program := "yteodlmgmmpkpoaa", sum := "e86646df669134fa124294fc3e2799a07747a585a9be06975b092fa5d6c78219", func := "swashplate/swashplatelaw01.SpansBelow", spec := "spansBelow", unfollowed := true, recurses := true, apart := false }
def SpansBelowSaid : Prop := spansBelowRow.holds Try.pinned (OpenSpec.ofChange spansBelowSpec)

/-- ITS FALSE NEIGHBOUR: 'it returns false'. Refute it at one input. -/
def spansBelowWrong : ChangeSpec := { name := "spansBelow", fn := fun _ => fun
  | [d1, d2, d3] => { results := [.lit (.bool false)], args := [d1, d2, d3] }
  | _ => none }
def SpansBelowWrongFalsely : Prop := spansBelowRow.holds Try.pinned (OpenSpec.ofChange spansBelowWrong)

/-- 'swashplatelaw01.SpansMeets': WHATEVER THE INPUT: true; the input reads as it did. -/
def spansMeetsSpec : ChangeSpec := { name := "spansMeets", fn := fun _ => fun
  | [d1, d2, d3] => { results := [.lit (.bool true)], args := [d1, d2, d3] }
  | _ => none }
def spansMeetsRow : OpenClaim := { program := "yteodlmgmmpkpoaa", sum := "e86646df669134fa124294fc3e2799a07747a585a9be06975b092fa5d6c78219", func := "swashplate/swashplatelaw01.SpansMeets", spec := "spansMeets", unfollowed := true, recurses := true, apart := false }
def SpansMeetsSaid : Prop := spansMeetsRow.holds Try.pinned (OpenSpec.ofChange spansMeetsSpec)

/-- ITS FALSE NEIGHBOUR: 'it returns false'. Refute it at one input. -/
def spansMeetsWrong : ChangeSpec := { name := "spansMeets", fn := fun _ => fun
  | [d1, d2, d3] => { results := [.lit (.bool false)], args := [d1, d2, d3] }
  | _ => none }
def SpansMeetsWrongFalsely : Prop := spansMeetsRow.holds Try.pinned (OpenSpec.ofChange spansMeetsWrong)

/-- 'swashplatelaw01.SpansInside': WHATEVER THE INPUT: true; the input reads as it did. -/
def spansInsideSpec : ChangeSpec := { name := "spansInside", fn := fun _ => fun
  | [d1, d2] => { results := [.lit (.bool true)], args := [d1, d2] }
  | _ => none }
def spansInsideRow : OpenClaim := { program := "yteodlmgmmpkpoaa", sum := "e86646df669134fa124294fc3e2799a07747a585a9be06975b092fa5d6c78219", func := "swashplate/swashplatelaw01.SpansInside", spec := "spansInside", unfollowed := true, recurses := true, apart := false }
def SpansInsideSaid : Prop := spansInsideRow.holds Try.pinned (OpenSpec.ofChange spansInsideSpec)

/-- ITS FALSE NEIGHBOUR: 'it returns false'. Refute it at one input. -/
def spansInsideWrong : ChangeSpec := { name := "spansInside", fn := fun _ => fun
  | [d1, d2] => { results := [.lit (.bool false)], args := [d1, d2] }
  | _ => none }
def SpansInsideWrongFalsely : Prop := spansInsideRow.holds Try.pinned (OpenSpec.ofChange spansInsideWrong)

/-- 'swashplatelaw01.SpansComputes': WHATEVER THE INPUT: true; the input reads as it did. -/
def spansComputesSpec : ChangeSpec := { name := "spansComputes", fn := fun _ => fun
  | [d1, d2, d3] => { results := [.lit (.bool true)], args := [d1, d2, d3] }
  | _ => none }
def spansComputesRow : OpenClaim := { program := "yteodlmgmmpkpoaa", sum := "e86646df669134fa124294fc3e2799a07747a585a9be06975b092fa5d6c78219", func := "swashplate/swashplatelaw01.SpansComputes", spec := "spansComputes", unfollowed := true, recurses := true, apart := false }
def SpansComputesSaid : Prop := spansComputesRow.holds Try.pinned (OpenSpec.ofChange spansComputesSpec)

/-- ITS FALSE NEIGHBOUR: 'it returns false'. Refute it at one input. -/
def spansComputesWrong : ChangeSpec := { name := "spansComputes", fn := fun _ => fun
  | [d1, d2, d3] => { results := [.lit (.bool false)], args := [d1, d2, d3] }
  | _ => none }
def SpansComputesWrongFalsely : Prop := spansComputesRow.holds Try.pinned (OpenSpec.ofChange spansComputesWrong)

/-- 'swashplatelaw01.SpansEach': WHATEVER THE INPUT: true; the input reads as it did. -/
def spansEachSpec : ChangeSpec := { name := "spansEach", fn := fun _ => fun
  | [d1, d2, d3] => { results := [.lit (.bool true)], args := [d1, d2, d3] }
  | _ => none }
def spansEachRow : OpenClaim := { program := "yteodlmgmmpkpoaa", sum := "e86646df669134fa124294fc3e2799a07747a585a9be06975b092fa5d6c78219", func := "swashplate/swashplatelaw01.SpansEach", spec := "spansEach", unfollowed := true, recurses := true, apart := false }
def SpansEachSaid : Prop := spansEachRow.holds Try.pinned (OpenSpec.ofChange spansEachSpec)

/-- ITS FALSE NEIGHBOUR: 'it returns false'. Refute it at one input. -/
def spansEachWrong : ChangeSpec := { name := "spansEach", fn := fun _ => fun
  | [d1, d2, d3] => { results := [.lit (.bool false)], args := [d1, d2, d3] }
  | _ => none }
def SpansEachWrongFalsely : Prop := spansEachRow.holds Try.pinned (OpenSpec.ofChange spansEachWrong)

/-- 'swashplatelaw01.SpansMinus': WHATEVER THE INPUT: true; the input reads as it did. -/
def spansMinusSpec : ChangeSpec := { name := "spansMinus", fn := fun _ => fun
  | [d1, d2] => { results := [.lit (.bool true)], args := [d1, d2] }
  | _ => none }
def spansMinusRow : OpenClaim := { program := "yteodlmgmmpkpoaa", sum := "e86646df669134fa124294fc3e2799a07747a585a9be06975b092fa5d6c78219", func := "swashplate/swashplatelaw01.SpansMinus", spec := "spansMinus", unfollowed := true, recurses := true, apart := false }
def SpansMinusSaid : Prop := spansMinusRow.holds Try.pinned (OpenSpec.ofChange spansMinusSpec)

/-- ITS FALSE NEIGHBOUR: 'it returns false'. Refute it at one input. -/
def spansMinusWrong : ChangeSpec := { name := "spansMinus", fn := fun _ => fun
  | [d1, d2] => { results := [.lit (.bool false)], args := [d1, d2] }
  | _ => none }
def SpansMinusWrongFalsely : Prop := spansMinusRow.holds Try.pinned (OpenSpec.ofChange spansMinusWrong)

/-- 'swashplatelaw01.SpansLost': WHATEVER THE INPUT: true; the input reads as it did. -/
def spansLostSpec : ChangeSpec := { name := "spansLost", fn := fun _ => fun
  | [d1, d2, d3] => { results := [.lit (.bool true)], args := [d1, d2, d3] }
  | _ => none }
def spansLostRow : OpenClaim := { program := "yteodlmgmmpkpoaa", sum := "e86646df669134fa124294fc3e2799a07747a585a9be06975b092fa5d6c78219", func := "swashplate/swashplatelaw01.SpansLost", spec := "spansLost", unfollowed := true, recurses := true, apart := false }
def SpansLostSaid : Prop := spansLostRow.holds Try.pinned (OpenSpec.ofChange spansLostSpec)

/-- ITS FALSE NEIGHBOUR: 'it returns false'. Refute it at one input. -/
def spansLostWrong : ChangeSpec := { name := "spansLost", fn := fun _ => fun
  | [d1, d2, d3] => { results := [.lit (.bool false)], args := [d1, d2, d3] }
  | _ => none }
def SpansLostWrongFalsely : Prop := spansLostRow.holds Try.pinned (OpenSpec.ofChange spansLostWrong)

/-- 'swashplatelaw01.SpansCounts': WHATEVER THE INPUT: true; the input reads as it did. -/
def spansCountsSpec : ChangeSpec := { name := "spansCounts", fn := fun _ => fun
  | [d] => { results := [.lit (.bool true)], args := [d] }
  | _ => none }
def spansCountsRow : OpenClaim := { program := "yteodlmgmmpkpoaa", sum := "e86646df669134fa124294fc3e2799a07747a585a9be06975b092fa5d6c78219", func := "swashplate/swashplatelaw01.SpansCounts", spec := "spansCounts", unfollowed := true, recurses := true, apart := false }
def SpansCountsSaid : Prop := spansCountsRow.holds Try.pinned (OpenSpec.ofChange spansCountsSpec)

/-- ITS FALSE NEIGHBOUR: 'it returns false'. Refute it at one input. -/
def spansCountsWrong : ChangeSpec := { name := "spansCounts", fn := fun _ => fun
  | [d] => { results := [.lit (.bool false)], args := [d] }
  | _ => none }
def SpansCountsWrongFalsely : Prop := spansCountsRow.holds Try.pinned (OpenSpec.ofChange spansCountsWrong)

/-- 'swashplatelaw07.SlingSwings': WHATEVER THE INPUT: true; the input reads as it did. -/
def slingSwingsSpec : ChangeSpec := { name := "slingSwings", fn := fun _ => fun
  | [d1, d2] => { results := [.lit (.bool true)], args := [d1, d2] }
  | _ => none }
def slingSwingsRow : OpenClaim := { program := "yteodlmgmmpkpoaa", sum := "e86646df669134fa124294fc3e2799a07747a585a9be06975b092fa5d6c78219", func := "swashplate/swashplatelaw07.SlingSwings", spec := "slingSwings", unfollowed := true, recurses := true, apart := false }
def SlingSwingsSaid : Prop := slingSwingsRow.holds Try.pinned (OpenSpec.ofChange slingSwingsSpec)

/-- ITS FALSE NEIGHBOUR: 'it returns false'. Refute it at one input. -/
def slingSwingsWrong : ChangeSpec := { name := "slingSwings", fn := fun _ => fun
  | [d1, d2] => { results := [.lit (.bool false)], args := [d1, d2] }
  | _ => none }
def SlingSwingsWrongFalsely : Prop := slingSwingsRow.holds Try.pinned (OpenSpec.ofChange slingSwingsWrong)

/-- 'swashplatelaw01.SpansCovers': WHATEVER THE INPUT: true; the input reads as it did. -/
def spansCoversSpec : ChangeSpec := { name := "spansCovers", fn := fun _ => fun
  | [d1, d2] => { results := [.lit (.bool true)], args := [d1, d2] }
  | _ => none }
def spansCoversRow : OpenClaim := { program := "yteodlmgmmpkpoaa", sum := "e86646df669134fa124294fc3e2799a07747a585a9be06975b092fa5d6c78219", func := "swashplate/swashplatelaw01.SpansCovers", spec := "spansCovers", unfollowed := true, recurses := true, apart := false }
def SpansCoversSaid : Prop := spansCoversRow.holds Try.pinned (OpenSpec.ofChange spansCoversSpec)

/-- ITS FALSE NEIGHBOUR: 'it returns false'. Refute it at one input. -/
def spansCoversWrong : ChangeSpec := { name := "spansCovers", fn := fun _ => fun
  | [d1, d2] => { results := [.lit (.bool false)], args := [d1, d2] }
  | _ => none }
def SpansCoversWrongFalsely : Prop := spansCoversRow.holds Try.pinned (OpenSpec.ofChange spansCoversWrong)

/-- 'swashplatelaw01.SpansCovered': WHATEVER THE INPUT: true; the input reads as it did. -/
def spansCoveredSpec : ChangeSpec := { name := "spansCovered", fn := fun _ => fun
  | [d1, d2, d3] => { results := [.lit (.bool true)], args := [d1, d2, d3] }
  | _ => none }
def spansCoveredRow : OpenClaim := { program := "yteodlmgmmpkpoaa", sum := "e86646df669134fa124294fc3e2799a07747a585a9be06975b092fa5d6c78219", func := "swashplate/swashplatelaw01.SpansCovered", spec := "spansCovered", unfollowed := true, recurses := true, apart := false }
def SpansCoveredSaid : Prop := spansCoveredRow.holds Try.pinned (OpenSpec.ofChange spansCoveredSpec)

/-- ITS FALSE NEIGHBOUR: 'it returns false'. Refute it at one input. -/
def spansCoveredWrong : ChangeSpec := { name := "spansCovered", fn := fun _ => fun
  | [d1, d2, d3] => { results := [.lit (.bool false)], args := [d1, d2, d3] }
  | _ => none }
def SpansCoveredWrongFalsely : Prop := spansCoveredRow.holds Try.pinned (OpenSpec.ofChange spansCoveredWrong)

/-- 'swashplatelaw07.SlingReaches': WHATEVER THE INPUT: true; the input reads as it did. -/
def slingReachesSpec : ChangeSpec := { name := "slingReaches", fn := fun _ => fun
  | [d1, d2] => { results := [.lit (.bool true)], args := [d1, d2] }
  | _ => none }
def slingReachesRow : OpenClaim := { program := "yteodlmgmmpkpoaa", sum := "e86646df669134fa124294fc3e2799a07747a585a9be06975b092fa5d6c78219", func := "swashplate/swashplatelaw07.SlingReaches", spec := "slingReaches", unfollowed := true, recurses := true, apart := false }
def SlingReachesSaid : Prop := slingReachesRow.holds Try.pinned (OpenSpec.ofChange slingReachesSpec)

/-- ITS FALSE NEIGHBOUR: 'it returns false'. Refute it at one input. -/
def slingReachesWrong : ChangeSpec := { name := "slingReaches", fn := fun _ => fun
  | [d1, d2] => { results := [.lit (.bool false)], args := [d1, d2] }
  | _ => none }
def SlingReachesWrongFalsely : Prop := slingReachesRow.holds Try.pinned (OpenSpec.ofChange slingReachesWrong)

/- THE SECOND FORM. 'bulk': how many values and letters a reading holds, each counted each time it is reached (what is shared counts as often as it is met; a slice's spare places count too). A statement '..UptoSaid' is the law's where the arguments, and the package variables that the reading takes, are together of bulk at most 1048576: NARROWER than '..Said'. Prove '..Said' where nothing that the law and all that it calls make is longer than what came in: it says more and counts as full. Else prove '..UptoSaid'. A law counts once. -/
mutual
def uptoBulk {H : Type} : DataW H → Nat
  | .lit (.string bytes) => bytes.length + 1
  | .lit _ => 1
  | .nil => 1
  | .ptr d => uptoBulk d + 1
  | .slice elems spare => uptoBulkAll elems + uptoBulkAll spare + 1
  | .agg parts => uptoBulkAll parts + 1
  | .iface _ d => uptoBulk d + 1
  | .map entries => uptoBulkEntries entries + 1
  | .held _ => 1
def uptoBulkAll {H : Type} : List (DataW H) → Nat
  | [] => 0
  | d :: r => uptoBulk d + uptoBulkAll r
def uptoBulkEntries {H : Type} : List (Lit × DataW H) → Nat
  | [] => 0
  | x :: r => uptoBulkEntry x + uptoBulkEntries r
def uptoBulkEntry {H : Type} : Lit × DataW H → Nat
  | (.string bytes, d) => bytes.length + uptoBulk d + 1
  | (_, d) => uptoBulk d + 1
 end
def uptoSmall : (H : Type) → List (DataW H) → Bool := fun _ ds => decide (uptoBulkAll ds ≤ 1048576)
def OpenSpec.upto (s : _root_.Go.ChangeSpec) : _root_.Go.OpenSpec := { _root_.Go.OpenSpec.ofChange s with cond := some uptoSmall }

/-- 'swashplatelaw01.SpansGreatest', WHERE WHAT IT READS IS OF BULK AT MOST 1048576: true; the input reads as it did. -/
def spansGreatestUptoRow : OpenClaim := { program := "yteodlmgmmpkpoaa", sum := "e86646df669134fa124294fc3e2799a07747a585a9be06975b092fa5d6c78219", func := "swashplate/swashplatelaw01.SpansGreatest", spec := "spansGreatest", unfollowed := true, recurses := true, apart := false, narrowed := true }
def SpansGreatestUptoSaid : Prop := spansGreatestUptoRow.holds Try.pinned (OpenSpec.upto spansGreatestSpec)

/-- 'swashplatelaw01.SpansChecks', WHERE WHAT IT READS IS OF BULK AT MOST 1048576: true; the input reads as it did. -/
def spansChecksUptoRow : OpenClaim := { program := "yteodlmgmmpkpoaa", sum := "e86646df669134fa124294fc3e2799a07747a585a9be06975b092fa5d6c78219", func := "swashplate/swashplatelaw01.SpansChecks", spec := "spansChecks", unfollowed := true, recurses := true, apart := false, narrowed := true }
def SpansChecksUptoSaid : Prop := spansChecksUptoRow.holds Try.pinned (OpenSpec.upto spansChecksSpec)

/-- 'swashplatelaw01.SpansBounds', WHERE WHAT IT READS IS OF BULK AT MOST 1048576: true; the input reads as it did. -/
def spansBoundsUptoRow : OpenClaim := { program := "yteodlmgmmpkpoaa", sum := "e86646df669134fa124294fc3e2799a07747a585a9be06975b092fa5d6c78219", func := "swashplate/swashplatelaw01.SpansBounds", spec := "spansBounds", unfollowed := true, recurses := true, apart := false, narrowed := true }
def SpansBoundsUptoSaid : Prop := spansBoundsUptoRow.holds Try.pinned (OpenSpec.upto spansBoundsSpec)

/-- 'swashplatelaw01.SpansValues', WHERE WHAT IT READS IS OF BULK AT MOST 1048576: true; the input reads as it did. -/
def spansValuesUptoRow : OpenClaim := { program := "yteodlmgmmpkpoaa", sum := "e86646df669134fa124294fc3e2799a07747a585a9be06975b092fa5d6c78219", func := "swashplate/swashplatelaw01.SpansValues", spec := "spansValues", unfollowed := true, recurses := true, apart := false, narrowed := true }
def SpansValuesUptoSaid : Prop := spansValuesUptoRow.holds Try.pinned (OpenSpec.upto spansValuesSpec)

/-- 'swashplatetop.TopSlung', WHERE WHAT IT READS IS OF BULK AT MOST 1048576: true; the input reads as it did. -/
def topSlungUptoRow : OpenClaim := { program := "yteodlmgmmpkpoaa", sum := "e86646df669134fa124294fc3e2799a07747a585a9be06975b092fa5d6c78219", func := "swashplate/swashplatetop.TopSlung", spec := "topSlung", unfollowed := true, recurses := true, apart := false, narrowed := true }
def TopSlungUptoSaid : Prop := topSlungUptoRow.holds Try.pinned (OpenSpec.upto topSlungSpec)

/-- 'swashplatelaw01.SpansBelow', WHERE WHAT IT READS IS OF BULK AT MOST 1048576: true; the input reads as it did. -/
def spansBelowUptoRow : OpenClaim := { program := "yteodlmgmmpkpoaa", sum := "e86646df669134fa124294fc3e2799a07747a585a9be06975b092fa5d6c78219", func := "swashplate/swashplatelaw01.SpansBelow", spec := "spansBelow", unfollowed := true, recurses := true, apart := false, narrowed := true }
def SpansBelowUptoSaid : Prop := spansBelowUptoRow.holds Try.pinned (OpenSpec.upto spansBelowSpec)

/-- 'swashplatelaw01.SpansMeets', WHERE WHAT IT READS IS OF BULK AT MOST 1048576: true; the input reads as it did. -/
def spansMeetsUptoRow : OpenClaim := { program := "yteodlmgmmpkpoaa", sum := "e86646df669134fa124294fc3e2799a07747a585a9be06975b092fa5d6c78219", func := "swashplate/swashplatelaw01.SpansMeets", spec := "spansMeets", unfollowed := true, recurses := true, apart := false, narrowed := true }
def SpansMeetsUptoSaid : Prop := spansMeetsUptoRow.holds Try.pinned (OpenSpec.upto spansMeetsSpec)

/-- 'swashplatelaw01.SpansInside', WHERE WHAT IT READS IS OF BULK AT MOST 1048576: true; the input reads as it did. -/
def spansInsideUptoRow : OpenClaim := { program := "yteodlmgmmpkpoaa", sum := "e86646df669134fa124294fc3e2799a07747a585a9be06975b092fa5d6c78219", func := "swashplate/swashplatelaw01.SpansInside", spec := "spansInside", unfollowed := true, recurses := true, apart := false, narrowed := true }
def SpansInsideUptoSaid : Prop := spansInsideUptoRow.holds Try.pinned (OpenSpec.upto spansInsideSpec)

/-- 'swashplatelaw01.SpansComputes', WHERE WHAT IT READS IS OF BULK AT MOST 1048576: true; the input reads as it did. -/
def spansComputesUptoRow : OpenClaim := { program := "yteodlmgmmpkpoaa", sum := "e86646df669134fa124294fc3e2799a07747a585a9be06975b092fa5d6c78219", func := "swashplate/swashplatelaw01.SpansComputes", spec := "spansComputes", unfollowed := true, recurses := true, apart := false, narrowed := true }
def SpansComputesUptoSaid : Prop := spansComputesUptoRow.holds Try.pinned (OpenSpec.upto spansComputesSpec)

/-- 'swashplatelaw01.SpansEach', WHERE WHAT IT READS IS OF BULK AT MOST 1048576: true; the input reads as it did. -/
def spansEachUptoRow : OpenClaim := { program := "yteodlmgmmpkpoaa", sum := "e86646df669134fa124294fc3e2799a07747a585a9be06975b092fa5d6c78219", func := "swashplate/swashplatelaw01.SpansEach", spec := "spansEach", unfollowed := true, recurses := true, apart := false, narrowed := true }
def SpansEachUptoSaid : Prop := spansEachUptoRow.holds Try.pinned (OpenSpec.upto spansEachSpec)

/-- 'swashplatelaw01.SpansMinus', WHERE WHAT IT READS IS OF BULK AT MOST 1048576: true; the input reads as it did. -/
def spansMinusUptoRow : OpenClaim := { program := "yteodlmgmmpkpoaa", sum := "e86646df669134fa124294fc3e2799a07747a585a9be06975b092fa5d6c78219", func := "swashplate/swashplatelaw01.SpansMinus", spec := "spansMinus", unfollowed := true, recurses := true, apart := false, narrowed := true }
def SpansMinusUptoSaid : Prop := spansMinusUptoRow.holds Try.pinned (OpenSpec.upto spansMinusSpec)

/-- 'swashplatelaw01.SpansLost', WHERE WHAT IT READS IS OF BULK AT MOST 1048576: true; the input reads as it did. -/
def spansLostUptoRow : OpenClaim := { program := "yteodlmgmmpkpoaa", sum := "e86646df669134fa124294fc3e2799a07747a585a9be06975b092fa5d6c78219", func := "swashplate/swashplatelaw01.SpansLost", spec := "spansLost", unfollowed := true, recurses := true, apart := false, narrowed := true }
def SpansLostUptoSaid : Prop := spansLostUptoRow.holds Try.pinned (OpenSpec.upto spansLostSpec)

/-- 'swashplatelaw01.SpansCounts', WHERE WHAT IT READS IS OF BULK AT MOST 1048576: true; the input reads as it did. -/
def spansCountsUptoRow : OpenClaim := { program := "yteodlmgmmpkpoaa", sum := "e86646df669134fa124294fc3e2799a07747a585a9be06975b092fa5d6c78219", func := "swashplate/swashplatelaw01.SpansCounts", spec := "spansCounts", unfollowed := true, recurses := true, apart := false, narrowed := true }
def SpansCountsUptoSaid : Prop := spansCountsUptoRow.holds Try.pinned (OpenSpec.upto spansCountsSpec)

/-- 'swashplatelaw07.SlingSwings', WHERE WHAT IT READS IS OF BULK AT MOST 1048576: true; the input reads as it did. -/
def slingSwingsUptoRow : OpenClaim := { program := "yteodlmgmmpkpoaa", sum := "e86646df669134fa124294fc3e2799a07747a585a9be06975b092fa5d6c78219", func := "swashplate/swashplatelaw07.SlingSwings", spec := "slingSwings", unfollowed := true, recurses := true, apart := false, narrowed := true }
def SlingSwingsUptoSaid : Prop := slingSwingsUptoRow.holds Try.pinned (OpenSpec.upto slingSwingsSpec)

/-- 'swashplatelaw01.SpansCovers', WHERE WHAT IT READS IS OF BULK AT MOST 1048576: true; the input reads as it did. -/
def spansCoversUptoRow : OpenClaim := { program := "yteodlmgmmpkpoaa", sum := "e86646df669134fa124294fc3e2799a07747a585a9be06975b092fa5d6c78219", func := "swashplate/swashplatelaw01.SpansCovers", spec := "spansCovers", unfollowed := true, recurses := true, apart := false, narrowed := true }
def SpansCoversUptoSaid : Prop := spansCoversUptoRow.holds Try.pinned (OpenSpec.upto spansCoversSpec)

/-- 'swashplatelaw01.SpansCovered', WHERE WHAT IT READS IS OF BULK AT MOST 1048576: true; the input reads as it did. -/
def spansCoveredUptoRow : OpenClaim := { program := "yteodlmgmmpkpoaa", sum := "e86646df669134fa124294fc3e2799a07747a585a9be06975b092fa5d6c78219", func := "swashplate/swashplatelaw01.SpansCovered", spec := "spansCovered", unfollowed := true, recurses := true, apart := false, narrowed := true }
def SpansCoveredUptoSaid : Prop := spansCoveredUptoRow.holds Try.pinned (OpenSpec.upto spansCoveredSpec)

/-- 'swashplatelaw07.SlingReaches', WHERE WHAT IT READS IS OF BULK AT MOST 1048576: true; the input reads as it did. -/
def slingReachesUptoRow : OpenClaim := { program := "yteodlmgmmpkpoaa", sum := "e86646df669134fa124294fc3e2799a07747a585a9be06975b092fa5d6c78219", func := "swashplate/swashplatelaw07.SlingReaches", spec := "slingReaches", unfollowed := true, recurses := true, apart := false, narrowed := true }
def SlingReachesUptoSaid : Prop := slingReachesUptoRow.holds Try.pinned (OpenSpec.upto slingReachesSpec)

end Rows
end Go.Proofs.Yteodlmgmmpkpoaa
