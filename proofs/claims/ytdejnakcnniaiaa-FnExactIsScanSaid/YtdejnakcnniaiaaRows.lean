/-
  No cell of these rows narrows 'for every input' (looked for: loops, veiled, ifaces, maps, wideKeys, modest, calm, conditions, laid).
  DERIVED. THE GIVEN ROWS OF THIS SEAT. 6 by the template 'for every input the law returns true; each argument reads behind the call as it read before'; 0 by the template 'total and deterministic' (their statements: YtdejnakcnniaiaaTotals.lean).
  GIVEN WITH THE SEED: the statements are not yours to turn. If you find one false, say at which input.
  Laid BY PROGRAM, IN A SANDBOX (cutbox-rows.mjs): the forced cells as the released guide's own fill.sh prints them over the translation 52658ae9877b9842… (all of the seat's roots in one cut). By AI agents, Wed Nov 11 2026. No macro, syntax, notation, axiom, sorry.
-/
import Derived.Test.YtdejnakcnniaiaaChecked
import GoSem.Claim
import GoSem.ClaimJoined
import GoSem.ClaimMapViews
import Derived.JoinedTies
import Derived.KernelRfl
namespace Go.Proofs.Ytdejnakcnniaiaa
/- THE CELL 'sum', in the pinned program and in every row, IS THE sha256 OF THE DUMP (.gsa) THAT YtdejnakcnniaiaaProg.lean LOADS. Nothing in Lean hashes anything: it is a label: what it is worth is what the hold of that sum in a sandbox is worth. -/
noncomputable def Try.pinned : Pinned := { name := "ytdejnakcnniaiaa", sum := "52658ae9877b9842c5cca491b638a110fe949ef59f904ece7d6d3a7bc1383a66", checked := Try.checked }
namespace Rows
def none {H : Type} : Left H := { results := [], args := [] }

/-- 'laws.FnExactIsIssue': WHATEVER THE INPUT: true; the input reads as it did. -/
def fnExactIsIssueSpec : ChangeSpec := { name := "fnExactIsIssue", fn := fun _ => fun
  | [d] => { results := [.lit (.bool true)], args := [d] }
  | _ => none }
def fnExactIsIssueRow : OpenClaim := { program := "ytdejnakcnniaiaa", sum := "52658ae9877b9842c5cca491b638a110fe949ef59f904ece7d6d3a7bc1383a66", func := "loop.example/g01060/laws.FnExactIsIssue", spec := "fnExactIsIssue", apart := false }
def FnExactIsIssueSaid : Prop := fnExactIsIssueRow.holds Try.pinned (OpenSpec.ofChange fnExactIsIssueSpec)

/-- ITS FALSE NEIGHBOUR: 'it returns false'. Refute it at one input. -/
def fnExactIsIssueWrong : ChangeSpec := { name := "fnExactIsIssue", fn := fun _ => fun
  | [d] => { results := [.lit (.bool false)], args := [d] }
  | _ => none }
def FnExactIsIssueWrongFalsely : Prop := fnExactIsIssueRow.holds Try.pinned (OpenSpec.ofChange fnExactIsIssueWrong)

/-- 'laws.FnExactAreErrata': WHATEVER THE INPUT: true; the input reads as it did. -/
def fnExactAreErrataSpec : ChangeSpec := { name := "fnExactAreErrata", fn := fun _ => fun
  | [d] => { results := [.lit (.bool true)], args := [d] }
  | _ => none }
def fnExactAreErrataRow : OpenClaim := { program := "ytdejnakcnniaiaa", sum := "52658ae9877b9842c5cca491b638a110fe949ef59f904ece7d6d3a7bc1383a66", func := "loop.example/g01060/laws.FnExactAreErrata", spec := "fnExactAreErrata", apart := false }
def FnExactAreErrataSaid : Prop := fnExactAreErrataRow.holds Try.pinned (OpenSpec.ofChange fnExactAreErrataSpec)

/-- ITS FALSE NEIGHBOUR: 'it returns false'. Refute it at one input. -/
def fnExactAreErrataWrong : ChangeSpec := { name := "fnExactAreErrata", fn := fun _ => fun
  | [d] => { results := [.lit (.bool false)], args := [d] }
  | _ => none }
def FnExactAreErrataWrongFalsely : Prop := fnExactAreErrataRow.holds Try.pinned (OpenSpec.ofChange fnExactAreErrataWrong)

/-- 'laws.FnExactAreIssues': WHATEVER THE INPUT: true; the input reads as it did. -/
def fnExactAreIssuesSpec : ChangeSpec := { name := "fnExactAreIssues", fn := fun _ => fun
  | [d] => { results := [.lit (.bool true)], args := [d] }
  | _ => none }
def fnExactAreIssuesRow : OpenClaim := { program := "ytdejnakcnniaiaa", sum := "52658ae9877b9842c5cca491b638a110fe949ef59f904ece7d6d3a7bc1383a66", func := "loop.example/g01060/laws.FnExactAreIssues", spec := "fnExactAreIssues", apart := false }
def FnExactAreIssuesSaid : Prop := fnExactAreIssuesRow.holds Try.pinned (OpenSpec.ofChange fnExactAreIssuesSpec)

/-- ITS FALSE NEIGHBOUR: 'it returns false'. Refute it at one input. -/
def fnExactAreIssuesWrong : ChangeSpec := { name := "fnExactAreIssues", fn := fun _ => fun
  | [d] => { results := [.lit (.bool false)], args := [d] }
  | _ => none }
def FnExactAreIssuesWrongFalsely : Prop := fnExactAreIssuesRow.holds Try.pinned (OpenSpec.ofChange fnExactAreIssuesWrong)

/-- 'laws.FnExactIsOpenSquare': WHATEVER THE INPUT: true; the input reads as it did. -/
def fnExactIsOpenSquareSpec : ChangeSpec := { name := "fnExactIsOpenSquare", fn := fun _ => fun
  | [d1, d2, d3] => { results := [.lit (.bool true)], args := [d1, d2, d3] }
  | _ => none }
def fnExactIsOpenSquareRow : OpenClaim := { program := "ytdejnakcnniaiaa", sum := "52658ae9877b9842c5cca491b638a110fe949ef59f904ece7d6d3a7bc1383a66", func := "loop.example/g01060/laws.FnExactIsOpenSquare", spec := "fnExactIsOpenSquare", apart := false }
def FnExactIsOpenSquareSaid : Prop := fnExactIsOpenSquareRow.holds Try.pinned (OpenSpec.ofChange fnExactIsOpenSquareSpec)

/-- ITS FALSE NEIGHBOUR: 'it returns false'. Refute it at one input. -/
def fnExactIsOpenSquareWrong : ChangeSpec := { name := "fnExactIsOpenSquare", fn := fun _ => fun
  | [d1, d2, d3] => { results := [.lit (.bool false)], args := [d1, d2, d3] }
  | _ => none }
def FnExactIsOpenSquareWrongFalsely : Prop := fnExactIsOpenSquareRow.holds Try.pinned (OpenSpec.ofChange fnExactIsOpenSquareWrong)

/-- 'laws.FnExactIsScan': WHATEVER THE INPUT: true; the input reads as it did. -/
def fnExactIsScanSpec : ChangeSpec := { name := "fnExactIsScan", fn := fun _ => fun
  | [d] => { results := [.lit (.bool true)], args := [d] }
  | _ => none }
def fnExactIsScanRow : OpenClaim := { program := "ytdejnakcnniaiaa", sum := "52658ae9877b9842c5cca491b638a110fe949ef59f904ece7d6d3a7bc1383a66", func := "loop.example/g01060/laws.FnExactIsScan", spec := "fnExactIsScan", apart := false }
def FnExactIsScanSaid : Prop := fnExactIsScanRow.holds Try.pinned (OpenSpec.ofChange fnExactIsScanSpec)

/-- ITS FALSE NEIGHBOUR: 'it returns false'. Refute it at one input. -/
def fnExactIsScanWrong : ChangeSpec := { name := "fnExactIsScan", fn := fun _ => fun
  | [d] => { results := [.lit (.bool false)], args := [d] }
  | _ => none }
def FnExactIsScanWrongFalsely : Prop := fnExactIsScanRow.holds Try.pinned (OpenSpec.ofChange fnExactIsScanWrong)

/-- 'laws.FnExactZonesAt': WHATEVER THE INPUT: true; the input reads as it did. -/
def fnExactZonesAtSpec : ChangeSpec := { name := "fnExactZonesAt", fn := fun _ => fun
  | [d1, d2, d3] => { results := [.lit (.bool true)], args := [d1, d2, d3] }
  | _ => none }
def fnExactZonesAtRow : OpenClaim := { program := "ytdejnakcnniaiaa", sum := "52658ae9877b9842c5cca491b638a110fe949ef59f904ece7d6d3a7bc1383a66", func := "loop.example/g01060/laws.FnExactZonesAt", spec := "fnExactZonesAt", apart := false }
def FnExactZonesAtSaid : Prop := fnExactZonesAtRow.holds Try.pinned (OpenSpec.ofChange fnExactZonesAtSpec)

/-- ITS FALSE NEIGHBOUR: 'it returns false'. Refute it at one input. -/
def fnExactZonesAtWrong : ChangeSpec := { name := "fnExactZonesAt", fn := fun _ => fun
  | [d1, d2, d3] => { results := [.lit (.bool false)], args := [d1, d2, d3] }
  | _ => none }
def FnExactZonesAtWrongFalsely : Prop := fnExactZonesAtRow.holds Try.pinned (OpenSpec.ofChange fnExactZonesAtWrong)

/- THE SECOND FORM. 'bulk': how many values and letters a reading holds, each counted each time it is reached (what is shared counts as often as it is met; a slice's spare places count too). A statement '..UptoSaid' is the law's where the arguments, and the package variables that the reading takes, are together of bulk at most 1048576: NARROWER than '..Said'. Prove '..Said' where nothing that the law and all that it calls make is longer than what came in: it says more and counts as full. Else prove '..UptoSaid'. A law counts once. -/
mutual
def uptoBulk {H : Type} : DataW H → Nat
  | .lit (.string bytes) => bytes.length + 1
  | .lit _ => 1
  | .nil => 1
  | .ptr d => uptoBulk d + 1
  | .slice elems spare => uptoBulkAll elems + uptoBulkAll spare + 1
  | .agg parts => uptoBulkAll parts + 1
  | .iface _ d => uptoBulk d + 1
  | .map entries => uptoBulkEntries entries + 1
  | .held _ => 1
def uptoBulkAll {H : Type} : List (DataW H) → Nat
  | [] => 0
  | d :: r => uptoBulk d + uptoBulkAll r
def uptoBulkEntries {H : Type} : List (Lit × DataW H) → Nat
  | [] => 0
  | x :: r => uptoBulkEntry x + uptoBulkEntries r
def uptoBulkEntry {H : Type} : Lit × DataW H → Nat
  | (.string bytes, d) => bytes.length + uptoBulk d + 1
  | (_, d) => uptoBulk d + 1
 end
def uptoSmall : (H : Type) → List (DataW H) → Bool := fun _ ds => decide (uptoBulkAll ds ≤ 1048576)
def OpenSpec.upto (s : _root_.Go.ChangeSpec) : _root_.Go.OpenSpec := { _root_.Go.OpenSpec.ofChange s with cond := some uptoSmall }

/-- 'laws.FnExactIsIssue', WHERE WHAT IT READS IS OF BULK AT MOST 1048576: true; the input reads as it did. -/
def fnExactIsIssueUptoRow : OpenClaim := { program := "ytdejnakcnniaiaa", sum := "52658ae9877b9842c5cca491b638a110fe949ef59f904ece7d6d3a7bc1383a66", func := "loop.example/g01060/laws.FnExactIsIssue", spec := "fnExactIsIssue", apart := false, narrowed := true }
def FnExactIsIssueUptoSaid : Prop := fnExactIsIssueUptoRow.holds Try.pinned (OpenSpec.upto fnExactIsIssueSpec)

/-- 'laws.FnExactAreErrata', WHERE WHAT IT READS IS OF BULK AT MOST 1048576: true; the input reads as it did. -/
def fnExactAreErrataUptoRow : OpenClaim := { program := "ytdejnakcnniaiaa", sum := "52658ae9877b9842c5cca491b638a110fe949ef59f904ece7d6d3a7bc1383a66", func := "loop.example/g01060/laws.FnExactAreErrata", spec := "fnExactAreErrata", apart := false, narrowed := true }
def FnExactAreErrataUptoSaid : Prop := fnExactAreErrataUptoRow.holds Try.pinned (OpenSpec.upto fnExactAreErrataSpec)

/-- 'laws.FnExactAreIssues', WHERE WHAT IT READS IS OF BULK AT MOST 1048576: true; the input reads as it did. -/
def fnExactAreIssuesUptoRow : OpenClaim := { program := "ytdejnakcnniaiaa", sum := "52658ae9877b9842c5cca491b638a110fe949ef59f904ece7d6d3a7bc1383a66", func := "loop.example/g01060/laws.FnExactAreIssues", spec := "fnExactAreIssues", apart := false, narrowed := true }
def FnExactAreIssuesUptoSaid : Prop := fnExactAreIssuesUptoRow.holds Try.pinned (OpenSpec.upto fnExactAreIssuesSpec)

/-- 'laws.FnExactIsOpenSquare', WHERE WHAT IT READS IS OF BULK AT MOST 1048576: true; the input reads as it did. -/
def fnExactIsOpenSquareUptoRow : OpenClaim := { program := "ytdejnakcnniaiaa", sum := "52658ae9877b9842c5cca491b638a110fe949ef59f904ece7d6d3a7bc1383a66", func := "loop.example/g01060/laws.FnExactIsOpenSquare", spec := "fnExactIsOpenSquare", apart := false, narrowed := true }
def FnExactIsOpenSquareUptoSaid : Prop := fnExactIsOpenSquareUptoRow.holds Try.pinned (OpenSpec.upto fnExactIsOpenSquareSpec)

/-- 'laws.FnExactIsScan', WHERE WHAT IT READS IS OF BULK AT MOST 1048576: true; the input reads as it did. -/
def fnExactIsScanUptoRow : OpenClaim := { program := "ytdejnakcnniaiaa", sum := "52658ae9877b9842c5cca491b638a110fe949ef59f904ece7d6d3a7bc1383a66", func := "loop.example/g01060/laws.FnExactIsScan", spec := "fnExactIsScan", apart := false, narrowed := true }
def FnExactIsScanUptoSaid : Prop := fnExactIsScanUptoRow.holds Try.pinned (OpenSpec.upto fnExactIsScanSpec)

/-- 'laws.FnExactZonesAt', WHERE WHAT IT READS IS OF BULK AT MOST 1048576: true; the input reads as it did. -/
def fnExactZonesAtUptoRow : OpenClaim := { program := "ytdejnakcnniaiaa", sum := "52658ae9877b9842c5cca491b638a110fe949ef59f904ece7d6d3a7bc1383a66", func := "loop.example/g01060/laws.FnExactZonesAt", spec := "fnExactZonesAt", apart := false, narrowed := true }
def FnExactZonesAtUptoSaid : Prop := fnExactZonesAtUptoRow.holds Try.pinned (OpenSpec.upto fnExactZonesAtSpec)

end Rows
end Go.Proofs.Ytdejnakcnniaiaa
