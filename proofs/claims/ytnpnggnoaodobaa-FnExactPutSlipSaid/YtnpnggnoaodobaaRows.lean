/-
  No cell of these rows narrows 'for every input' (looked for: loops, veiled, ifaces, maps, wideKeys, modest, calm, conditions, laid).
  DERIVED. THE GIVEN ROWS OF THIS SEAT. 9 by the template 'for every input the law returns true; each argument reads behind the call as it read before'; 0 by the template 'total and deterministic' (their statements: YtnpnggnoaodobaaTotals.lean).
  GIVEN WITH THE SEED: the statements are not yours to turn. If you find one false, say at which input.
  Laid BY PROGRAM, IN A SANDBOX (cutbox-rows.mjs): the forced cells as the released guide's own fill.sh prints them over the translation e044fd2ef28d28ec… (all of the seat's roots in one cut). By AI agents, Wed Nov 11 2026. No macro, syntax, notation, axiom, sorry.
-/
import Derived.Test.YtnpnggnoaodobaaChecked
import GoSem.Claim
import GoSem.ClaimJoined
import GoSem.ClaimMapViews
import Derived.JoinedTies
import Derived.KernelRfl
namespace Go.Proofs.Ytnpnggnoaodobaa
/- THE CELL 'sum', in the pinned program and in every row, IS THE sha256 OF THE DUMP (.gsa) THAT YtnpnggnoaodobaaProg.lean LOADS. Nothing in Lean hashes anything: it is a label: what it is worth is what the hold of that sum in a sandbox is worth. -/
noncomputable def Try.pinned : Pinned := { name := "ytnpnggnoaodobaa", sum := "e044fd2ef28d28ecf396502f67713c9bf7c7a33f2e6ef68711e04678e4cbd8cb", checked := Try.checked }
namespace Rows
def none {H : Type} : Left H := { results := [], args := [] }

/-- 'laws.FnExactNewErratum': WHATEVER THE INPUT: true; the input reads as it did. -/
def fnExactNewErratumSpec : ChangeSpec := { name := "fnExactNewErratum", fn := fun _ => fun
  | [d1, d2, d3, d4, d5] => { results := [.lit (.bool true)], args := [d1, d2, d3, d4, d5] }
  | _ => none }
def fnExactNewErratumRow : OpenClaim := { program := "ytnpnggnoaodobaa", sum := "e044fd2ef28d28ecf396502f67713c9bf7c7a33f2e6ef68711e04678e4cbd8cb", func := "loop.example/g01060/laws.FnExactNewErratum", spec := "fnExactNewErratum", apart := false }
def FnExactNewErratumSaid : Prop := fnExactNewErratumRow.holds Try.pinned (OpenSpec.ofChange fnExactNewErratumSpec)

/-- ITS FALSE NEIGHBOUR: 'it returns false'. Refute it at one input. -/
def fnExactNewErratumWrong : ChangeSpec := { name := "fnExactNewErratum", fn := fun _ => fun
  | [d1, d2, d3, d4, d5] => { results := [.lit (.bool false)], args := [d1, d2, d3, d4, d5] }
  | _ => none }
def FnExactNewErratumWrongFalsely : Prop := fnExactNewErratumRow.holds Try.pinned (OpenSpec.ofChange fnExactNewErratumWrong)

/-- 'laws.FnExactAreHeld': WHATEVER THE INPUT: true; the input reads as it did. -/
def fnExactAreHeldSpec : ChangeSpec := { name := "fnExactAreHeld", fn := fun _ => fun
  | [d1, d2] => { results := [.lit (.bool true)], args := [d1, d2] }
  | _ => none }
def fnExactAreHeldRow : OpenClaim := { program := "ytnpnggnoaodobaa", sum := "e044fd2ef28d28ecf396502f67713c9bf7c7a33f2e6ef68711e04678e4cbd8cb", func := "loop.example/g01060/laws.FnExactAreHeld", spec := "fnExactAreHeld", unfollowed := true, recurses := true, apart := false }
def FnExactAreHeldSaid : Prop := fnExactAreHeldRow.holds Try.pinned (OpenSpec.ofChange fnExactAreHeldSpec)

/-- ITS FALSE NEIGHBOUR: 'it returns false'. Refute it at one input. -/
def fnExactAreHeldWrong : ChangeSpec := { name := "fnExactAreHeld", fn := fun _ => fun
  | [d1, d2] => { results := [.lit (.bool false)], args := [d1, d2] }
  | _ => none }
def FnExactAreHeldWrongFalsely : Prop := fnExactAreHeldRow.holds Try.pinned (OpenSpec.ofChange fnExactAreHeldWrong)

/-- 'laws.FnExactWorstCopy': WHATEVER THE INPUT: true; the input reads as it did. -/
def fnExactWorstCopySpec : ChangeSpec := { name := "fnExactWorstCopy", fn := fun _ => fun
  | [d1, d2, d3] => { results := [.lit (.bool true)], args := [d1, d2, d3] }
  | _ => none }
def fnExactWorstCopyRow : OpenClaim := { program := "ytnpnggnoaodobaa", sum := "e044fd2ef28d28ecf396502f67713c9bf7c7a33f2e6ef68711e04678e4cbd8cb", func := "loop.example/g01060/laws.FnExactWorstCopy", spec := "fnExactWorstCopy", unfollowed := true, recurses := true, apart := false }
def FnExactWorstCopySaid : Prop := fnExactWorstCopyRow.holds Try.pinned (OpenSpec.ofChange fnExactWorstCopySpec)

/-- ITS FALSE NEIGHBOUR: 'it returns false'. Refute it at one input. -/
def fnExactWorstCopyWrong : ChangeSpec := { name := "fnExactWorstCopy", fn := fun _ => fun
  | [d1, d2, d3] => { results := [.lit (.bool false)], args := [d1, d2, d3] }
  | _ => none }
def FnExactWorstCopyWrongFalsely : Prop := fnExactWorstCopyRow.holds Try.pinned (OpenSpec.ofChange fnExactWorstCopyWrong)

/-- 'laws.FnExactCopiesFor': WHATEVER THE INPUT: true; the input reads as it did. -/
def fnExactCopiesForSpec : ChangeSpec := { name := "fnExactCopiesFor", fn := fun _ => fun
  | [d1, d2, d3] => { results := [.lit (.bool true)], args := [d1, d2, d3] }
  | _ => none }
def fnExactCopiesForRow : OpenClaim := { program := "ytnpnggnoaodobaa", sum := "e044fd2ef28d28ecf396502f67713c9bf7c7a33f2e6ef68711e04678e4cbd8cb", func := "loop.example/g01060/laws.FnExactCopiesFor", spec := "fnExactCopiesFor", unfollowed := true, recurses := true, apart := false }
def FnExactCopiesForSaid : Prop := fnExactCopiesForRow.holds Try.pinned (OpenSpec.ofChange fnExactCopiesForSpec)

/-- ITS FALSE NEIGHBOUR: 'it returns false'. Refute it at one input. -/
def fnExactCopiesForWrong : ChangeSpec := { name := "fnExactCopiesFor", fn := fun _ => fun
  | [d1, d2, d3] => { results := [.lit (.bool false)], args := [d1, d2, d3] }
  | _ => none }
def FnExactCopiesForWrongFalsely : Prop := fnExactCopiesForRow.holds Try.pinned (OpenSpec.ofChange fnExactCopiesForWrong)

/-- 'laws.FnExactMissingSlips': WHATEVER THE INPUT: true; the input reads as it did. -/
def fnExactMissingSlipsSpec : ChangeSpec := { name := "fnExactMissingSlips", fn := fun _ => fun
  | [d1, d2, d3, d4] => { results := [.lit (.bool true)], args := [d1, d2, d3, d4] }
  | _ => none }
def fnExactMissingSlipsRow : OpenClaim := { program := "ytnpnggnoaodobaa", sum := "e044fd2ef28d28ecf396502f67713c9bf7c7a33f2e6ef68711e04678e4cbd8cb", func := "loop.example/g01060/laws.FnExactMissingSlips", spec := "fnExactMissingSlips", unfollowed := true, recurses := true, apart := false }
def FnExactMissingSlipsSaid : Prop := fnExactMissingSlipsRow.holds Try.pinned (OpenSpec.ofChange fnExactMissingSlipsSpec)

/-- ITS FALSE NEIGHBOUR: 'it returns false'. Refute it at one input. -/
def fnExactMissingSlipsWrong : ChangeSpec := { name := "fnExactMissingSlips", fn := fun _ => fun
  | [d1, d2, d3, d4] => { results := [.lit (.bool false)], args := [d1, d2, d3, d4] }
  | _ => none }
def FnExactMissingSlipsWrongFalsely : Prop := fnExactMissingSlipsRow.holds Try.pinned (OpenSpec.ofChange fnExactMissingSlipsWrong)

/-- 'laws.FnExactRightCopies': WHATEVER THE INPUT: true; the input reads as it did. -/
def fnExactRightCopiesSpec : ChangeSpec := { name := "fnExactRightCopies", fn := fun _ => fun
  | [d1, d2, d3] => { results := [.lit (.bool true)], args := [d1, d2, d3] }
  | _ => none }
def fnExactRightCopiesRow : OpenClaim := { program := "ytnpnggnoaodobaa", sum := "e044fd2ef28d28ecf396502f67713c9bf7c7a33f2e6ef68711e04678e4cbd8cb", func := "loop.example/g01060/laws.FnExactRightCopies", spec := "fnExactRightCopies", unfollowed := true, recurses := true, apart := false }
def FnExactRightCopiesSaid : Prop := fnExactRightCopiesRow.holds Try.pinned (OpenSpec.ofChange fnExactRightCopiesSpec)

/-- ITS FALSE NEIGHBOUR: 'it returns false'. Refute it at one input. -/
def fnExactRightCopiesWrong : ChangeSpec := { name := "fnExactRightCopies", fn := fun _ => fun
  | [d1, d2, d3] => { results := [.lit (.bool false)], args := [d1, d2, d3] }
  | _ => none }
def FnExactRightCopiesWrongFalsely : Prop := fnExactRightCopiesRow.holds Try.pinned (OpenSpec.ofChange fnExactRightCopiesWrong)

/-- 'laws.FnExactWithdrawErratum': WHATEVER THE INPUT: true; the input reads as it did. -/
def fnExactWithdrawErratumSpec : ChangeSpec := { name := "fnExactWithdrawErratum", fn := fun _ => fun
  | [d1, d2, d3] => { results := [.lit (.bool true)], args := [d1, d2, d3] }
  | _ => none }
def fnExactWithdrawErratumRow : OpenClaim := { program := "ytnpnggnoaodobaa", sum := "e044fd2ef28d28ecf396502f67713c9bf7c7a33f2e6ef68711e04678e4cbd8cb", func := "loop.example/g01060/laws.FnExactWithdrawErratum", spec := "fnExactWithdrawErratum", unfollowed := true, recurses := true, apart := false }
def FnExactWithdrawErratumSaid : Prop := fnExactWithdrawErratumRow.holds Try.pinned (OpenSpec.ofChange fnExactWithdrawErratumSpec)

/-- ITS FALSE NEIGHBOUR: 'it returns false'. Refute it at one input. -/
def fnExactWithdrawErratumWrong : ChangeSpec := { name := "fnExactWithdrawErratum", fn := fun _ => fun
  | [d1, d2, d3] => { results := [.lit (.bool false)], args := [d1, d2, d3] }
  | _ => none }
def FnExactWithdrawErratumWrongFalsely : Prop := fnExactWithdrawErratumRow.holds Try.pinned (OpenSpec.ofChange fnExactWithdrawErratumWrong)

/-- 'laws.FnExactPutSlip': WHATEVER THE INPUT: true; the input reads as it did. -/
def fnExactPutSlipSpec : ChangeSpec := { name := "fnExactPutSlip", fn := fun _ => fun
  | [d1, d2, d3, d4] => { results := [.lit (.bool true)], args := [d1, d2, d3, d4] }
  | _ => none }
def fnExactPutSlipRow : OpenClaim := { program := "ytnpnggnoaodobaa", sum := "e044fd2ef28d28ecf396502f67713c9bf7c7a33f2e6ef68711e04678e4cbd8cb", func := "loop.example/g01060/laws.FnExactPutSlip", spec := "fnExactPutSlip", unfollowed := true, recurses := true, apart := false }
def FnExactPutSlipSaid : Prop := fnExactPutSlipRow.holds Try.pinned (OpenSpec.ofChange fnExactPutSlipSpec)

/-- ITS FALSE NEIGHBOUR: 'it returns false'. Refute it at one input. -/
def fnExactPutSlipWrong : ChangeSpec := { name := "fnExactPutSlip", fn := fun _ => fun
  | [d1, d2, d3, d4] => { results := [.lit (.bool false)], args := [d1, d2, d3, d4] }
  | _ => none }
def FnExactPutSlipWrongFalsely : Prop := fnExactPutSlipRow.holds Try.pinned (OpenSpec.ofChange fnExactPutSlipWrong)

/-- 'laws.FnExactPutAllSlips': WHATEVER THE INPUT: true; the input reads as it did. -/
def fnExactPutAllSlipsSpec : ChangeSpec := { name := "fnExactPutAllSlips", fn := fun _ => fun
  | [d1, d2, d3] => { results := [.lit (.bool true)], args := [d1, d2, d3] }
  | _ => none }
def fnExactPutAllSlipsRow : OpenClaim := { program := "ytnpnggnoaodobaa", sum := "e044fd2ef28d28ecf396502f67713c9bf7c7a33f2e6ef68711e04678e4cbd8cb", func := "loop.example/g01060/laws.FnExactPutAllSlips", spec := "fnExactPutAllSlips", unfollowed := true, recurses := true, apart := false }
def FnExactPutAllSlipsSaid : Prop := fnExactPutAllSlipsRow.holds Try.pinned (OpenSpec.ofChange fnExactPutAllSlipsSpec)

/-- ITS FALSE NEIGHBOUR: 'it returns false'. Refute it at one input. -/
def fnExactPutAllSlipsWrong : ChangeSpec := { name := "fnExactPutAllSlips", fn := fun _ => fun
  | [d1, d2, d3] => { results := [.lit (.bool false)], args := [d1, d2, d3] }
  | _ => none }
def FnExactPutAllSlipsWrongFalsely : Prop := fnExactPutAllSlipsRow.holds Try.pinned (OpenSpec.ofChange fnExactPutAllSlipsWrong)

/- THE SECOND FORM. 'bulk': how many values and letters a reading holds, each counted each time it is reached (what is shared counts as often as it is met; a slice's spare places count too). A statement '..UptoSaid' is the law's where the arguments, and the package variables that the reading takes, are together of bulk at most 1048576: NARROWER than '..Said'. Prove '..Said' where nothing that the law and all that it calls make is longer than what came in: it says more and counts as full. Else prove '..UptoSaid'. A law counts once. -/
mutual
def uptoBulk {H : Type} : DataW H → Nat
  | .lit (.string bytes) => bytes.length + 1
  | .lit _ => 1
  | .nil => 1
  | .ptr d => uptoBulk d + 1
  | .slice elems spare => uptoBulkAll elems + uptoBulkAll spare + 1
  | .agg parts => uptoBulkAll parts + 1
  | .iface _ d => uptoBulk d + 1
  | .map entries => uptoBulkEntries entries + 1
  | .held _ => 1
def uptoBulkAll {H : Type} : List (DataW H) → Nat
  | [] => 0
  | d :: r => uptoBulk d + uptoBulkAll r
def uptoBulkEntries {H : Type} : List (Lit × DataW H) → Nat
  | [] => 0
  | x :: r => uptoBulkEntry x + uptoBulkEntries r
def uptoBulkEntry {H : Type} : Lit × DataW H → Nat
  | (.string bytes, d) => bytes.length + uptoBulk d + 1
  | (_, d) => uptoBulk d + 1
 end
def uptoSmall : (H : Type) → List (DataW H) → Bool := fun _ ds => decide (uptoBulkAll ds ≤ 1048576)
def OpenSpec.upto (s : _root_.Go.ChangeSpec) : _root_.Go.OpenSpec := { _root_.Go.OpenSpec.ofChange s with cond := some uptoSmall }

/-- 'laws.FnExactNewErratum', WHERE WHAT IT READS IS OF BULK AT MOST 1048576: true; the input reads as it did. -/
def fnExactNewErratumUptoRow : OpenClaim := { program := "ytnpnggnoaodobaa", sum := "e044fd2ef28d28ecf396502f67713c9bf7c7a33f2e6ef68711e04678e4cbd8cb", func := "loop.example/g01060/laws.FnExactNewErratum", spec := "fnExactNewErratum", apart := false, narrowed := true }
def FnExactNewErratumUptoSaid : Prop := fnExactNewErratumUptoRow.holds Try.pinned (OpenSpec.upto fnExactNewErratumSpec)

/-- 'laws.FnExactAreHeld', WHERE WHAT IT READS IS OF BULK AT MOST 1048576: true; the input reads as it did. -/
def fnExactAreHeldUptoRow : OpenClaim := { program := "ytnpnggnoaodobaa", sum := "e044fd2ef28d28ecf396502f67713c9bf7c7a33f2e6ef68711e04678e4cbd8cb", func := "loop.example/g01060/laws.FnExactAreHeld", spec := "fnExactAreHeld", unfollowed := true, recurses := true, apart := false, narrowed := true }
def FnExactAreHeldUptoSaid : Prop := fnExactAreHeldUptoRow.holds Try.pinned (OpenSpec.upto fnExactAreHeldSpec)

/-- 'laws.FnExactWorstCopy', WHERE WHAT IT READS IS OF BULK AT MOST 1048576: true; the input reads as it did. -/
def fnExactWorstCopyUptoRow : OpenClaim := { program := "ytnpnggnoaodobaa", sum := "e044fd2ef28d28ecf396502f67713c9bf7c7a33f2e6ef68711e04678e4cbd8cb", func := "loop.example/g01060/laws.FnExactWorstCopy", spec := "fnExactWorstCopy", unfollowed := true, recurses := true, apart := false, narrowed := true }
def FnExactWorstCopyUptoSaid : Prop := fnExactWorstCopyUptoRow.holds Try.pinned (OpenSpec.upto fnExactWorstCopySpec)

/-- 'laws.FnExactCopiesFor', WHERE WHAT IT READS IS OF BULK AT MOST 1048576: true; the input reads as it did. -/
def fnExactCopiesForUptoRow : OpenClaim := { program := "ytnpnggnoaodobaa", sum := "e044fd2ef28d28ecf396502f67713c9bf7c7a33f2e6ef68711e04678e4cbd8cb", func := "loop.example/g01060/laws.FnExactCopiesFor", spec := "fnExactCopiesFor", unfollowed := true, recurses := true, apart := false, narrowed := true }
def FnExactCopiesForUptoSaid : Prop := fnExactCopiesForUptoRow.holds Try.pinned (OpenSpec.upto fnExactCopiesForSpec)

/-- 'laws.FnExactMissingSlips', WHERE WHAT IT READS IS OF BULK AT MOST 1048576: true; the input reads as it did. -/
def fnExactMissingSlipsUptoRow : OpenClaim := { program := "ytnpnggnoaodobaa", sum := "e044fd2ef28d28ecf396502f67713c9bf7c7a33f2e6ef68711e04678e4cbd8cb", func := "loop.example/g01060/laws.FnExactMissingSlips", spec := "fnExactMissingSlips", unfollowed := true, recurses := true, apart := false, narrowed := true }
def FnExactMissingSlipsUptoSaid : Prop := fnExactMissingSlipsUptoRow.holds Try.pinned (OpenSpec.upto fnExactMissingSlipsSpec)

/-- 'laws.FnExactRightCopies', WHERE WHAT IT READS IS OF BULK AT MOST 1048576: true; the input reads as it did. -/
def fnExactRightCopiesUptoRow : OpenClaim := { program := "ytnpnggnoaodobaa", sum := "e044fd2ef28d28ecf396502f67713c9bf7c7a33f2e6ef68711e04678e4cbd8cb", func := "loop.example/g01060/laws.FnExactRightCopies", spec := "fnExactRightCopies", unfollowed := true, recurses := true, apart := false, narrowed := true }
def FnExactRightCopiesUptoSaid : Prop := fnExactRightCopiesUptoRow.holds Try.pinned (OpenSpec.upto fnExactRightCopiesSpec)

/-- 'laws.FnExactWithdrawErratum', WHERE WHAT IT READS IS OF BULK AT MOST 1048576: true; the input reads as it did. -/
def fnExactWithdrawErratumUptoRow : OpenClaim := { program := "ytnpnggnoaodobaa", sum := "e044fd2ef28d28ecf396502f67713c9bf7c7a33f2e6ef68711e04678e4cbd8cb", func := "loop.example/g01060/laws.FnExactWithdrawErratum", spec := "fnExactWithdrawErratum", unfollowed := true, recurses := true, apart := false, narrowed := true }
def FnExactWithdrawErratumUptoSaid : Prop := fnExactWithdrawErratumUptoRow.holds Try.pinned (OpenSpec.upto fnExactWithdrawErratumSpec)

/-- 'laws.FnExactPutSlip', WHERE WHAT IT READS IS OF BULK AT MOST 1048576: true; the input reads as it did. -/
def fnExactPutSlipUptoRow : OpenClaim := { program := "ytnpnggnoaodobaa", sum := "e044fd2ef28d28ecf396502f67713c9bf7c7a33f2e6ef68711e04678e4cbd8cb", func := "loop.example/g01060/laws.FnExactPutSlip", spec := "fnExactPutSlip", unfollowed := true, recurses := true, apart := false, narrowed := true }
def FnExactPutSlipUptoSaid : Prop := fnExactPutSlipUptoRow.holds Try.pinned (OpenSpec.upto fnExactPutSlipSpec)

/-- 'laws.FnExactPutAllSlips', WHERE WHAT IT READS IS OF BULK AT MOST 1048576: true; the input reads as it did. -/
def fnExactPutAllSlipsUptoRow : OpenClaim := { program := "ytnpnggnoaodobaa", sum := "e044fd2ef28d28ecf396502f67713c9bf7c7a33f2e6ef68711e04678e4cbd8cb", func := "loop.example/g01060/laws.FnExactPutAllSlips", spec := "fnExactPutAllSlips", unfollowed := true, recurses := true, apart := false, narrowed := true }
def FnExactPutAllSlipsUptoSaid : Prop := fnExactPutAllSlipsUptoRow.holds Try.pinned (OpenSpec.upto fnExactPutAllSlipsSpec)

end Rows
end Go.Proofs.Ytnpnggnoaodobaa
