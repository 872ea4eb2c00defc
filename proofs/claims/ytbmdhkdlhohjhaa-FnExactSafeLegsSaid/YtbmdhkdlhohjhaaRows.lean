/-
  No cell of these rows narrows 'for every input' (looked for: loops, veiled, ifaces, maps, wideKeys, modest, calm, conditions, laid).
  DERIVED. THE GIVEN ROWS OF THIS SEAT. 9 by the template 'for every input the law returns true; each argument reads behind the call as it read before'; 0 by the template 'total and deterministic' (their statements: YtbmdhkdlhohjhaaTotals.lean).
  GIVEN WITH THE SEED: the statements are not yours to turn. If you find one false, say at which input.
  Laid BY PROGRAM, IN A SANDBOX (cutbox-rows.mjs): the forced cells as the released guide's own fill.sh prints them over the translation ef5faaad01fda5a5… (all of the seat's roots in one cut). By AI agents, Wed Nov 11 2026. No macro, syntax, notation, axiom, sorry.
-/
import Derived.Test.YtbmdhkdlhohjhaaChecked
import GoSem.Claim
import GoSem.ClaimJoined
import GoSem.ClaimMapViews
import Derived.JoinedTies
import Derived.KernelRfl
namespace Go.Proofs.Ytbmdhkdlhohjhaa
/- THE CELL 'sum', in the pinned program and in every row, IS THE sha256 OF THE DUMP (.gsa) THAT YtbmdhkdlhohjhaaProg.lean LOADS. Nothing in Lean hashes anything: it is a label: what it is worth is what the hold of that sum in a sandbox is worth. -/
noncomputable def Try.pinned : Pinned := { name := "ytbmdhkdlhohjhaa", sum := "ef5faaad01fda5a50f2e517bdfdf63fe821c7dbd82c29a5910fb3cef2bd7c72c", checked := Try.checked }
namespace Rows
def none {H : Type} : Left H := { results := [], args := [] }

/-- 'laws.FnExactFirstFault': WHATEVER THE INPUT: true; the input reads as it did. -/
def fnExactFirstFaultSpec : ChangeSpec := { name := "fnExactFirstFault", fn := fun _ => fun
  | [d1, d2, d3, d4, d5] => { results := [.lit (.bool true)], args := [d1, d2, d3, d4, d5] }
  | _ => none }
def fnExactFirstFaultRow : OpenClaim := { program := "ytbmdhkdlhohjhaa", sum := "ef5faaad01fda5a50f2e517bdfdf63fe821c7dbd82c29a5910fb3cef2bd7c72c", func := "loop.example/g01060/laws.FnExactFirstFault", spec := "fnExactFirstFault", unfollowed := true, recurses := true, apart := false }
def FnExactFirstFaultSaid : Prop := fnExactFirstFaultRow.holds Try.pinned (OpenSpec.ofChange fnExactFirstFaultSpec)

/-- ITS FALSE NEIGHBOUR: 'it returns false'. Refute it at one input. -/
def fnExactFirstFaultWrong : ChangeSpec := { name := "fnExactFirstFault", fn := fun _ => fun
  | [d1, d2, d3, d4, d5] => { results := [.lit (.bool false)], args := [d1, d2, d3, d4, d5] }
  | _ => none }
def FnExactFirstFaultWrongFalsely : Prop := fnExactFirstFaultRow.holds Try.pinned (OpenSpec.ofChange fnExactFirstFaultWrong)

/-- 'laws.FnExactIsSafe': WHATEVER THE INPUT: true; the input reads as it did. -/
def fnExactIsSafeSpec : ChangeSpec := { name := "fnExactIsSafe", fn := fun _ => fun
  | [d1, d2, d3, d4, d5] => { results := [.lit (.bool true)], args := [d1, d2, d3, d4, d5] }
  | _ => none }
def fnExactIsSafeRow : OpenClaim := { program := "ytbmdhkdlhohjhaa", sum := "ef5faaad01fda5a50f2e517bdfdf63fe821c7dbd82c29a5910fb3cef2bd7c72c", func := "loop.example/g01060/laws.FnExactIsSafe", spec := "fnExactIsSafe", unfollowed := true, recurses := true, apart := false }
def FnExactIsSafeSaid : Prop := fnExactIsSafeRow.holds Try.pinned (OpenSpec.ofChange fnExactIsSafeSpec)

/-- ITS FALSE NEIGHBOUR: 'it returns false'. Refute it at one input. -/
def fnExactIsSafeWrong : ChangeSpec := { name := "fnExactIsSafe", fn := fun _ => fun
  | [d1, d2, d3, d4, d5] => { results := [.lit (.bool false)], args := [d1, d2, d3, d4, d5] }
  | _ => none }
def FnExactIsSafeWrongFalsely : Prop := fnExactIsSafeRow.holds Try.pinned (OpenSpec.ofChange fnExactIsSafeWrong)

/-- 'laws.FnExactSafeLegs': WHATEVER THE INPUT: true; the input reads as it did. -/
def fnExactSafeLegsSpec : ChangeSpec := { name := "fnExactSafeLegs", fn := fun _ => fun
  | [d1, d2, d3, d4, d5] => { results := [.lit (.bool true)], args := [d1, d2, d3, d4, d5] }
  | _ => none }
def fnExactSafeLegsRow : OpenClaim := { program := "ytbmdhkdlhohjhaa", sum := "ef5faaad01fda5a50f2e517bdfdf63fe821c7dbd82c29a5910fb3cef2bd7c72c", func := "loop.example/g01060/laws.FnExactSafeLegs", spec := "fnExactSafeLegs", unfollowed := true, recurses := true, apart := false }
def FnExactSafeLegsSaid : Prop := fnExactSafeLegsRow.holds Try.pinned (OpenSpec.ofChange fnExactSafeLegsSpec)

/-- ITS FALSE NEIGHBOUR: 'it returns false'. Refute it at one input. -/
def fnExactSafeLegsWrong : ChangeSpec := { name := "fnExactSafeLegs", fn := fun _ => fun
  | [d1, d2, d3, d4, d5] => { results := [.lit (.bool false)], args := [d1, d2, d3, d4, d5] }
  | _ => none }
def FnExactSafeLegsWrongFalsely : Prop := fnExactSafeLegsRow.holds Try.pinned (OpenSpec.ofChange fnExactSafeLegsWrong)

/-- 'laws.FnExactMostDeep': WHATEVER THE INPUT: true; the input reads as it did. -/
def fnExactMostDeepSpec : ChangeSpec := { name := "fnExactMostDeep", fn := fun _ => fun
  | [d] => { results := [.lit (.bool true)], args := [d] }
  | _ => none }
def fnExactMostDeepRow : OpenClaim := { program := "ytbmdhkdlhohjhaa", sum := "ef5faaad01fda5a50f2e517bdfdf63fe821c7dbd82c29a5910fb3cef2bd7c72c", func := "loop.example/g01060/laws.FnExactMostDeep", spec := "fnExactMostDeep", recurses := true, apart := false }
def FnExactMostDeepSaid : Prop := fnExactMostDeepRow.holds Try.pinned (OpenSpec.ofChange fnExactMostDeepSpec)

/-- ITS FALSE NEIGHBOUR: 'it returns false'. Refute it at one input. -/
def fnExactMostDeepWrong : ChangeSpec := { name := "fnExactMostDeep", fn := fun _ => fun
  | [d] => { results := [.lit (.bool false)], args := [d] }
  | _ => none }
def FnExactMostDeepWrongFalsely : Prop := fnExactMostDeepRow.holds Try.pinned (OpenSpec.ofChange fnExactMostDeepWrong)

/-- 'laws.FnExactAreaOfAll': WHATEVER THE INPUT: true; the input reads as it did. -/
def fnExactAreaOfAllSpec : ChangeSpec := { name := "fnExactAreaOfAll", fn := fun _ => fun
  | [d] => { results := [.lit (.bool true)], args := [d] }
  | _ => none }
def fnExactAreaOfAllRow : OpenClaim := { program := "ytbmdhkdlhohjhaa", sum := "ef5faaad01fda5a50f2e517bdfdf63fe821c7dbd82c29a5910fb3cef2bd7c72c", func := "loop.example/g01060/laws.FnExactAreaOfAll", spec := "fnExactAreaOfAll", recurses := true, apart := false }
def FnExactAreaOfAllSaid : Prop := fnExactAreaOfAllRow.holds Try.pinned (OpenSpec.ofChange fnExactAreaOfAllSpec)

/-- ITS FALSE NEIGHBOUR: 'it returns false'. Refute it at one input. -/
def fnExactAreaOfAllWrong : ChangeSpec := { name := "fnExactAreaOfAll", fn := fun _ => fun
  | [d] => { results := [.lit (.bool false)], args := [d] }
  | _ => none }
def FnExactAreaOfAllWrongFalsely : Prop := fnExactAreaOfAllRow.holds Try.pinned (OpenSpec.ofChange fnExactAreaOfAllWrong)

/-- 'laws.FnExactLateOn': WHATEVER THE INPUT: true; the input reads as it did. -/
def fnExactLateOnSpec : ChangeSpec := { name := "fnExactLateOn", fn := fun _ => fun
  | [d1, d2] => { results := [.lit (.bool true)], args := [d1, d2] }
  | _ => none }
def fnExactLateOnRow : OpenClaim := { program := "ytbmdhkdlhohjhaa", sum := "ef5faaad01fda5a50f2e517bdfdf63fe821c7dbd82c29a5910fb3cef2bd7c72c", func := "loop.example/g01060/laws.FnExactLateOn", spec := "fnExactLateOn", unfollowed := true, recurses := true, apart := false }
def FnExactLateOnSaid : Prop := fnExactLateOnRow.holds Try.pinned (OpenSpec.ofChange fnExactLateOnSpec)

/-- ITS FALSE NEIGHBOUR: 'it returns false'. Refute it at one input. -/
def fnExactLateOnWrong : ChangeSpec := { name := "fnExactLateOn", fn := fun _ => fun
  | [d1, d2] => { results := [.lit (.bool false)], args := [d1, d2] }
  | _ => none }
def FnExactLateOnWrongFalsely : Prop := fnExactLateOnRow.holds Try.pinned (OpenSpec.ofChange fnExactLateOnWrong)

/-- 'laws.FnExactFreeSquares': WHATEVER THE INPUT: true; the input reads as it did. -/
def fnExactFreeSquaresSpec : ChangeSpec := { name := "fnExactFreeSquares", fn := fun _ => fun
  | [d] => { results := [.lit (.bool true)], args := [d] }
  | _ => none }
def fnExactFreeSquaresRow : OpenClaim := { program := "ytbmdhkdlhohjhaa", sum := "ef5faaad01fda5a50f2e517bdfdf63fe821c7dbd82c29a5910fb3cef2bd7c72c", func := "loop.example/g01060/laws.FnExactFreeSquares", spec := "fnExactFreeSquares", recurses := true, apart := false }
def FnExactFreeSquaresSaid : Prop := fnExactFreeSquaresRow.holds Try.pinned (OpenSpec.ofChange fnExactFreeSquaresSpec)

/-- ITS FALSE NEIGHBOUR: 'it returns false'. Refute it at one input. -/
def fnExactFreeSquaresWrong : ChangeSpec := { name := "fnExactFreeSquares", fn := fun _ => fun
  | [d] => { results := [.lit (.bool false)], args := [d] }
  | _ => none }
def FnExactFreeSquaresWrongFalsely : Prop := fnExactFreeSquaresRow.holds Try.pinned (OpenSpec.ofChange fnExactFreeSquaresWrong)

/-- 'laws.FnExactAreaOnlyIn': WHATEVER THE INPUT: true; the input reads as it did. -/
def fnExactAreaOnlyInSpec : ChangeSpec := { name := "fnExactAreaOnlyIn", fn := fun _ => fun
  | [d1, d2] => { results := [.lit (.bool true)], args := [d1, d2] }
  | _ => none }
def fnExactAreaOnlyInRow : OpenClaim := { program := "ytbmdhkdlhohjhaa", sum := "ef5faaad01fda5a50f2e517bdfdf63fe821c7dbd82c29a5910fb3cef2bd7c72c", func := "loop.example/g01060/laws.FnExactAreaOnlyIn", spec := "fnExactAreaOnlyIn", unfollowed := true, recurses := true, apart := false }
def FnExactAreaOnlyInSaid : Prop := fnExactAreaOnlyInRow.holds Try.pinned (OpenSpec.ofChange fnExactAreaOnlyInSpec)

/-- ITS FALSE NEIGHBOUR: 'it returns false'. Refute it at one input. -/
def fnExactAreaOnlyInWrong : ChangeSpec := { name := "fnExactAreaOnlyIn", fn := fun _ => fun
  | [d1, d2] => { results := [.lit (.bool false)], args := [d1, d2] }
  | _ => none }
def FnExactAreaOnlyInWrongFalsely : Prop := fnExactAreaOnlyInRow.holds Try.pinned (OpenSpec.ofChange fnExactAreaOnlyInWrong)

/-- 'laws.FnExactRedundant': WHATEVER THE INPUT: true; the input reads as it did. -/
def fnExactRedundantSpec : ChangeSpec := { name := "fnExactRedundant", fn := fun _ => fun
  | [d] => { results := [.lit (.bool true)], args := [d] }
  | _ => none }
def fnExactRedundantRow : OpenClaim := { program := "ytbmdhkdlhohjhaa", sum := "ef5faaad01fda5a50f2e517bdfdf63fe821c7dbd82c29a5910fb3cef2bd7c72c", func := "loop.example/g01060/laws.FnExactRedundant", spec := "fnExactRedundant", recurses := true, apart := false }
def FnExactRedundantSaid : Prop := fnExactRedundantRow.holds Try.pinned (OpenSpec.ofChange fnExactRedundantSpec)

/-- ITS FALSE NEIGHBOUR: 'it returns false'. Refute it at one input. -/
def fnExactRedundantWrong : ChangeSpec := { name := "fnExactRedundant", fn := fun _ => fun
  | [d] => { results := [.lit (.bool false)], args := [d] }
  | _ => none }
def FnExactRedundantWrongFalsely : Prop := fnExactRedundantRow.holds Try.pinned (OpenSpec.ofChange fnExactRedundantWrong)

/- THE SECOND FORM. 'bulk': how many values and letters a reading holds, each counted each time it is reached (what is shared counts as often as it is met; a slice's spare places count too). A statement '..UptoSaid' is the law's where the arguments, and the package variables that the reading takes, are together of bulk at most 1048576: NARROWER than '..Said'. Prove '..Said' where nothing that the law and all that it calls make is longer than what came in: it says more and counts as full. Else prove '..UptoSaid'. A law counts once. -/
mutual
def uptoBulk {H : Type} : DataW H → Nat
  | .lit (.string bytes) => bytes.length + 1
  | .lit _ => 1
  | .nil => 1
  | .ptr d => uptoBulk d + 1
  | .slice elems spare => uptoBulkAll elems + uptoBulkAll spare + 1
  | .agg parts => uptoBulkAll parts + 1
  | .iface _ d => uptoBulk d + 1
  | .map entries => uptoBulkEntries entries + 1
  | .held _ => 1
def uptoBulkAll {H : Type} : List (DataW H) → Nat
  | [] => 0
  | d :: r => uptoBulk d + uptoBulkAll r
def uptoBulkEntries {H : Type} : List (Lit × DataW H) → Nat
  | [] => 0
  | x :: r => uptoBulkEntry x + uptoBulkEntries r
def uptoBulkEntry {H : Type} : Lit × DataW H → Nat
  | (.string bytes, d) => bytes.length + uptoBulk d + 1
  | (_, d) => uptoBulk d + 1
 end
def uptoSmall : (H : Type) → List (DataW H) → Bool := fun _ ds => decide (uptoBulkAll ds ≤ 1048576)
def OpenSpec.upto (s : _root_.Go.ChangeSpec) : _root_.Go.OpenSpec := { _root_.Go.OpenSpec.ofChange s with cond := some uptoSmall }

/-- 'laws.FnExactFirstFault', WHERE WHAT IT READS IS OF BULK AT MOST 1048576: true; the input reads as it did. -/
def fnExactFirstFaultUptoRow : OpenClaim := { program := "ytbmdhkdlhohjhaa", sum := "ef5faaad01fda5a50f2e517bdfdf63fe821c7dbd82c29a5910fb3cef2bd7c72c", func := "loop.example/g01060/laws.FnExactFirstFault", spec := "fnExactFirstFault", unfollowed := true, recurses := true, apart := false, narrowed := true }
def FnExactFirstFaultUptoSaid : Prop := fnExactFirstFaultUptoRow.holds Try.pinned (OpenSpec.upto fnExactFirstFaultSpec)

/-- 'laws.FnExactIsSafe', WHERE WHAT IT READS IS OF BULK AT MOST 1048576: true; the input reads as it did. -/
def fnExactIsSafeUptoRow : OpenClaim := { program := "ytbmdhkdlhohjhaa", sum := "ef5faaad01fda5a50f2e517bdfdf63fe821c7dbd82c29a5910fb3cef2bd7c72c", func := "loop.example/g01060/laws.FnExactIsSafe", spec := "fnExactIsSafe", unfollowed := true, recurses := true, apart := false, narrowed := true }
def FnExactIsSafeUptoSaid : Prop := fnExactIsSafeUptoRow.holds Try.pinned (OpenSpec.upto fnExactIsSafeSpec)

/-- 'laws.FnExactSafeLegs', WHERE WHAT IT READS IS OF BULK AT MOST 1048576: true; the input reads as it did. -/
def fnExactSafeLegsUptoRow : OpenClaim := { program := "ytbmdhkdlhohjhaa", sum := "ef5faaad01fda5a50f2e517bdfdf63fe821c7dbd82c29a5910fb3cef2bd7c72c", func := "loop.example/g01060/laws.FnExactSafeLegs", spec := "fnExactSafeLegs", unfollowed := true, recurses := true, apart := false, narrowed := true }
def FnExactSafeLegsUptoSaid : Prop := fnExactSafeLegsUptoRow.holds Try.pinned (OpenSpec.upto fnExactSafeLegsSpec)

/-- 'laws.FnExactMostDeep', WHERE WHAT IT READS IS OF BULK AT MOST 1048576: true; the input reads as it did. -/
def fnExactMostDeepUptoRow : OpenClaim := { program := "ytbmdhkdlhohjhaa", sum := "ef5faaad01fda5a50f2e517bdfdf63fe821c7dbd82c29a5910fb3cef2bd7c72c", func := "loop.example/g01060/laws.FnExactMostDeep", spec := "fnExactMostDeep", recurses := true, apart := false, narrowed := true }
def FnExactMostDeepUptoSaid : Prop := fnExactMostDeepUptoRow.holds Try.pinned (OpenSpec.upto fnExactMostDeepSpec)

/-- 'laws.FnExactAreaOfAll', WHERE WHAT IT READS IS OF BULK AT MOST 1048576: true; the input reads as it did. -/
def fnExactAreaOfAllUptoRow : OpenClaim := { program := "ytbmdhkdlhohjhaa", sum := "ef5faaad01fda5a50f2e517bdfdf63fe821c7dbd82c29a5910fb3cef2bd7c72c", func := "loop.example/g01060/laws.FnExactAreaOfAll", spec := "fnExactAreaOfAll", recurses := true, apart := false, narrowed := true }
def FnExactAreaOfAllUptoSaid : Prop := fnExactAreaOfAllUptoRow.holds Try.pinned (OpenSpec.upto fnExactAreaOfAllSpec)

/-- 'laws.FnExactLateOn', WHERE WHAT IT READS IS OF BULK AT MOST 1048576: true; the input reads as it did. -/
def fnExactLateOnUptoRow : OpenClaim := { program := "ytbmdhkdlhohjhaa", sum := "ef5faaad01fda5a50f2e517bdfdf63fe821c7dbd82c29a5910fb3cef2bd7c72c", func := "loop.example/g01060/laws.FnExactLateOn", spec := "fnExactLateOn", unfollowed := true, recurses := true, apart := false, narrowed := true }
def FnExactLateOnUptoSaid : Prop := fnExactLateOnUptoRow.holds Try.pinned (OpenSpec.upto fnExactLateOnSpec)

/-- 'laws.FnExactFreeSquares', WHERE WHAT IT READS IS OF BULK AT MOST 1048576: true; the input reads as it did. -/
def fnExactFreeSquaresUptoRow : OpenClaim := { program := "ytbmdhkdlhohjhaa", sum := "ef5faaad01fda5a50f2e517bdfdf63fe821c7dbd82c29a5910fb3cef2bd7c72c", func := "loop.example/g01060/laws.FnExactFreeSquares", spec := "fnExactFreeSquares", recurses := true, apart := false, narrowed := true }
def FnExactFreeSquaresUptoSaid : Prop := fnExactFreeSquaresUptoRow.holds Try.pinned (OpenSpec.upto fnExactFreeSquaresSpec)

/-- 'laws.FnExactAreaOnlyIn', WHERE WHAT IT READS IS OF BULK AT MOST 1048576: true; the input reads as it did. -/
def fnExactAreaOnlyInUptoRow : OpenClaim := { program := "ytbmdhkdlhohjhaa", sum := "ef5faaad01fda5a50f2e517bdfdf63fe821c7dbd82c29a5910fb3cef2bd7c72c", func := "loop.example/g01060/laws.FnExactAreaOnlyIn", spec := "fnExactAreaOnlyIn", unfollowed := true, recurses := true, apart := false, narrowed := true }
def FnExactAreaOnlyInUptoSaid : Prop := fnExactAreaOnlyInUptoRow.holds Try.pinned (OpenSpec.upto fnExactAreaOnlyInSpec)

/-- 'laws.FnExactRedundant', WHERE WHAT IT READS IS OF BULK AT MOST 1048576: true; the input reads as it did. -/
def fnExactRedundantUptoRow : OpenClaim := { program := "ytbmdhkdlhohjhaa", sum := "ef5faaad01fda5a50f2e517bdfdf63fe821c7dbd82c29a5910fb3cef2bd7c72c", func := "loop.example/g01060/laws.FnExactRedundant", spec := "fnExactRedundant", recurses := true, apart := false, narrowed := true }
def FnExactRedundantUptoSaid : Prop := fnExactRedundantUptoRow.holds Try.pinned (OpenSpec.upto fnExactRedundantSpec)

end Rows
end Go.Proofs.Ytbmdhkdlhohjhaa
