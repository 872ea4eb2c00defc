/-
  No cell of these rows narrows 'for every input' (looked for: loops, veiled, ifaces, maps, wideKeys, modest, calm, conditions, laid).
  DERIVED. THE GIVEN ROWS OF THIS SEAT. 10 by the template 'for every input the law returns true; each argument reads behind the call as it read before'; 0 by the template 'total and deterministic' (their statements: YtaojamioongahaaTotals.lean).
  GIVEN WITH THE SEED: the statements are not yours to turn. If you find one false, say at which input.
  Laid BY PROGRAM, IN A SANDBOX (cutbox-rows.mjs): the forced cells as the released guide's own fill.sh prints them over the translation 72cc01ecfb460bbd… (all of the seat's roots in one cut). By AI agents, Wed Nov 11 2026. No macro, syntax, notation, axiom, sorry.
-/
import Derived.Test.YtaojamioongahaaChecked
import GoSem.Claim
import GoSem.ClaimJoined
import GoSem.ClaimMapViews
import Derived.JoinedTies
import Derived.KernelRfl
namespace Go.Proofs.Ytaojamioongahaa
/- THE CELL 'sum', in the pinned program and in every row, IS THE sha256 OF THE DUMP (.gsa) THAT YtaojamioongahaaProg.lean LOADS. Nothing in Lean hashes anything: it is a label: what it is worth is what the hold of that sum in a sandbox is worth. -/
noncomputable def Try.pinned : Pinned := { name := "ytaojamioongahaa", sum := "72cc01ecfb460bbd40683f5428508a8acbbe2f46c734f8f3714426c4f676b163", checked := Try.checked }
namespace Rows
def none {H : Type} : Left H := { results := [], args := [] }

/-- 'laws.FnExactAreEditions': WHATEVER THE INPUT: true; the input reads as it did. -/
def fnExactAreEditionsSpec : ChangeSpec := { name := "fnExactAreEditions", fn := fun _ => fun
  | [d] => { results := [.lit (.bool true)], args := [d] }
  | _ => none }
def fnExactAreEditionsRow : OpenClaim := { program := "ytaojamioongahaa", sum := "72cc01ecfb460bbd40683f5428508a8acbbe2f46c734f8f3714426c4f676b163", func := "loop.example/g01060/laws.FnExactAreEditions", spec := "fnExactAreEditions", unfollowed := true, recurses := true, apart := false }
def FnExactAreEditionsSaid : Prop := fnExactAreEditionsRow.holds Try.pinned (OpenSpec.ofChange fnExactAreEditionsSpec)

/-- ITS FALSE NEIGHBOUR: 'it returns false'. Refute it at one input. -/
def fnExactAreEditionsWrong : ChangeSpec := { name := "fnExactAreEditions", fn := fun _ => fun
  | [d] => { results := [.lit (.bool false)], args := [d] }
  | _ => none }
def FnExactAreEditionsWrongFalsely : Prop := fnExactAreEditionsRow.holds Try.pinned (OpenSpec.ofChange fnExactAreEditionsWrong)

/-- 'laws.FnExactCurrentOn': WHATEVER THE INPUT: true; the input reads as it did. -/
def fnExactCurrentOnSpec : ChangeSpec := { name := "fnExactCurrentOn", fn := fun _ => fun
  | [d1, d2, d3] => { results := [.lit (.bool true)], args := [d1, d2, d3] }
  | _ => none }
def fnExactCurrentOnRow : OpenClaim := { program := "ytaojamioongahaa", sum := "72cc01ecfb460bbd40683f5428508a8acbbe2f46c734f8f3714426c4f676b163", func := "loop.example/g01060/laws.FnExactCurrentOn", spec := "fnExactCurrentOn", unfollowed := true, recurses := true, apart := false }
def FnExactCurrentOnSaid : Prop := fnExactCurrentOnRow.holds Try.pinned (OpenSpec.ofChange fnExactCurrentOnSpec)

/-- ITS FALSE NEIGHBOUR: 'it returns false'. Refute it at one input. -/
def fnExactCurrentOnWrong : ChangeSpec := { name := "fnExactCurrentOn", fn := fun _ => fun
  | [d1, d2, d3] => { results := [.lit (.bool false)], args := [d1, d2, d3] }
  | _ => none }
def FnExactCurrentOnWrongFalsely : Prop := fnExactCurrentOnRow.holds Try.pinned (OpenSpec.ofChange fnExactCurrentOnWrong)

/-- 'laws.FnExactLongestCurrent': WHATEVER THE INPUT: true; the input reads as it did. -/
def fnExactLongestCurrentSpec : ChangeSpec := { name := "fnExactLongestCurrent", fn := fun _ => fun
  | [d1, d2, d3] => { results := [.lit (.bool true)], args := [d1, d2, d3] }
  | _ => none }
def fnExactLongestCurrentRow : OpenClaim := { program := "ytaojamioongahaa", sum := "72cc01ecfb460bbd40683f5428508a8acbbe2f46c734f8f3714426c4f676b163", func := "loop.example/g01060/laws.FnExactLongestCurrent", spec := "fnExactLongestCurrent", unfollowed := true, recurses := true, apart := false }
def FnExactLongestCurrentSaid : Prop := fnExactLongestCurrentRow.holds Try.pinned (OpenSpec.ofChange fnExactLongestCurrentSpec)

/-- ITS FALSE NEIGHBOUR: 'it returns false'. Refute it at one input. -/
def fnExactLongestCurrentWrong : ChangeSpec := { name := "fnExactLongestCurrent", fn := fun _ => fun
  | [d1, d2, d3] => { results := [.lit (.bool false)], args := [d1, d2, d3] }
  | _ => none }
def FnExactLongestCurrentWrongFalsely : Prop := fnExactLongestCurrentRow.holds Try.pinned (OpenSpec.ofChange fnExactLongestCurrentWrong)

/-- 'laws.FnExactRestlessPlace': WHATEVER THE INPUT: true; the input reads as it did. -/
def fnExactRestlessPlaceSpec : ChangeSpec := { name := "fnExactRestlessPlace", fn := fun _ => fun
  | [d1, d2] => { results := [.lit (.bool true)], args := [d1, d2] }
  | _ => none }
def fnExactRestlessPlaceRow : OpenClaim := { program := "ytaojamioongahaa", sum := "72cc01ecfb460bbd40683f5428508a8acbbe2f46c734f8f3714426c4f676b163", func := "loop.example/g01060/laws.FnExactRestlessPlace", spec := "fnExactRestlessPlace", unfollowed := true, recurses := true, apart := false }
def FnExactRestlessPlaceSaid : Prop := fnExactRestlessPlaceRow.holds Try.pinned (OpenSpec.ofChange fnExactRestlessPlaceSpec)

/-- ITS FALSE NEIGHBOUR: 'it returns false'. Refute it at one input. -/
def fnExactRestlessPlaceWrong : ChangeSpec := { name := "fnExactRestlessPlace", fn := fun _ => fun
  | [d1, d2] => { results := [.lit (.bool false)], args := [d1, d2] }
  | _ => none }
def FnExactRestlessPlaceWrongFalsely : Prop := fnExactRestlessPlaceRow.holds Try.pinned (OpenSpec.ofChange fnExactRestlessPlaceWrong)

/-- 'laws.FnExactPlaceHistory': WHATEVER THE INPUT: true; the input reads as it did. -/
def fnExactPlaceHistorySpec : ChangeSpec := { name := "fnExactPlaceHistory", fn := fun _ => fun
  | [d1, d2, d3] => { results := [.lit (.bool true)], args := [d1, d2, d3] }
  | _ => none }
def fnExactPlaceHistoryRow : OpenClaim := { program := "ytaojamioongahaa", sum := "72cc01ecfb460bbd40683f5428508a8acbbe2f46c734f8f3714426c4f676b163", func := "loop.example/g01060/laws.FnExactPlaceHistory", spec := "fnExactPlaceHistory", unfollowed := true, recurses := true, apart := false }
def FnExactPlaceHistorySaid : Prop := fnExactPlaceHistoryRow.holds Try.pinned (OpenSpec.ofChange fnExactPlaceHistorySpec)

/-- ITS FALSE NEIGHBOUR: 'it returns false'. Refute it at one input. -/
def fnExactPlaceHistoryWrong : ChangeSpec := { name := "fnExactPlaceHistory", fn := fun _ => fun
  | [d1, d2, d3] => { results := [.lit (.bool false)], args := [d1, d2, d3] }
  | _ => none }
def FnExactPlaceHistoryWrongFalsely : Prop := fnExactPlaceHistoryRow.holds Try.pinned (OpenSpec.ofChange fnExactPlaceHistoryWrong)

/-- 'laws.FnExactAppearedIn': WHATEVER THE INPUT: true; the input reads as it did. -/
def fnExactAppearedInSpec : ChangeSpec := { name := "fnExactAppearedIn", fn := fun _ => fun
  | [d1, d2, d3] => { results := [.lit (.bool true)], args := [d1, d2, d3] }
  | _ => none }
def fnExactAppearedInRow : OpenClaim := { program := "ytaojamioongahaa", sum := "72cc01ecfb460bbd40683f5428508a8acbbe2f46c734f8f3714426c4f676b163", func := "loop.example/g01060/laws.FnExactAppearedIn", spec := "fnExactAppearedIn", unfollowed := true, recurses := true, apart := false }
def FnExactAppearedInSaid : Prop := fnExactAppearedInRow.holds Try.pinned (OpenSpec.ofChange fnExactAppearedInSpec)

/-- ITS FALSE NEIGHBOUR: 'it returns false'. Refute it at one input. -/
def fnExactAppearedInWrong : ChangeSpec := { name := "fnExactAppearedIn", fn := fun _ => fun
  | [d1, d2, d3] => { results := [.lit (.bool false)], args := [d1, d2, d3] }
  | _ => none }
def FnExactAppearedInWrongFalsely : Prop := fnExactAppearedInRow.holds Try.pinned (OpenSpec.ofChange fnExactAppearedInWrong)

/-- 'laws.FnExactNewEdition': WHATEVER THE INPUT: true; the input reads as it did. -/
def fnExactNewEditionSpec : ChangeSpec := { name := "fnExactNewEdition", fn := fun _ => fun
  | [d1, d2, d3, d4] => { results := [.lit (.bool true)], args := [d1, d2, d3, d4] }
  | _ => none }
def fnExactNewEditionRow : OpenClaim := { program := "ytaojamioongahaa", sum := "72cc01ecfb460bbd40683f5428508a8acbbe2f46c734f8f3714426c4f676b163", func := "loop.example/g01060/laws.FnExactNewEdition", spec := "fnExactNewEdition", unfollowed := true, recurses := true, apart := false }
def FnExactNewEditionSaid : Prop := fnExactNewEditionRow.holds Try.pinned (OpenSpec.ofChange fnExactNewEditionSpec)

/-- ITS FALSE NEIGHBOUR: 'it returns false'. Refute it at one input. -/
def fnExactNewEditionWrong : ChangeSpec := { name := "fnExactNewEdition", fn := fun _ => fun
  | [d1, d2, d3, d4] => { results := [.lit (.bool false)], args := [d1, d2, d3, d4] }
  | _ => none }
def FnExactNewEditionWrongFalsely : Prop := fnExactNewEditionRow.holds Try.pinned (OpenSpec.ofChange fnExactNewEditionWrong)

/-- 'laws.FnExactDropLast': WHATEVER THE INPUT: true; the input reads as it did. -/
def fnExactDropLastSpec : ChangeSpec := { name := "fnExactDropLast", fn := fun _ => fun
  | [d1, d2] => { results := [.lit (.bool true)], args := [d1, d2] }
  | _ => none }
def fnExactDropLastRow : OpenClaim := { program := "ytaojamioongahaa", sum := "72cc01ecfb460bbd40683f5428508a8acbbe2f46c734f8f3714426c4f676b163", func := "loop.example/g01060/laws.FnExactDropLast", spec := "fnExactDropLast", unfollowed := true, recurses := true, apart := false }
def FnExactDropLastSaid : Prop := fnExactDropLastRow.holds Try.pinned (OpenSpec.ofChange fnExactDropLastSpec)

/-- ITS FALSE NEIGHBOUR: 'it returns false'. Refute it at one input. -/
def fnExactDropLastWrong : ChangeSpec := { name := "fnExactDropLast", fn := fun _ => fun
  | [d1, d2] => { results := [.lit (.bool false)], args := [d1, d2] }
  | _ => none }
def FnExactDropLastWrongFalsely : Prop := fnExactDropLastRow.holds Try.pinned (OpenSpec.ofChange fnExactDropLastWrong)

/-- 'laws.FnExactOldEditions': WHATEVER THE INPUT: true; the input reads as it did. -/
def fnExactOldEditionsSpec : ChangeSpec := { name := "fnExactOldEditions", fn := fun _ => fun
  | [d1, d2, d3] => { results := [.lit (.bool true)], args := [d1, d2, d3] }
  | _ => none }
def fnExactOldEditionsRow : OpenClaim := { program := "ytaojamioongahaa", sum := "72cc01ecfb460bbd40683f5428508a8acbbe2f46c734f8f3714426c4f676b163", func := "loop.example/g01060/laws.FnExactOldEditions", spec := "fnExactOldEditions", unfollowed := true, recurses := true, apart := false }
def FnExactOldEditionsSaid : Prop := fnExactOldEditionsRow.holds Try.pinned (OpenSpec.ofChange fnExactOldEditionsSpec)

/-- ITS FALSE NEIGHBOUR: 'it returns false'. Refute it at one input. -/
def fnExactOldEditionsWrong : ChangeSpec := { name := "fnExactOldEditions", fn := fun _ => fun
  | [d1, d2, d3] => { results := [.lit (.bool false)], args := [d1, d2, d3] }
  | _ => none }
def FnExactOldEditionsWrongFalsely : Prop := fnExactOldEditionsRow.holds Try.pinned (OpenSpec.ofChange fnExactOldEditionsWrong)

/-- 'laws.FnExactChangedSince': WHATEVER THE INPUT: true; the input reads as it did. -/
def fnExactChangedSinceSpec : ChangeSpec := { name := "fnExactChangedSince", fn := fun _ => fun
  | [d1, d2, d3, d4] => { results := [.lit (.bool true)], args := [d1, d2, d3, d4] }
  | _ => none }
def fnExactChangedSinceRow : OpenClaim := { program := "ytaojamioongahaa", sum := "72cc01ecfb460bbd40683f5428508a8acbbe2f46c734f8f3714426c4f676b163", func := "loop.example/g01060/laws.FnExactChangedSince", spec := "fnExactChangedSince", unfollowed := true, recurses := true, apart := false }
def FnExactChangedSinceSaid : Prop := fnExactChangedSinceRow.holds Try.pinned (OpenSpec.ofChange fnExactChangedSinceSpec)

/-- ITS FALSE NEIGHBOUR: 'it returns false'. Refute it at one input. -/
def fnExactChangedSinceWrong : ChangeSpec := { name := "fnExactChangedSince", fn := fun _ => fun
  | [d1, d2, d3, d4] => { results := [.lit (.bool false)], args := [d1, d2, d3, d4] }
  | _ => none }
def FnExactChangedSinceWrongFalsely : Prop := fnExactChangedSinceRow.holds Try.pinned (OpenSpec.ofChange fnExactChangedSinceWrong)

/- THE SECOND FORM. 'bulk': how many values and letters a reading holds, each counted each time it is reached (what is shared counts as often as it is met; a slice's spare places count too). A statement '..UptoSaid' is the law's where the arguments, and the package variables that the reading takes, are together of bulk at most 1048576: NARROWER than '..Said'. Prove '..Said' where nothing that the law and all that it calls make is longer than what came in: it says more and counts as full. Else prove '..UptoSaid'. A law counts once. -/
mutual
def uptoBulk {H : Type} : DataW H → Nat
  | .lit (.string bytes) => bytes.length + 1
  | .lit _ => 1
  | .nil => 1
  | .ptr d => uptoBulk d + 1
  | .slice elems spare => uptoBulkAll elems + uptoBulkAll spare + 1
  | .agg parts => uptoBulkAll parts + 1
  | .iface _ d => uptoBulk d + 1
  | .map entries => uptoBulkEntries entries + 1
  | .held _ => 1
def uptoBulkAll {H : Type} : List (DataW H) → Nat
  | [] => 0
  | d :: r => uptoBulk d + uptoBulkAll r
def uptoBulkEntries {H : Type} : List (Lit × DataW H) → Nat
  | [] => 0
  | x :: r => uptoBulkEntry x + uptoBulkEntries r
def uptoBulkEntry {H : Type} : Lit × DataW H → Nat
  | (.string bytes, d) => bytes.length + uptoBulk d + 1
  | (_, d) => uptoBulk d + 1
 end
def uptoSmall : (H : Type) → List (DataW H) → Bool := fun _ ds => decide (uptoBulkAll ds ≤ 1048576)
def OpenSpec.upto (s : _root_.Go.ChangeSpec) : _root_.Go.OpenSpec := { _root_.Go.OpenSpec.ofChange s with cond := some uptoSmall }

/-- 'laws.FnExactAreEditions', WHERE WHAT IT READS IS OF BULK AT MOST 1048576: true; the input reads as it did. -/
def fnExactAreEditionsUptoRow : OpenClaim := { program := "ytaojamioongahaa", sum := "72cc01ecfb460bbd40683f5428508a8acbbe2f46c734f8f3714426c4f676b163", func := "loop.example/g01060/laws.FnExactAreEditions", spec := "fnExactAreEditions", unfollowed := true, recurses := true, apart := false, narrowed := true }
def FnExactAreEditionsUptoSaid : Prop := fnExactAreEditionsUptoRow.holds Try.pinned (OpenSpec.upto fnExactAreEditionsSpec)

/-- 'laws.FnExactCurrentOn', WHERE WHAT IT READS IS OF BULK AT MOST 1048576: true; the input reads as it did. -/
def fnExactCurrentOnUptoRow : OpenClaim := { program := "ytaojamioongahaa", sum := "72cc01ecfb460bbd40683f5428508a8acbbe2f46c734f8f3714426c4f676b163", func := "loop.example/g01060/laws.FnExactCurrentOn", spec := "fnExactCurrentOn", unfollowed := true, recurses := true, apart := false, narrowed := true }
def FnExactCurrentOnUptoSaid : Prop := fnExactCurrentOnUptoRow.holds Try.pinned (OpenSpec.upto fnExactCurrentOnSpec)

/-- 'laws.FnExactLongestCurrent', WHERE WHAT IT READS IS OF BULK AT MOST 1048576: true; the input reads as it did. -/
def fnExactLongestCurrentUptoRow : OpenClaim := { program := "ytaojamioongahaa", sum := "72cc01ecfb460bbd40683f5428508a8acbbe2f46c734f8f3714426c4f676b163", func := "loop.example/g01060/laws.FnExactLongestCurrent", spec := "fnExactLongestCurrent", unfollowed := true, recurses := true, apart := false, narrowed := true }
def FnExactLongestCurrentUptoSaid : Prop := fnExactLongestCurrentUptoRow.holds Try.pinned (OpenSpec.upto fnExactLongestCurrentSpec)

/-- 'laws.FnExactRestlessPlace', WHERE WHAT IT READS IS OF BULK AT MOST 1048576: true; the input reads as it did. -/
def fnExactRestlessPlaceUptoRow : OpenClaim := { program := "ytaojamioongahaa", sum := "72cc01ecfb460bbd40683f5428508a8acbbe2f46c734f8f3714426c4f676b163", func := "loop.example/g01060/laws.FnExactRestlessPlace", spec := "fnExactRestlessPlace", unfollowed := true, recurses := true, apart := false, narrowed := true }
def FnExactRestlessPlaceUptoSaid : Prop := fnExactRestlessPlaceUptoRow.holds Try.pinned (OpenSpec.upto fnExactRestlessPlaceSpec)

/-- 'laws.FnExactPlaceHistory', WHERE WHAT IT READS IS OF BULK AT MOST 1048576: true; the input reads as it did. -/
def fnExactPlaceHistoryUptoRow : OpenClaim := { program := "ytaojamioongahaa", sum := "72cc01ecfb460bbd40683f5428508a8acbbe2f46c734f8f3714426c4f676b163", func := "loop.example/g01060/laws.FnExactPlaceHistory", spec := "fnExactPlaceHistory", unfollowed := true, recurses := true, apart := false, narrowed := true }
def FnExactPlaceHistoryUptoSaid : Prop := fnExactPlaceHistoryUptoRow.holds Try.pinned (OpenSpec.upto fnExactPlaceHistorySpec)

/-- 'laws.FnExactAppearedIn', WHERE WHAT IT READS IS OF BULK AT MOST 1048576: true; the input reads as it did. -/
def fnExactAppearedInUptoRow : OpenClaim := { program := "ytaojamioongahaa", sum := "72cc01ecfb460bbd40683f5428508a8acbbe2f46c734f8f3714426c4f676b163", func := "loop.example/g01060/laws.FnExactAppearedIn", spec := "fnExactAppearedIn", unfollowed := true, recurses := true, apart := false, narrowed := true }
def FnExactAppearedInUptoSaid : Prop := fnExactAppearedInUptoRow.holds Try.pinned (OpenSpec.upto fnExactAppearedInSpec)

/-- 'laws.FnExactNewEdition', WHERE WHAT IT READS IS OF BULK AT MOST 1048576: true; the input reads as it did. -/
def fnExactNewEditionUptoRow : OpenClaim := { program := "ytaojamioongahaa", sum := "72cc01ecfb460bbd40683f5428508a8acbbe2f46c734f8f3714426c4f676b163", func := "loop.example/g01060/laws.FnExactNewEdition", spec := "fnExactNewEdition", unfollowed := true, recurses := true, apart := false, narrowed := true }
def FnExactNewEditionUptoSaid : Prop := fnExactNewEditionUptoRow.holds Try.pinned (OpenSpec.upto fnExactNewEditionSpec)

/-- 'laws.FnExactDropLast', WHERE WHAT IT READS IS OF BULK AT MOST 1048576: true; the input reads as it did. -/
def fnExactDropLastUptoRow : OpenClaim := { program := "ytaojamioongahaa", sum := "72cc01ecfb460bbd40683f5428508a8acbbe2f46c734f8f3714426c4f676b163", func := "loop.example/g01060/laws.FnExactDropLast", spec := "fnExactDropLast", unfollowed := true, recurses := true, apart := false, narrowed := true }
def FnExactDropLastUptoSaid : Prop := fnExactDropLastUptoRow.holds Try.pinned (OpenSpec.upto fnExactDropLastSpec)

/-- 'laws.FnExactOldEditions', WHERE WHAT IT READS IS OF BULK AT MOST 1048576: true; the input reads as it did. -/
def fnExactOldEditionsUptoRow : OpenClaim := { program := "ytaojamioongahaa", sum := "72cc01ecfb460bbd40683f5428508a8acbbe2f46c734f8f3714426c4f676b163", func := "loop.example/g01060/laws.FnExactOldEditions", spec := "fnExactOldEditions", unfollowed := true, recurses := true, apart := false, narrowed := true }
def FnExactOldEditionsUptoSaid : Prop := fnExactOldEditionsUptoRow.holds Try.pinned (OpenSpec.upto fnExactOldEditionsSpec)

/-- 'laws.FnExactChangedSince', WHERE WHAT IT READS IS OF BULK AT MOST 1048576: true; the input reads as it did. -/
def fnExactChangedSinceUptoRow : OpenClaim := { program := "ytaojamioongahaa", sum := "72cc01ecfb460bbd40683f5428508a8acbbe2f46c734f8f3714426c4f676b163", func := "loop.example/g01060/laws.FnExactChangedSince", spec := "fnExactChangedSince", unfollowed := true, recurses := true, apart := false, narrowed := true }
def FnExactChangedSinceUptoSaid : Prop := fnExactChangedSinceUptoRow.holds Try.pinned (OpenSpec.upto fnExactChangedSinceSpec)

end Rows
end Go.Proofs.Ytaojamioongahaa
