/-
  No cell of these rows narrows 'for every input' (looked for: loops, veiled, ifaces, maps, wideKeys, modest, calm, conditions, laid).
  DERIVED. THE GIVEN ROWS OF THIS SEAT. 7 by the template 'for every input the law returns true; each argument reads behind the call as it read before'; 0 by the template 'total and deterministic' (their statements: YtbldoidcjkffdaaTotals.lean).
  GIVEN WITH THE SEED: the statements are not yours to turn. If you find one false, say at which input.
  Laid BY PROGRAM, IN A SANDBOX (cutbox-rows.mjs): the forced cells as the released guide's own fill.sh prints them over the translation c9c0e6e529a0339b… (all of the seat's roots in one cut). By AI agents, Wed Nov 11 2026. No macro, syntax, notation, axiom, sorry.
-/
import Derived.Test.YtbldoidcjkffdaaChecked
import GoSem.Claim
import GoSem.ClaimJoined
import GoSem.ClaimMapViews
import Derived.JoinedTies
import Derived.KernelRfl
namespace Go.Proofs.Ytbldoidcjkffdaa
/- THE CELL 'sum', in the pinned program and in every row, IS THE sha256 OF THE DUMP (.gsa) THAT YtbldoidcjkffdaaProg.lean LOADS. Nothing in Lean hashes anything: it is a label: what it is worth is what the hold of that sum in a sandbox is worth. -/
noncomputable def Try.pinned : Pinned := { name := "ytbldoidcjkffdaa", sum := "c9c0e6e529a0339b01fa05d23c7efe5747c409eab3638e74ff610e56329a7a2d", checked := Try.checked }
namespace Rows
def none {H : Type} : Left H := { results := [], args := [] }

/-- 'laws.FnExactCropScan': WHATEVER THE INPUT: true; the input reads as it did. -/
def fnExactCropScanSpec : ChangeSpec := { name := "fnExactCropScan", fn := fun _ => fun
  | [d1, d2, d3, d4, d5] => { results := [.lit (.bool true)], args := [d1, d2, d3, d4, d5] }
  | _ => none }
def fnExactCropScanRow : OpenClaim := { program := "ytbldoidcjkffdaa", sum := "c9c0e6e529a0339b01fa05d23c7efe5747c409eab3638e74ff610e56329a7a2d", func := "loop.example/g01060/laws.FnExactCropScan", spec := "fnExactCropScan", apart := false }
def FnExactCropScanSaid : Prop := fnExactCropScanRow.holds Try.pinned (OpenSpec.ofChange fnExactCropScanSpec)

/-- ITS FALSE NEIGHBOUR: 'it returns false'. Refute it at one input. -/
def fnExactCropScanWrong : ChangeSpec := { name := "fnExactCropScan", fn := fun _ => fun
  | [d1, d2, d3, d4, d5] => { results := [.lit (.bool false)], args := [d1, d2, d3, d4, d5] }
  | _ => none }
def FnExactCropScanWrongFalsely : Prop := fnExactCropScanRow.holds Try.pinned (OpenSpec.ofChange fnExactCropScanWrong)

/-- 'laws.FnExactRowsDone': WHATEVER THE INPUT: true; the input reads as it did. -/
def fnExactRowsDoneSpec : ChangeSpec := { name := "fnExactRowsDone", fn := fun _ => fun
  | [d] => { results := [.lit (.bool true)], args := [d] }
  | _ => none }
def fnExactRowsDoneRow : OpenClaim := { program := "ytbldoidcjkffdaa", sum := "c9c0e6e529a0339b01fa05d23c7efe5747c409eab3638e74ff610e56329a7a2d", func := "loop.example/g01060/laws.FnExactRowsDone", spec := "fnExactRowsDone", apart := false }
def FnExactRowsDoneSaid : Prop := fnExactRowsDoneRow.holds Try.pinned (OpenSpec.ofChange fnExactRowsDoneSpec)

/-- ITS FALSE NEIGHBOUR: 'it returns false'. Refute it at one input. -/
def fnExactRowsDoneWrong : ChangeSpec := { name := "fnExactRowsDone", fn := fun _ => fun
  | [d] => { results := [.lit (.bool false)], args := [d] }
  | _ => none }
def FnExactRowsDoneWrongFalsely : Prop := fnExactRowsDoneRow.holds Try.pinned (OpenSpec.ofChange fnExactRowsDoneWrong)

/-- 'laws.FnExactMissingTiles': WHATEVER THE INPUT: true; the input reads as it did. -/
def fnExactMissingTilesSpec : ChangeSpec := { name := "fnExactMissingTiles", fn := fun _ => fun
  | [d] => { results := [.lit (.bool true)], args := [d] }
  | _ => none }
def fnExactMissingTilesRow : OpenClaim := { program := "ytbldoidcjkffdaa", sum := "c9c0e6e529a0339b01fa05d23c7efe5747c409eab3638e74ff610e56329a7a2d", func := "loop.example/g01060/laws.FnExactMissingTiles", spec := "fnExactMissingTiles", unfollowed := true, recurses := true, apart := false }
def FnExactMissingTilesSaid : Prop := fnExactMissingTilesRow.holds Try.pinned (OpenSpec.ofChange fnExactMissingTilesSpec)

/-- ITS FALSE NEIGHBOUR: 'it returns false'. Refute it at one input. -/
def fnExactMissingTilesWrong : ChangeSpec := { name := "fnExactMissingTiles", fn := fun _ => fun
  | [d] => { results := [.lit (.bool false)], args := [d] }
  | _ => none }
def FnExactMissingTilesWrongFalsely : Prop := fnExactMissingTilesRow.holds Try.pinned (OpenSpec.ofChange fnExactMissingTilesWrong)

/-- 'laws.FnExactOtherTiles': WHATEVER THE INPUT: true; the input reads as it did. -/
def fnExactOtherTilesSpec : ChangeSpec := { name := "fnExactOtherTiles", fn := fun _ => fun
  | [d1, d2] => { results := [.lit (.bool true)], args := [d1, d2] }
  | _ => none }
def fnExactOtherTilesRow : OpenClaim := { program := "ytbldoidcjkffdaa", sum := "c9c0e6e529a0339b01fa05d23c7efe5747c409eab3638e74ff610e56329a7a2d", func := "loop.example/g01060/laws.FnExactOtherTiles", spec := "fnExactOtherTiles", unfollowed := true, recurses := true, apart := false }
def FnExactOtherTilesSaid : Prop := fnExactOtherTilesRow.holds Try.pinned (OpenSpec.ofChange fnExactOtherTilesSpec)

/-- ITS FALSE NEIGHBOUR: 'it returns false'. Refute it at one input. -/
def fnExactOtherTilesWrong : ChangeSpec := { name := "fnExactOtherTiles", fn := fun _ => fun
  | [d1, d2] => { results := [.lit (.bool false)], args := [d1, d2] }
  | _ => none }
def FnExactOtherTilesWrongFalsely : Prop := fnExactOtherTilesRow.holds Try.pinned (OpenSpec.ofChange fnExactOtherTilesWrong)

/-- 'laws.FnExactPutTile': WHATEVER THE INPUT: true; the input reads as it did. -/
def fnExactPutTileSpec : ChangeSpec := { name := "fnExactPutTile", fn := fun _ => fun
  | [d1, d2] => { results := [.lit (.bool true)], args := [d1, d2] }
  | _ => none }
def fnExactPutTileRow : OpenClaim := { program := "ytbldoidcjkffdaa", sum := "c9c0e6e529a0339b01fa05d23c7efe5747c409eab3638e74ff610e56329a7a2d", func := "loop.example/g01060/laws.FnExactPutTile", spec := "fnExactPutTile", inPlace := ["slices.overlaps[loop.example/g01060/impl.Tile]"], unfollowed := true, recurses := true, apart := false }
def FnExactPutTileSaid : Prop := fnExactPutTileRow.holds Try.pinned (OpenSpec.ofChange fnExactPutTileSpec)

/-- ITS FALSE NEIGHBOUR: 'it returns false'. Refute it at one input. -/
def fnExactPutTileWrong : ChangeSpec := { name := "fnExactPutTile", fn := fun _ => fun
  | [d1, d2] => { results := [.lit (.bool false)], args := [d1, d2] }
  | _ => none }
def FnExactPutTileWrongFalsely : Prop := fnExactPutTileRow.holds Try.pinned (OpenSpec.ofChange fnExactPutTileWrong)

/-- 'laws.FnExactBesideScan': WHATEVER THE INPUT: true; the input reads as it did. -/
def fnExactBesideScanSpec : ChangeSpec := { name := "fnExactBesideScan", fn := fun _ => fun
  | [d1, d2] => { results := [.lit (.bool true)], args := [d1, d2] }
  | _ => none }
def fnExactBesideScanRow : OpenClaim := { program := "ytbldoidcjkffdaa", sum := "c9c0e6e529a0339b01fa05d23c7efe5747c409eab3638e74ff610e56329a7a2d", func := "loop.example/g01060/laws.FnExactBesideScan", spec := "fnExactBesideScan", inPlace := ["slices.overlaps[loop.example/g01060/impl.Tile]"], unfollowed := true, recurses := true, apart := false }
def FnExactBesideScanSaid : Prop := fnExactBesideScanRow.holds Try.pinned (OpenSpec.ofChange fnExactBesideScanSpec)

/-- ITS FALSE NEIGHBOUR: 'it returns false'. Refute it at one input. -/
def fnExactBesideScanWrong : ChangeSpec := { name := "fnExactBesideScan", fn := fun _ => fun
  | [d1, d2] => { results := [.lit (.bool false)], args := [d1, d2] }
  | _ => none }
def FnExactBesideScanWrongFalsely : Prop := fnExactBesideScanRow.holds Try.pinned (OpenSpec.ofChange fnExactBesideScanWrong)

/-- 'laws.FnExactPatchScan': WHATEVER THE INPUT: true; the input reads as it did. -/
def fnExactPatchScanSpec : ChangeSpec := { name := "fnExactPatchScan", fn := fun _ => fun
  | [d1, d2] => { results := [.lit (.bool true)], args := [d1, d2] }
  | _ => none }
def fnExactPatchScanRow : OpenClaim := { program := "ytbldoidcjkffdaa", sum := "c9c0e6e529a0339b01fa05d23c7efe5747c409eab3638e74ff610e56329a7a2d", func := "loop.example/g01060/laws.FnExactPatchScan", spec := "fnExactPatchScan", inPlace := ["slices.overlaps[loop.example/g01060/impl.Tile]"], unfollowed := true, recurses := true, apart := false }
def FnExactPatchScanSaid : Prop := fnExactPatchScanRow.holds Try.pinned (OpenSpec.ofChange fnExactPatchScanSpec)

/-- ITS FALSE NEIGHBOUR: 'it returns false'. Refute it at one input. -/
def fnExactPatchScanWrong : ChangeSpec := { name := "fnExactPatchScan", fn := fun _ => fun
  | [d1, d2] => { results := [.lit (.bool false)], args := [d1, d2] }
  | _ => none }
def FnExactPatchScanWrongFalsely : Prop := fnExactPatchScanRow.holds Try.pinned (OpenSpec.ofChange fnExactPatchScanWrong)

/- THE SECOND FORM. 'bulk': how many values and letters a reading holds, each counted each time it is reached (what is shared counts as often as it is met; a slice's spare places count too). A statement '..UptoSaid' is the law's where the arguments, and the package variables that the reading takes, are together of bulk at most 1048576: NARROWER than '..Said'. Prove '..Said' where nothing that the law and all that it calls make is longer than what came in: it says more and counts as full. Else prove '..UptoSaid'. A law counts once. -/
mutual
def uptoBulk {H : Type} : DataW H → Nat
  | .lit (.string bytes) => bytes.length + 1
  | .lit _ => 1
  | .nil => 1
  | .ptr d => uptoBulk d + 1
  | .slice elems spare => uptoBulkAll elems + uptoBulkAll spare + 1
  | .agg parts => uptoBulkAll parts + 1
  | .iface _ d => uptoBulk d + 1
  | .map entries => uptoBulkEntries entries + 1
  | .held _ => 1
def uptoBulkAll {H : Type} : List (DataW H) → Nat
  | [] => 0
  | d :: r => uptoBulk d + uptoBulkAll r
def uptoBulkEntries {H : Type} : List (Lit × DataW H) → Nat
  | [] => 0
  | x :: r => uptoBulkEntry x + uptoBulkEntries r
def uptoBulkEntry {H : Type} : Lit × DataW H → Nat
  | (.string bytes, d) => bytes.length + uptoBulk d + 1
  | (_, d) => uptoBulk d + 1
 end
def uptoSmall : (H : Type) → List (DataW H) → Bool := fun _ ds => decide (uptoBulkAll ds ≤ 1048576)
def OpenSpec.upto (s : _root_.Go.ChangeSpec) : _root_.Go.OpenSpec := { _root_.Go.OpenSpec.ofChange s with cond := some uptoSmall }

/-- 'laws.FnExactCropScan', WHERE WHAT IT READS IS OF BULK AT MOST 1048576: true; the input reads as it did. -/
def fnExactCropScanUptoRow : OpenClaim := { program := "ytbldoidcjkffdaa", sum := "c9c0e6e529a0339b01fa05d23c7efe5747c409eab3638e74ff610e56329a7a2d", func := "loop.example/g01060/laws.FnExactCropScan", spec := "fnExactCropScan", apart := false, narrowed := true }
def FnExactCropScanUptoSaid : Prop := fnExactCropScanUptoRow.holds Try.pinned (OpenSpec.upto fnExactCropScanSpec)

/-- 'laws.FnExactRowsDone', WHERE WHAT IT READS IS OF BULK AT MOST 1048576: true; the input reads as it did. -/
def fnExactRowsDoneUptoRow : OpenClaim := { program := "ytbldoidcjkffdaa", sum := "c9c0e6e529a0339b01fa05d23c7efe5747c409eab3638e74ff610e56329a7a2d", func := "loop.example/g01060/laws.FnExactRowsDone", spec := "fnExactRowsDone", apart := false, narrowed := true }
def FnExactRowsDoneUptoSaid : Prop := fnExactRowsDoneUptoRow.holds Try.pinned (OpenSpec.upto fnExactRowsDoneSpec)

/-- 'laws.FnExactMissingTiles', WHERE WHAT IT READS IS OF BULK AT MOST 1048576: true; the input reads as it did. -/
def fnExactMissingTilesUptoRow : OpenClaim := { program := "ytbldoidcjkffdaa", sum := "c9c0e6e529a0339b01fa05d23c7efe5747c409eab3638e74ff610e56329a7a2d", func := "loop.example/g01060/laws.FnExactMissingTiles", spec := "fnExactMissingTiles", unfollowed := true, recurses := true, apart := false, narrowed := true }
def FnExactMissingTilesUptoSaid : Prop := fnExactMissingTilesUptoRow.holds Try.pinned (OpenSpec.upto fnExactMissingTilesSpec)

/-- 'laws.FnExactOtherTiles', WHERE WHAT IT READS IS OF BULK AT MOST 1048576: true; the input reads as it did. -/
def fnExactOtherTilesUptoRow : OpenClaim := { program := "ytbldoidcjkffdaa", sum := "c9c0e6e529a0339b01fa05d23c7efe5747c409eab3638e74ff610e56329a7a2d", func := "loop.example/g01060/laws.FnExactOtherTiles", spec := "fnExactOtherTiles", unfollowed := true, recurses := true, apart := false, narrowed := true }
def FnExactOtherTilesUptoSaid : Prop := fnExactOtherTilesUptoRow.holds Try.pinned (OpenSpec.upto fnExactOtherTilesSpec)

/-- 'laws.FnExactPutTile', WHERE WHAT IT READS IS OF BULK AT MOST 1048576: true; the input reads as it did. -/
def fnExactPutTileUptoRow : OpenClaim := { program := "ytbldoidcjkffdaa", sum := "c9c0e6e529a0339b01fa05d23c7efe5747c409eab3638e74ff610e56329a7a2d", func := "loop.example/g01060/laws.FnExactPutTile", spec := "fnExactPutTile", inPlace := ["slices.overlaps[loop.example/g01060/impl.Tile]"], unfollowed := true, recurses := true, apart := false, narrowed := true }
def FnExactPutTileUptoSaid : Prop := fnExactPutTileUptoRow.holds Try.pinned (OpenSpec.upto fnExactPutTileSpec)

/-- 'laws.FnExactBesideScan', WHERE WHAT IT READS IS OF BULK AT MOST 1048576: true; the input reads as it did. -/
def fnExactBesideScanUptoRow : OpenClaim := { program := "ytbldoidcjkffdaa", sum := "c9c0e6e529a0339b01fa05d23c7efe5747c409eab3638e74ff610e56329a7a2d", func := "loop.example/g01060/laws.FnExactBesideScan", spec := "fnExactBesideScan", inPlace := ["slices.overlaps[loop.example/g01060/impl.Tile]"], unfollowed := true, recurses := true, apart := false, narrowed := true }
def FnExactBesideScanUptoSaid : Prop := fnExactBesideScanUptoRow.holds Try.pinned (OpenSpec.upto fnExactBesideScanSpec)

/-- 'laws.FnExactPatchScan', WHERE WHAT IT READS IS OF BULK AT MOST 1048576: true; the input reads as it did. -/
def fnExactPatchScanUptoRow : OpenClaim := { program := "ytbldoidcjkffdaa", sum := "c9c0e6e529a0339b01fa05d23c7efe5747c409eab3638e74ff610e56329a7a2d", func := "loop.example/g01060/laws.FnExactPatchScan", spec := "fnExactPatchScan", inPlace := ["slices.overlaps[loop.example/g01060/impl.Tile]"], unfollowed := true, recurses := true, apart := false, narrowed := true }
def FnExactPatchScanUptoSaid : Prop := fnExactPatchScanUptoRow.holds Try.pinned (OpenSpec.upto fnExactPatchScanSpec)

end Rows
end Go.Proofs.Ytbldoidcjkffdaa
