/- The laws' own functions over []Erratum: the copy, the comparison, the marks. -/
import Derived.Test.YtbnlbcbdhmmlgaaGreatDoorProg
import Derived.Test.YtbnlbcbdhmmlgaaGreatDoorMgA
namespace Go.Proofs.YtbnlbcbdhmmlgaaGreatDoor
open Go.RowKit
set_option linter.unusedVariables false
set_option linter.unusedSimpArgs false

theorem infoErratum : (Tryz.prog.info? 47).map (fun i => (i.zero, i.size, i.bytes)) = some (some (.agg (Array.replicate 5 (.int .i64 0))), 5, 40) := by kernel_rfl








end Go.Proofs.YtbnlbcbdhmmlgaaGreatDoor
