/- The laws' own functions over []Held: the size, the copy, the comparison. -/
import Derived.Test.YtbnlbcbdhmmlgaaGreatDoorProg
import Derived.Test.YtbnlbcbdhmmlgaaGreatDoorMgB
namespace Go.Proofs.YtbnlbcbdhmmlgaaGreatDoor
open Go.RowKit
set_option linter.unusedVariables false
set_option linter.unusedSimpArgs false
theorem infoHeld : (Tryz.prog.info? 41).map (fun i => (i.zero, i.size, i.bytes)) = some (some (.agg #[.int .i64 0, .int .i64 0, .int .i64 0, .slice none 0 0]), 4, 48) := by kernel_rfl
end Go.Proofs.YtbnlbcbdhmmlgaaGreatDoor
