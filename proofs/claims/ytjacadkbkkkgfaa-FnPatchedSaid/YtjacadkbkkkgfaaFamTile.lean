/- The laws' own functions over []Tile: the copy, the comparison, the marks. -/
import Derived.Test.YtjacadkbkkkgfaaProg
import Derived.Test.YtjacadkbkkkgfaaBase
import Derived.Test.YtjacadkbkkkgfaaTypes
namespace Go.Proofs.Ytjacadkbkkkgfaa
open Go.RowKit
set_option linter.unusedVariables false
set_option linter.unusedSimpArgs false

theorem infoTile : (Try.prog.info? 39).map (fun i => (i.zero, i.size, i.bytes)) = some (some (.agg (Array.replicate 3 (.int .i64 0))), 3, 24) := by kernel_rfl








end Go.Proofs.Ytjacadkbkkkgfaa
