/- The laws' own functions over []Leg: the copy, the comparison, the marks. -/
import Derived.Test.YtlagfeccdcjimaaDoorProg
import Derived.Test.YtlagfeccdcjimaaDoorBase
import Derived.Test.YtlagfeccdcjimaaDoorTypes
namespace Go.Proofs.YtlagfeccdcjimaaDoor
open Go.RowKit
set_option linter.unusedVariables false
set_option linter.unusedSimpArgs false

theorem infoLeg : (Tryd.prog.info? 52).map (fun i => (i.zero, i.size, i.bytes)) = some (some (.agg (Array.replicate 3 (.int .i64 0))), 3, 24) := by kernel_rfl








end Go.Proofs.YtlagfeccdcjimaaDoor
