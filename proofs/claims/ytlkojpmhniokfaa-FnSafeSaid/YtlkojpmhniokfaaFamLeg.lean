/- The laws' own functions over []Leg: the copy, the comparison, the marks. -/
import Derived.Test.YtlkojpmhniokfaaProg
import Derived.Test.YtlkojpmhniokfaaBase
import Derived.Test.YtlkojpmhniokfaaTypes
namespace Go.Proofs.Ytlkojpmhniokfaa
open Go.RowKit
set_option linter.unusedVariables false
set_option linter.unusedSimpArgs false

theorem infoLeg : (Try.prog.info? 65).map (fun i => (i.zero, i.size, i.bytes)) = some (some (.agg (Array.replicate 3 (.int .i64 0))), 3, 24) := by kernel_rfl








end Go.Proofs.Ytlkojpmhniokfaa
