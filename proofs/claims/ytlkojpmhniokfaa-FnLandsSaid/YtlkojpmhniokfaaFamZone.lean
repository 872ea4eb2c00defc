/- The laws' own functions over []Zone: the copy, the comparison, the marks. -/
import Derived.Test.YtlkojpmhniokfaaProg
import Derived.Test.YtlkojpmhniokfaaBase
import Derived.Test.YtlkojpmhniokfaaTypes
namespace Go.Proofs.Ytlkojpmhniokfaa
open Go.RowKit
set_option linter.unusedVariables false
set_option linter.unusedSimpArgs false

theorem infoZone : (Try.prog.info? 77).map (fun i => (i.zero, i.size, i.bytes)) = some (some (.agg (Array.replicate 5 (.int .i64 0))), 5, 40) := by kernel_rfl








end Go.Proofs.Ytlkojpmhniokfaa
