/- The laws' own functions over []int: the comparison, the marks. -/
import Derived.Test.YtlkojpmhniokfaaProg
import Derived.Test.YtlkojpmhniokfaaBase
namespace Go.Proofs.Ytlkojpmhniokfaa
open Go.RowKit
set_option linter.unusedVariables false
set_option linter.unusedSimpArgs false

theorem infoInt : (Try.prog.info? 3).map (fun i => (i.zero, i.size, i.bytes)) = some (some (.int .i64 0), 1, 8) := by kernel_rfl




end Go.Proofs.Ytlkojpmhniokfaa
