/- The laws' own functions over []Erratum: the copy, the comparison, the marks. -/
import Derived.Test.YtdicopjoffdnnaaProg
import Derived.Test.YtdicopjoffdnnaaBase
import Derived.Test.YtdicopjoffdnnaaTypes
namespace Go.Proofs.Ytdicopjoffdnnaa
open Go.RowKit
set_option linter.unusedVariables false
set_option linter.unusedSimpArgs false

theorem infoErratum : (Try.prog.info? 63).map (fun i => (i.zero, i.size, i.bytes)) = some (some (.agg (Array.replicate 5 (.int .i64 0))), 5, 40) := by kernel_rfl








end Go.Proofs.Ytdicopjoffdnnaa
