/- The laws' own functions over []Zone: the copy, the comparison, the marks. -/
import Derived.Test.YtpjapemclbminaaProg
import Derived.Test.YtpjapemclbminaaBase
import Derived.Test.YtpjapemclbminaaTypes
namespace Go.Proofs.Ytpjapemclbminaa
open Go.RowKit
set_option linter.unusedVariables false
set_option linter.unusedSimpArgs false

theorem infoZone : (Try.prog.info? 35).map (fun i => (i.zero, i.size, i.bytes)) = some (some (.agg (Array.replicate 5 (.int .i64 0))), 5, 40) := by kernel_rfl








end Go.Proofs.Ytpjapemclbminaa
