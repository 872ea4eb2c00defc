/- The laws' own functions over []Loan: the copy, the comparison, the marks. -/
import Derived.Test.YtnikeelpcokffaaDoorProg
import Derived.Test.YtnikeelpcokffaaDoorBase
import Derived.Test.YtnikeelpcokffaaDoorTypes
namespace Go.Proofs.YtnikeelpcokffaaDoor
open Go.RowKit
set_option linter.unusedVariables false
set_option linter.unusedSimpArgs false

theorem infoLoan : (Tryd.prog.info? 43).map (fun i => (i.zero, i.size, i.bytes)) = some (some (.agg (Array.replicate 5 (.int .i64 0))), 5, 40) := by kernel_rfl








end Go.Proofs.YtnikeelpcokffaaDoor
