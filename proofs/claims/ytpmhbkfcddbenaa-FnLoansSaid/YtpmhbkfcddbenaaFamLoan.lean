/- The laws' own functions over []Loan: the copy, the comparison, the marks. -/
import Derived.Test.YtpmhbkfcddbenaaProg
import Derived.Test.YtpmhbkfcddbenaaBase
import Derived.Test.YtpmhbkfcddbenaaTypes
namespace Go.Proofs.Ytpmhbkfcddbenaa
open Go.RowKit
set_option linter.unusedVariables false
set_option linter.unusedSimpArgs false

theorem infoLoan : (Try.prog.info? 50).map (fun i => (i.zero, i.size, i.bytes)) = some (some (.agg (Array.replicate 5 (.int .i64 0))), 5, 40) := by kernel_rfl








end Go.Proofs.Ytpmhbkfcddbenaa
