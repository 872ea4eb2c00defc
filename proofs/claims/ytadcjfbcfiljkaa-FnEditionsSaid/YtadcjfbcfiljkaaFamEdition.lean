/- The laws' own functions over []Edition: the size, the copy, the comparison. -/
import Derived.Test.YtadcjfbcfiljkaaProg
import Derived.Test.YtadcjfbcfiljkaaFamInt
import Derived.Test.YtadcjfbcfiljkaaNest
namespace Go.Proofs.Ytadcjfbcfiljkaa
open Go.RowKit
set_option linter.unusedVariables false
set_option linter.unusedSimpArgs false
theorem infoEdition : (Try.prog.info? 53).map (fun i => (i.zero, i.size, i.bytes)) = some (some (.agg #[.int .i64 0, .int .i64 0, .int .i64 0, .slice none 0 0]), 4, 48) := by kernel_rfl
end Go.Proofs.Ytadcjfbcfiljkaa
