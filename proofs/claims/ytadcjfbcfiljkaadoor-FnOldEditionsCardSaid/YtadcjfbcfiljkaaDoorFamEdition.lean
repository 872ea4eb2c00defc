/- The laws' own functions over []Edition: the size, the copy, the comparison. -/
import Derived.Test.YtadcjfbcfiljkaaDoorProg
import Derived.Test.YtadcjfbcfiljkaaDoorFamInt
import Derived.Test.YtadcjfbcfiljkaaDoorNest
namespace Go.Proofs.YtadcjfbcfiljkaaDoor
open Go.RowKit
set_option linter.unusedVariables false
set_option linter.unusedSimpArgs false
theorem infoEdition : (Tryd.prog.info? 33).map (fun i => (i.zero, i.size, i.bytes)) = some (some (.agg #[.int .i64 0, .int .i64 0, .int .i64 0, .slice none 0 0]), 4, 48) := by kernel_rfl
end Go.Proofs.YtadcjfbcfiljkaaDoor
