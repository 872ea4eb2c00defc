/- The laws' own functions over scans: the copy and the comparison. -/
import Derived.Test.YtjacadkbkkkgfaaFamTile
namespace Go.Proofs.Ytjacadkbkkkgfaa
open Go.RowKit
set_option linter.unusedVariables false
set_option linter.unusedSimpArgs false

end Go.Proofs.Ytjacadkbkkkgfaa
