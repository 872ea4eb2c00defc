/- One erratum: is it valid; the words of its text. No condition. -/
import Derived.Test.YtadcjfbcfiljkaaDoorProg
import Derived.Test.YtadcjfbcfiljkaaDoorBase
import Derived.Test.YtadcjfbcfiljkaaDoorBase2
import Derived.Test.YtadcjfbcfiljkaaDoorTypes
import Derived.Test.YtadcjfbcfiljkaaDoorNum
namespace Go.Proofs.YtadcjfbcfiljkaaDoor
open Go.RowKit
set_option linter.unusedVariables false
set_option linter.unusedSimpArgs false

noncomputable def selt (p : Prop) (q : ByteArray) : ByteArray := @ite _ p (Classical.propDecidable p) q ⟨#[]⟩
theorem selt_t {p : Prop} {q : ByteArray} (h : p) : selt p q = q := by simp [selt, h]
theorem selt_f {p : Prop} {q : ByteArray} (h : ¬ p) : selt p q = ⟨#[]⟩ := by simp [selt, h]
end Go.Proofs.YtadcjfbcfiljkaaDoor
