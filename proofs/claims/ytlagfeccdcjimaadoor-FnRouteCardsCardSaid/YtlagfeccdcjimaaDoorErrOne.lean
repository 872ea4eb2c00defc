/- One erratum: is it valid; the words of its text. No condition. -/
import Derived.Test.YtlagfeccdcjimaaDoorProg
import Derived.Test.YtlagfeccdcjimaaDoorBase
import Derived.Test.YtlagfeccdcjimaaDoorBase2
import Derived.Test.YtlagfeccdcjimaaDoorTypes
import Derived.Test.YtlagfeccdcjimaaDoorNum
namespace Go.Proofs.YtlagfeccdcjimaaDoor
open Go.RowKit
set_option linter.unusedVariables false
set_option linter.unusedSimpArgs false

noncomputable def selt (p : Prop) (q : ByteArray) : ByteArray := @ite _ p (Classical.propDecidable p) q ⟨#[]⟩
theorem selt_t {p : Prop} {q : ByteArray} (h : p) : selt p q = q := by simp [selt, h]
theorem selt_f {p : Prop} {q : ByteArray} (h : ¬ p) : selt p q = ⟨#[]⟩ := by simp [selt, h]
end Go.Proofs.YtlagfeccdcjimaaDoor
