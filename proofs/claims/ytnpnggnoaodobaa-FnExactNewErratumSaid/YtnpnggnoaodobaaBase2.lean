/- More words for memory. No Go text is spoken of here. -/
import Derived.Test.YtnpnggnoaodobaaBase
namespace Go.Proofs.Ytnpnggnoaodobaa
open Go.RowKit
set_option linter.unusedVariables false
set_option linter.unusedSimpArgs false

theorem ext_alloc (w : World) (o : Obj) : Below w.heap.size w (w.alloc o) := (Below.refl _ _).alloc (Nat.le_refl _) o
theorem below_new {B : Nat} {w : World} (h : B ≤ w.heap.size) (o : Obj) : Below B w (w.alloc o) := (Below.refl _ _).alloc h o
end Go.Proofs.Ytnpnggnoaodobaa
