/- More words for memory. No Go text is spoken of here. -/
import Derived.Test.YtlagfeccdcjimaaDoorBase
namespace Go.Proofs.YtlagfeccdcjimaaDoor
open Go.RowKit
set_option linter.unusedVariables false
set_option linter.unusedSimpArgs false

theorem ext_alloc (w : World) (o : Obj) : Below w.heap.size w (w.alloc o) := (Below.refl _ _).alloc (Nat.le_refl _) o
theorem below_new {B : Nat} {w : World} (h : B ≤ w.heap.size) (o : Obj) : Below B w (w.alloc o) := (Below.refl _ _).alloc h o
theorem ret_bb {a b c d : Bool} (h : a = c) (k : b = d) : Ending.returned (.tuple #[.bool a, .bool b]) = .returned (.tuple #[.bool c, .bool d]) := by rw [h, k]
theorem ret_ib {a c : Int} {b d : Bool} (h : a = c) (k : b = d) : Ending.returned (.tuple #[.int .i64 a, .bool b]) = .returned (.tuple #[.int .i64 c, .bool d]) := by rw [h, k]
theorem eqb_tb {a b : Int} {p : Prop} (h : a = b ↔ p) : (a == b) = tb p := by
  rw [← tb_dec h.symm]
  rfl
end Go.Proofs.YtlagfeccdcjimaaDoor
