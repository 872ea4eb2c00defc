/- Whether a number lies within bounds: the program's small tests and the reference's. -/
import Derived.Test.YtlagfeccdcjimaaDoorProg
import Derived.Test.YtlagfeccdcjimaaDoorBase
namespace Go.Proofs.YtlagfeccdcjimaaDoor
open Go.RowKit
set_option linter.unusedVariables false
set_option linter.unusedSimpArgs false

set_option maxHeartbeats 400000 in
theorem within_any (n a b : Int) (w : World) :
    Calls Tryd.prog 23 #[.int .i64 n, .int .i64 a, .int .i64 b] w fun e w' => e = .returned (.bool (tb (a ≤ n ∧ n ≤ b))) ∧ w = w' := by
  go_enter Tryd.func23, Tryd.ntmps23
  go_wp2
  all_goals
    go_ret
    refine ⟨ret_bool ?_, rfl⟩
    first | exact (tb_t (by omega)).symm | exact (tb_f (by omega)).symm | exact tb_dec (by omega)
theorem within_t (n a b : Int) (w : World) (h : a ≤ n ∧ n ≤ b) :
    Calls Tryd.prog 23 #[.int .i64 n, .int .i64 a, .int .i64 b] w fun e w' => e = .returned (.bool true) ∧ w = w' := by
  have := within_any n a b w; rwa [tb_t h] at this
theorem within_f (n a b : Int) (w : World) (h : ¬ (a ≤ n ∧ n ≤ b)) :
    Calls Tryd.prog 23 #[.int .i64 n, .int .i64 a, .int .i64 b] w fun e w' => e = .returned (.bool false) ∧ w = w' := by
  have := within_any n a b w; rwa [tb_f h] at this
set_option maxHeartbeats 400000 in
theorem l1In_any (n a b : Int) (w : World) :
    Calls Tryd.prog 27 #[.int .i64 n, .int .i64 a, .int .i64 b] w fun e w' => e = .returned (.bool (tb (a ≤ n ∧ n ≤ b))) ∧ w = w' := by
  go_enter Tryd.func27, Tryd.ntmps27
  go_wp2
  all_goals
    go_ret
    refine ⟨ret_bool ?_, rfl⟩
    first | exact (tb_t (by omega)).symm | exact (tb_f (by omega)).symm | exact tb_dec (by omega)
theorem l1In_t (n a b : Int) (w : World) (h : a ≤ n ∧ n ≤ b) :
    Calls Tryd.prog 27 #[.int .i64 n, .int .i64 a, .int .i64 b] w fun e w' => e = .returned (.bool true) ∧ w = w' := by
  have := l1In_any n a b w; rwa [tb_t h] at this
theorem l1In_f (n a b : Int) (w : World) (h : ¬ (a ≤ n ∧ n ≤ b)) :
    Calls Tryd.prog 27 #[.int .i64 n, .int .i64 a, .int .i64 b] w fun e w' => e = .returned (.bool false) ∧ w = w' := by
  have := l1In_any n a b w; rwa [tb_f h] at this
end Go.Proofs.YtlagfeccdcjimaaDoor
