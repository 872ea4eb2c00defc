/- Whether a number lies within bounds: the program's small tests and the reference's. -/
import Derived.Test.YtnikeelpcokffaaDoorProg
import Derived.Test.YtnikeelpcokffaaDoorBase
namespace Go.Proofs.YtnikeelpcokffaaDoor
open Go.RowKit
set_option linter.unusedVariables false
set_option linter.unusedSimpArgs false

set_option maxHeartbeats 400000 in
theorem within_any (n a b : Int) (w : World) :
    Calls Tryd.prog 44 #[.int .i64 n, .int .i64 a, .int .i64 b] w fun e w' => e = .returned (.bool (tb (a ≤ n ∧ n ≤ b))) ∧ w = w' := by
  go_enter Tryd.func44, Tryd.ntmps44
  go_wp2
  all_goals
    go_ret
    refine ⟨ret_bool ?_, rfl⟩
    first | exact (tb_t (by omega)).symm | exact (tb_f (by omega)).symm | exact tb_dec (by omega)
theorem within_t (n a b : Int) (w : World) (h : a ≤ n ∧ n ≤ b) :
    Calls Tryd.prog 44 #[.int .i64 n, .int .i64 a, .int .i64 b] w fun e w' => e = .returned (.bool true) ∧ w = w' := by
  have := within_any n a b w; rwa [tb_t h] at this
theorem within_f (n a b : Int) (w : World) (h : ¬ (a ≤ n ∧ n ≤ b)) :
    Calls Tryd.prog 44 #[.int .i64 n, .int .i64 a, .int .i64 b] w fun e w' => e = .returned (.bool false) ∧ w = w' := by
  have := within_any n a b w; rwa [tb_f h] at this
set_option maxHeartbeats 400000 in
theorem l1In_any (n a b : Int) (w : World) :
    Calls Tryd.prog 62 #[.int .i64 n, .int .i64 a, .int .i64 b] w fun e w' => e = .returned (.bool (tb (a ≤ n ∧ n ≤ b))) ∧ w = w' := by
  go_enter Tryd.func62, Tryd.ntmps62
  go_wp2
  all_goals
    go_ret
    refine ⟨ret_bool ?_, rfl⟩
    first | exact (tb_t (by omega)).symm | exact (tb_f (by omega)).symm | exact tb_dec (by omega)
theorem l1In_t (n a b : Int) (w : World) (h : a ≤ n ∧ n ≤ b) :
    Calls Tryd.prog 62 #[.int .i64 n, .int .i64 a, .int .i64 b] w fun e w' => e = .returned (.bool true) ∧ w = w' := by
  have := l1In_any n a b w; rwa [tb_t h] at this
theorem l1In_f (n a b : Int) (w : World) (h : ¬ (a ≤ n ∧ n ≤ b)) :
    Calls Tryd.prog 62 #[.int .i64 n, .int .i64 a, .int .i64 b] w fun e w' => e = .returned (.bool false) ∧ w = w' := by
  have := l1In_any n a b w; rwa [tb_f h] at this
set_option maxHeartbeats 400000 in
theorem isDay_any (n : Int) (w : World) :
    Calls Tryd.prog 30 #[.int .i64 n] w fun e w' => e = .returned (.bool (tb (0 ≤ n ∧ n ≤ 4000))) ∧ w = w' := by
  go_enter Tryd.func30, Tryd.ntmps30
  go_wp2
  all_goals
    go_ret
    refine ⟨ret_bool ?_, rfl⟩
    first | exact (tb_t (by omega)).symm | exact (tb_f (by omega)).symm | exact tb_dec (by omega)
theorem isDay_t (n : Int) (w : World) (h : 0 ≤ n ∧ n ≤ 4000) :
    Calls Tryd.prog 30 #[.int .i64 n] w fun e w' => e = .returned (.bool true) ∧ w = w' := by
  have := isDay_any n w; rwa [tb_t h] at this
theorem isDay_f (n : Int) (w : World) (h : ¬ (0 ≤ n ∧ n ≤ 4000)) :
    Calls Tryd.prog 30 #[.int .i64 n] w fun e w' => e = .returned (.bool false) ∧ w = w' := by
  have := isDay_any n w; rwa [tb_f h] at this
set_option maxHeartbeats 400000 in
theorem isId_any (n : Int) (w : World) :
    Calls Tryd.prog 38 #[.int .i64 n] w fun e w' => e = .returned (.bool (tb (1 ≤ n ∧ n ≤ 999))) ∧ w = w' := by
  go_enter Tryd.func38, Tryd.ntmps38
  go_wp2
  all_goals
    go_ret
    refine ⟨ret_bool ?_, rfl⟩
    first | exact (tb_t (by omega)).symm | exact (tb_f (by omega)).symm | exact tb_dec (by omega)
theorem isId_t (n : Int) (w : World) (h : 1 ≤ n ∧ n ≤ 999) :
    Calls Tryd.prog 38 #[.int .i64 n] w fun e w' => e = .returned (.bool true) ∧ w = w' := by
  have := isId_any n w; rwa [tb_t h] at this
theorem isId_f (n : Int) (w : World) (h : ¬ (1 ≤ n ∧ n ≤ 999)) :
    Calls Tryd.prog 38 #[.int .i64 n] w fun e w' => e = .returned (.bool false) ∧ w = w' := by
  have := isId_any n w; rwa [tb_f h] at this
set_option maxHeartbeats 400000 in
theorem l2Day_any (n : Int) (w : World) :
    Calls Tryd.prog 35 #[.int .i64 n] w fun e w' => e = .returned (.bool (tb (0 ≤ n ∧ n ≤ 4000))) ∧ w = w' := by
  go_enter Tryd.func35, Tryd.ntmps35
  go_wp2
  all_goals
    go_ret
    refine ⟨ret_bool ?_, rfl⟩
    first | exact (tb_t (by omega)).symm | exact (tb_f (by omega)).symm | exact tb_dec (by omega)
theorem l2Day_t (n : Int) (w : World) (h : 0 ≤ n ∧ n ≤ 4000) :
    Calls Tryd.prog 35 #[.int .i64 n] w fun e w' => e = .returned (.bool true) ∧ w = w' := by
  have := l2Day_any n w; rwa [tb_t h] at this
theorem l2Day_f (n : Int) (w : World) (h : ¬ (0 ≤ n ∧ n ≤ 4000)) :
    Calls Tryd.prog 35 #[.int .i64 n] w fun e w' => e = .returned (.bool false) ∧ w = w' := by
  have := l2Day_any n w; rwa [tb_f h] at this
set_option maxHeartbeats 400000 in
theorem l11Id_any (n : Int) (w : World) :
    Calls Tryd.prog 50 #[.int .i64 n] w fun e w' => e = .returned (.bool (tb (1 ≤ n ∧ n ≤ 999))) ∧ w = w' := by
  go_enter Tryd.func50, Tryd.ntmps50
  go_wp2
  all_goals
    go_ret
    refine ⟨ret_bool ?_, rfl⟩
    first | exact (tb_t (by omega)).symm | exact (tb_f (by omega)).symm | exact tb_dec (by omega)
theorem l11Id_t (n : Int) (w : World) (h : 1 ≤ n ∧ n ≤ 999) :
    Calls Tryd.prog 50 #[.int .i64 n] w fun e w' => e = .returned (.bool true) ∧ w = w' := by
  have := l11Id_any n w; rwa [tb_t h] at this
theorem l11Id_f (n : Int) (w : World) (h : ¬ (1 ≤ n ∧ n ≤ 999)) :
    Calls Tryd.prog 50 #[.int .i64 n] w fun e w' => e = .returned (.bool false) ∧ w = w' := by
  have := l11Id_any n w; rwa [tb_f h] at this
end Go.Proofs.YtnikeelpcokffaaDoor
