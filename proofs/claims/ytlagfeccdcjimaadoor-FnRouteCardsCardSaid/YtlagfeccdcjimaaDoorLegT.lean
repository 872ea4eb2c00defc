/- Legs: the reference's unit step. -/
import Derived.Test.YtlagfeccdcjimaaDoorLegW
namespace Go.Proofs.YtlagfeccdcjimaaDoor
open Go.RowKit
set_option linter.unusedVariables false
set_option linter.unusedSimpArgs false

set_option maxHeartbeats 1000000 in
theorem l15Step0 (w : World) :
    Calls Tryd.prog 46 #[.int .i64 0] w fun e w' => e = .returned (.tuple #[.int .i64 (stepE 0), .int .i64 (stepN 0)]) ∧ Below w.heap.size w w' := by
  go_enter Tryd.func46, Tryd.ntmps46
  go_wp2_with fail
  go_region_with (fail)
  all_goals
    go_wp2
    go_ret2
    exact ⟨rfl, by go_grown⟩
set_option maxHeartbeats 1000000 in
theorem l15Step1 (w : World) :
    Calls Tryd.prog 46 #[.int .i64 1] w fun e w' => e = .returned (.tuple #[.int .i64 (stepE 1), .int .i64 (stepN 1)]) ∧ Below w.heap.size w w' := by
  go_enter Tryd.func46, Tryd.ntmps46
  go_wp2_with fail
  go_region_with (fail)
  all_goals
    go_wp2
    go_ret2
    exact ⟨rfl, by go_grown⟩
set_option maxHeartbeats 1000000 in
theorem l15Step2 (w : World) :
    Calls Tryd.prog 46 #[.int .i64 2] w fun e w' => e = .returned (.tuple #[.int .i64 (stepE 2), .int .i64 (stepN 2)]) ∧ Below w.heap.size w w' := by
  go_enter Tryd.func46, Tryd.ntmps46
  go_wp2_with fail
  go_region_with (fail)
  all_goals
    go_wp2
    go_ret2
    exact ⟨rfl, by go_grown⟩
set_option maxHeartbeats 1000000 in
theorem l15Step3 (w : World) :
    Calls Tryd.prog 46 #[.int .i64 3] w fun e w' => e = .returned (.tuple #[.int .i64 (stepE 3), .int .i64 (stepN 3)]) ∧ Below w.heap.size w w' := by
  go_enter Tryd.func46, Tryd.ntmps46
  go_wp2_with fail
  go_region_with (fail)
  all_goals
    go_wp2
    go_ret2
    exact ⟨rfl, by go_grown⟩
set_option maxHeartbeats 1000000 in
theorem l15Step4 (w : World) :
    Calls Tryd.prog 46 #[.int .i64 4] w fun e w' => e = .returned (.tuple #[.int .i64 (stepE 4), .int .i64 (stepN 4)]) ∧ Below w.heap.size w w' := by
  go_enter Tryd.func46, Tryd.ntmps46
  go_wp2_with fail
  go_region_with (fail)
  all_goals
    go_wp2
    go_ret2
    exact ⟨rfl, by go_grown⟩
set_option maxHeartbeats 1000000 in
theorem l15Step5 (w : World) :
    Calls Tryd.prog 46 #[.int .i64 5] w fun e w' => e = .returned (.tuple #[.int .i64 (stepE 5), .int .i64 (stepN 5)]) ∧ Below w.heap.size w w' := by
  go_enter Tryd.func46, Tryd.ntmps46
  go_wp2_with fail
  go_region_with (fail)
  all_goals
    go_wp2
    go_ret2
    exact ⟨rfl, by go_grown⟩
set_option maxHeartbeats 1000000 in
theorem l15Step6 (w : World) :
    Calls Tryd.prog 46 #[.int .i64 6] w fun e w' => e = .returned (.tuple #[.int .i64 (stepE 6), .int .i64 (stepN 6)]) ∧ Below w.heap.size w w' := by
  go_enter Tryd.func46, Tryd.ntmps46
  go_wp2_with fail
  go_region_with (fail)
  all_goals
    go_wp2
    go_ret2
    exact ⟨rfl, by go_grown⟩
set_option maxHeartbeats 1000000 in
theorem l15Step7 (w : World) :
    Calls Tryd.prog 46 #[.int .i64 7] w fun e w' => e = .returned (.tuple #[.int .i64 (stepE 7), .int .i64 (stepN 7)]) ∧ Below w.heap.size w w' := by
  go_enter Tryd.func46, Tryd.ntmps46
  go_wp2_with fail
  go_region_with (fail)
  all_goals
    go_wp2
    go_ret2
    exact ⟨rfl, by go_grown⟩
theorem l15Step_any (way : Int) (h : 0 ≤ way ∧ way ≤ 7) (w : World) :
    Calls Tryd.prog 46 #[.int .i64 way] w fun e w' => e = .returned (.tuple #[.int .i64 (stepE way), .int .i64 (stepN way)]) ∧ Below w.heap.size w w' := by
  have hw : way = 0 ∨ way = 1 ∨ way = 2 ∨ way = 3 ∨ way = 4 ∨ way = 5 ∨ way = 6 ∨ way = 7 := by omega
  rcases hw with rfl | rfl | rfl | rfl | rfl | rfl | rfl | rfl
  · exact l15Step0 w
  · exact l15Step1 w
  · exact l15Step2 w
  · exact l15Step3 w
  · exact l15Step4 w
  · exact l15Step5 w
  · exact l15Step6 w
  · exact l15Step7 w
end Go.Proofs.YtlagfeccdcjimaaDoor
