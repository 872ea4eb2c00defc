/- Legs: the unit step. -/
import Derived.Test.YtlagfeccdcjimaaDoorLegW
namespace Go.Proofs.YtlagfeccdcjimaaDoor
open Go.RowKit
set_option linter.unusedVariables false
set_option linter.unusedSimpArgs false

set_option maxHeartbeats 4000000 in
theorem unit_any (x : Leg) (h : IsLeg x) (w : World) :
    Calls Tryd.prog 45 #[.agg #[.int .i64 x.way, .int .i64 x.units, .int .i64 x.climb]] w fun e w' => e = .returned (.tuple #[.int .i64 (stepE x.way), .int .i64 (stepN x.way)]) ∧ Below w.heap.size w w' := by
  obtain ⟨wy, u, cl⟩ := x
  unfold IsLeg at h
  simp only at h ⊢
  obtain ⟨⟨p1, p2⟩, ⟨p3, p4⟩, ⟨p5, p6⟩⟩ := h
  have hw : wy = 0 ∨ wy = 1 ∨ wy = 2 ∨ wy = 3 ∨ wy = 4 ∨ wy = 5 ∨ wy = 6 ∨ wy = 7 := by omega
  obtain ⟨V0, hV0, hC0, hy0, hv, _⟩ := box_world w #[Value.int .i64 wy, .int .i64 u, .int .i64 cl] 52
  obtain ⟨V1, hV1, hC1, hy1, hu, _⟩ := box_world V0 #[Value.int .i64 0, .int .i64 1, .int .i64 1, .int .i64 1, .int .i64 1, .int .i64 0, .int .i64 1, .int .i64 (-1), .int .i64 0, .int .i64 (-1), .int .i64 (-1), .int .i64 (-1), .int .i64 (-1), .int .i64 0, .int .i64 (-1), .int .i64 1] 81
  have v0 : World.cell? V1 ⟨w.heap.size, 0, none⟩ = some (.int .i64 wy) := (hC1.cell (p := ⟨w.heap.size, 0, none⟩) hy0).trans (hv 0)
  have r0 : World.cell? V1 ⟨V0.heap.size, 0, none⟩ = some (.int .i64 0) := hu 0
  have r1 : World.cell? V1 ⟨V0.heap.size, 1, none⟩ = some (.int .i64 1) := hu 1
  have r2 : World.cell? V1 ⟨V0.heap.size, 2, none⟩ = some (.int .i64 1) := hu 2
  have r3 : World.cell? V1 ⟨V0.heap.size, 3, none⟩ = some (.int .i64 1) := hu 3
  have r4 : World.cell? V1 ⟨V0.heap.size, 4, none⟩ = some (.int .i64 1) := hu 4
  have r5 : World.cell? V1 ⟨V0.heap.size, 5, none⟩ = some (.int .i64 0) := hu 5
  have r6 : World.cell? V1 ⟨V0.heap.size, 6, none⟩ = some (.int .i64 1) := hu 6
  have r7 : World.cell? V1 ⟨V0.heap.size, 7, none⟩ = some (.int .i64 (-1)) := hu 7
  have r8 : World.cell? V1 ⟨V0.heap.size, 8, none⟩ = some (.int .i64 0) := hu 8
  have r9 : World.cell? V1 ⟨V0.heap.size, 9, none⟩ = some (.int .i64 (-1)) := hu 9
  have r10 : World.cell? V1 ⟨V0.heap.size, 10, none⟩ = some (.int .i64 (-1)) := hu 10
  have r11 : World.cell? V1 ⟨V0.heap.size, 11, none⟩ = some (.int .i64 (-1)) := hu 11
  have r12 : World.cell? V1 ⟨V0.heap.size, 12, none⟩ = some (.int .i64 (-1)) := hu 12
  have r13 : World.cell? V1 ⟨V0.heap.size, 13, none⟩ = some (.int .i64 0) := hu 13
  have r14 : World.cell? V1 ⟨V0.heap.size, 14, none⟩ = some (.int .i64 (-1)) := hu 14
  have r15 : World.cell? V1 ⟨V0.heap.size, 15, none⟩ = some (.int .i64 1) := hu 15
  have hpc := plus_cell V1
  have hzz : w.heap.size < V1.heap.size := Nat.lt_of_lt_of_le hy0 hC1.size
  have hbW := ext_trans hC0 hC1
  clear hv hu
  rcases hw with rfl | rfl | rfl | rfl | rfl | rfl | rfl | rfl
  all_goals
    go_enter Tryd.func45, Tryd.ntmps45
    go_wp2_with fail
    refine wp_region_grow (by kernel_rfl) (by kernel_rfl) ?_
    repeat (go_big_quiet_step ((first | fail)))
    refine wpQuiet_nil ?_
    intro w1 hb1
    go_wp2
    go_ret2
    exact ⟨rfl, ext_trans hbW hb1⟩
end Go.Proofs.YtlagfeccdcjimaaDoor
