/- Legs: the parts of a minute, the steepness. -/
import Derived.Test.YtlagfeccdcjimaaDoorLegW
namespace Go.Proofs.YtlagfeccdcjimaaDoor
open Go.RowKit
set_option linter.unusedVariables false
set_option linter.unusedSimpArgs false

set_option maxHeartbeats 1000000 in
theorem l15Parts_any (x : Leg) (h : IsLeg x) (w : World) :
    Calls Tryd.prog 39 #[.agg #[.int .i64 x.way, .int .i64 x.units, .int .i64 x.climb]] w fun e w' => e = .returned (.int .i64 (partsL x)) ∧ Below w.heap.size w w' := by
  obtain ⟨V0, hV0, hC0, hy0, hv, _⟩ := box_world w #[Value.int .i64 x.way, .int .i64 x.units, .int .i64 x.climb] 52
  have v0 : World.cell? V0 ⟨(World.heap w).size, 0, none⟩ = some (.int .i64 x.way) := hv 0
  have v1 : World.cell? V0 ⟨(World.heap w).size, 1, none⟩ = some (.int .i64 x.units) := hv 1
  have v2 : World.cell? V0 ⟨(World.heap w).size, 2, none⟩ = some (.int .i64 x.climb) := hv 2
  clear hv
  have hwk := fun W => l15Walk_any x h W
  have hbw := walkL_bd h
  have hm1 := fun W => l1Most_any 0 x.climb W
  obtain ⟨D, hD⟩ : ∃ D, -100 - x.climb = D := ⟨_, rfl⟩
  have hm2 := fun W => l1Most_any 0 D W
  simp only [mxI_pos] at hm1 hm2
  have hP : partsL x = 18 * walkL x + 15 * posI x.climb + 5 * posI (-100 - x.climb) := rfl
  rw [hP, hD]
  unfold IsLeg at h
  obtain ⟨⟨p1, p2⟩, ⟨p3, p4⟩, ⟨p5, p6⟩⟩ := h
  have hb1 := posI_bd (n := x.climb) (m := 999) (by omega) (by omega)
  have hb2 := posI_bd (n := D) (m := 999) (by omega) (by omega)
  generalize walkL x = WK at hwk hbw ⊢
  generalize posI x.climb = M1 at hm1 hb1 ⊢
  generalize posI D = M2 at hm2 hb2 ⊢
  have q1 : IntKind.i64.wrap (18 * WK) = 18 * WK := IntWalk.i64_in _ (by omega)
  have q2 : IntKind.i64.wrap (15 * M1) = 15 * M1 := IntWalk.i64_in _ (by omega)
  have q3 : IntKind.i64.wrap (18 * WK + 15 * M1) = 18 * WK + 15 * M1 := IntWalk.i64_in _ (by omega)
  have q4 : IntKind.i64.wrap (-100 - x.climb) = D := by rw [IntWalk.i64_in _ (by omega)]; exact hD
  have q5 : IntKind.i64.wrap (5 * M2) = 5 * M2 := IntWalk.i64_in _ (by omega)
  have q6 : IntKind.i64.wrap (18 * WK + 15 * M1 + 5 * M2) = 18 * WK + 15 * M1 + 5 * M2 := IntWalk.i64_in _ (by omega)
  have HWK := Lib.hid hwk
  have HM1 := Lib.hid hm1
  have HM2 := Lib.hid hm2
  have hpc := plus_cell V0
  clear hwk hm1 hm2 hb1 hb2 hP
  go_enter Tryd.func39, Tryd.ntmps39
  go_wp2_with fail
  refine wp_region_grow (by kernel_rfl) (by kernel_rfl) ?_
  repeat (go_big_quiet_step ((first | (go_at_call 54; exact quiet_below (HWK.out _)) | (go_at_call 55; first | (with_reducible exact quiet_same (HM1.out _)) | (with_reducible exact quiet_same (HM2.out _)) | exact quiet_same (HM2.out _)))))
  refine wpQuiet_nil ?_
  intro w1 hb1
  go_wp2
  go_ret
  exact ⟨rfl, ext_trans hC0 hb1⟩
end Go.Proofs.YtlagfeccdcjimaaDoor
