/- Loans: whether one is open, and its fine. No condition. -/
import Derived.Test.YtpmhbkfcddbenaaLoanD
import Derived.Test.YtpmhbkfcddbenaaMxMn
import Derived.IntWalk
namespace Go.Proofs.Ytpmhbkfcddbenaa
open Go.RowKit
set_option linter.unusedVariables false
set_option linter.unusedSimpArgs false

def fineV (day : Int) (x : Loan) : Int := min 1000 (10 * max 0 ((if x.back = -1 then day else min day x.back) - x.due))
set_option maxHeartbeats 400000 in
theorem isOpen_any (x : Loan) (day : Int) (w : World) (hx : IsLo x) :
    Calls Try.prog 34 #[.agg #[.int .i64 x.sheet, .int .i64 x.reader, .int .i64 x.out, .int .i64 x.due, .int .i64 x.back], .int .i64 day] w fun e w' => e = .returned (.bool (tb (OpenL day x))) ∧ Below w.heap.size w w' := by
  have h := hx
  unfold IsLo at h
  obtain ⟨_, _, h3, h4, h5, h6⟩ := h
  clear hx
  go_enter Try.func34, Try.ntmps34
  go_wp2
  all_goals
    go_ret
    refine ⟨ret_bool ?_, by go_grown⟩
    first | exact (tb_t (by unfold OpenL; omega)).symm | exact (tb_f (by unfold OpenL; omega)).symm | exact eq_tb (by simp only [beq_iff_eq, decide_eq_true_eq, Bool.or_eq_true, Bool.and_eq_true]; unfold OpenL; omega)
set_option maxHeartbeats 400000 in
theorem fine_any (x : Loan) (day : Int) (w : World) (hx : IsLo x) (hd : 0 ≤ day ∧ day ≤ 4000) :
    Calls Try.prog 38 #[.agg #[.int .i64 x.sheet, .int .i64 x.reader, .int .i64 x.out, .int .i64 x.due, .int .i64 x.back], .int .i64 day] w fun e w' => e = .returned (.int .i64 (fineV day x)) ∧ Below w.heap.size w w' := by
  have h := hx
  unfold IsLo at h
  obtain ⟨_, _, h3, h4, h5, h6⟩ := h
  clear hx
  by_cases hb : x.back = -1
  · have hbe : (x.back != -1) = false := by simp [hb]
    have hw1 : IntKind.i64.wrap (day - x.due) = day - x.due := IntWalk.i64_in _ (by omega)
    have hw2 : IntKind.i64.wrap (10 * max 0 (day - x.due)) = 10 * max 0 (day - x.due) := IntWalk.i64_in _ (by omega)
    have HV := Lib.hid (show fineV day x = min 1000 (10 * max 0 (day - x.due)) from by unfold fineV; rw [if_pos hb])
    clear h6 hb
    go_enter Try.func38, Try.ntmps38
    go_wp2
    go_ret
    exact ⟨by rw [HV.out]; rfl, by go_grown⟩
  · have hbe : (x.back != -1) = true := by simp [hb]
    have hw1 : IntKind.i64.wrap (min day x.back - x.due) = min day x.back - x.due := IntWalk.i64_in _ (by omega)
    have hw2 : IntKind.i64.wrap (10 * max 0 (min day x.back - x.due)) = 10 * max 0 (min day x.back - x.due) := IntWalk.i64_in _ (by omega)
    have HV := Lib.hid (show fineV day x = min 1000 (10 * max 0 (min day x.back - x.due)) from by unfold fineV; rw [if_neg hb])
    clear h6 hb
    go_enter Try.func38, Try.ntmps38
    go_wp2
    go_ret
    exact ⟨by rw [HV.out]; rfl, by go_grown⟩
theorem l11Cap_any (a : Int) (w : World) :
    Calls Try.prog 53 #[.int .i64 a] w fun e w' => e = .returned (.int .i64 (min 1000 a)) ∧ w = w' := by
  go_enter Try.func53, Try.ntmps53
  go_wp2_with fail
  ((with_reducible refine (l1Mn_any _ _ _).mono ?_); rintro e w1 ⟨rfl, rfl⟩)
  go_wp2
  go_ret
  exact ⟨rfl, rfl⟩
set_option maxHeartbeats 400000 in
theorem l11Fine_any (x : Loan) (day : Int) (w : World) (hx : IsLo x) (hd : 0 ≤ day ∧ day ≤ 4000) :
    Calls Try.prog 40 #[.agg #[.int .i64 x.sheet, .int .i64 x.reader, .int .i64 x.out, .int .i64 x.due, .int .i64 x.back], .int .i64 day] w fun e w' => e = .returned (.int .i64 (fineV day x)) ∧ Below w.heap.size w w' := by
  have h := hx
  unfold IsLo at h
  obtain ⟨_, _, h3, h4, h5, h6⟩ := h
  clear hx
  obtain ⟨V0, hV0, hC0, hy0, hv, _⟩ := box_world w #[Value.int .i64 x.sheet, .int .i64 x.reader, .int .i64 x.out, .int .i64 x.due, .int .i64 x.back] 50
  have v3 : World.cell? V0 ⟨w.heap.size, 3, none⟩ = some (.int .i64 x.due) := hv 3
  have v4 : World.cell? V0 ⟨w.heap.size, 4, none⟩ = some (.int .i64 x.back) := hv 4
  clear hv
  by_cases hb : x.back < 0
  · have hb1 : x.back = -1 := by omega
    have hbg : ¬ 0 ≤ x.back := by omega
    have hw1 : IntKind.i64.wrap (day - x.due) = day - x.due := IntWalk.i64_in _ (by omega)
    have hw2 : IntKind.i64.wrap (10 * max 0 (day - x.due)) = 10 * max 0 (day - x.due) := IntWalk.i64_in _ (by omega)
    have HV := Lib.hid (show fineV day x = min 1000 (10 * max 0 (day - x.due)) from by unfold fineV; rw [if_pos hb1])
    clear h6 hb hb1
    go_enter Try.func40, Try.ntmps40
    go_wp2_with fail
    clear hV0
    ((with_reducible refine (l1Mx_any _ _ _).mono ?_); rintro e w1 ⟨rfl, rfl⟩)
    go_wp2_with fail
    ((with_reducible refine (l11Cap_any _ _).mono ?_); rintro e w1 ⟨rfl, rfl⟩)
    go_wp2
    go_ret
    exact ⟨by rw [HV.out]; rfl, hC0⟩
  · have hb1 : x.back ≠ -1 := by omega
    have hbg : 0 ≤ x.back := by omega
    have hw1 : IntKind.i64.wrap (min day x.back - x.due) = min day x.back - x.due := IntWalk.i64_in _ (by omega)
    have hw2 : IntKind.i64.wrap (10 * max 0 (min day x.back - x.due)) = 10 * max 0 (min day x.back - x.due) := IntWalk.i64_in _ (by omega)
    have HV := Lib.hid (show fineV day x = min 1000 (10 * max 0 (min day x.back - x.due)) from by unfold fineV; rw [if_neg hb1])
    clear h6 hb hb1
    go_enter Try.func40, Try.ntmps40
    go_wp2_with fail
    clear hV0
    ((with_reducible refine (l1Mn_any _ _ _).mono ?_); rintro e w1 ⟨rfl, rfl⟩)
    go_wp2_with fail
    ((with_reducible refine (l1Mx_any _ _ _).mono ?_); rintro e w1 ⟨rfl, rfl⟩)
    go_wp2_with fail
    ((with_reducible refine (l11Cap_any _ _).mono ?_); rintro e w1 ⟨rfl, rfl⟩)
    go_wp2
    go_ret
    exact ⟨by rw [HV.out]; rfl, hC0⟩
end Go.Proofs.Ytpmhbkfcddbenaa
