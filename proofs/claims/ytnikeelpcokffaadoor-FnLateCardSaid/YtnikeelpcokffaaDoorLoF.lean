/- Loans: whether one is open, and its fine. No condition. -/
import Derived.Test.YtnikeelpcokffaaDoorLoanD
import Derived.Test.YtnikeelpcokffaaDoorMxMn
import Derived.IntWalk
namespace Go.Proofs.YtnikeelpcokffaaDoor
open Go.RowKit
set_option linter.unusedVariables false
set_option linter.unusedSimpArgs false

def fineV (day : Int) (x : Loan) : Int := min 1000 (10 * max 0 ((if x.back = -1 then day else min day x.back) - x.due))
set_option maxHeartbeats 400000 in
theorem isOpen_any (x : Loan) (day : Int) (w : World) (hx : IsLo x) :
    Calls Tryd.prog 39 #[.agg #[.int .i64 x.sheet, .int .i64 x.reader, .int .i64 x.out, .int .i64 x.due, .int .i64 x.back], .int .i64 day] w fun e w' => e = .returned (.bool (tb (OpenL day x))) ∧ Below w.heap.size w w' := by
  have h := hx
  unfold IsLo at h
  obtain ⟨_, _, h3, h4, h5, h6⟩ := h
  clear hx
  go_enter Tryd.func39, Tryd.ntmps39
  go_wp2
  all_goals
    go_ret
    refine ⟨ret_bool ?_, by go_grown⟩
    first | exact (tb_t (by unfold OpenL; omega)).symm | exact (tb_f (by unfold OpenL; omega)).symm | exact eq_tb (by simp only [beq_iff_eq, decide_eq_true_eq, Bool.or_eq_true, Bool.and_eq_true]; unfold OpenL; omega)
set_option maxHeartbeats 400000 in
theorem fine_any (x : Loan) (day : Int) (w : World) (hx : IsLo x) (hd : 0 ≤ day ∧ day ≤ 4000) :
    Calls Tryd.prog 48 #[.agg #[.int .i64 x.sheet, .int .i64 x.reader, .int .i64 x.out, .int .i64 x.due, .int .i64 x.back], .int .i64 day] w fun e w' => e = .returned (.int .i64 (fineV day x)) ∧ Below w.heap.size w w' := by
  have h := hx
  unfold IsLo at h
  obtain ⟨_, _, h3, h4, h5, h6⟩ := h
  clear hx
  by_cases hb : x.back = -1
  · have hbe : (x.back != -1) = false := by simp [hb]
    have hw1 : IntKind.i64.wrap (day - x.due) = day - x.due := IntWalk.i64_in _ (by omega)
    have hw2 : IntKind.i64.wrap (10 * max 0 (day - x.due)) = 10 * max 0 (day - x.due) := IntWalk.i64_in _ (by omega)
    have HV := Lib.hid (show fineV day x = min 1000 (10 * max 0 (day - x.due)) from by unfold fineV; rw [if_pos hb])
    clear h6 hb
    go_enter Tryd.func48, Tryd.ntmps48
    go_wp2
    go_ret
    exact ⟨by rw [HV.out]; rfl, by go_grown⟩
  · have hbe : (x.back != -1) = true := by simp [hb]
    have hw1 : IntKind.i64.wrap (min day x.back - x.due) = min day x.back - x.due := IntWalk.i64_in _ (by omega)
    have hw2 : IntKind.i64.wrap (10 * max 0 (min day x.back - x.due)) = 10 * max 0 (min day x.back - x.due) := IntWalk.i64_in _ (by omega)
    have HV := Lib.hid (show fineV day x = min 1000 (10 * max 0 (min day x.back - x.due)) from by unfold fineV; rw [if_neg hb])
    clear h6 hb
    go_enter Tryd.func48, Tryd.ntmps48
    go_wp2
    go_ret
    exact ⟨by rw [HV.out]; rfl, by go_grown⟩
end Go.Proofs.YtnikeelpcokffaaDoor
