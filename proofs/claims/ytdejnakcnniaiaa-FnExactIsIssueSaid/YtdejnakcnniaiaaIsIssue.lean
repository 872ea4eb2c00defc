/- The program's IsIssue returns what the reference's returns, for all arguments. No condition. -/
import Derived.Test.YtdejnakcnniaiaaLaw
import Derived.Lib.SmallJoins
namespace Go.Proofs.Ytdejnakcnniaiaa
open Go.ChangeShapes Go.WideShapes Go.ChangeAt Go.RowKit Go.Joins

def issueB (s n f u : Int) : Bool := decide (1 ≤ s ∧ s ≤ 999 ∧ 1 ≤ n ∧ n ≤ 99 ∧ 0 ≤ f ∧ f ≤ u ∧ u ≤ 4000)

set_option maxHeartbeats 400000 in
theorem isIssue_any (s n f u : Int) (w : World) :
    Calls Try.prog 11 #[.agg #[.int .i64 s, .int .i64 n, .int .i64 f, .int .i64 u]] w fun e w' => e = .returned (.bool (issueB s n f u)) ∧ Below w.heap.size w w' := by
  go_enter Try.func11, Try.ntmps11
  go_wp2
  all_goals
    go_ret
    refine ⟨ret_bool ?_, by go_grown⟩
    first | exact bt (by omega) | exact bf (by omega) | (simp only [decide_eq_decide, issueB]; omega)

set_option maxHeartbeats 400000 in
theorem specIsIssue_any (s n f u : Int) (w : World) :
    Calls Try.prog 9 #[.agg #[.int .i64 s, .int .i64 n, .int .i64 f, .int .i64 u]] w fun e w' => e = .returned (.bool (issueB s n f u)) ∧ Below w.heap.size w w' := by
  go_enter Try.func9, Try.ntmps9
  go_wp2
  all_goals
    go_ret
    refine ⟨ret_bool ?_, by go_grown⟩
    first | exact bt (by omega) | exact bf (by omega) | (simp only [decide_eq_decide, issueB]; omega)

set_option maxHeartbeats 400000 in
theorem toIssue_any (s n f u : Int) (w : World) :
    Calls Try.prog 10 #[.agg #[.int .i64 s, .int .i64 n, .int .i64 f, .int .i64 u]] w fun e w' => e = .returned (.agg #[.int .i64 s, .int .i64 n, .int .i64 f, .int .i64 u]) ∧ Below w.heap.size w w' := by
  go_enter Try.func10, Try.ntmps10
  go_wp2
  refine bodyPost_ret (v := .agg #[.int .i64 s, .int .i64 n, .int .i64 f, .int .i64 u]) (by simp [results, Try.results10, go_sem]) rfl ⟨rfl, by go_grown⟩

set_option maxHeartbeats 400000 in
theorem fnIsIssue_any (s n f u : Int) (w : World) :
    Calls Try.prog 3 #[.agg #[.int .i64 s, .int .i64 n, .int .i64 f, .int .i64 u]] w fun e w' => e = .returned (.bool true) ∧ Below w.heap.size w w' := by
  go_enter Try.func3, Try.ntmps3
  go_wp2_with fail
  refine (toIssue_any _ _ _ _ _).mono ?_
  rintro e w1 ⟨rfl, hb1⟩
  obtain ⟨hc1, _⟩ := bcell hb1
  have hz1 : w.heap.size < w1.heap.size := by have := hb1.size; simp at this; omega
  go_wp2_with fail
  refine (specIsIssue_any _ _ _ _ _).mono ?_
  rintro e w2 ⟨rfl, hb2⟩
  obtain ⟨hc2, _⟩ := bcell hb2
  go_wp2_with fail
  refine (toIssue_any _ _ _ _ _).mono ?_
  rintro e w3 ⟨rfl, hb3⟩
  go_wp2_with fail
  refine (isIssue_any _ _ _ _ _).mono ?_
  rintro e w4 ⟨rfl, hb4⟩
  go_wp2
  go_ret
  refine ⟨rfl, ?_⟩
  have h1 := (Below.alloc (Below.refl w.heap.size w) (Nat.le_refl _) _).trans (hb1.mono (by simp))
  have h2 := h1.trans (hb2.mono h1.size)
  have h3 := h2.trans (hb3.mono h2.size)
  exact h3.trans (hb4.mono h3.size)

set_option maxRecDepth 100000 in
theorem fnExactIsIssue_holds : Rows.FnExactIsIssueSaid :=
  OpenClaim.holds_of_wide 3 Try.f3 rfl rfl rfl rfl rfl rfl rfl ⟨rfl, rfl, rfl, rfl, rfl⟩ rfl rfl rfl rfl rfl (by kernel_rfl) Try.func3 (by kernel_rfl)
    (of_decide_eq_true (by kernel_rfl)) (by unfold Func.isWrapper; first | (rw [if_pos (by decide +kernel)]; kernel_rfl) | (rw [if_neg (by decide +kernel)]; exact ⟨rfl, rfl⟩))
    (fun os started H enc _ => by
      refine law_lifted (s := Rows.fnExactIsIssueSpec) (conds := []) os started H enc (by kernel_rfl) Try.func3 (by kernel_rfl) rfl rfl Try.underlying4
        (ChangeSpec.witness6 (enc := enc) (C := Try.checked) false ⟨#[], #[.agg #[.int .i64 0, .int .i64 0, .int .i64 0, .int .i64 0]], []⟩ 8 (by kernel_rfl) (by kernel_rfl) (by kernel_rfl) (by kernel_rfl)) ?_
      intro W base args ds ps hval hA
      rw [Try.params3] at hA hval
      obtain ⟨v0, vs0, d0, ds0, p0, q0, hargs, rfl, rfl, h0, r0⟩ := trodAll_cons hA
      obtain ⟨rfl, rfl, rfl⟩ := trodAll_nil r0
      obtain rfl : args = #[v0] := by cases args; simp_all
      refine ⟨rfl, ?_⟩
      obtain ⟨c0, c1, c2, c3, y0, y1, y2, y3, m, rfl, rfl, rfl, hy0, hy1, hy2, hy3⟩ := open_agg4 Try.underlying23 (by kernel_rfl) (by kernel_rfl) (hval 0 23 v0 rfl rfl) h0
      obtain ⟨a0, e0, _, _⟩ := DataW.trod_int Try.underlying3 hy0
      obtain ⟨a1, e1, _, _⟩ := DataW.trod_int Try.underlying3 hy1
      obtain ⟨a2, e2, _, _⟩ := DataW.trod_int Try.underlying3 hy2
      obtain ⟨a3, e3, _, _⟩ := DataW.trod_int Try.underlying3 hy3
      simp at e0 e1 e2 e3
      subst e0 e1 e2 e3
      exact fnIsIssue_any _ _ _ _ _)
end Go.Proofs.Ytdejnakcnniaiaa
