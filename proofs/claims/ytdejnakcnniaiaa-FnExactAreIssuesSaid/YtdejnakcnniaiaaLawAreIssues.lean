/- The program's AreIssues returns what the reference's returns, for all arguments. No condition. -/
import Derived.Test.YtdejnakcnniaiaaLaw
import Derived.Test.YtdejnakcnniaiaaOpen
import Derived.Test.YtdejnakcnniaiaaFamIssue
import Derived.Test.YtdejnakcnniaiaaIssuesOk
namespace Go.Proofs.Ytdejnakcnniaiaa
open Go.ChangeShapes Go.WideShapes Go.ChangeAt Go.RowKit
set_option linter.unusedVariables false
set_option linter.unusedSimpArgs false

set_option maxHeartbeats 400000 in
theorem specAreIssues_any (A : Option Addr) (c : Nat) (xs : List Issue) (w : World) (hn : xs.length ≤ 1152921504606846976) (hA : Fl Issue.ints 4 w A xs) :
    Calls Try.prog 18 #[.slice A xs.length c] w fun e w' => e = .returned (.bool (tb (Isss xs))) ∧ Below w.heap.size w w' := by
  go_enter Try.func18, Try.ntmps18
  go_wp2_with fail
  refine (l20Good_any A c xs _ hn hA).mono ?_
  rintro e w1 ⟨rfl, hb1⟩
  go_wp2
  go_ret
  exact ⟨rfl, hb1⟩

set_option maxHeartbeats 1000000 in
set_option maxRecDepth 100000 in
theorem fnAreIssues_any (A : Option Addr) (c : Nat) (xs : List Issue) (w : World) (hm : xs.length ≤ 9223372036854775807) (hA : Fl Issue.ints 4 w A xs) :
    Calls Try.prog 5 #[.slice A xs.length c] w fun e w' => e = .returned (.bool true) ∧ Below w.heap.size w w' := by
  by_cases hbig : (1048576 : Int) < (xs.length : Int)
  · go_enter Try.func5, Try.ntmps5
    go_wp2_with fail
    refine (szIssueS_no A xs.length c w 1048576 (by omega) (by omega) hm hbig).mono ?_
    rintro e w1 ⟨rfl, rfl⟩
    go_wp2
    go_ret
    exact ⟨rfl, Below.refl _ _⟩
  · have hn : xs.length ≤ 1048576 := by omega
    have hs0 : ¬ (1048576 : Int) - (xs.length : Int) < 0 := by omega
    go_enter Try.func5, Try.ntmps5
    go_wp2_with fail
    refine (szIssueS_ok A xs.length c w 1048576 (by omega) (by omega) hm (by omega)).mono ?_
    rintro e w1 ⟨rfl, rfl⟩
    go_wp2_with fail
    refine (toIssueS_any A c xs w hn hA).mono ?_
    rintro e w1 ⟨B1, rfl, hF1, hx1⟩
    go_wp2_with fail
    refine (specAreIssues_any _ _ xs w1 (by omega) hF1.fl).mono ?_
    rintro e w2 ⟨rfl, hx2⟩
    go_wp2_with fail
    refine (toIssueS_any A c xs w2 hn (hA.ext (ext_trans hx1 hx2))).mono ?_
    rintro e w3 ⟨B2, rfl, hF2, hx3⟩
    go_wp2_with fail
    refine (areIssues_any _ _ xs w3 (by omega) hF2.fl).mono ?_
    rintro e w4 ⟨rfl, hx4⟩
    have hx := ext_trans hx1 (ext_trans hx2 (ext_trans hx3 hx4))
    go_wp2_with fail
    refine (toIssueS_any A c xs _ hn (hA.ext hx)).mono ?_
    rintro e w5 ⟨B3, rfl, hF3, hx5⟩
    go_wp2_with fail
    refine (eqIssueS_same _ _ _ _ xs w5 (by omega) ((hF2.ext hx4).ext hx5).fl hF3.fl).mono ?_
    rintro e w6 ⟨rfl, hx6⟩
    go_wp2
    go_ret
    exact ⟨rfl, ext_trans hx (ext_trans hx5 hx6)⟩

set_option maxRecDepth 100000 in
theorem FnExactAreIssues_holds : Rows.FnExactAreIssuesSaid :=
  OpenClaim.holds_of_wide 5 Try.f5 rfl rfl rfl rfl rfl rfl rfl ⟨rfl, rfl, rfl, rfl, rfl⟩ rfl rfl rfl rfl rfl (by kernel_rfl) Try.func5 (by kernel_rfl)
    (of_decide_eq_true (by kernel_rfl)) (by unfold Func.isWrapper; first | (rw [if_pos (by decide +kernel)]; kernel_rfl) | (rw [if_neg (by decide +kernel)]; exact ⟨rfl, rfl⟩))
    (fun os started H enc _ => by
      refine law_lifted (s := Rows.fnExactAreIssuesSpec) (conds := []) os started H enc (by kernel_rfl) Try.func5 (by kernel_rfl) rfl rfl Try.underlying4
        (ChangeSpec.witness6 (enc := enc) (C := Try.checked) false ⟨#[], #[.slice none 0 0], []⟩ 8 (by kernel_rfl) (by kernel_rfl) (by kernel_rfl) (by kernel_rfl)) ?_
      intro W base args ds ps hval hA
      rw [Try.params5] at hA hval
      obtain ⟨v0, vs0, d0, ds0, p0, q0, hargs, rfl, rfl, h0, r0⟩ := trodAll_cons hA
      obtain ⟨rfl, rfl, rfl⟩ := trodAll_nil r0
      obtain rfl : args = #[v0] := by cases args; simp_all
      refine ⟨rfl, ?_⟩
      obtain ⟨A0, c0, xs0, rfl, hl0, hf0⟩ := open_flat (f := Issue.ints) Try.underlying35 Try.underlying23 (by kernel_rfl) (by kernel_rfl) rfl (by decide) (intfields_of (by kernel_rfl)) Issue.mk_ints (hval 0 35 v0 rfl rfl) h0
      exact fnAreIssues_any A0 c0 xs0 W hl0 hf0)
end Go.Proofs.Ytdejnakcnniaiaa
