/- The program's MostDeep returns what the reference's returns, for all arguments. No condition. -/
import Derived.Test.YtbmdhkdlhohjhaaLaw
import Derived.Test.YtbmdhkdlhohjhaaOpen
import Derived.Test.YtbmdhkdlhohjhaaLst
import Derived.Test.YtbmdhkdlhohjhaaFamZone
import Derived.Test.YtbmdhkdlhohjhaaDeepW
namespace Go.Proofs.Ytbmdhkdlhohjhaa
open Go.ChangeShapes Go.WideShapes Go.ChangeAt Go.RowKit
set_option linter.unusedVariables false
set_option linter.unusedSimpArgs false

set_option maxHeartbeats 4000000 in
set_option maxRecDepth 100000 in
theorem fnMostDeep_any (A0 : Option Addr) (c0 : Nat) (xs0 : List Zone) (w : World) (hm0 : xs0.length ≤ 9223372036854775807) (hA0 : Fl Zone.ints 5 w A0 xs0) :
    Calls Try.prog 6 #[.slice A0 xs0.length c0] w fun e w' => e = .returned (.bool true) ∧ Below w.heap.size w w' := by
  by_cases hbig0 : (1048576 : Int) < (xs0.length : Int)
  · skip
    have hsz0 := fun W => szZoneS_no A0 xs0.length c0 W (1048576) (by omega) (by omega) hm0 (by omega)
    have HZ0 := Lib.hid hsz0
    clear hsz0
    go_enter Try.func6, Try.ntmps6
    go_wp2_with fail
    refine (HZ0.out _).mono ?_
    rintro e w9 ⟨rfl, rfl⟩
    go_wp2
    go_ret
    exact ⟨rfl, Below.refl w.heap.size w⟩
  · have hn0 : xs0.length ≤ 1048576 := by omega
    have hs0 : ¬ (1048576 : Int) - (xs0.length : Int) < 0 := by omega
    have hA00 := hA0
    have hB := Below.refl w.heap.size w
    have hsz0 := fun W => szZoneS_ok A0 xs0.length c0 W (1048576) (by omega) (by omega) hm0 (by omega)
    have hspec := fun (A0 : Option Addr) (c0 : Nat) (W : World) (h0 : Fl Zone.ints 5 W A0 xs0) => specMostDeep_any A0 c0 xs0 W hn0 h0
    have himpl := fun (A0 : Option Addr) (c0 : Nat) (W : World) (h0 : Fl Zone.ints 5 W A0 xs0) => mostDeep_any A0 c0 xs0 W hn0 h0
    have hto0 := fun (W : World) (h : Fl Zone.ints 5 W A0 xs0) => toZoneS_any A0 c0 xs0 W hn0 h
    have heq0 := fun (B C : Option Addr) (c d : Nat) (W : World) (h1 : Fl Zone.ints 5 W B xs0) (h2 : Fl Zone.ints 5 W C xs0) => eqZoneS_same B C c d xs0 W (by omega) h1 h2
    have hl0 : xs0.length ≤ 9223372036854775807 := hm0
    generalize seli (MdOk xs0) (deepZ xs0).1 = ok0 at hspec himpl
    generalize seli (MdOk xs0) (deepZ xs0).2.1 = ok1 at hspec himpl
    generalize seli (MdOk xs0) (deepZ xs0).2.2 = ok2 at hspec himpl
    generalize tb (MdOk xs0) = ok3 at hspec himpl
    generalize hg0 : xs0.length = n0 at hspec himpl hsz0 hto0 heq0 hl0 hm0 hn0 hs0 ⊢
    clear hg0
    have HSPEC := Lib.hid hspec
    clear hspec
    have HIMPL := Lib.hid himpl
    clear himpl
    have HSZ0 := Lib.hid hsz0
    clear hsz0
    have HTO0 := Lib.hid hto0
    clear hto0
    have HEQ0 := Lib.hid heq0
    clear heq0
    go_enter Try.func6, Try.ntmps6
    go_wp2_with fail
    refine (HSZ0.out _).mono ?_
    rintro e w' ⟨rfl, rfl⟩
    go_wp2_with fail
    refine (HTO0.out w hA0).mono ?_
    rintro e w1 ⟨D1, rfl, fx1, hb1⟩
    have hB := ext_trans hB hb1
    have hz1 := hb1.size
    have hA0 := hA00.ext hB
    go_wp2_with fail
    refine (HSPEC.out _ _ w1 fx1.fl).mono ?_
    rintro e w2 ⟨rfl, hb2⟩
    have fx1 := fx1.ext hb2
    have hB := ext_trans hB hb2
    have hz2 := hb2.size
    have hA0 := hA00.ext hB
    go_wp2_with fail
    refine (HTO0.out w2 hA0).mono ?_
    rintro e w3 ⟨D3, rfl, fx3, hb3⟩
    have fx1 := fx1.ext hb3
    have hB := ext_trans hB hb3
    have hz3 := hb3.size
    have hA0 := hA00.ext hB
    go_wp2_with fail
    refine (HIMPL.out _ _ w3 fx3.fl).mono ?_
    rintro e w4 ⟨rfl, hb4⟩
    have fx1 := fx1.ext hb4
    have fx3 := fx3.ext hb4
    have hB := ext_trans hB hb4
    have hz4 := hb4.size
    have hA0 := hA00.ext hB
    go_wp2_with fail
    refine (HTO0.out w4 hA0).mono ?_
    rintro e w5 ⟨D5, rfl, fx5, hb5⟩
    have fx1 := fx1.ext hb5
    have fx3 := fx3.ext hb5
    have hB := ext_trans hB hb5
    have hz5 := hb5.size
    have hA0 := hA00.ext hB
    go_wp2_with fail
    refine (HEQ0.out _ _ _ _ w5 fx3.fl fx5.fl).mono ?_
    rintro e w6 ⟨rfl, hb6⟩
    have fx1 := fx1.ext hb6
    have fx3 := fx3.ext hb6
    have fx5 := fx5.ext hb6
    have hB := ext_trans hB hb6
    have hz6 := hb6.size
    have hA0 := hA00.ext hB
    go_wp2
    go_ret
    exact ⟨rfl, hB⟩

set_option maxRecDepth 100000 in
theorem FnExactMostDeep_holds : Rows.FnExactMostDeepSaid :=
  OpenClaim.holds_of_wide 6 Try.f6 rfl rfl rfl rfl rfl rfl rfl ⟨rfl, rfl, rfl, rfl, rfl⟩ rfl rfl rfl rfl rfl (by kernel_rfl) Try.func6 (by kernel_rfl)
    (of_decide_eq_true (by kernel_rfl)) (by unfold Func.isWrapper; first | (rw [if_pos (by decide +kernel)]; kernel_rfl) | (rw [if_neg (by decide +kernel)]; exact ⟨rfl, rfl⟩))
    (fun os started H enc _ => by
      refine law_lifted (s := Rows.fnExactMostDeepSpec) (conds := []) os started H enc (by kernel_rfl) Try.func6 (by kernel_rfl) rfl rfl Try.underlying4
        (ChangeSpec.witness6 (enc := enc) (C := Try.checked) false ⟨#[], #[.slice none 0 0], []⟩ 8 (by kernel_rfl) (by kernel_rfl) (by kernel_rfl) (by kernel_rfl)) ?_
      intro W base args ds ps hval hA
      rw [Try.params6] at hA hval
      obtain ⟨v0, vs0, d0, ds0, p0, q0, hargs, rfl, rfl, h0, r0⟩ := trodAll_cons hA
      obtain ⟨rfl, rfl, rfl⟩ := trodAll_nil r0
      obtain rfl : args = #[v0] := by cases args; simp_all
      refine ⟨rfl, ?_⟩
      obtain ⟨A0, c0, xs0, rfl, hl0, hf0⟩ := open_flat (f := Zone.ints) Try.underlying43 (by kernel_rfl) (by decide) (intElem_struct Try.underlying89 (by kernel_rfl) rfl (intfields_of (by kernel_rfl))) Zone.mk_ints (hval 0 43 v0 rfl rfl) h0
      exact fnMostDeep_any A0 c0 xs0 W hl0 hf0)
end Go.Proofs.Ytbmdhkdlhohjhaa
