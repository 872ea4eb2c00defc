/- The program's RestlessPlace returns what the reference's returns, for all arguments. No condition. -/
import Derived.Test.YtaojamioongahaaLaw
import Derived.Test.YtaojamioongahaaOpen
import Derived.Test.YtaojamioongahaaLst
import Derived.Test.YtaojamioongahaaNest
import Derived.Test.YtaojamioongahaaNestOpen
import Derived.Test.YtaojamioongahaaFamEdition
import Derived.Test.YtaojamioongahaaRestW
namespace Go.Proofs.Ytaojamioongahaa
open Go.ChangeShapes Go.WideShapes Go.ChangeAt Go.RowKit
set_option linter.unusedVariables false
set_option linter.unusedSimpArgs false

set_option maxHeartbeats 4000000 in
set_option maxRecDepth 100000 in
theorem fnRestlessPlace_any (A0 : Option Addr) (c0 : Nat) (xs0 : List Nest) (sheet : Int) (w : World) (hm0 : xs0.length ≤ 9223372036854775807) (hmi0 : ∀ x ∈ xs0, x.l.length ≤ 9223372036854775807) (hA0 : Nl w A0 xs0) :
    Calls Try.prog 6 #[.slice A0 xs0.length c0, .int .i64 sheet] w fun e w' => e = .returned (.bool true) ∧ Below w.heap.size w w' := by
  by_cases hbig0 : (1048576 : Int) < (wt xs0 : Int)
  · skip
    have hsz0 := fun W hW => szEditionS_any A0 c0 xs0 W (1048576) (by omega) (by omega) hm0 hmi0 hW
    simp only [szR_no (show ¬ (wt xs0 : Int) ≤ 1048576 by omega)] at hsz0
    have HZ0 := Lib.hid hsz0
    clear hsz0
    go_enter Try.func6, Try.ntmps6
    go_wp2_with fail
    refine (HZ0.out _ (hA0.ext (Below.refl w.heap.size w))).mono ?_
    rintro e w1 ⟨rfl, hb1⟩
    go_wp2
    go_ret
    exact ⟨rfl, ext_trans (Below.refl w.heap.size w) hb1⟩
  · have hn0 : wt xs0 ≤ 1048576 := by omega
    have hs0 : ¬ (1048576 : Int) - (wt xs0 : Int) < 0 := by omega
    have hA00 := hA0
    have hB := Below.refl w.heap.size w
    have hsz0 := fun W hW => szEditionS_any A0 c0 xs0 W (1048576) (by omega) (by omega) hm0 hmi0 hW
    simp only [szR_ok (show (wt xs0 : Int) ≤ 1048576 by omega)] at hsz0
    have hspec := fun (A0 : Option Addr) (c0 : Nat) (W : World) (cap0 : xs0.length ≤ c0) (cm0 : c0 ≤ 9223372036854775807) (h0 : Nl W A0 xs0) => specRestlessPlace_any A0 c0 xs0 sheet W hn0 cap0 cm0 h0
    have himpl := fun (A0 : Option Addr) (c0 : Nat) (W : World) (cap0 : xs0.length ≤ c0) (cm0 : c0 ≤ 9223372036854775807) (h0 : Nl W A0 xs0) => restlessPlace_any A0 c0 xs0 sheet W hn0 cap0 cm0 h0
    have hto0 := fun (W : World) (h : Nl W A0 xs0) => toEditionS_any A0 c0 xs0 W hn0 h
    have heq0 := fun (B C : Option Addr) (c d : Nat) (W : World) (h1 : Nl W B xs0) (h2 : Nl W C xs0) => eqEditionS_same B C c d xs0 W (by omega) h1 h2
    have hl0 : xs0.length ≤ 9223372036854775807 := hm0
    have hwl0 := wt_len xs0
    generalize seli (ReOk xs0 sheet) (restS xs0 sheet).1 = ok0 at hspec himpl
    generalize seli (ReOk xs0 sheet) (restS xs0 sheet).2 = ok1 at hspec himpl
    generalize tb ((ReOk xs0 sheet) ∧ 0 < (restS xs0 sheet).2) = ok2 at hspec himpl
    generalize hg0 : xs0.length = n0 at hspec himpl hsz0 hto0 heq0 hl0 hm0 hwl0 ⊢
    clear hg0
    have HSPEC := Lib.hid hspec
    clear hspec
    have HIMPL := Lib.hid himpl
    clear himpl
    have HSZ0 := Lib.hid hsz0
    clear hsz0
    have HTO0 := Lib.hid hto0
    clear hto0
    have HEQ0 := Lib.hid heq0
    clear heq0
    go_enter Try.func6, Try.ntmps6
    go_wp2_with fail
    refine (HSZ0.out _ hA0).mono ?_
    rintro e w1 ⟨rfl, hb1⟩
    have hB := ext_trans hB hb1
    have hz1 := hb1.size
    have hA0 := hA00.ext hB
    go_wp2_with fail
    refine (HTO0.out w1 hA0).mono ?_
    rintro e w2 ⟨D1, rfl, fx1, hb2⟩
    have hB := ext_trans hB hb2
    have hz2 := hb2.size
    have hA0 := hA00.ext hB
    go_wp2_with fail
    refine (HSPEC.out _ _ w2 (Nat.le_refl _) hl0 fx1.nl).mono ?_
    rintro e w3 ⟨rfl, hb3⟩
    have fx1 := fx1.ext hb3
    have hB := ext_trans hB hb3
    have hz3 := hb3.size
    have hA0 := hA00.ext hB
    go_wp2_with fail
    refine (HTO0.out w3 hA0).mono ?_
    rintro e w4 ⟨D3, rfl, fx3, hb4⟩
    have fx1 := fx1.ext hb4
    have hB := ext_trans hB hb4
    have hz4 := hb4.size
    have hA0 := hA00.ext hB
    go_wp2_with fail
    refine (HIMPL.out _ _ w4 (Nat.le_refl _) hl0 fx3.nl).mono ?_
    rintro e w5 ⟨rfl, hb5⟩
    have fx1 := fx1.ext hb5
    have fx3 := fx3.ext hb5
    have hB := ext_trans hB hb5
    have hz5 := hb5.size
    have hA0 := hA00.ext hB
    go_wp2_with fail
    refine (HTO0.out w5 hA0).mono ?_
    rintro e w6 ⟨D5, rfl, fx5, hb6⟩
    have fx1 := fx1.ext hb6
    have fx3 := fx3.ext hb6
    have hB := ext_trans hB hb6
    have hz6 := hb6.size
    have hA0 := hA00.ext hB
    go_wp2_with fail
    refine (HEQ0.out _ _ _ _ w6 fx3.nl fx5.nl).mono ?_
    rintro e w7 ⟨rfl, hb7⟩
    have fx1 := fx1.ext hb7
    have fx3 := fx3.ext hb7
    have fx5 := fx5.ext hb7
    have hB := ext_trans hB hb7
    have hz7 := hb7.size
    have hA0 := hA00.ext hB
    go_wp2
    go_ret
    exact ⟨rfl, hB⟩

set_option maxRecDepth 100000 in
theorem FnExactRestlessPlace_holds : Rows.FnExactRestlessPlaceSaid :=
  OpenClaim.holds_of_wide 6 Try.f6 rfl rfl rfl rfl rfl rfl rfl ⟨rfl, rfl, rfl, rfl, rfl⟩ rfl rfl rfl rfl rfl (by kernel_rfl) Try.func6 (by kernel_rfl)
    (of_decide_eq_true (by kernel_rfl)) (by unfold Func.isWrapper; first | (rw [if_pos (by decide +kernel)]; kernel_rfl) | (rw [if_neg (by decide +kernel)]; exact ⟨rfl, rfl⟩))
    (fun os started H enc _ => by
      refine law_lifted (s := Rows.fnExactRestlessPlaceSpec) (conds := []) os started H enc (by kernel_rfl) Try.func6 (by kernel_rfl) rfl rfl Try.underlying4
        (ChangeSpec.witness6 (enc := enc) (C := Try.checked) false ⟨#[], #[.slice none 0 0, .int .i64 0], []⟩ 8 (by kernel_rfl) (by kernel_rfl) (by kernel_rfl) (by kernel_rfl)) ?_
      intro W base args ds ps hval hA
      rw [Try.params6] at hA hval
      obtain ⟨v0, vs0, d0, ds0, p0, q0, hargs, rfl, rfl, h0, r0⟩ := trodAll_cons hA
      obtain ⟨v1, vs1, d1, ds1, p1, q1, rfl, rfl, rfl, h1, r1⟩ := trodAll_cons r0
      obtain ⟨rfl, rfl, rfl⟩ := trodAll_nil r1
      obtain rfl : args = #[v0, v1] := by cases args; simp_all
      refine ⟨rfl, ?_⟩
      obtain ⟨A0, c0, xs0, rfl, hl0, hi0, hf0⟩ := open_nest (ti := 3) (tint := 3) Try.underlying22 (by kernel_rfl) Try.underlying57 (by kernel_rfl) rfl (fun j g hg hj => by
        match j, hj with
        | 0, _ => simp at hg; subst hg; exact Try.underlying3
        | 1, _ => simp at hg; subst hg; exact Try.underlying3
        | 2, _ => simp at hg; subst hg; exact Try.underlying3) (fun g hg => by simp at hg; subst hg; exact Try.underlying36) Try.underlying3 (by kernel_rfl) (hval 0 22 v0 rfl rfl) h0
      obtain ⟨z1, rfl, _, _, wf1⟩ := open_int Try.underlying3 (hval 1 3 v1 rfl rfl) h1
      exact fnRestlessPlace_any A0 c0 xs0 _ W hl0 hi0 hf0)
end Go.Proofs.Ytaojamioongahaa
