/- The program's NewErratum returns what the reference's returns, for all arguments. No condition. -/
import Derived.Test.YtnpnggnoaodobaaLaw
import Derived.Test.YtnpnggnoaodobaaOpen
import Derived.Test.YtnpnggnoaodobaaFamInt
import Derived.Test.YtnpnggnoaodobaaFamErratum
import Derived.Test.YtnpnggnoaodobaaNewErratum
namespace Go.Proofs.Ytnpnggnoaodobaa
open Go.ChangeShapes Go.WideShapes Go.ChangeAt Go.RowKit
set_option linter.unusedVariables false
set_option linter.unusedSimpArgs false

set_option maxHeartbeats 4000000 in
set_option maxRecDepth 100000 in
theorem fnNewErratum_any (A0 : Option Addr) (c0 : Nat) (xs0 : List Erratum) (s : Int) (f : Int) (u : Int) (d : Int) (w : World) (hm0 : xs0.length ≤ 9223372036854775807) (hA0 : Fl Erratum.ints 5 w A0 xs0) :
    Calls Try.prog 3 #[.slice A0 xs0.length c0, .int .i64 s, .int .i64 f, .int .i64 u, .int .i64 d] w fun e w' => e = .returned (.bool true) ∧ Below w.heap.size w w' := by
  by_cases hbig0 : (1048576 : Int) < (xs0.length : Int)
  · go_enter Try.func3, Try.ntmps3
    go_wp2_with fail
    refine (szErratumS_no A0 xs0.length c0 w (1048576) (by omega) (by omega) hm0 hbig0).mono ?_
    rintro e w1 ⟨rfl, rfl⟩
    go_wp2
    go_ret
    exact ⟨rfl, Below.refl _ _⟩
  · have hn0 : xs0.length ≤ 1048576 := by omega
    have hs0 : ¬ (1048576 : Int) - (xs0.length : Int) < 0 := by omega
    have hA00 := hA0
    have hB := Below.refl w.heap.size w
    have hspec := fun (A0 : Option Addr) (c0 : Nat) (W : World) (h0 : Fl Erratum.ints 5 W A0 xs0) => newErratum_spec s f u d A0 c0 xs0 W hn0 h0
    have himpl := fun (A0 : Option Addr) (c0 : Nat) (W : World) (h0 : Fl Erratum.ints 5 W A0 xs0) => newErratum_any s f u d A0 c0 xs0 W hn0 h0
    have hyl0 : (sel (NewOk s f u d xs0) (xs0 ++ [newErr s f u d xs0])).length ≤ 1048576 := new_len s f u d xs0
    generalize sel (NewOk s f u d xs0) (xs0 ++ [newErr s f u d xs0]) = ys0 at hspec himpl hyl0
    generalize seli (NewOk s f u d xs0) (newId xs0) = ok0 at hspec himpl
    generalize tb (NewOk s f u d xs0) = ok1 at hspec himpl
    have HS := Lib.hid hspec
    have HI := Lib.hid himpl
    clear hspec himpl
    go_enter Try.func3, Try.ntmps3
    go_wp2_with fail
    refine (szErratumS_ok A0 xs0.length c0 w (1048576) (by omega) (by omega) hm0 (by omega)).mono ?_
    rintro e w1 ⟨rfl, rfl⟩
    go_wp2_with fail
    refine (toErratumS_any A0 c0 xs0 w hn0 hA0).mono ?_
    rintro e w1 ⟨D1, rfl, fx1, hb1⟩
    have hA0 := hA0.ext hb1
    have hB := ext_trans hB hb1
    have hz1 := hb1.size
    go_wp2_with fail
    refine (HS.out (some ⟨D1, 0, none⟩) xs0.length w1 fx1.fl).mono ?_
    rintro e w2 ⟨R2_0, d2_0, rfl, fr2_0, hb2⟩
    have fx1 := fx1.ext hb2
    have hA0 := hA0.ext hb2
    have hB := ext_trans hB hb2
    have hz2 := hb2.size
    go_wp2_with fail
    refine (toErratumS_any A0 c0 xs0 w2 hn0 hA0).mono ?_
    rintro e w3 ⟨D3, rfl, fx3, hb3⟩
    have fx1 := fx1.ext hb3
    have fr2_0 := fr2_0.ext hb3
    have hA0 := hA0.ext hb3
    have hB := ext_trans hB hb3
    have hz3 := hb3.size
    go_wp2_with fail
    refine (HI.out (some ⟨D3, 0, none⟩) xs0.length w3 fx3.fl).mono ?_
    rintro e w4 ⟨R4_0, d4_0, rfl, fr4_0, hb4⟩
    have fx1 := fx1.ext hb4
    have fr2_0 := fr2_0.ext hb4
    have fx3 := fx3.ext hb4
    have hA0 := hA0.ext hb4
    have hB := ext_trans hB hb4
    have hz4 := hb4.size
    go_wp2_with fail
    refine (eqErratumS_same _ _ _ _ ys0 w4 (by omega) fr4_0.fl fr2_0.fl).mono ?_
    rintro e w5 ⟨rfl, hb5⟩
    have fx1 := fx1.ext hb5
    have fr2_0 := fr2_0.ext hb5
    have fx3 := fx3.ext hb5
    have fr4_0 := fr4_0.ext hb5
    have hA0 := hA0.ext hb5
    have hB := ext_trans hB hb5
    have hz5 := hb5.size
    go_wp2_with fail
    refine (toErratumS_any A0 c0 xs0 w5 hn0 hA0).mono ?_
    rintro e w6 ⟨D5, rfl, fx5, hb6⟩
    have fx1 := fx1.ext hb6
    have fr2_0 := fr2_0.ext hb6
    have fx3 := fx3.ext hb6
    have fr4_0 := fr4_0.ext hb6
    have hA0 := hA0.ext hb6
    have hB := ext_trans hB hb6
    have hz6 := hb6.size
    go_wp2_with fail
    refine (eqErratumS_same _ _ _ _ xs0 w6 (by omega) fx3.fl fx5.fl).mono ?_
    rintro e w7 ⟨rfl, hb7⟩
    have fx1 := fx1.ext hb7
    have fr2_0 := fr2_0.ext hb7
    have fx3 := fx3.ext hb7
    have fr4_0 := fr4_0.ext hb7
    have fx5 := fx5.ext hb7
    have hA0 := hA0.ext hb7
    have hB := ext_trans hB hb7
    have hz7 := hb7.size
    go_wp2_with fail
    refine (markErratumS_any _ _ _ _ (1) xs0 w7 (by omega) (by omega) (by omega) fx3).mono ?_
    rintro e w8 ⟨rfl, nx8, ht8⟩
    have fr2_0 := fr2_0.touch ht8 (by omega)
    have fr4_0 := fr4_0.touch ht8 (by omega)
    have hB := ht8.below hB (by omega)
    have hA0 := hA00.below hB (Nat.le_refl _)
    have hz8 := ht8.size
    have hk0 : ¬ (1 + (xs0.length : Int) * 5 : Int) < 0 := by omega
    go_wp2_with fail
    refine (eqErratumS_same _ _ _ _ ys0 w8 (by omega) fr4_0.fl fr2_0.fl).mono ?_
    rintro e w9 ⟨rfl, hb9⟩
    have fr2_0 := fr2_0.ext hb9
    have fr4_0 := fr4_0.ext hb9
    have hA0 := hA0.ext hb9
    have hB := ext_trans hB hb9
    have hz9 := hb9.size
    go_wp2_with fail
    refine (markErratumS_any _ _ _ _ (1) ys0 w9 (by omega) (by omega) (by omega) fr4_0).mono ?_
    rintro e w10 ⟨rfl, nr0, ht10⟩
    have fr2_0 := fr2_0.touch ht10 (by omega)
    have hB := ht10.below hB (by omega)
    have hA0 := hA00.below hB (Nat.le_refl _)
    have hz10 := ht10.size
    have hq0 : ¬ (1 + (ys0.length : Int) * 5 : Int) < 0 := by omega
    go_wp2_with fail
    refine (heldErratumS_any _ _ _ _ _ (1) w10 (by omega) (by omega) (by omega) nr0).mono ?_
    rintro e w' ⟨rfl, rfl⟩
    go_wp2_with fail
    refine (toErratumS_any A0 c0 xs0 w10 hn0 hA0).mono ?_
    rintro e w11 ⟨D6, rfl, fx6, hb11⟩
    have fr2_0 := fr2_0.ext hb11
    have nr0 := nr0.ext hb11
    have hA0 := hA0.ext hb11
    have hB := ext_trans hB hb11
    have hz11 := hb11.size
    go_wp2_with fail
    refine (HI.out (some ⟨D6, 0, none⟩) xs0.length w11 fx6.fl).mono ?_
    rintro e w12 ⟨R7_0, d7_0, rfl, fr7_0, hb12⟩
    have fr2_0 := fr2_0.ext hb12
    have nr0 := nr0.ext hb12
    have fx6 := fx6.ext hb12
    have hA0 := hA0.ext hb12
    have hB := ext_trans hB hb12
    have hz12 := hb12.size
    go_wp2_with fail
    refine (eqErratumS_same _ _ _ _ ys0 w12 (by omega) fr7_0.fl fr2_0.fl).mono ?_
    rintro e w13 ⟨rfl, hb13⟩
    have fr2_0 := fr2_0.ext hb13
    have nr0 := nr0.ext hb13
    have fx6 := fx6.ext hb13
    have fr7_0 := fr7_0.ext hb13
    have hA0 := hA0.ext hb13
    have hB := ext_trans hB hb13
    have hz13 := hb13.size
    go_wp2_with fail
    refine (heldErratumS_any _ _ _ _ _ (1) w13 (by omega) (by omega) (by omega) nr0).mono ?_
    rintro e w' ⟨rfl, rfl⟩
    go_wp2
    go_ret
    exact ⟨rfl, hB⟩

set_option maxRecDepth 100000 in
theorem FnExactNewErratum_holds : Rows.FnExactNewErratumSaid :=
  OpenClaim.holds_of_wide 3 Try.f3 rfl rfl rfl rfl rfl rfl rfl ⟨rfl, rfl, rfl, rfl, rfl⟩ rfl rfl rfl rfl rfl (by kernel_rfl) Try.func3 (by kernel_rfl)
    (of_decide_eq_true (by kernel_rfl)) (by unfold Func.isWrapper; first | (rw [if_pos (by decide +kernel)]; kernel_rfl) | (rw [if_neg (by decide +kernel)]; exact ⟨rfl, rfl⟩))
    (fun os started H enc _ => by
      refine law_lifted (s := Rows.fnExactNewErratumSpec) (conds := []) os started H enc (by kernel_rfl) Try.func3 (by kernel_rfl) rfl rfl Try.underlying4
        (ChangeSpec.witness6 (enc := enc) (C := Try.checked) false ⟨#[], #[.slice none 0 0, .int .i64 0, .int .i64 0, .int .i64 0, .int .i64 0], []⟩ 8 (by kernel_rfl) (by kernel_rfl) (by kernel_rfl) (by kernel_rfl)) ?_
      intro W base args ds ps hval hA
      rw [Try.params3] at hA hval
      obtain ⟨v0, vs0, d0, ds0, p0, q0, hargs, rfl, rfl, h0, r0⟩ := trodAll_cons hA
      obtain ⟨v1, vs1, d1, ds1, p1, q1, rfl, rfl, rfl, h1, r1⟩ := trodAll_cons r0
      obtain ⟨v2, vs2, d2, ds2, p2, q2, rfl, rfl, rfl, h2, r2⟩ := trodAll_cons r1
      obtain ⟨v3, vs3, d3, ds3, p3, q3, rfl, rfl, rfl, h3, r3⟩ := trodAll_cons r2
      obtain ⟨v4, vs4, d4, ds4, p4, q4, rfl, rfl, rfl, h4, r4⟩ := trodAll_cons r3
      obtain ⟨rfl, rfl, rfl⟩ := trodAll_nil r4
      obtain rfl : args = #[v0, v1, v2, v3, v4] := by cases args; simp_all
      refine ⟨rfl, ?_⟩
      obtain ⟨A0, c0, xs0, rfl, hl0, hf0⟩ := open_flat (f := Erratum.ints) Try.underlying22 (by kernel_rfl) (by decide) (intElem_struct Try.underlying59 (by kernel_rfl) rfl (intfields_of (by kernel_rfl))) Erratum.mk_ints (hval 0 22 v0 rfl rfl) h0
      obtain ⟨z1, rfl, _, _, wf1⟩ := open_int Try.underlying3 (hval 1 3 v1 rfl rfl) h1
      obtain ⟨z2, rfl, _, _, wf2⟩ := open_int Try.underlying3 (hval 2 3 v2 rfl rfl) h2
      obtain ⟨z3, rfl, _, _, wf3⟩ := open_int Try.underlying3 (hval 3 3 v3 rfl rfl) h3
      obtain ⟨z4, rfl, _, _, wf4⟩ := open_int Try.underlying3 (hval 4 3 v4 rfl rfl) h4
      exact fnNewErratum_any A0 c0 xs0 _ _ _ _ W hl0 hf0)
end Go.Proofs.Ytnpnggnoaodobaa
