/- The program's NewEdition returns what the reference's returns, for all arguments. No condition. -/
import Derived.Test.YtaojamioongahaaLaw
import Derived.Test.YtaojamioongahaaOpen
import Derived.Test.YtaojamioongahaaLst
import Derived.Test.YtaojamioongahaaNest
import Derived.Test.YtaojamioongahaaNestOpen
import Derived.Test.YtaojamioongahaaFamEdition
import Derived.Test.YtaojamioongahaaFamInt
import Derived.Test.YtaojamioongahaaNestMark
import Derived.Test.YtaojamioongahaaNewEd
namespace Go.Proofs.Ytaojamioongahaa
open Go.ChangeShapes Go.WideShapes Go.ChangeAt Go.RowKit
set_option linter.unusedVariables false
set_option linter.unusedSimpArgs false

set_option maxHeartbeats 4000000 in
set_option maxRecDepth 100000 in
theorem fnNewEdition_any (A0 : Option Addr) (c0 : Nat) (xs0 : List Nest) (sheet : Int) (day : Int) (A3 : Option Addr) (c3 : Nat) (xs3 : List Int) (w : World) (hm0 : xs0.length ≤ 9223372036854775807) (hmi0 : ∀ x ∈ xs0, x.l.length ≤ 9223372036854775807) (hA0 : Nl w A0 xs0) (hm3 : xs3.length ≤ 9223372036854775807) (hA3 : Fl one 1 w A3 xs3) :
    Calls Try.prog 9 #[.slice A0 xs0.length c0, .int .i64 sheet, .int .i64 day, .slice A3 xs3.length c3] w fun e w' => e = .returned (.bool true) ∧ Below w.heap.size w w' := by
  by_cases hbig3 : (1048576 : Int) < (xs3.length : Int)
  · go_enter Try.func9, Try.ntmps9
    go_wp2
    go_ret
    exact ⟨rfl, Below.refl _ _⟩
  · have hn3 : xs3.length ≤ 1048576 := by omega
    by_cases hbig0 : (1048576 : Int) < (wt xs0 : Int)
    · skip
      have hsz0 := fun W hW => szEditionS_any A0 c0 xs0 W (1048576) (by omega) (by omega) hm0 hmi0 hW
      simp only [szR_no (show ¬ (wt xs0 : Int) ≤ 1048576 by omega)] at hsz0
      have HZ0 := Lib.hid hsz0
      clear hsz0
      go_enter Try.func9, Try.ntmps9
      have hq3 : ¬ (1048576 : Int) < (xs3.length : Int) := by omega
      go_wp2_with fail
      refine (HZ0.out _ (hA0.ext (Below.refl w.heap.size w))).mono ?_
      rintro e w1 ⟨rfl, hb1⟩
      go_wp2
      go_ret
      exact ⟨rfl, ext_trans (Below.refl w.heap.size w) hb1⟩
    · have hn0 : wt xs0 ≤ 1048576 := by omega
      have hs0 : ¬ (1048576 : Int) - (wt xs0 : Int) < 0 := by omega
      have hA00 := hA0
      have hA30 := hA3
      have hB := Below.refl w.heap.size w
      have hsz0 := fun W hW => szEditionS_any A0 c0 xs0 W (1048576) (by omega) (by omega) hm0 hmi0 hW
      simp only [szR_ok (show (wt xs0 : Int) ≤ 1048576 by omega)] at hsz0
      have hspec := fun (A0 : Option Addr) (c0 : Nat) (A3 : Option Addr) (c3 : Nat) (W : World) (cap0 : xs0.length ≤ c0) (cm0 : c0 ≤ 9223372036854775807) (h0 : Nl W A0 xs0) (h3 : Fl one 1 W A3 xs3) => specNewEdition_any A0 c0 xs0 sheet day A3 c3 xs3 W hn0 cap0 cm0 h0 hn3 h3
      have himpl := fun (A0 : Option Addr) (c0 : Nat) (A3 : Option Addr) (c3 : Nat) (W : World) (cap0 : xs0.length ≤ c0) (cm0 : c0 ≤ 9223372036854775807) (h0 : Nl W A0 xs0) (h3 : Fl one 1 W A3 xs3) => newEdition_any A0 c0 xs0 sheet day A3 c3 xs3 W hn0 cap0 cm0 h0 hn3 h3
      have hto0 := fun (W : World) (h : Nl W A0 xs0) => toEditionS_any A0 c0 xs0 W hn0 h
      have heq0 := fun (B C : Option Addr) (c d : Nat) (W : World) (h1 : Nl W B xs0) (h2 : Nl W C xs0) => eqEditionS_same B C c d xs0 W (by omega) h1 h2
      have hoff0 := offN_le xs0
      have hwl0 := wt_len xs0
      have hmk0 := fun (B : Option Addr) (c lo hi : Nat) (k0 : Int) (W : World) (q0 : 0 ≤ k0) (q1 : k0 ≤ 549755813888) (h : GlO hdN Nest.l 3 lo hi W B xs0) => markEditionS_any B c lo hi k0 xs0 W q0 (by omega) (by omega) q1 h
      have hto3 := fun (W : World) (h : Fl one 1 W A3 xs3) => toIntS_any A3 c3 xs3 W hn3 h
      have heq3 := fun (B C : Option Addr) (c d : Nat) (W : World) (h1 : Fl one 1 W B xs3) (h2 : Fl one 1 W C xs3) => eqIntS_same B C c d xs3 W (by omega) h1 h2
      have hmk3 := fun (B : Option Addr) (c lo hi : Nat) (k0 : Int) (W : World) (q0 : 0 ≤ k0) (q1 : k0 ≤ 549755813888) (h : FlO one 1 lo hi W B xs3) => markIntS_any B c lo hi k0 xs3 W q0 (by omega) (by omega) h
      have hl0 : xs0.length ≤ 9223372036854775807 := hm0
      have hwl0 := wt_len xs0
      have hl3 : xs3.length ≤ 9223372036854775807 := hm3
      have hyl0 : wt (sel (NeOk xs0 sheet day xs3) (xs0 ++ [newE xs0 sheet day xs3])) ≤ 1048576 := ne_wt xs0 sheet day xs3
      generalize sel (NeOk xs0 sheet day xs3) (xs0 ++ [newE xs0 sheet day xs3]) = ys0 at hspec himpl hyl0
      generalize seli (NeOk xs0 sheet day xs3) (((ofS sheet xs0).length : Int) + 1) = ok0 at hspec himpl
      generalize tb (NeOk xs0 sheet day xs3) = ok1 at hspec himpl
      have hyo0 := offN_le ys0
      have hyw0 := wt_len ys0
      have her0 := fun (B C : Option Addr) (c d : Nat) (W : World) (h1 : Nl W B ys0) (h2 : Nl W C ys0) => eqEditionS_same B C c d ys0 W (by omega) h1 h2
      have hmr0 := fun (B : Option Addr) (c lo hi : Nat) (k0 : Int) (W : World) (q0 : 0 ≤ k0) (q1 : k0 ≤ 549755813888) (h : GlO hdN Nest.l 3 lo hi W B ys0) => markEditionS_any B c lo hi k0 ys0 W q0 (by omega) (by omega) q1 h
      have hhr0 := fun (B : Option Addr) (c lo hi : Nat) (k0 : Int) (W : World) (q0 : 0 ≤ k0) (q1 : k0 ≤ 549755813888) (h : GNum Nest.l 3 lo hi W B ys0 k0) => heldEditionS_any B c lo hi k0 ys0 W q0 (by omega) (by omega) q1 h
      generalize hT0 : offG Nest.l 3 ys0 ys0.length = T0 at hmr0 hhr0 hyo0
      clear hT0
      generalize hU0 : offG Nest.l 3 xs0 xs0.length = U0 at hmk0 hoff0
      clear hU0
      generalize hg0 : xs0.length = n0 at hspec himpl hsz0 hto0 heq0 hmk0 hl0 hm0 hwl0 ⊢
      clear hg0
      generalize hg3 : xs3.length = n3 at hspec himpl hto3 heq3 hmk3 hl3 hm3 hn3 hbig3 ⊢
      clear hg3
      have HSPEC := Lib.hid hspec
      clear hspec
      have HIMPL := Lib.hid himpl
      clear himpl
      have HSZ0 := Lib.hid hsz0
      clear hsz0
      have HTO0 := Lib.hid hto0
      clear hto0
      have HTO3 := Lib.hid hto3
      clear hto3
      have HEQ0 := Lib.hid heq0
      clear heq0
      have HEQ3 := Lib.hid heq3
      clear heq3
      have HMK0 := Lib.hid hmk0
      clear hmk0
      have HMK3 := Lib.hid hmk3
      clear hmk3
      have HER0 := Lib.hid her0
      clear her0
      have HMR0 := Lib.hid hmr0
      clear hmr0
      have HHR0 := Lib.hid hhr0
      clear hhr0
      go_enter Try.func9, Try.ntmps9
      go_wp2_with fail
      refine (HSZ0.out _ hA0).mono ?_
      rintro e w1 ⟨rfl, hb1⟩
      have hB := ext_trans hB hb1
      have hz1 := hb1.size
      have hA0 := hA00.ext hB
      have hA3 := hA30.ext hB
      go_wp2_with fail
      refine (HTO0.out w1 hA0).mono ?_
      rintro e w2 ⟨D1, rfl, fx1, hb2⟩
      have hB := ext_trans hB hb2
      have hz2 := hb2.size
      have hA0 := hA00.ext hB
      have hA3 := hA30.ext hB
      go_wp2_with fail
      refine (HTO3.out w2 hA3).mono ?_
      rintro e w3 ⟨D2, rfl, fx2, hb3⟩
      have fx1 := fx1.ext hb3
      have hB := ext_trans hB hb3
      have hz3 := hb3.size
      have hA0 := hA00.ext hB
      have hA3 := hA30.ext hB
      go_wp2_with fail
      refine (HSPEC.out _ _ _ _ w3 (Nat.le_refl _) hl0 fx1.nl fx2.fl).mono ?_
      rintro e w4 ⟨R3_0, d3_0, rfl, fr3_0, hb4⟩
      have fx1 := fx1.ext hb4
      have fx2 := fx2.ext hb4
      have hB := ext_trans hB hb4
      have hz4 := hb4.size
      have hA0 := hA00.ext hB
      have hA3 := hA30.ext hB
      go_wp2_with fail
      refine (HTO0.out w4 hA0).mono ?_
      rintro e w5 ⟨D4, rfl, fx4, hb5⟩
      have fx1 := fx1.ext hb5
      have fx2 := fx2.ext hb5
      have fr3_0 := fr3_0.ext hb5
      have hB := ext_trans hB hb5
      have hz5 := hb5.size
      have hA0 := hA00.ext hB
      have hA3 := hA30.ext hB
      go_wp2_with fail
      refine (HTO3.out w5 hA3).mono ?_
      rintro e w6 ⟨D5, rfl, fx5, hb6⟩
      have fx1 := fx1.ext hb6
      have fx2 := fx2.ext hb6
      have fr3_0 := fr3_0.ext hb6
      have fx4 := fx4.ext hb6
      have hB := ext_trans hB hb6
      have hz6 := hb6.size
      have hA0 := hA00.ext hB
      have hA3 := hA30.ext hB
      go_wp2_with fail
      refine (HIMPL.out _ _ _ _ w6 (Nat.le_refl _) hl0 fx4.nl fx5.fl).mono ?_
      rintro e w7 ⟨R6_0, d6_0, rfl, fr6_0, hb7⟩
      have fx1 := fx1.ext hb7
      have fx2 := fx2.ext hb7
      have fr3_0 := fr3_0.ext hb7
      have fx4 := fx4.ext hb7
      have fx5 := fx5.ext hb7
      have hB := ext_trans hB hb7
      have hz7 := hb7.size
      have hA0 := hA00.ext hB
      have hA3 := hA30.ext hB
      go_wp2_with fail
      refine (HER0.out _ _ _ _ w7 fr6_0.nl fr3_0.nl).mono ?_
      rintro e w8 ⟨rfl, hb8⟩
      have fx1 := fx1.ext hb8
      have fx2 := fx2.ext hb8
      have fr3_0 := fr3_0.ext hb8
      have fx4 := fx4.ext hb8
      have fx5 := fx5.ext hb8
      have fr6_0 := fr6_0.ext hb8
      have hB := ext_trans hB hb8
      have hz8 := hb8.size
      have hA0 := hA00.ext hB
      have hA3 := hA30.ext hB
      go_wp2_with fail
      refine (HTO0.out w8 hA0).mono ?_
      rintro e w9 ⟨D7, rfl, fx7, hb9⟩
      have fx1 := fx1.ext hb9
      have fx2 := fx2.ext hb9
      have fr3_0 := fr3_0.ext hb9
      have fx4 := fx4.ext hb9
      have fx5 := fx5.ext hb9
      have fr6_0 := fr6_0.ext hb9
      have hB := ext_trans hB hb9
      have hz9 := hb9.size
      have hA0 := hA00.ext hB
      have hA3 := hA30.ext hB
      go_wp2_with fail
      refine (HEQ0.out _ _ _ _ w9 fx4.nl fx7.nl).mono ?_
      rintro e w10 ⟨rfl, hb10⟩
      have fx1 := fx1.ext hb10
      have fx2 := fx2.ext hb10
      have fr3_0 := fr3_0.ext hb10
      have fx4 := fx4.ext hb10
      have fx5 := fx5.ext hb10
      have fr6_0 := fr6_0.ext hb10
      have fx7 := fx7.ext hb10
      have hB := ext_trans hB hb10
      have hz10 := hb10.size
      have hA0 := hA00.ext hB
      have hA3 := hA30.ext hB
      go_wp2_with fail
      refine (HTO3.out w10 hA3).mono ?_
      rintro e w11 ⟨D8, rfl, fx8, hb11⟩
      have fx1 := fx1.ext hb11
      have fx2 := fx2.ext hb11
      have fr3_0 := fr3_0.ext hb11
      have fx4 := fx4.ext hb11
      have fx5 := fx5.ext hb11
      have fr6_0 := fr6_0.ext hb11
      have hB := ext_trans hB hb11
      have hz11 := hb11.size
      have hA0 := hA00.ext hB
      have hA3 := hA30.ext hB
      go_wp2_with fail
      refine (HEQ3.out _ _ _ _ w11 fx5.fl fx8.fl).mono ?_
      rintro e w12 ⟨rfl, hb12⟩
      have fx1 := fx1.ext hb12
      have fx2 := fx2.ext hb12
      have fr3_0 := fr3_0.ext hb12
      have fx4 := fx4.ext hb12
      have fx5 := fx5.ext hb12
      have fr6_0 := fr6_0.ext hb12
      have fx8 := fx8.ext hb12
      have hB := ext_trans hB hb12
      have hz12 := hb12.size
      have hA0 := hA00.ext hB
      have hA3 := hA30.ext hB
      go_wp2_with fail
      refine (HMK0.out _ _ _ _ (1) w12 (by omega) (by omega) fx4.g).mono ?_
      rintro e w13 ⟨rfl, nx13, ht13⟩
      have fr3_0 := fr3_0.touch ht13 (by omega)
      have fx5 := fx5.touch ht13 (by omega)
      have fr6_0 := fr6_0.touch ht13 (by omega)
      have hB := ht13.below hB (by omega)
      have hz13 := ht13.size
      have hA0 := hA00.ext hB
      have hA3 := hA30.ext hB
      go_wp2_with fail
      refine (HMK3.out _ _ _ _ (1 + (U0 : Int)) w13 (by omega) (by omega) fx5).mono ?_
      rintro e w14 ⟨rfl, nx14, ht14⟩
      have fr3_0 := fr3_0.touch ht14 (by omega)
      have fr6_0 := fr6_0.touch ht14 (by omega)
      have hB := ht14.below hB (by omega)
      have hz14 := ht14.size
      have hA0 := hA00.ext hB
      have hA3 := hA30.ext hB
      have hk0 : ¬ (1 + (U0 : Int) + (n3 : Int) : Int) < 0 := by omega
      go_wp2_with fail
      refine (HER0.out _ _ _ _ w14 fr6_0.nl fr3_0.nl).mono ?_
      rintro e w15 ⟨rfl, hb15⟩
      have fr3_0 := fr3_0.ext hb15
      have fr6_0 := fr6_0.ext hb15
      have hB := ext_trans hB hb15
      have hz15 := hb15.size
      have hA0 := hA00.ext hB
      have hA3 := hA30.ext hB
      go_wp2_with fail
      refine (HMR0.out _ _ _ _ (1) w15 (by omega) (by omega) fr6_0.g).mono ?_
      rintro e w16 ⟨rfl, nr0, ht16⟩
      have fr3_0 := fr3_0.touch ht16 (by omega)
      have hB := ht16.below hB (by omega)
      have hz16 := ht16.size
      have hA0 := hA00.ext hB
      have hA3 := hA30.ext hB
      have hq0 : ¬ (1 + (T0 : Int) : Int) < 0 := by omega
      go_wp2_with fail
      refine (HHR0.out _ _ _ _ (1) w16 (by omega) (by omega) nr0).mono ?_
      rintro e w' ⟨rfl, rfl⟩
      go_wp2_with fail
      refine (HTO0.out w16 hA0).mono ?_
      rintro e w17 ⟨D9, rfl, fx9, hb17⟩
      have fr3_0 := fr3_0.ext hb17
      have nr0 := nr0.ext hb17
      have hB := ext_trans hB hb17
      have hz17 := hb17.size
      have hA0 := hA00.ext hB
      have hA3 := hA30.ext hB
      go_wp2_with fail
      refine (HTO3.out w17 hA3).mono ?_
      rintro e w18 ⟨D10, rfl, fx10, hb18⟩
      have fr3_0 := fr3_0.ext hb18
      have nr0 := nr0.ext hb18
      have fx9 := fx9.ext hb18
      have hB := ext_trans hB hb18
      have hz18 := hb18.size
      have hA0 := hA00.ext hB
      have hA3 := hA30.ext hB
      go_wp2_with fail
      refine (HIMPL.out _ _ _ _ w18 (Nat.le_refl _) hl0 fx9.nl fx10.fl).mono ?_
      rintro e w19 ⟨R11_0, d11_0, rfl, fr11_0, hb19⟩
      have fr3_0 := fr3_0.ext hb19
      have nr0 := nr0.ext hb19
      have fx9 := fx9.ext hb19
      have fx10 := fx10.ext hb19
      have hB := ext_trans hB hb19
      have hz19 := hb19.size
      have hA0 := hA00.ext hB
      have hA3 := hA30.ext hB
      go_wp2_with fail
      refine (HER0.out _ _ _ _ w19 fr11_0.nl fr3_0.nl).mono ?_
      rintro e w20 ⟨rfl, hb20⟩
      have fr3_0 := fr3_0.ext hb20
      have nr0 := nr0.ext hb20
      have fx9 := fx9.ext hb20
      have fx10 := fx10.ext hb20
      have fr11_0 := fr11_0.ext hb20
      have hB := ext_trans hB hb20
      have hz20 := hb20.size
      have hA0 := hA00.ext hB
      have hA3 := hA30.ext hB
      go_wp2_with fail
      refine (HHR0.out _ _ _ _ (1) w20 (by omega) (by omega) nr0).mono ?_
      rintro e w' ⟨rfl, rfl⟩
      go_wp2
      go_ret
      exact ⟨rfl, hB⟩

set_option maxRecDepth 100000 in
theorem FnExactNewEdition_holds : Rows.FnExactNewEditionSaid :=
  OpenClaim.holds_of_wide 9 Try.f9 rfl rfl rfl rfl rfl rfl rfl ⟨rfl, rfl, rfl, rfl, rfl⟩ rfl rfl rfl rfl rfl (by kernel_rfl) Try.func9 (by kernel_rfl)
    (of_decide_eq_true (by kernel_rfl)) (by unfold Func.isWrapper; first | (rw [if_pos (by decide +kernel)]; kernel_rfl) | (rw [if_neg (by decide +kernel)]; exact ⟨rfl, rfl⟩))
    (fun os started H enc _ => by
      refine law_lifted (s := Rows.fnExactNewEditionSpec) (conds := []) os started H enc (by kernel_rfl) Try.func9 (by kernel_rfl) rfl rfl Try.underlying4
        (ChangeSpec.witness6 (enc := enc) (C := Try.checked) false ⟨#[], #[.slice none 0 0, .int .i64 0, .int .i64 0, .slice none 0 0], []⟩ 8 (by kernel_rfl) (by kernel_rfl) (by kernel_rfl) (by kernel_rfl)) ?_
      intro W base args ds ps hval hA
      rw [Try.params9] at hA hval
      obtain ⟨v0, vs0, d0, ds0, p0, q0, hargs, rfl, rfl, h0, r0⟩ := trodAll_cons hA
      obtain ⟨v1, vs1, d1, ds1, p1, q1, rfl, rfl, rfl, h1, r1⟩ := trodAll_cons r0
      obtain ⟨v2, vs2, d2, ds2, p2, q2, rfl, rfl, rfl, h2, r2⟩ := trodAll_cons r1
      obtain ⟨v3, vs3, d3, ds3, p3, q3, rfl, rfl, rfl, h3, r3⟩ := trodAll_cons r2
      obtain ⟨rfl, rfl, rfl⟩ := trodAll_nil r3
      obtain rfl : args = #[v0, v1, v2, v3] := by cases args; simp_all
      refine ⟨rfl, ?_⟩
      obtain ⟨A0, c0, xs0, rfl, hl0, hi0, hf0⟩ := open_nest (ti := 3) (tint := 3) Try.underlying22 (by kernel_rfl) Try.underlying57 (by kernel_rfl) rfl (fun j g hg hj => by
        match j, hj with
        | 0, _ => simp at hg; subst hg; exact Try.underlying3
        | 1, _ => simp at hg; subst hg; exact Try.underlying3
        | 2, _ => simp at hg; subst hg; exact Try.underlying3) (fun g hg => by simp at hg; subst hg; exact Try.underlying36) Try.underlying3 (by kernel_rfl) (hval 0 22 v0 rfl rfl) h0
      obtain ⟨z1, rfl, _, _, wf1⟩ := open_int Try.underlying3 (hval 1 3 v1 rfl rfl) h1
      obtain ⟨z2, rfl, _, _, wf2⟩ := open_int Try.underlying3 (hval 2 3 v2 rfl rfl) h2
      obtain ⟨A3, c3, xs3, rfl, hl3, hf3⟩ := open_flat (f := one) Try.underlying36 (by kernel_rfl) (by decide) (intElem_int Try.underlying3) one_mk (hval 3 36 v3 rfl rfl) h3
      exact fnNewEdition_any A0 c0 xs0 _ _ A3 c3 xs3 W hl0 hi0 hf0 hl3 hf3)
end Go.Proofs.Ytaojamioongahaa
