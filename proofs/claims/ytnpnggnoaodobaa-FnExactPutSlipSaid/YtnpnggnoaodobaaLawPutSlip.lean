/- The program's PutSlip returns what the reference's returns, for all arguments. No condition. -/
import Derived.Test.YtnpnggnoaodobaaLaw
import Derived.Test.YtnpnggnoaodobaaOpen
import Derived.Test.YtnpnggnoaodobaaLst
import Derived.Test.YtnpnggnoaodobaaNest
import Derived.Test.YtnpnggnoaodobaaNestOpen
import Derived.Test.YtnpnggnoaodobaaFamErratum
import Derived.Test.YtnpnggnoaodobaaFamHeld
import Derived.Test.YtnpnggnoaodobaaNestMark
import Derived.Test.YtnpnggnoaodobaaPsI
import Derived.Test.YtnpnggnoaodobaaPsS
namespace Go.Proofs.Ytnpnggnoaodobaa
open Go.ChangeShapes Go.WideShapes Go.ChangeAt Go.RowKit
set_option linter.unusedVariables false
set_option linter.unusedSimpArgs false

set_option maxHeartbeats 4000000 in
set_option maxRecDepth 100000 in
theorem fnPutSlip_any (A0 : Option Addr) (c0 : Nat) (xs0 : List Erratum) (A1 : Option Addr) (c1 : Nat) (xs1 : List Nest) (number : Int) (id : Int) (w : World) (hm0 : xs0.length ≤ 9223372036854775807) (hA0 : Fl Erratum.ints 5 w A0 xs0) (hm1 : xs1.length ≤ 9223372036854775807) (hmi1 : ∀ x ∈ xs1, x.l.length ≤ 9223372036854775807) (hA1 : Nl w A1 xs1) :
    Calls Try.prog 10 #[.slice A0 xs0.length c0, .slice A1 xs1.length c1, .int .i64 number, .int .i64 id] w fun e w' => e = .returned (.bool true) ∧ Below w.heap.size w w' := by
  by_cases hbig0 : (1048576 : Int) < (xs0.length : Int)
  · skip
    have hsz0 := fun W => szErratumS_no A0 xs0.length c0 W (1048576) (by omega) (by omega) hm0 (by omega)
    have HZ0 := Lib.hid hsz0
    clear hsz0
    go_enter Try.func10, Try.ntmps10
    go_wp2_with fail
    refine (HZ0.out _).mono ?_
    rintro e w9 ⟨rfl, rfl⟩
    go_wp2
    go_ret
    exact ⟨rfl, Below.refl w.heap.size w⟩
  · have hn0 : xs0.length ≤ 1048576 := by omega
    have hs0 : ¬ (1048576 : Int) - (xs0.length : Int) < 0 := by omega
    by_cases hbig1 : (1048576 - (xs0.length : Int) : Int) < (wt xs1 : Int)
    · skip
      have hsz0 := fun W => szErratumS_ok A0 xs0.length c0 W (1048576) (by omega) (by omega) hm0 (by omega)
      have HZ0 := Lib.hid hsz0
      clear hsz0
      have hsz1 := fun W hW => szHeldS_any A1 c1 xs1 W (1048576 - (xs0.length : Int)) (by omega) (by omega) hm1 hmi1 hW
      simp only [szR_no (show ¬ (wt xs1 : Int) ≤ 1048576 - (xs0.length : Int) by omega)] at hsz1
      have HZ1 := Lib.hid hsz1
      clear hsz1
      go_enter Try.func10, Try.ntmps10
      go_wp2_with fail
      refine (HZ0.out _).mono ?_
      rintro e w9 ⟨rfl, rfl⟩
      go_wp2_with fail
      refine (HZ1.out _ (hA1.ext (Below.refl w.heap.size w))).mono ?_
      rintro e w1 ⟨rfl, hb1⟩
      go_wp2
      go_ret
      exact ⟨rfl, ext_trans (Below.refl w.heap.size w) hb1⟩
    · have hn1 : wt xs1 ≤ 1048576 := by omega
      have hs1 : ¬ (1048576 - (xs0.length : Int) : Int) - (wt xs1 : Int) < 0 := by omega
      have hA00 := hA0
      have hA10 := hA1
      have hB := Below.refl w.heap.size w
      have hsz0 := fun W => szErratumS_ok A0 xs0.length c0 W (1048576) (by omega) (by omega) hm0 (by omega)
      have hsz1 := fun W hW => szHeldS_any A1 c1 xs1 W (1048576 - (xs0.length : Int)) (by omega) (by omega) hm1 hmi1 hW
      simp only [szR_ok (show (wt xs1 : Int) ≤ 1048576 - (xs0.length : Int) by omega)] at hsz1
      have hspec := fun (A0 : Option Addr) (c0 : Nat) (A1 : Option Addr) (c1 : Nat) (W : World) (h0 : Fl Erratum.ints 5 W A0 xs0) (cap1 : xs1.length ≤ c1) (cm1 : c1 ≤ 9223372036854775807) (h1 : NlC W A1 xs1) => specPutSlip_any A0 c0 xs0 A1 c1 xs1 number id W hn0 h0 hn1 h1
      have himpl := fun (A0 : Option Addr) (c0 : Nat) (A1 : Option Addr) (c1 : Nat) (W : World) (h0 : Fl Erratum.ints 5 W A0 xs0) (cap1 : xs1.length ≤ c1) (cm1 : c1 ≤ 9223372036854775807) (h1 : NlC W A1 xs1) => putSlip_any A0 c0 xs0 A1 c1 xs1 number id W hn0 h0 hn1 h1.nl
      have hto0 := fun (W : World) (h : Fl Erratum.ints 5 W A0 xs0) => toErratumS_any A0 c0 xs0 W hn0 h
      have heq0 := fun (B C : Option Addr) (c d : Nat) (W : World) (h1 : Fl Erratum.ints 5 W B xs0) (h2 : Fl Erratum.ints 5 W C xs0) => eqErratumS_same B C c d xs0 W (by omega) h1 h2
      have hmk0 := fun (B : Option Addr) (c lo hi : Nat) (k0 : Int) (W : World) (q0 : 0 ≤ k0) (q1 : k0 ≤ 549755813888) (h : FlO Erratum.ints 5 lo hi W B xs0) => markErratumS_any B c lo hi k0 xs0 W q0 (by omega) (by omega) h
      have hto1 := fun (W : World) (h : Nl W A1 xs1) => toHeldS_cap A1 c1 xs1 W hn1 h
      have heq1 := fun (B C : Option Addr) (c d : Nat) (W : World) (h1 : Nl W B xs1) (h2 : Nl W C xs1) => eqHeldS_same B C c d xs1 W (by omega) h1 h2
      have hoff1 := offN_le xs1
      have hwl1 := wt_len xs1
      have hmk1 := fun (B : Option Addr) (c lo hi : Nat) (k0 : Int) (W : World) (q0 : 0 ≤ k0) (q1 : k0 ≤ 549755813888) (h : GlO hdN Nest.l 3 lo hi W B xs1) => markHeldS_any B c lo hi k0 xs1 W q0 (by omega) (by omega) q1 h
      have hl0 : xs0.length ≤ 9223372036854775807 := hm0
      have hl1 : xs1.length ≤ 9223372036854775807 := hm1
      have hwl1 := wt_len xs1
      have hyl0 : wt (sel (PsOk xs0 xs1 (atH xs1 number) (atE xs0 id) id) (psRes xs1 (atH xs1 number) id)) ≤ 1048576 := ps_wt xs0 xs1 _ _ id
      generalize sel (PsOk xs0 xs1 (atH xs1 number) (atE xs0 id) id) (psRes xs1 (atH xs1 number) id) = ys0 at hspec himpl hyl0
      generalize tb (PsOk xs0 xs1 (atH xs1 number) (atE xs0 id) id) = ok0 at hspec himpl
      have hyo0 := offN_le ys0
      have hyw0 := wt_len ys0
      have her0 := fun (B C : Option Addr) (c d : Nat) (W : World) (h1 : Nl W B ys0) (h2 : Nl W C ys0) => eqHeldS_same B C c d ys0 W (by omega) h1 h2
      have hmr0 := fun (B : Option Addr) (c lo hi : Nat) (k0 : Int) (W : World) (q0 : 0 ≤ k0) (q1 : k0 ≤ 549755813888) (h : GlO hdN Nest.l 3 lo hi W B ys0) => markHeldS_any B c lo hi k0 ys0 W q0 (by omega) (by omega) q1 h
      have hhr0 := fun (B : Option Addr) (c lo hi : Nat) (k0 : Int) (W : World) (q0 : 0 ≤ k0) (q1 : k0 ≤ 549755813888) (h : GNum Nest.l 3 lo hi W B ys0 k0) => heldHeldS_any B c lo hi k0 ys0 W q0 (by omega) (by omega) q1 h
      generalize hT0 : offG Nest.l 3 ys0 ys0.length = T0 at hmr0 hhr0 hyo0
      clear hT0
      generalize hg0 : xs0.length = n0 at hspec himpl hsz0 hto0 heq0 hmk0 hsz1 hl0 hm0 hn0 hs0 hs1 ⊢
      clear hg0
      generalize hU1 : offG Nest.l 3 xs1 xs1.length = U1 at hmk1 hoff1
      clear hU1
      generalize hg1 : xs1.length = n1 at hspec himpl hsz1 hto1 heq1 hmk1 hl1 hm1 hwl1 ⊢
      clear hg1
      have HSPEC := Lib.hid hspec
      clear hspec
      have HIMPL := Lib.hid himpl
      clear himpl
      have HSZ0 := Lib.hid hsz0
      clear hsz0
      have HSZ1 := Lib.hid hsz1
      clear hsz1
      have HTO0 := Lib.hid hto0
      clear hto0
      have HTO1 := Lib.hid hto1
      clear hto1
      have HEQ0 := Lib.hid heq0
      clear heq0
      have HEQ1 := Lib.hid heq1
      clear heq1
      have HMK0 := Lib.hid hmk0
      clear hmk0
      have HMK1 := Lib.hid hmk1
      clear hmk1
      have HER0 := Lib.hid her0
      clear her0
      have HMR0 := Lib.hid hmr0
      clear hmr0
      have HHR0 := Lib.hid hhr0
      clear hhr0
      go_enter Try.func10, Try.ntmps10
      go_wp2_with fail
      refine (HSZ0.out _).mono ?_
      rintro e w' ⟨rfl, rfl⟩
      go_wp2_with fail
      refine (HSZ1.out _ hA1).mono ?_
      rintro e w1 ⟨rfl, hb1⟩
      have hB := ext_trans hB hb1
      have hz1 := hb1.size
      have hA0 := hA00.ext hB
      have hA1 := hA10.ext hB
      go_wp2_with fail
      refine (HTO0.out w1 hA0).mono ?_
      rintro e w2 ⟨D1, rfl, fx1, hb2⟩
      have hB := ext_trans hB hb2
      have hz2 := hb2.size
      have hA0 := hA00.ext hB
      have hA1 := hA10.ext hB
      go_wp2_with fail
      refine (HTO1.out w2 hA1).mono ?_
      rintro e w3 ⟨D2, rfl, fx2, cx2, hb3⟩
      have fx1 := fx1.ext hb3
      have hB := ext_trans hB hb3
      have hz3 := hb3.size
      have hA0 := hA00.ext hB
      have hA1 := hA10.ext hB
      go_wp2_with fail
      refine (HSPEC.out _ _ _ _ w3 fx1.fl (Nat.le_refl _) hl1 cx2).mono ?_
      rintro e w4 ⟨R3_0, d3_0, rfl, fr3_0, hb4⟩
      have fx1 := fx1.ext hb4
      have fx2 := fx2.ext hb4
      have cx2 := cx2.ext hb4
      have hB := ext_trans hB hb4
      have hz4 := hb4.size
      have hA0 := hA00.ext hB
      have hA1 := hA10.ext hB
      go_wp2_with fail
      refine (HTO0.out w4 hA0).mono ?_
      rintro e w5 ⟨D4, rfl, fx4, hb5⟩
      have fx1 := fx1.ext hb5
      have fx2 := fx2.ext hb5
      have cx2 := cx2.ext hb5
      have fr3_0 := fr3_0.ext hb5
      have hB := ext_trans hB hb5
      have hz5 := hb5.size
      have hA0 := hA00.ext hB
      have hA1 := hA10.ext hB
      go_wp2_with fail
      refine (HTO1.out w5 hA1).mono ?_
      rintro e w6 ⟨D5, rfl, fx5, cx5, hb6⟩
      have fx1 := fx1.ext hb6
      have fx2 := fx2.ext hb6
      have cx2 := cx2.ext hb6
      have fr3_0 := fr3_0.ext hb6
      have fx4 := fx4.ext hb6
      have hB := ext_trans hB hb6
      have hz6 := hb6.size
      have hA0 := hA00.ext hB
      have hA1 := hA10.ext hB
      go_wp2_with fail
      refine (HIMPL.out _ _ _ _ w6 fx4.fl (Nat.le_refl _) hl1 cx5).mono ?_
      rintro e w7 ⟨R6_0, d6_0, rfl, fr6_0, hb7⟩
      have fx1 := fx1.ext hb7
      have fx2 := fx2.ext hb7
      have cx2 := cx2.ext hb7
      have fr3_0 := fr3_0.ext hb7
      have fx4 := fx4.ext hb7
      have fx5 := fx5.ext hb7
      have cx5 := cx5.ext hb7
      have hB := ext_trans hB hb7
      have hz7 := hb7.size
      have hA0 := hA00.ext hB
      have hA1 := hA10.ext hB
      go_wp2_with fail
      refine (HER0.out _ _ _ _ w7 fr6_0.nl fr3_0.nl).mono ?_
      rintro e w8 ⟨rfl, hb8⟩
      have fx1 := fx1.ext hb8
      have fx2 := fx2.ext hb8
      have cx2 := cx2.ext hb8
      have fr3_0 := fr3_0.ext hb8
      have fx4 := fx4.ext hb8
      have fx5 := fx5.ext hb8
      have cx5 := cx5.ext hb8
      have fr6_0 := fr6_0.ext hb8
      have hB := ext_trans hB hb8
      have hz8 := hb8.size
      have hA0 := hA00.ext hB
      have hA1 := hA10.ext hB
      go_wp2_with fail
      refine (HTO0.out w8 hA0).mono ?_
      rintro e w9 ⟨D7, rfl, fx7, hb9⟩
      have fx1 := fx1.ext hb9
      have fx2 := fx2.ext hb9
      have cx2 := cx2.ext hb9
      have fr3_0 := fr3_0.ext hb9
      have fx4 := fx4.ext hb9
      have fx5 := fx5.ext hb9
      have cx5 := cx5.ext hb9
      have fr6_0 := fr6_0.ext hb9
      have hB := ext_trans hB hb9
      have hz9 := hb9.size
      have hA0 := hA00.ext hB
      have hA1 := hA10.ext hB
      go_wp2_with fail
      refine (HEQ0.out _ _ _ _ w9 fx4.fl fx7.fl).mono ?_
      rintro e w10 ⟨rfl, hb10⟩
      have fx1 := fx1.ext hb10
      have fx2 := fx2.ext hb10
      have cx2 := cx2.ext hb10
      have fr3_0 := fr3_0.ext hb10
      have fx4 := fx4.ext hb10
      have fx5 := fx5.ext hb10
      have cx5 := cx5.ext hb10
      have fr6_0 := fr6_0.ext hb10
      have fx7 := fx7.ext hb10
      have hB := ext_trans hB hb10
      have hz10 := hb10.size
      have hA0 := hA00.ext hB
      have hA1 := hA10.ext hB
      go_wp2_with fail
      refine (HTO1.out w10 hA1).mono ?_
      rintro e w11 ⟨D8, rfl, fx8, cx8, hb11⟩
      have fx1 := fx1.ext hb11
      have fx2 := fx2.ext hb11
      have cx2 := cx2.ext hb11
      have fr3_0 := fr3_0.ext hb11
      have fx4 := fx4.ext hb11
      have fx5 := fx5.ext hb11
      have cx5 := cx5.ext hb11
      have fr6_0 := fr6_0.ext hb11
      have hB := ext_trans hB hb11
      have hz11 := hb11.size
      have hA0 := hA00.ext hB
      have hA1 := hA10.ext hB
      go_wp2_with fail
      refine (HEQ1.out _ _ _ _ w11 fx5.nl fx8.nl).mono ?_
      rintro e w12 ⟨rfl, hb12⟩
      have fx1 := fx1.ext hb12
      have fx2 := fx2.ext hb12
      have cx2 := cx2.ext hb12
      have fr3_0 := fr3_0.ext hb12
      have fx4 := fx4.ext hb12
      have fx5 := fx5.ext hb12
      have cx5 := cx5.ext hb12
      have fr6_0 := fr6_0.ext hb12
      have fx8 := fx8.ext hb12
      have cx8 := cx8.ext hb12
      have hB := ext_trans hB hb12
      have hz12 := hb12.size
      have hA0 := hA00.ext hB
      have hA1 := hA10.ext hB
      go_wp2_with fail
      refine (HMK0.out _ _ _ _ (1) w12 (by omega) (by omega) fx4).mono ?_
      rintro e w13 ⟨rfl, nx13, ht13⟩
      have fr3_0 := fr3_0.touch ht13 (by omega)
      have fx5 := fx5.touch ht13 (by omega)
      have fr6_0 := fr6_0.touch ht13 (by omega)
      have hB := ht13.below hB (by omega)
      have hz13 := ht13.size
      have hA0 := hA00.ext hB
      have hA1 := hA10.ext hB
      go_wp2_with fail
      refine (HMK1.out _ _ _ _ (1 + (n0 : Int) * 5) w13 (by omega) (by omega) fx5.g).mono ?_
      rintro e w14 ⟨rfl, nx14, ht14⟩
      have fr3_0 := fr3_0.touch ht14 (by omega)
      have fr6_0 := fr6_0.touch ht14 (by omega)
      have hB := ht14.below hB (by omega)
      have hz14 := ht14.size
      have hA0 := hA00.ext hB
      have hA1 := hA10.ext hB
      have hk0 : ¬ (1 + (n0 : Int) * 5 + (U1 : Int) : Int) < 0 := by omega
      go_wp2_with fail
      refine (HER0.out _ _ _ _ w14 fr6_0.nl fr3_0.nl).mono ?_
      rintro e w15 ⟨rfl, hb15⟩
      have fr3_0 := fr3_0.ext hb15
      have fr6_0 := fr6_0.ext hb15
      have hB := ext_trans hB hb15
      have hz15 := hb15.size
      have hA0 := hA00.ext hB
      have hA1 := hA10.ext hB
      go_wp2_with fail
      refine (HMR0.out _ _ _ _ (1) w15 (by omega) (by omega) fr6_0.g).mono ?_
      rintro e w16 ⟨rfl, nr0, ht16⟩
      have fr3_0 := fr3_0.touch ht16 (by omega)
      have hB := ht16.below hB (by omega)
      have hz16 := ht16.size
      have hA0 := hA00.ext hB
      have hA1 := hA10.ext hB
      have hq0 : ¬ (1 + (T0 : Int) : Int) < 0 := by omega
      go_wp2_with fail
      refine (HHR0.out _ _ _ _ (1) w16 (by omega) (by omega) nr0).mono ?_
      rintro e w' ⟨rfl, rfl⟩
      go_wp2_with fail
      refine (HTO0.out w16 hA0).mono ?_
      rintro e w17 ⟨D9, rfl, fx9, hb17⟩
      have fr3_0 := fr3_0.ext hb17
      have nr0 := nr0.ext hb17
      have hB := ext_trans hB hb17
      have hz17 := hb17.size
      have hA0 := hA00.ext hB
      have hA1 := hA10.ext hB
      go_wp2_with fail
      refine (HTO1.out w17 hA1).mono ?_
      rintro e w18 ⟨D10, rfl, fx10, cx10, hb18⟩
      have fr3_0 := fr3_0.ext hb18
      have nr0 := nr0.ext hb18
      have fx9 := fx9.ext hb18
      have hB := ext_trans hB hb18
      have hz18 := hb18.size
      have hA0 := hA00.ext hB
      have hA1 := hA10.ext hB
      go_wp2_with fail
      refine (HIMPL.out _ _ _ _ w18 fx9.fl (Nat.le_refl _) hl1 cx10).mono ?_
      rintro e w19 ⟨R11_0, d11_0, rfl, fr11_0, hb19⟩
      have fr3_0 := fr3_0.ext hb19
      have nr0 := nr0.ext hb19
      have fx9 := fx9.ext hb19
      have fx10 := fx10.ext hb19
      have cx10 := cx10.ext hb19
      have hB := ext_trans hB hb19
      have hz19 := hb19.size
      have hA0 := hA00.ext hB
      have hA1 := hA10.ext hB
      go_wp2_with fail
      refine (HER0.out _ _ _ _ w19 fr11_0.nl fr3_0.nl).mono ?_
      rintro e w20 ⟨rfl, hb20⟩
      have fr3_0 := fr3_0.ext hb20
      have nr0 := nr0.ext hb20
      have fx9 := fx9.ext hb20
      have fx10 := fx10.ext hb20
      have cx10 := cx10.ext hb20
      have fr11_0 := fr11_0.ext hb20
      have hB := ext_trans hB hb20
      have hz20 := hb20.size
      have hA0 := hA00.ext hB
      have hA1 := hA10.ext hB
      go_wp2_with fail
      refine (HHR0.out _ _ _ _ (1) w20 (by omega) (by omega) nr0).mono ?_
      rintro e w' ⟨rfl, rfl⟩
      go_wp2
      go_ret
      exact ⟨rfl, hB⟩

set_option maxRecDepth 100000 in
theorem FnExactPutSlip_holds : Rows.FnExactPutSlipSaid :=
  OpenClaim.holds_of_wide 10 Try.f10 rfl rfl rfl rfl rfl rfl rfl ⟨rfl, rfl, rfl, rfl, rfl⟩ rfl rfl rfl rfl rfl (by kernel_rfl) Try.func10 (by kernel_rfl)
    (of_decide_eq_true (by kernel_rfl)) (by unfold Func.isWrapper; first | (rw [if_pos (by decide +kernel)]; kernel_rfl) | (rw [if_neg (by decide +kernel)]; exact ⟨rfl, rfl⟩))
    (fun os started H enc _ => by
      refine law_lifted (s := Rows.fnExactPutSlipSpec) (conds := []) os started H enc (by kernel_rfl) Try.func10 (by kernel_rfl) rfl rfl Try.underlying4
        (ChangeSpec.witness6 (enc := enc) (C := Try.checked) false ⟨#[], #[.slice none 0 0, .slice none 0 0, .int .i64 0, .int .i64 0], []⟩ 8 (by kernel_rfl) (by kernel_rfl) (by kernel_rfl) (by kernel_rfl)) ?_
      intro W base args ds ps hval hA
      rw [Try.params10] at hA hval
      obtain ⟨v0, vs0, d0, ds0, p0, q0, hargs, rfl, rfl, h0, r0⟩ := trodAll_cons hA
      obtain ⟨v1, vs1, d1, ds1, p1, q1, rfl, rfl, rfl, h1, r1⟩ := trodAll_cons r0
      obtain ⟨v2, vs2, d2, ds2, p2, q2, rfl, rfl, rfl, h2, r2⟩ := trodAll_cons r1
      obtain ⟨v3, vs3, d3, ds3, p3, q3, rfl, rfl, rfl, h3, r3⟩ := trodAll_cons r2
      obtain ⟨rfl, rfl, rfl⟩ := trodAll_nil r3
      obtain rfl : args = #[v0, v1, v2, v3] := by cases args; simp_all
      refine ⟨rfl, ?_⟩
      obtain ⟨A0, c0, xs0, rfl, hl0, hf0⟩ := open_flat (f := Erratum.ints) Try.underlying22 (by kernel_rfl) (by decide) (intElem_struct Try.underlying59 (by kernel_rfl) rfl (intfields_of (by kernel_rfl))) Erratum.mk_ints (hval 0 22 v0 rfl rfl) h0
      obtain ⟨A1, c1, xs1, rfl, hl1, hi1, hf1⟩ := open_nest (ti := 3) (tint := 3) Try.underlying31 (by kernel_rfl) Try.underlying64 (by kernel_rfl) rfl (fun j g hg hj => by
        match j, hj with
        | 0, _ => simp at hg; subst hg; exact Try.underlying3
        | 1, _ => simp at hg; subst hg; exact Try.underlying3
        | 2, _ => simp at hg; subst hg; exact Try.underlying3) (fun g hg => by simp at hg; subst hg; exact Try.underlying41) Try.underlying3 (by kernel_rfl) (hval 1 31 v1 rfl rfl) h1
      obtain ⟨z2, rfl, _, _, wf2⟩ := open_int Try.underlying3 (hval 2 3 v2 rfl rfl) h2
      obtain ⟨z3, rfl, _, _, wf3⟩ := open_int Try.underlying3 (hval 3 3 v3 rfl rfl) h3
      exact fnPutSlip_any A0 c0 xs0 A1 c1 xs1 _ _ W hl0 hf0 hl1 hi1 hf1)
end Go.Proofs.Ytnpnggnoaodobaa
