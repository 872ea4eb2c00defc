/- The program's ChangedSince returns what the reference's returns, for all arguments. No condition. -/
import Derived.Test.YtaojamioongahaaLaw
import Derived.Test.YtaojamioongahaaOpen
import Derived.Test.YtaojamioongahaaLst
import Derived.Test.YtaojamioongahaaNest
import Derived.Test.YtaojamioongahaaNestOpen
import Derived.Test.YtaojamioongahaaFamEdition
import Derived.Test.YtaojamioongahaaFamInt
import Derived.Test.YtaojamioongahaaNestMark
import Derived.Test.YtaojamioongahaaCsI
import Derived.Test.YtaojamioongahaaCsS
namespace Go.Proofs.Ytaojamioongahaa
open Go.ChangeShapes Go.WideShapes Go.ChangeAt Go.RowKit
set_option linter.unusedVariables false
set_option linter.unusedSimpArgs false

set_option maxHeartbeats 4000000 in
set_option maxRecDepth 100000 in
theorem fnChangedSince_any (A0 : Option Addr) (c0 : Nat) (xs0 : List Nest) (sheet : Int) (number : Int) (day : Int) (w : World) (hm0 : xs0.length ≤ 9223372036854775807) (hmi0 : ∀ x ∈ xs0, x.l.length ≤ 9223372036854775807) (hA0 : Nl w A0 xs0) :
    Calls Try.prog 12 #[.slice A0 xs0.length c0, .int .i64 sheet, .int .i64 number, .int .i64 day] w fun e w' => e = .returned (.bool true) ∧ Below w.heap.size w w' := by
  by_cases hbig0 : (1048576 : Int) < (wt xs0 : Int)
  · skip
    have hsz0 := fun W hW => szEditionS_any A0 c0 xs0 W (1048576) (by omega) (by omega) hm0 hmi0 hW
    simp only [szR_no (show ¬ (wt xs0 : Int) ≤ 1048576 by omega)] at hsz0
    have HZ0 := Lib.hid hsz0
    clear hsz0
    go_enter Try.func12, Try.ntmps12
    go_wp2_with fail
    refine (HZ0.out _ (hA0.ext (Below.refl w.heap.size w))).mono ?_
    rintro e w1 ⟨rfl, hb1⟩
    go_wp2
    go_ret
    exact ⟨rfl, ext_trans (Below.refl w.heap.size w) hb1⟩
  · have hn0 : wt xs0 ≤ 1048576 := by omega
    have hs0 : ¬ (1048576 : Int) - (wt xs0 : Int) < 0 := by omega
    have hA00 := hA0
    have hB := Below.refl w.heap.size w
    have hsz0 := fun W hW => szEditionS_any A0 c0 xs0 W (1048576) (by omega) (by omega) hm0 hmi0 hW
    simp only [szR_ok (show (wt xs0 : Int) ≤ 1048576 by omega)] at hsz0
    have hspec := fun (A0 : Option Addr) (c0 : Nat) (W : World) (cap0 : xs0.length ≤ c0) (cm0 : c0 ≤ 9223372036854775807) (h0 : Nl W A0 xs0) => specChangedSince_any A0 c0 xs0 sheet number day W hn0 cap0 cm0 h0
    have himpl := fun (A0 : Option Addr) (c0 : Nat) (W : World) (cap0 : xs0.length ≤ c0) (cm0 : c0 ≤ 9223372036854775807) (h0 : Nl W A0 xs0) => changedSince_any A0 c0 xs0 sheet number day W hn0 cap0 cm0 h0
    have hto0 := fun (W : World) (h : Nl W A0 xs0) => toEditionS_any A0 c0 xs0 W hn0 h
    have heq0 := fun (B C : Option Addr) (c d : Nat) (W : World) (h1 : Nl W B xs0) (h2 : Nl W C xs0) => eqEditionS_same B C c d xs0 W (by omega) h1 h2
    have hoff0 := offN_le xs0
    have hwl0 := wt_len xs0
    have hmk0 := fun (B : Option Addr) (c lo hi : Nat) (k0 : Int) (W : World) (q0 : 0 ≤ k0) (q1 : k0 ≤ 549755813888) (h : GlO hdN Nest.l 3 lo hi W B xs0) => markEditionS_any B c lo hi k0 xs0 W q0 (by omega) (by omega) q1 h
    have hl0 : xs0.length ≤ 9223372036854775807 := hm0
    have hwl0 := wt_len xs0
    have hyl0 : (sel (CsOk xs0 sheet number day) (sinceL sheet number day xs0)).length ≤ 1048576 := Nat.le_trans (sel_len _ _) (Nat.le_trans (sinceL_len _ _ _ _) (Nat.le_trans (Nat.le_add_left _ _) hn0))
    generalize sel (CsOk xs0 sheet number day) (sinceL sheet number day xs0) = ys0 at hspec himpl hyl0
    generalize tb (CsOk xs0 sheet number day) = ok0 at hspec himpl
    have her0 := fun (B C : Option Addr) (c d : Nat) (W : World) (h1 : Fl one 1 W B ys0) (h2 : Fl one 1 W C ys0) => eqIntS_same B C c d ys0 W (by omega) h1 h2
    have hmr0 := fun (B : Option Addr) (c lo hi : Nat) (k0 : Int) (W : World) (q0 : 0 ≤ k0) (q1 : k0 ≤ 549755813888) (h : FlO one 1 lo hi W B ys0) => markIntS_any B c lo hi k0 ys0 W q0 (by omega) (by omega) h
    have hhr0 := fun (B : Option Addr) (c lo hi : Nat) (k0 : Int) (W : World) (q0 : 0 ≤ k0) (q1 : k0 ≤ 549755813888) (h : Num lo hi W B (ys0.length) k0) => heldIntS_any B ys0.length c lo hi k0 W q0 (by omega) (by omega) h
    generalize hU0 : offG Nest.l 3 xs0 xs0.length = U0 at hmk0 hoff0
    clear hU0
    generalize hg0 : xs0.length = n0 at hspec himpl hsz0 hto0 heq0 hmk0 hl0 hm0 hwl0 ⊢
    clear hg0
    have HSPEC := Lib.hid hspec
    clear hspec
    have HIMPL := Lib.hid himpl
    clear himpl
    have HSZ0 := Lib.hid hsz0
    clear hsz0
    have HTO0 := Lib.hid hto0
    clear hto0
    have HEQ0 := Lib.hid heq0
    clear heq0
    have HMK0 := Lib.hid hmk0
    clear hmk0
    have HER0 := Lib.hid her0
    clear her0
    have HMR0 := Lib.hid hmr0
    clear hmr0
    have HHR0 := Lib.hid hhr0
    clear hhr0
    go_enter Try.func12, Try.ntmps12
    go_wp2_with fail
    refine (HSZ0.out _ hA0).mono ?_
    rintro e w1 ⟨rfl, hb1⟩
    have hB := ext_trans hB hb1
    have hz1 := hb1.size
    have hA0 := hA00.ext hB
    go_wp2_with fail
    refine (HTO0.out w1 hA0).mono ?_
    rintro e w2 ⟨D1, rfl, fx1, hb2⟩
    have hB := ext_trans hB hb2
    have hz2 := hb2.size
    have hA0 := hA00.ext hB
    go_wp2_with fail
    refine (HSPEC.out _ _ w2 (Nat.le_refl _) hl0 fx1.nl).mono ?_
    rintro e w3 ⟨R2_0, d2_0, rfl, fr2_0, hb3⟩
    have fx1 := fx1.ext hb3
    have hB := ext_trans hB hb3
    have hz3 := hb3.size
    have hA0 := hA00.ext hB
    go_wp2_with fail
    refine (HTO0.out w3 hA0).mono ?_
    rintro e w4 ⟨D3, rfl, fx3, hb4⟩
    have fx1 := fx1.ext hb4
    have fr2_0 := fr2_0.ext hb4
    have hB := ext_trans hB hb4
    have hz4 := hb4.size
    have hA0 := hA00.ext hB
    go_wp2_with fail
    refine (HIMPL.out _ _ w4 (Nat.le_refl _) hl0 fx3.nl).mono ?_
    rintro e w5 ⟨R4_0, d4_0, rfl, fr4_0, hb5⟩
    have fx1 := fx1.ext hb5
    have fr2_0 := fr2_0.ext hb5
    have fx3 := fx3.ext hb5
    have hB := ext_trans hB hb5
    have hz5 := hb5.size
    have hA0 := hA00.ext hB
    go_wp2_with fail
    refine (HER0.out _ _ _ _ w5 fr4_0.fl fr2_0.fl).mono ?_
    rintro e w6 ⟨rfl, hb6⟩
    have fx1 := fx1.ext hb6
    have fr2_0 := fr2_0.ext hb6
    have fx3 := fx3.ext hb6
    have fr4_0 := fr4_0.ext hb6
    have hB := ext_trans hB hb6
    have hz6 := hb6.size
    have hA0 := hA00.ext hB
    go_wp2_with fail
    refine (HTO0.out w6 hA0).mono ?_
    rintro e w7 ⟨D5, rfl, fx5, hb7⟩
    have fx1 := fx1.ext hb7
    have fr2_0 := fr2_0.ext hb7
    have fx3 := fx3.ext hb7
    have fr4_0 := fr4_0.ext hb7
    have hB := ext_trans hB hb7
    have hz7 := hb7.size
    have hA0 := hA00.ext hB
    go_wp2_with fail
    refine (HEQ0.out _ _ _ _ w7 fx3.nl fx5.nl).mono ?_
    rintro e w8 ⟨rfl, hb8⟩
    have fx1 := fx1.ext hb8
    have fr2_0 := fr2_0.ext hb8
    have fx3 := fx3.ext hb8
    have fr4_0 := fr4_0.ext hb8
    have fx5 := fx5.ext hb8
    have hB := ext_trans hB hb8
    have hz8 := hb8.size
    have hA0 := hA00.ext hB
    go_wp2_with fail
    refine (HMK0.out _ _ _ _ (1) w8 (by omega) (by omega) fx3.g).mono ?_
    rintro e w9 ⟨rfl, nx9, ht9⟩
    have fr2_0 := fr2_0.touch ht9 (by omega)
    have fr4_0 := fr4_0.touch ht9 (by omega)
    have hB := ht9.below hB (by omega)
    have hz9 := ht9.size
    have hA0 := hA00.ext hB
    have hk0 : ¬ (1 + (U0 : Int) : Int) < 0 := by omega
    go_wp2_with fail
    refine (HER0.out _ _ _ _ w9 fr4_0.fl fr2_0.fl).mono ?_
    rintro e w10 ⟨rfl, hb10⟩
    have fr2_0 := fr2_0.ext hb10
    have fr4_0 := fr4_0.ext hb10
    have hB := ext_trans hB hb10
    have hz10 := hb10.size
    have hA0 := hA00.ext hB
    go_wp2_with fail
    refine (HMR0.out _ _ _ _ (1) w10 (by omega) (by omega) fr4_0).mono ?_
    rintro e w11 ⟨rfl, nr0, ht11⟩
    have fr2_0 := fr2_0.touch ht11 (by omega)
    have hB := ht11.below hB (by omega)
    have hz11 := ht11.size
    have hA0 := hA00.ext hB
    have hq0 : ¬ (1 + (ys0.length : Int) : Int) < 0 := by omega
    go_wp2_with fail
    refine (HHR0.out _ _ _ _ (1) w11 (by omega) (by omega) nr0).mono ?_
    rintro e w' ⟨rfl, rfl⟩
    go_wp2_with fail
    refine (HTO0.out w11 hA0).mono ?_
    rintro e w12 ⟨D6, rfl, fx6, hb12⟩
    have fr2_0 := fr2_0.ext hb12
    have nr0 := nr0.ext hb12
    have hB := ext_trans hB hb12
    have hz12 := hb12.size
    have hA0 := hA00.ext hB
    go_wp2_with fail
    refine (HIMPL.out _ _ w12 (Nat.le_refl _) hl0 fx6.nl).mono ?_
    rintro e w13 ⟨R7_0, d7_0, rfl, fr7_0, hb13⟩
    have fr2_0 := fr2_0.ext hb13
    have nr0 := nr0.ext hb13
    have fx6 := fx6.ext hb13
    have hB := ext_trans hB hb13
    have hz13 := hb13.size
    have hA0 := hA00.ext hB
    go_wp2_with fail
    refine (HER0.out _ _ _ _ w13 fr7_0.fl fr2_0.fl).mono ?_
    rintro e w14 ⟨rfl, hb14⟩
    have fr2_0 := fr2_0.ext hb14
    have nr0 := nr0.ext hb14
    have fx6 := fx6.ext hb14
    have fr7_0 := fr7_0.ext hb14
    have hB := ext_trans hB hb14
    have hz14 := hb14.size
    have hA0 := hA00.ext hB
    go_wp2_with fail
    refine (HHR0.out _ _ _ _ (1) w14 (by omega) (by omega) nr0).mono ?_
    rintro e w' ⟨rfl, rfl⟩
    go_wp2
    go_ret
    exact ⟨rfl, hB⟩

set_option maxRecDepth 100000 in
theorem FnExactChangedSince_holds : Rows.FnExactChangedSinceSaid :=
  OpenClaim.holds_of_wide 12 Try.f12 rfl rfl rfl rfl rfl rfl rfl ⟨rfl, rfl, rfl, rfl, rfl⟩ rfl rfl rfl rfl rfl (by kernel_rfl) Try.func12 (by kernel_rfl)
    (of_decide_eq_true (by kernel_rfl)) (by unfold Func.isWrapper; first | (rw [if_pos (by decide +kernel)]; kernel_rfl) | (rw [if_neg (by decide +kernel)]; exact ⟨rfl, rfl⟩))
    (fun os started H enc _ => by
      refine law_lifted (s := Rows.fnExactChangedSinceSpec) (conds := []) os started H enc (by kernel_rfl) Try.func12 (by kernel_rfl) rfl rfl Try.underlying4
        (ChangeSpec.witness6 (enc := enc) (C := Try.checked) false ⟨#[], #[.slice none 0 0, .int .i64 0, .int .i64 0, .int .i64 0], []⟩ 8 (by kernel_rfl) (by kernel_rfl) (by kernel_rfl) (by kernel_rfl)) ?_
      intro W base args ds ps hval hA
      rw [Try.params12] at hA hval
      obtain ⟨v0, vs0, d0, ds0, p0, q0, hargs, rfl, rfl, h0, r0⟩ := trodAll_cons hA
      obtain ⟨v1, vs1, d1, ds1, p1, q1, rfl, rfl, rfl, h1, r1⟩ := trodAll_cons r0
      obtain ⟨v2, vs2, d2, ds2, p2, q2, rfl, rfl, rfl, h2, r2⟩ := trodAll_cons r1
      obtain ⟨v3, vs3, d3, ds3, p3, q3, rfl, rfl, rfl, h3, r3⟩ := trodAll_cons r2
      obtain ⟨rfl, rfl, rfl⟩ := trodAll_nil r3
      obtain rfl : args = #[v0, v1, v2, v3] := by cases args; simp_all
      refine ⟨rfl, ?_⟩
      obtain ⟨A0, c0, xs0, rfl, hl0, hi0, hf0⟩ := open_nest (ti := 3) (tint := 3) Try.underlying22 (by kernel_rfl) Try.underlying57 (by kernel_rfl) rfl (fun j g hg hj => by
        match j, hj with
        | 0, _ => simp at hg; subst hg; exact Try.underlying3
        | 1, _ => simp at hg; subst hg; exact Try.underlying3
        | 2, _ => simp at hg; subst hg; exact Try.underlying3) (fun g hg => by simp at hg; subst hg; exact Try.underlying36) Try.underlying3 (by kernel_rfl) (hval 0 22 v0 rfl rfl) h0
      obtain ⟨z1, rfl, _, _, wf1⟩ := open_int Try.underlying3 (hval 1 3 v1 rfl rfl) h1
      obtain ⟨z2, rfl, _, _, wf2⟩ := open_int Try.underlying3 (hval 2 3 v2 rfl rfl) h2
      obtain ⟨z3, rfl, _, _, wf3⟩ := open_int Try.underlying3 (hval 3 3 v3 rfl rfl) h3
      exact fnChangedSince_any A0 c0 xs0 _ _ _ W hl0 hi0 hf0)
end Go.Proofs.Ytaojamioongahaa
