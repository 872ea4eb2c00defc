/- The program's LateOn returns what the reference's returns, for all arguments. No condition. -/
import Derived.Test.YtbmdhkdlhohjhaaLaw
import Derived.Test.YtbmdhkdlhohjhaaOpen
import Derived.Test.YtbmdhkdlhohjhaaLst
import Derived.Test.YtbmdhkdlhohjhaaFamLoan
import Derived.Test.YtbmdhkdlhohjhaaFamInt
import Derived.Test.YtbmdhkdlhohjhaaLateI
import Derived.Test.YtbmdhkdlhohjhaaLateSp
namespace Go.Proofs.Ytbmdhkdlhohjhaa
open Go.ChangeShapes Go.WideShapes Go.ChangeAt Go.RowKit
set_option linter.unusedVariables false
set_option linter.unusedSimpArgs false

set_option maxHeartbeats 4000000 in
set_option maxRecDepth 100000 in
theorem fnLateOn_any (A0 : Option Addr) (c0 : Nat) (xs0 : List Loan) (day : Int) (w : World) (hm0 : xs0.length ≤ 9223372036854775807) (hA0 : Fl Loan.ints 5 w A0 xs0) :
    Calls Try.prog 8 #[.slice A0 xs0.length c0, .int .i64 day] w fun e w' => e = .returned (.bool true) ∧ Below w.heap.size w w' := by
  by_cases hbig0 : (1048576 : Int) < (xs0.length : Int)
  · skip
    have hsz0 := fun W => szLoanS_no A0 xs0.length c0 W (1048576) (by omega) (by omega) hm0 (by omega)
    have HZ0 := Lib.hid hsz0
    clear hsz0
    go_enter Try.func8, Try.ntmps8
    go_wp2_with fail
    refine (HZ0.out _).mono ?_
    rintro e w9 ⟨rfl, rfl⟩
    go_wp2
    go_ret
    exact ⟨rfl, Below.refl w.heap.size w⟩
  · have hn0 : xs0.length ≤ 1048576 := by omega
    have hs0 : ¬ (1048576 : Int) - (xs0.length : Int) < 0 := by omega
    have hA00 := hA0
    have hB := Below.refl w.heap.size w
    have hsz0 := fun W => szLoanS_ok A0 xs0.length c0 W (1048576) (by omega) (by omega) hm0 (by omega)
    have hspec := fun (A0 : Option Addr) (c0 : Nat) (W : World) (cap0 : xs0.length ≤ c0) (cm0 : c0 ≤ 9223372036854775807) (h0 : Fl Loan.ints 5 W A0 xs0) => specLateOn_any A0 c0 xs0 day W hn0 cap0 cm0 h0
    have himpl := fun (A0 : Option Addr) (c0 : Nat) (W : World) (cap0 : xs0.length ≤ c0) (cm0 : c0 ≤ 9223372036854775807) (h0 : Fl Loan.ints 5 W A0 xs0) => lateOn_any A0 c0 xs0 day W hn0 cap0 cm0 h0
    have hto0 := fun (W : World) (h : Fl Loan.ints 5 W A0 xs0) => toLoanS_any A0 c0 xs0 W hn0 h
    have heq0 := fun (B C : Option Addr) (c d : Nat) (W : World) (h1 : Fl Loan.ints 5 W B xs0) (h2 : Fl Loan.ints 5 W C xs0) => eqLoanS_same B C c d xs0 W (by omega) h1 h2
    have hmk0 := fun (B : Option Addr) (c lo hi : Nat) (k0 : Int) (W : World) (q0 : 0 ≤ k0) (q1 : k0 ≤ 549755813888) (h : FlO Loan.ints 5 lo hi W B xs0) => markLoanS_any B c lo hi k0 xs0 W q0 (by omega) (by omega) h
    have hl0 : xs0.length ≤ 9223372036854775807 := hm0
    have hyl0 : (sel (LtOk xs0 day) (putAll (lateS day xs0))).length ≤ 1048576 := Nat.le_trans (sel_len _ _) (Nat.le_trans (putAll_len _) (Nat.le_trans (lateS_len _ _) hn0))
    generalize sel (LtOk xs0 day) (putAll (lateS day xs0)) = ys0 at hspec himpl hyl0
    generalize tb (LtOk xs0 day) = ok0 at hspec himpl
    have her0 := fun (B C : Option Addr) (c d : Nat) (W : World) (h1 : Fl one 1 W B ys0) (h2 : Fl one 1 W C ys0) => eqIntS_same B C c d ys0 W (by omega) h1 h2
    have hmr0 := fun (B : Option Addr) (c lo hi : Nat) (k0 : Int) (W : World) (q0 : 0 ≤ k0) (q1 : k0 ≤ 549755813888) (h : FlO one 1 lo hi W B ys0) => markIntS_any B c lo hi k0 ys0 W q0 (by omega) (by omega) h
    have hhr0 := fun (B : Option Addr) (c lo hi : Nat) (k0 : Int) (W : World) (q0 : 0 ≤ k0) (q1 : k0 ≤ 549755813888) (h : Num lo hi W B (ys0.length) k0) => heldIntS_any B ys0.length c lo hi k0 W q0 (by omega) (by omega) h
    generalize hg0 : xs0.length = n0 at hspec himpl hsz0 hto0 heq0 hmk0 hl0 hm0 hn0 hs0 ⊢
    clear hg0
    have HSPEC := Lib.hid hspec
    clear hspec
    have HIMPL := Lib.hid himpl
    clear himpl
    have HSZ0 := Lib.hid hsz0
    clear hsz0
    have HTO0 := Lib.hid hto0
    clear hto0
    have HEQ0 := Lib.hid heq0
    clear heq0
    have HMK0 := Lib.hid hmk0
    clear hmk0
    have HER0 := Lib.hid her0
    clear her0
    have HMR0 := Lib.hid hmr0
    clear hmr0
    have HHR0 := Lib.hid hhr0
    clear hhr0
    go_enter Try.func8, Try.ntmps8
    go_wp2_with fail
    refine (HSZ0.out _).mono ?_
    rintro e w' ⟨rfl, rfl⟩
    go_wp2_with fail
    refine (HTO0.out w hA0).mono ?_
    rintro e w1 ⟨D1, rfl, fx1, hb1⟩
    have hB := ext_trans hB hb1
    have hz1 := hb1.size
    have hA0 := hA00.ext hB
    go_wp2_with fail
    refine (HSPEC.out _ _ w1 (Nat.le_refl _) hl0 fx1.fl).mono ?_
    rintro e w2 ⟨R2_0, d2_0, rfl, fr2_0, hb2⟩
    have fx1 := fx1.ext hb2
    have hB := ext_trans hB hb2
    have hz2 := hb2.size
    have hA0 := hA00.ext hB
    go_wp2_with fail
    refine (HTO0.out w2 hA0).mono ?_
    rintro e w3 ⟨D3, rfl, fx3, hb3⟩
    have fx1 := fx1.ext hb3
    have fr2_0 := fr2_0.ext hb3
    have hB := ext_trans hB hb3
    have hz3 := hb3.size
    have hA0 := hA00.ext hB
    go_wp2_with fail
    refine (HIMPL.out _ _ w3 (Nat.le_refl _) hl0 fx3.fl).mono ?_
    rintro e w4 ⟨R4_0, d4_0, rfl, fr4_0, hb4⟩
    have fx1 := fx1.ext hb4
    have fr2_0 := fr2_0.ext hb4
    have fx3 := fx3.ext hb4
    have hB := ext_trans hB hb4
    have hz4 := hb4.size
    have hA0 := hA00.ext hB
    go_wp2_with fail
    refine (HER0.out _ _ _ _ w4 fr4_0.fl fr2_0.fl).mono ?_
    rintro e w5 ⟨rfl, hb5⟩
    have fx1 := fx1.ext hb5
    have fr2_0 := fr2_0.ext hb5
    have fx3 := fx3.ext hb5
    have fr4_0 := fr4_0.ext hb5
    have hB := ext_trans hB hb5
    have hz5 := hb5.size
    have hA0 := hA00.ext hB
    go_wp2_with fail
    refine (HTO0.out w5 hA0).mono ?_
    rintro e w6 ⟨D5, rfl, fx5, hb6⟩
    have fx1 := fx1.ext hb6
    have fr2_0 := fr2_0.ext hb6
    have fx3 := fx3.ext hb6
    have fr4_0 := fr4_0.ext hb6
    have hB := ext_trans hB hb6
    have hz6 := hb6.size
    have hA0 := hA00.ext hB
    go_wp2_with fail
    refine (HEQ0.out _ _ _ _ w6 fx3.fl fx5.fl).mono ?_
    rintro e w7 ⟨rfl, hb7⟩
    have fx1 := fx1.ext hb7
    have fr2_0 := fr2_0.ext hb7
    have fx3 := fx3.ext hb7
    have fr4_0 := fr4_0.ext hb7
    have fx5 := fx5.ext hb7
    have hB := ext_trans hB hb7
    have hz7 := hb7.size
    have hA0 := hA00.ext hB
    go_wp2_with fail
    refine (HMK0.out _ _ _ _ (1) w7 (by omega) (by omega) fx3).mono ?_
    rintro e w8 ⟨rfl, nx8, ht8⟩
    have fr2_0 := fr2_0.touch ht8 (by omega)
    have fr4_0 := fr4_0.touch ht8 (by omega)
    have hB := ht8.below hB (by omega)
    have hz8 := ht8.size
    have hA0 := hA00.ext hB
    have hk0 : ¬ (1 + (n0 : Int) * 5 : Int) < 0 := by omega
    go_wp2_with fail
    refine (HER0.out _ _ _ _ w8 fr4_0.fl fr2_0.fl).mono ?_
    rintro e w9 ⟨rfl, hb9⟩
    have fr2_0 := fr2_0.ext hb9
    have fr4_0 := fr4_0.ext hb9
    have hB := ext_trans hB hb9
    have hz9 := hb9.size
    have hA0 := hA00.ext hB
    go_wp2_with fail
    refine (HMR0.out _ _ _ _ (1) w9 (by omega) (by omega) fr4_0).mono ?_
    rintro e w10 ⟨rfl, nr0, ht10⟩
    have fr2_0 := fr2_0.touch ht10 (by omega)
    have hB := ht10.below hB (by omega)
    have hz10 := ht10.size
    have hA0 := hA00.ext hB
    have hq0 : ¬ (1 + (ys0.length : Int) : Int) < 0 := by omega
    go_wp2_with fail
    refine (HHR0.out _ _ _ _ (1) w10 (by omega) (by omega) nr0).mono ?_
    rintro e w' ⟨rfl, rfl⟩
    go_wp2_with fail
    refine (HTO0.out w10 hA0).mono ?_
    rintro e w11 ⟨D6, rfl, fx6, hb11⟩
    have fr2_0 := fr2_0.ext hb11
    have nr0 := nr0.ext hb11
    have hB := ext_trans hB hb11
    have hz11 := hb11.size
    have hA0 := hA00.ext hB
    go_wp2_with fail
    refine (HIMPL.out _ _ w11 (Nat.le_refl _) hl0 fx6.fl).mono ?_
    rintro e w12 ⟨R7_0, d7_0, rfl, fr7_0, hb12⟩
    have fr2_0 := fr2_0.ext hb12
    have nr0 := nr0.ext hb12
    have fx6 := fx6.ext hb12
    have hB := ext_trans hB hb12
    have hz12 := hb12.size
    have hA0 := hA00.ext hB
    go_wp2_with fail
    refine (HER0.out _ _ _ _ w12 fr7_0.fl fr2_0.fl).mono ?_
    rintro e w13 ⟨rfl, hb13⟩
    have fr2_0 := fr2_0.ext hb13
    have nr0 := nr0.ext hb13
    have fx6 := fx6.ext hb13
    have fr7_0 := fr7_0.ext hb13
    have hB := ext_trans hB hb13
    have hz13 := hb13.size
    have hA0 := hA00.ext hB
    go_wp2_with fail
    refine (HHR0.out _ _ _ _ (1) w13 (by omega) (by omega) nr0).mono ?_
    rintro e w' ⟨rfl, rfl⟩
    go_wp2
    go_ret
    exact ⟨rfl, hB⟩

set_option maxRecDepth 100000 in
theorem FnExactLateOn_holds : Rows.FnExactLateOnSaid :=
  OpenClaim.holds_of_wide 8 Try.f8 rfl rfl rfl rfl rfl rfl rfl ⟨rfl, rfl, rfl, rfl, rfl⟩ rfl rfl rfl rfl rfl (by kernel_rfl) Try.func8 (by kernel_rfl)
    (of_decide_eq_true (by kernel_rfl)) (by unfold Func.isWrapper; first | (rw [if_pos (by decide +kernel)]; kernel_rfl) | (rw [if_neg (by decide +kernel)]; exact ⟨rfl, rfl⟩))
    (fun os started H enc _ => by
      refine law_lifted (s := Rows.fnExactLateOnSpec) (conds := []) os started H enc (by kernel_rfl) Try.func8 (by kernel_rfl) rfl rfl Try.underlying4
        (ChangeSpec.witness6 (enc := enc) (C := Try.checked) false ⟨#[], #[.slice none 0 0, .int .i64 0], []⟩ 8 (by kernel_rfl) (by kernel_rfl) (by kernel_rfl) (by kernel_rfl)) ?_
      intro W base args ds ps hval hA
      rw [Try.params8] at hA hval
      obtain ⟨v0, vs0, d0, ds0, p0, q0, hargs, rfl, rfl, h0, r0⟩ := trodAll_cons hA
      obtain ⟨v1, vs1, d1, ds1, p1, q1, rfl, rfl, rfl, h1, r1⟩ := trodAll_cons r0
      obtain ⟨rfl, rfl, rfl⟩ := trodAll_nil r1
      obtain rfl : args = #[v0, v1] := by cases args; simp_all
      refine ⟨rfl, ?_⟩
      obtain ⟨A0, c0, xs0, rfl, hl0, hf0⟩ := open_flat (f := Loan.ints) Try.underlying53 (by kernel_rfl) (by decide) (intElem_struct Try.underlying101 (by kernel_rfl) rfl (intfields_of (by kernel_rfl))) Loan.mk_ints (hval 0 53 v0 rfl rfl) h0
      obtain ⟨z1, rfl, _, _, wf1⟩ := open_int Try.underlying3 (hval 1 3 v1 rfl rfl) h1
      exact fnLateOn_any A0 c0 xs0 _ W hl0 hf0)
end Go.Proofs.Ytbmdhkdlhohjhaa
