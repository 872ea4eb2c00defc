/- The program's CurrentOn returns what the reference's returns, for all arguments. No condition. -/
import Derived.Test.YtaojamioongahaaLaw
import Derived.Test.YtaojamioongahaaOpen
import Derived.Test.YtaojamioongahaaNest
import Derived.Test.YtaojamioongahaaNestOpen
import Derived.Test.YtaojamioongahaaFamEdition
import Derived.Test.YtaojamioongahaaCur
namespace Go.Proofs.Ytaojamioongahaa
open Go.ChangeShapes Go.WideShapes Go.ChangeAt Go.RowKit
set_option linter.unusedVariables false
set_option linter.unusedSimpArgs false

set_option maxHeartbeats 4000000 in
set_option maxRecDepth 100000 in
theorem fnCurrentOn_any (A : Option Addr) (c : Nat) (xs : List Nest) (sheet : Int) (day : Int) (w : World) (hm : xs.length ≤ 9223372036854775807) (hmi : ∀ x ∈ xs, x.l.length ≤ 9223372036854775807) (hA : Nl w A xs) :
    Calls Try.prog 4 #[.slice A xs.length c, .int .i64 sheet, .int .i64 day] w fun e w' => e = .returned (.bool true) ∧ Below w.heap.size w w' := by
  by_cases hbig : (1048576 : Int) < (wt xs : Int)
  · have hsz := szEditionS_any A c xs w 1048576 (by decide) (by decide) hm hmi hA
    rw [szR_no (by omega)] at hsz
    have HZ := Lib.hid hsz
    clear hsz
    generalize xs.length = n at hm HZ
    go_enter Try.func4, Try.ntmps4
    go_wp2_with fail
    refine (HZ.out).mono ?_
    rintro e w1 ⟨rfl, hb1⟩
    go_wp2
    go_ret
    exact ⟨rfl, hb1⟩
  · have hn : wt xs ≤ 1048576 := by omega
    have hs0 : ¬ (1048576 : Int) - (wt xs : Int) < 0 := by omega
    have hsz := szEditionS_any A c xs w 1048576 (by decide) (by decide) hm hmi hA
    rw [szR_ok (by omega)] at hsz
    have hspec := fun (A' : Option Addr) (c' : Nat) (W : World) (hcap : xs.length ≤ c') (hcm : c' ≤ 9223372036854775807) (h : Nl W A' xs) => specCurrentOn_any A' c' xs sheet day W hn hcap hcm h
    have himpl := fun (A' : Option Addr) (c' : Nat) (W : World) (hcap : xs.length ≤ c') (hcm : c' ≤ 9223372036854775807) (h : Nl W A' xs) => currentOn_any A' c' xs sheet day W hn hcap hcm h
    have hto := fun (W : World) (h : Nl W A xs) => toEditionS_any A c xs W hn h
    have heq := fun (A1 A2 : Option Addr) (c1 c2 : Nat) (W : World) (h1 : Nl W A1 xs) (h2 : Nl W A2 xs) => eqEditionS_same A1 A2 c1 c2 xs W (by omega) h1 h2
    generalize seli (CurOk xs sheet day) (curN day (ofS sheet xs)) = ok0 at hspec himpl
    generalize tb (CurOk xs sheet day) = ok1 at hspec himpl
    have hl0 := wt_len xs
    have hl1 : xs.length ≤ 9223372036854775807 := hm
    generalize hg : xs.length = n at hsz hspec himpl hto heq hl0 hl1 hm ⊢
    have HZ := Lib.hid hsz
    have HS := Lib.hid hspec
    have HI := Lib.hid himpl
    have HT := Lib.hid hto
    have HE := Lib.hid heq
    clear hspec himpl hto heq hsz hg
    have hB := Below.refl w.heap.size w
    go_enter Try.func4, Try.ntmps4
    go_wp2_with fail
    refine (HZ.out).mono ?_
    rintro e w1 ⟨rfl, hb1⟩
    have hA1 := hA.ext hb1
    go_wp2_with fail
    refine (HT.out w1 hA1).mono ?_
    rintro e w2 ⟨D1, rfl, fx1, hb2⟩
    have hA2 := hA1.ext hb2
    go_wp2_with fail
    refine (HS.out _ _ w2 (Nat.le_refl _) hl1 fx1.nl).mono ?_
    rintro e w3 ⟨rfl, hb3⟩
    have hA3 := hA2.ext hb3
    go_wp2_with fail
    refine (HT.out w3 hA3).mono ?_
    rintro e w4 ⟨D2, rfl, fx2, hb4⟩
    have hA4 := hA3.ext hb4
    go_wp2_with fail
    refine (HI.out _ _ w4 (Nat.le_refl _) hl1 fx2.nl).mono ?_
    rintro e w5 ⟨rfl, hb5⟩
    have hA5 := hA4.ext hb5
    have fx3 := fx2.ext hb5
    go_wp2_with fail
    refine (HT.out w5 hA5).mono ?_
    rintro e w6 ⟨D3, rfl, fx4, hb6⟩
    go_wp2_with fail
    refine (HE.out _ _ _ _ w6 (fx3.ext hb6).nl fx4.nl).mono ?_
    rintro e w7 ⟨rfl, hb7⟩
    go_wp2
    go_ret
    exact ⟨rfl, ext_trans hb1 (ext_trans hb2 (ext_trans hb3 (ext_trans hb4 (ext_trans hb5 (ext_trans hb6 hb7)))))⟩

set_option maxRecDepth 100000 in
theorem FnExactCurrentOn_holds : Rows.FnExactCurrentOnSaid :=
  OpenClaim.holds_of_wide 4 Try.f4 rfl rfl rfl rfl rfl rfl rfl ⟨rfl, rfl, rfl, rfl, rfl⟩ rfl rfl rfl rfl rfl (by kernel_rfl) Try.func4 (by kernel_rfl)
    (of_decide_eq_true (by kernel_rfl)) (by unfold Func.isWrapper; first | (rw [if_pos (by decide +kernel)]; kernel_rfl) | (rw [if_neg (by decide +kernel)]; exact ⟨rfl, rfl⟩))
    (fun os started H enc _ => by
      refine law_lifted (s := Rows.fnExactCurrentOnSpec) (conds := []) os started H enc (by kernel_rfl) Try.func4 (by kernel_rfl) rfl rfl Try.underlying4
        (ChangeSpec.witness6 (enc := enc) (C := Try.checked) false ⟨#[], #[.slice none 0 0, .int .i64 0, .int .i64 0], []⟩ 8 (by kernel_rfl) (by kernel_rfl) (by kernel_rfl) (by kernel_rfl)) ?_
      intro W base args ds ps hval hA
      rw [Try.params4] at hA hval
      obtain ⟨v0, vs0, d0, ds0, p0, q0, hargs, rfl, rfl, h0, r0⟩ := trodAll_cons hA
      obtain ⟨v1, vs1, d1, ds1, p1, q1, rfl, rfl, rfl, h1, r1⟩ := trodAll_cons r0
      obtain ⟨v2, vs2, d2, ds2, p2, q2, rfl, rfl, rfl, h2, r2⟩ := trodAll_cons r1
      obtain ⟨rfl, rfl, rfl⟩ := trodAll_nil r2
      obtain rfl : args = #[v0, v1, v2] := by cases args; simp_all
      refine ⟨rfl, ?_⟩
      obtain ⟨A0, c0, xs0, rfl, hl0, hi0, hf0⟩ := open_nest (ti := 3) (tint := 3) Try.underlying22 (by kernel_rfl) Try.underlying57 (by kernel_rfl) rfl
        (fun j g hg hj => by
          match j, hj with
          | 0, _ => simp at hg; subst hg; exact Try.underlying3
          | 1, _ => simp at hg; subst hg; exact Try.underlying3
          | 2, _ => simp at hg; subst hg; exact Try.underlying3)
        (fun g hg => by simp at hg; subst hg; exact Try.underlying36) Try.underlying3 (by kernel_rfl) (hval 0 22 v0 rfl rfl) h0
      obtain ⟨z1, rfl, _, _, wf1⟩ := open_int Try.underlying3 (hval 1 3 v1 rfl rfl) h1
      obtain ⟨z2, rfl, _, _, wf2⟩ := open_int Try.underlying3 (hval 2 3 v2 rfl rfl) h2
      exact fnCurrentOn_any A0 c0 xs0 _ _ W hl0 hi0 hf0)
end Go.Proofs.Ytaojamioongahaa
