/- The great law FnLoans. No condition. -/
import Derived.Test.YtpmhbkfcddbenaaLaw
import Derived.Test.YtpmhbkfcddbenaaOpen
import Derived.Test.YtpmhbkfcddbenaaOpB
import Derived.Test.YtpmhbkfcddbenaaDrLoa
import Derived.Test.YtpmhbkfcddbenaaSrLoans
import Derived.Test.YtpmhbkfcddbenaaFamInt
import Derived.Test.YtpmhbkfcddbenaaHasR
import Derived.Test.YtpmhbkfcddbenaaLoaP
import Derived.Test.YtpmhbkfcddbenaaLendI
import Derived.Test.YtpmhbkfcddbenaaLendS
import Derived.Test.YtpmhbkfcddbenaaRetI
import Derived.Test.YtpmhbkfcddbenaaRetS
import Derived.Test.YtpmhbkfcddbenaaWho
import Derived.Test.YtpmhbkfcddbenaaFine
import Derived.Test.YtpmhbkfcddbenaaOpnI
import Derived.Test.YtpmhbkfcddbenaaLst
import Derived.Lib.SmallJoins
import Derived.Deep.DeepCutAuto
import Derived.Deep.RegionLaw
namespace Go.Proofs.Ytpmhbkfcddbenaa
open Go.ChangeShapes Go.WideShapes Go.ChangeAt Go.RowKit Go.Joins
set_option linter.unusedVariables false
set_option linter.unusedSimpArgs false

set_option maxHeartbeats 16000000 in
set_option maxRecDepth 100000 in
theorem fnLoans_any (A : Option Addr) (n cap : Nat) (w : World) (hm : n ≤ 9223372036854775807) (hA : Bytes w A n) :
    Calls Try.prog 3 #[.slice A n cap] w fun e w' => e = .returned (.bool true) ∧ Below w.heap.size w w' := by
  by_cases hbig : 65536 < (n : Int)
  · go_enter Try.func3, Try.ntmps3
    go_wp2_with fail
    ((with_reducible refine (rBig_any A n cap w _ Iff.rfl).mono ?_); rintro e w9 ⟨rfl, rfl⟩)
    rw [tb_t hbig]
    go_wp2
    go_ret
    exact ⟨rfl, Below.refl _ _⟩
  · have hn16 : n ≤ 1099511627776 := by omega
    have hB := Below.refl w.heap.size w
    go_enter Try.func3, Try.ntmps3
    go_wp2_with fail
    ((with_reducible refine (rBig_any A n cap w _ Iff.rfl).mono ?_); rintro e w9 ⟨rfl, rfl⟩)
    rw [tb_f (show ¬ 65536 < (n : Int) by omega)]
    clear hbig hm
    go_wp2_with fail
    ((with_reducible refine (drawLendSheet_any A n cap w hA hn16).mono ?_); rintro e w1 ⟨LA, ld, xs, sh, rd, dy, dz, rfl, hcap, hxl, hN, hb1⟩)
    replace hA := hA.ext hb1
    replace hB := ext_trans hB hb1
    have hz1 := hb1.size
    obtain ⟨hc1, hc2⟩ := hcap
    have hI := fun W h => lendSheet_any LA ld xs sh rd dy dz W (by omega) hc1 hc2 h
    have hJ := fun W h => specLendSheet_any LA ld xs sh rd dy dz W (by omega) hc1 hc2 h
    obtain ⟨out, hg_out⟩ : ∃ z, z = sel (LeOk xs sh rd dy dz) (xs ++ [lentX sh rd dy dz]) := ⟨_, rfl⟩
    obtain ⟨ok, hg_ok⟩ : ∃ z, z = tb (LeOk xs sh rd dy dz) := ⟨_, rfl⟩
    simp only [← hg_out, ← hg_ok] at hI hJ
    have HI := Lib.hid hI
    have HJ := Lib.hid hJ
    have HG_out := Lib.hid hg_out
    have HG_ok := Lib.hid hg_ok
    clear hI hJ hg_out hg_ok
    have hol : out.length ≤ 18 := HG_out.out ▸ Nat.le_trans (sel_len _ _) (by simp; omega)
    have z1 : (ok != ok) = false := by simp
    have z2 : (rd != rd) = false := by simp
    go_wp2_with fail
    ((with_reducible refine (HI.out _ hN.fl).mono ?_); rintro e w2 ⟨R1, d1, rfl, hcp, hR1, hb2⟩)
    replace hA := hA.ext hb2
    replace hN := hN.ext hb2
    replace hB := ext_trans hB hb2
    have hz2 := hb2.size
    go_wp2_with fail
    ((with_reducible refine (HJ.out _ hN.fl).mono ?_); rintro e w3 ⟨R2, d2, rfl, hcq, hR2, hb3⟩)
    replace hA := hA.ext hb3
    replace hN := hN.ext hb3
    replace hR1 := hR1.ext hb3
    replace hB := ext_trans hB hb3
    have hz3 := hb3.size
    go_wp2_with fail
    ((with_reducible refine (rLoans_same _ _ _ _ out _ (by omega) hR1.fl hR2.fl).mono ?_); rintro e w4 ⟨rfl, hb4⟩)
    replace hA := hA.ext hb4
    replace hN := hN.ext hb4
    replace hR1 := hR1.ext hb4
    replace hR2 := hR2.ext hb4
    replace hB := ext_trans hB hb4
    have hz4 := hb4.size
    clear hR2
    go_upto_if 76 with fail
    go_cut [] (fun wx => Below (World.heap w4).size w4 wx)
    case first =>
      by_cases hNO : (LeOk xs sh rd dy dz)
      · skip
        obtain rfl : ok = true := by rw [HG_ok.out, tb_t hNO]
        have hout : out = (xs ++ [lentX sh rd dy dz]) := by rw [HG_out.out, sel_t hNO]
        obtain ⟨⟨f1, f2⟩, ⟨f3, f4⟩, f5, f6⟩ := lend_facts hNO
        simp only [← hout] at f3 f4 f5 f6
        have hWa := fun W h => whoHas_any LA ld xs sh dy W (by omega) hc1 hc2 h
        simp only [seli_t f1, tb_t f1, f2] at hWa
        have hWb := fun W h => whoHas_any R1 d1 out sh dy W (by omega) hcp.1 hcp.2 h
        simp only [seli_t f3, tb_t f3, f4] at hWb
        have hOl := fun W h => openLoans_any R1 d1 out rd dy W (by omega) hcp.1 hcp.2 h
        simp only [sel_t f5, tb_t f5] at hOl
        have hosl : ((openS rd dy out).mergeSort leI).length ≤ 1048576 := by rw [List.length_mergeSort]; exact Nat.le_trans (openS_len _ _ _) (by omega)
        obtain ⟨os, hos⟩ : ∃ z, z = (openS rd dy out).mergeSort leI := ⟨_, rfl⟩
        simp only [← hos] at hOl f6 hosl
        have HWA := Lib.hid hWa
        have HWB := Lib.hid hWb
        have HOL := Lib.hid hOl
        have HF6 := Lib.hid f6
        clear hWa hWb hOl f1 f2 f3 f4 f5 f6 hout hos hNO HG_out HG_ok HI HJ z1
        go_wp2_with fail
        ((with_reducible refine (HWA.out _ hN.fl).mono ?_); rintro e w5 ⟨rfl, hb5⟩)
        replace hA := hA.ext hb5
        replace hN := hN.ext hb5
        replace hR1 := hR1.ext hb5
        replace hB := ext_trans hB hb5
        have hz5 := hb5.size
        go_wp2_with fail
        ((with_reducible refine (HWB.out _ hR1.fl).mono ?_); rintro e w6 ⟨rfl, hb6⟩)
        replace hA := hA.ext hb6
        replace hN := hN.ext hb6
        replace hR1 := hR1.ext hb6
        replace hB := ext_trans hB hb6
        have hz6 := hb6.size
        go_wp2_with fail
        ((with_reducible refine (HOL.out _ hR1.fl).mono ?_); rintro e w7 ⟨R3, d3, rfl, hR3, hb7⟩)
        replace hA := hA.ext hb7
        replace hN := hN.ext hb7
        replace hR1 := hR1.ext hb7
        replace hB := ext_trans hB hb7
        have hz7 := hb7.size
        go_wp2_with fail
        ((with_reducible refine (hasI_any R3 d3 os sh _ (by omega) hR3.fl).mono ?_); rintro e w8 ⟨rfl, hb8⟩)
        replace hA := hA.ext hb8
        replace hN := hN.ext hb8
        replace hR1 := hR1.ext hb8
        replace hR3 := hR3.ext hb8
        replace hB := ext_trans hB hb8
        have hz8 := hb8.size
        rw [tb_t HF6.out]
        go_wp2
        go_meet
        exact ext_trans (ext_trans (ext_trans (hb5) hb6) hb7) hb8
      · obtain rfl : ok = false := by rw [HG_ok.out, tb_f hNO]
        go_wp2
        go_meet
        exact Below.refl _ _
    case rest =>
      obtain ⟨w9, hwz⟩ : ∃ z, z = wc := ⟨_, rfl⟩
      subst hwz
      clear hN hR1 HI HJ HG_out HG_ok z1 z2 hcp hcq hol
      replace hA := hA.ext hcut
      replace hB := ext_trans hB hcut
      have hz9 := hcut.size
      go_wp2_with fail
      ((with_reducible refine (drawReturnSheet_any A n cap _ hA hn16).mono ?_); rintro e w10 ⟨MA, md, ys, s2, y2, rfl, hcap2, hyl, hM, hb10⟩)
      replace hA := hA.ext hb10
      replace hB := ext_trans hB hb10
      have hz10 := hb10.size
      obtain ⟨hc3, hc4⟩ := hcap2
      have hI := fun W h => returnSheet_any MA md ys s2 y2 W (by omega) hc3 hc4 h
      have hJ := fun W h => specReturnSheet_any MA md ys s2 y2 W (by omega) hc3 hc4 h
      obtain ⟨bk, hg_bk⟩ : ∃ z, z = sel (RtOk ys s2 y2) (retL s2 y2 ys) := ⟨_, rfl⟩
      obtain ⟨fe, hg_fe⟩ : ∃ z, z = seli (RtOk ys s2 y2) (retF s2 y2 ys) := ⟨_, rfl⟩
      obtain ⟨ok, hg_ok⟩ : ∃ z, z = tb (RtOk ys s2 y2) := ⟨_, rfl⟩
      simp only [← hg_bk, ← hg_fe, ← hg_ok] at hI hJ
      have HI := Lib.hid hI
      have HJ := Lib.hid hJ
      have HG_bk := Lib.hid hg_bk
      have HG_fe := Lib.hid hg_fe
      have HG_ok := Lib.hid hg_ok
      clear hI hJ hg_bk hg_fe hg_ok
      have hP := fun W h => whoHas_any MA md ys s2 y2 W (by omega) hc3 hc4 h
      have hQ := fun W h => specWhoHas_any MA md ys s2 y2 W (by omega) hc3 hc4 h
      obtain ⟨wa, hg_wa⟩ : ∃ z, z = seli (WhOk ys s2 y2) (whoL s2 y2 ys) := ⟨_, rfl⟩
      obtain ⟨wk, hg_wk⟩ : ∃ z, z = tb (WhOk ys s2 y2) := ⟨_, rfl⟩
      simp only [← hg_wa, ← hg_wk] at hP hQ
      have HP := Lib.hid hP
      have HQ := Lib.hid hQ
      have HG_wa := Lib.hid hg_wa
      have HG_wk := Lib.hid hg_wk
      clear hP hQ hg_wa hg_wk
      have hS := fun W h => fineOn_any MA md ys s2 y2 W (by omega) hc3 hc4 h
      have hT := fun W h => specFineOn_any MA md ys s2 y2 W (by omega) hc3 hc4 h
      obtain ⟨fa, hg_fa⟩ : ∃ z, z = seli (FnOk ys s2 y2) (fineL s2 y2 ys) := ⟨_, rfl⟩
      obtain ⟨fk, hg_fk⟩ : ∃ z, z = tb (FnOk ys s2 y2) := ⟨_, rfl⟩
      simp only [← hg_fa, ← hg_fk] at hS hT
      have HS := Lib.hid hS
      have HT := Lib.hid hT
      have HG_fa := Lib.hid hg_fa
      have HG_fk := Lib.hid hg_fk
      clear hS hT hg_fa hg_fk
      have hE := fun W h => areLoans_any MA md ys W (by omega) hc3 hc4 h
      have hF := fun W h => specAreLoans_any MA md ys W (by omega) hc3 hc4 h
      obtain ⟨ar, hg_ar⟩ : ∃ z, z = tb (Lns ys) := ⟨_, rfl⟩
      simp only [← hg_ar] at hE hF
      have HE := Lib.hid hE
      have HF := Lib.hid hF
      have HG_ar := Lib.hid hg_ar
      clear hE hF hg_ar
      have hbl : bk.length ≤ 17 := HG_bk.out ▸ Nat.le_trans (sel_len _ _) (by have := retL_len s2 y2 ys; omega)
      have z1 : (ok != ok) = false := by simp
      have z2 : (fe != fe) = false := by simp
      go_wp2_with fail
      ((with_reducible refine (HI.out _ hM.fl).mono ?_); rintro e w11 ⟨R4, d4, rfl, hcp, hR4, hb11⟩)
      replace hA := hA.ext hb11
      replace hM := hM.ext hb11
      replace hB := ext_trans hB hb11
      have hz11 := hb11.size
      go_wp2_with fail
      ((with_reducible refine (HJ.out _ hM.fl).mono ?_); rintro e w12 ⟨R5, d5, rfl, hcq, hR5, hb12⟩)
      replace hA := hA.ext hb12
      replace hM := hM.ext hb12
      replace hR4 := hR4.ext hb12
      replace hB := ext_trans hB hb12
      have hz12 := hb12.size
      go_wp2_with fail
      ((with_reducible refine (rLoans_same _ _ _ _ bk _ (by omega) hR4.fl hR5.fl).mono ?_); rintro e w13 ⟨rfl, hb13⟩)
      replace hA := hA.ext hb13
      replace hM := hM.ext hb13
      replace hR4 := hR4.ext hb13
      replace hR5 := hR5.ext hb13
      replace hB := ext_trans hB hb13
      have hz13 := hb13.size
      clear hR5
      go_upto_if 159 with fail
      go_cut [] (fun wx => Below (World.heap w13).size w13 wx)
      case first =>
        by_cases hNO : (RtOk ys s2 y2)
        · skip
          obtain rfl : ok = true := by rw [HG_ok.out, tb_t hNO]
          have hbk : bk = retL s2 y2 ys := by rw [HG_bk.out, sel_t hNO]
          have hfe : fe = retF s2 y2 ys := by rw [HG_fe.out, seli_t hNO]
          obtain ⟨⟨f1, f2⟩, f3, f4⟩ := return_facts hNO
          simp only [← hbk, ← hfe] at f1 f2 f3 f4
          have hWa := fun W h => whoHas_any R4 d4 bk s2 y2 W (by omega) hcp.1 hcp.2 h
          simp only [seli_t f1, tb_t f1, f2] at hWa
          have hFa := fun W h => fineOn_any R4 d4 bk s2 y2 W (by omega) hcp.1 hcp.2 h
          simp only [seli_t f3, tb_t f3, f4] at hFa
          have HWA := Lib.hid hWa
          have HFA := Lib.hid hFa
          clear hWa hFa f1 f2 f3 f4 hbk hfe hNO HG_bk HG_fe HG_ok HI HJ z1
          go_wp2_with fail
          ((with_reducible refine (HWA.out _ hR4.fl).mono ?_); rintro e w14 ⟨rfl, hb14⟩)
          replace hA := hA.ext hb14
          replace hM := hM.ext hb14
          replace hR4 := hR4.ext hb14
          replace hB := ext_trans hB hb14
          have hz14 := hb14.size
          go_wp2_with fail
          ((with_reducible refine (HFA.out _ hR4.fl).mono ?_); rintro e w15 ⟨rfl, hb15⟩)
          replace hA := hA.ext hb15
          replace hM := hM.ext hb15
          replace hR4 := hR4.ext hb15
          replace hB := ext_trans hB hb15
          have hz15 := hb15.size
          go_wp2
          go_meet
          exact ext_trans (hb14) hb15
        · obtain rfl : ok = false := by rw [HG_ok.out, tb_f hNO]
          go_wp2
          go_meet
          exact Below.refl _ _
      case rest =>
        obtain ⟨w16, hwz⟩ : ∃ z, z = wc := ⟨_, rfl⟩
        subst hwz
        clear hR4 HI HJ HG_bk HG_fe HG_ok z1 z2 hcp hcq hbl
        replace hA := hA.ext hcut
        replace hM := hM.ext hcut
        replace hB := ext_trans hB hcut
        have hz16 := hcut.size
        have z3 : (wa == wa) = true := beq_self_eq_true _
        have z4 : (wk == wk) = true := beq_self_eq_true _
        have z5 : (fa == fa) = true := beq_self_eq_true _
        have z6 : (fk == fk) = true := beq_self_eq_true _
        have z7 : (ar == ar) = true := beq_self_eq_true _
        go_wp2_with fail
        ((with_reducible refine (HP.out _ hM.fl).mono ?_); rintro e w17 ⟨rfl, hb17⟩)
        replace hA := hA.ext hb17
        replace hM := hM.ext hb17
        replace hB := ext_trans hB hb17
        have hz17 := hb17.size
        go_wp2_with fail
        ((with_reducible refine (HQ.out _ hM.fl).mono ?_); rintro e w18 ⟨rfl, hb18⟩)
        replace hA := hA.ext hb18
        replace hM := hM.ext hb18
        replace hB := ext_trans hB hb18
        have hz18 := hb18.size
        go_wp2_with fail
        ((with_reducible refine (HS.out _ hM.fl).mono ?_); rintro e w19 ⟨rfl, hb19⟩)
        replace hA := hA.ext hb19
        replace hM := hM.ext hb19
        replace hB := ext_trans hB hb19
        have hz19 := hb19.size
        go_wp2_with fail
        ((with_reducible refine (HT.out _ hM.fl).mono ?_); rintro e w20 ⟨rfl, hb20⟩)
        replace hA := hA.ext hb20
        replace hM := hM.ext hb20
        replace hB := ext_trans hB hb20
        have hz20 := hb20.size
        go_wp2_with fail
        ((with_reducible refine (HE.out _ hM.fl).mono ?_); rintro e w21 ⟨rfl, hb21⟩)
        replace hA := hA.ext hb21
        replace hM := hM.ext hb21
        replace hB := ext_trans hB hb21
        have hz21 := hb21.size
        go_wp2_with fail
        ((with_reducible refine (HF.out _ hM.fl).mono ?_); rintro e w22 ⟨rfl, hb22⟩)
        replace hA := hA.ext hb22
        replace hM := hM.ext hb22
        replace hB := ext_trans hB hb22
        have hz22 := hb22.size
        go_wp2
        go_ret
        exact ⟨rfl, hB⟩

set_option maxRecDepth 100000 in
theorem FnLoans_holds : Rows.FnLoansSaid :=
  OpenClaim.holds_of_wide 3 Try.f3 rfl rfl rfl rfl rfl rfl rfl ⟨rfl, rfl, rfl, rfl, rfl⟩ rfl rfl rfl rfl rfl (by kernel_rfl) Try.func3 (by kernel_rfl)
    (of_decide_eq_true (by kernel_rfl)) (by unfold Func.isWrapper; first | (rw [if_pos (by decide +kernel)]; kernel_rfl) | (rw [if_neg (by decide +kernel)]; exact ⟨rfl, rfl⟩))
    (fun os started H enc _ => by
      refine law_lifted (s := Rows.fnLoansSpec) (conds := []) os started H enc (by kernel_rfl) Try.func3 (by kernel_rfl) rfl rfl Try.underlying4
        (ChangeSpec.witness6 (enc := enc) (C := Try.checked) false ⟨#[], #[.slice none 0 0], []⟩ 8 (by kernel_rfl) (by kernel_rfl) (by kernel_rfl) (by kernel_rfl)) ?_
      intro W base args ds ps hval hA
      rw [Try.params3] at hA hval
      obtain ⟨v0, vs0, d0, ds0, p0, q0, hargs, rfl, rfl, h0, r0⟩ := trodAll_cons hA
      obtain ⟨rfl, rfl, rfl⟩ := trodAll_nil r0
      obtain rfl : args = #[v0] := by cases args; simp_all
      refine ⟨rfl, ?_⟩
      obtain ⟨A0, n0, c0, rfl, hm0, hb0⟩ := open_bytes Try.underlying22 Try.underlying5 (by kernel_rfl) (hval 0 22 v0 rfl rfl) h0
      exact fnLoans_any A0 n0 c0 W hm0 hb0)
end Go.Proofs.Ytpmhbkfcddbenaa
