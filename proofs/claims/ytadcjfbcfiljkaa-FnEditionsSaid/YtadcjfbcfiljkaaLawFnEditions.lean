/- The great law FnEditions. No condition. -/
import Derived.Test.YtadcjfbcfiljkaaLaw
import Derived.Test.YtadcjfbcfiljkaaOpen
import Derived.Test.YtadcjfbcfiljkaaOpB
import Derived.Test.YtadcjfbcfiljkaaDrEdC
import Derived.Test.YtadcjfbcfiljkaaREd
import Derived.Test.YtadcjfbcfiljkaaFamInt
import Derived.Test.YtadcjfbcfiljkaaHasR
import Derived.Test.YtadcjfbcfiljkaaEdF
import Derived.Test.YtadcjfbcfiljkaaNewEdC
import Derived.Test.YtadcjfbcfiljkaaNewEd
import Derived.Test.YtadcjfbcfiljkaaDropL
import Derived.Test.YtadcjfbcfiljkaaCsI
import Derived.Test.YtadcjfbcfiljkaaCsS
import Derived.Test.YtadcjfbcfiljkaaPlaceH
import Derived.Test.YtadcjfbcfiljkaaCur
import Derived.Test.YtadcjfbcfiljkaaGoodEds
import Derived.Test.YtadcjfbcfiljkaaAreEds
import Derived.Test.YtadcjfbcfiljkaaLst
import Derived.Lib.SmallJoins
import Derived.Deep.DeepCutAuto
import Derived.Deep.RegionLaw
namespace Go.Proofs.Ytadcjfbcfiljkaa
open Go.ChangeShapes Go.WideShapes Go.ChangeAt Go.RowKit Go.Joins
set_option linter.unusedVariables false
set_option linter.unusedSimpArgs false

set_option maxHeartbeats 16000000 in
set_option maxRecDepth 100000 in
theorem fnEditions_any (A : Option Addr) (n cap : Nat) (w : World) (hm : n ≤ 9223372036854775807) (hA : Bytes w A n) :
    Calls Try.prog 3 #[.slice A n cap] w fun e w' => e = .returned (.bool true) ∧ Below w.heap.size w w' := by
  by_cases hbig : 65536 < (n : Int)
  · go_enter Try.func3, Try.ntmps3
    go_wp2_with fail
    ((with_reducible refine (rBig_any A n cap w _ Iff.rfl).mono ?_); rintro e w9 ⟨rfl, rfl⟩)
    rw [tb_t hbig]
    go_wp2
    go_ret
    exact ⟨rfl, Below.refl _ _⟩
  · have hn16 : n ≤ 1099511627776 := by omega
    have hB := Below.refl w.heap.size w
    go_enter Try.func3, Try.ntmps3
    go_wp2_with fail
    ((with_reducible refine (rBig_any A n cap w _ Iff.rfl).mono ?_); rintro e w9 ⟨rfl, rfl⟩)
    rw [tb_f (show ¬ 65536 < (n : Int) by omega)]
    clear hbig hm
    go_wp2_with fail
    ((with_reducible refine (drawNewEdition_any A n cap w hA hn16).mono ?_); rintro e w1 ⟨LA, ld, xs, sh, dy, PA, pd, pl, rfl, hcap, hwt, hpl, hN, hP, hb1⟩)
    replace hA := hA.ext hb1
    replace hB := ext_trans hB hb1
    have hz1 := hb1.size
    obtain ⟨hc1, hc2⟩ := hcap
    have hI := fun W h k => newEditionC_any LA ld xs sh dy PA pd pl W (by omega) hc1 hc2 h (by omega) k
    have hJ := fun W h k => specNewEdition_any LA ld xs sh dy PA pd pl W (by omega) hc1 hc2 h (by omega) k
    obtain ⟨out, hg_out⟩ : ∃ z, z = sel (NeOk xs sh dy pl) (xs ++ [newE xs sh dy pl]) := ⟨_, rfl⟩
    obtain ⟨num, hg_num⟩ : ∃ z, z = seli (NeOk xs sh dy pl) (((ofS sh xs).length : Int) + 1) := ⟨_, rfl⟩
    obtain ⟨ok, hg_ok⟩ : ∃ z, z = tb (NeOk xs sh dy pl) := ⟨_, rfl⟩
    simp only [← hg_out, ← hg_num, ← hg_ok] at hI hJ
    have HI := Lib.hid hI
    have HJ := Lib.hid hJ
    have HG_out := Lib.hid hg_out
    have HG_num := Lib.hid hg_num
    have HG_ok := Lib.hid hg_ok
    clear hI hJ hg_out hg_num hg_ok
    have hol : wt out ≤ 1048576 := HG_out.out ▸ appE_wt xs sh dy pl
    have z0 : (num != num) = false := by simp
    have z1 : (ok != ok) = false := by simp
    go_wp2_with fail
    ((with_reducible refine (HI.out _ hN.nl hP.fl).mono ?_); rintro e w2 ⟨R1, d1, rfl, hcp, hR1, hb2⟩)
    replace hA := hA.ext hb2
    replace hN := hN.ext hb2
    replace hP := hP.ext hb2
    replace hB := ext_trans hB hb2
    have hz2 := hb2.size
    go_wp2_with fail
    ((with_reducible refine (HJ.out _ hN.nl hP.fl).mono ?_); rintro e w3 ⟨R2, d2, rfl, hR2, hb3⟩)
    replace hA := hA.ext hb3
    replace hN := hN.ext hb3
    replace hP := hP.ext hb3
    replace hR1 := hR1.ext hb3
    replace hB := ext_trans hB hb3
    have hz3 := hb3.size
    go_wp2_with fail
    ((with_reducible refine (rEditions_same _ _ _ _ out _ (by omega) hR1.nl hR2.nl).mono ?_); rintro e w4 ⟨rfl, hb4⟩)
    replace hA := hA.ext hb4
    replace hN := hN.ext hb4
    replace hP := hP.ext hb4
    replace hR1 := hR1.ext hb4
    replace hR2 := hR2.ext hb4
    replace hB := ext_trans hB hb4
    have hz4 := hb4.size
    clear hR2
    go_upto_if 78 with fail
    go_cut [] (fun wx => Below (World.heap w4).size w4 wx)
    case first =>
      by_cases hNO : (NeOk xs sh dy pl)
      · skip
        obtain rfl : ok = true := by rw [HG_ok.out, tb_t hNO]
        have hout : out = xs ++ [newE xs sh dy pl] := by rw [HG_out.out, sel_t hNO]
        have hnum : num = ((ofS sh xs).length : Int) + 1 := by rw [HG_num.out, seli_t hNO]
        obtain ⟨⟨f1, f2⟩, ⟨f3, f4⟩, f5, f6, f7⟩ := ed_facts hNO
        simp only [← hout, ← hnum] at f1 f2 f3 f4 f5 f6
        have hnb : 1 ≤ num ∧ num ≤ 16 := by omega
        have hCu := fun W h => currentOn_any R1 d1 out sh dy W hol hcp.1 hcp.2 h
        simp only [seli_t f1, tb_t f1, f2] at hCu
        have hDr := fun W h => dropLast_any R1 d1 out sh W hol hcp.1 hcp.2 h
        simp only [sel_t f3, tb_t f3, f4] at hDr
        have HCU := Lib.hid hCu
        have HDR := Lib.hid hDr
        have HF5 := Lib.hid f5
        have HF6 := Lib.hid f6
        clear hCu hDr f1 f2 f3 f4 f5 f6 f7 hout hnum hNO HG_out HG_num HG_ok HI HJ z1
        go_wp2_with fail
        ((with_reducible refine (HCU.out _ hR1.nl).mono ?_); rintro e w5 ⟨rfl, hb5⟩)
        replace hA := hA.ext hb5
        replace hN := hN.ext hb5
        replace hP := hP.ext hb5
        replace hR1 := hR1.ext hb5
        replace hB := ext_trans hB hb5
        have hz5 := hb5.size
        go_wp2_with fail
        ((with_reducible refine (HDR.out _ hR1.nl).mono ?_); rintro e w6 ⟨R3, d3, rfl, hR3, hb6⟩)
        replace hA := hA.ext hb6
        replace hN := hN.ext hb6
        replace hP := hP.ext hb6
        replace hR1 := hR1.ext hb6
        replace hB := ext_trans hB hb6
        have hz6 := hb6.size
        go_wp2_with fail
        ((with_reducible refine (rEditions_same _ _ _ _ xs _ (by omega) hR3.nl hN.nl).mono ?_); rintro e w7 ⟨rfl, hb7⟩)
        replace hA := hA.ext hb7
        replace hN := hN.ext hb7
        replace hP := hP.ext hb7
        replace hR1 := hR1.ext hb7
        replace hR3 := hR3.ext hb7
        replace hB := ext_trans hB hb7
        have hz7 := hb7.size
        clear hR3
        by_cases hn1 : 1 < num
        · skip
          obtain ⟨f8, f9⟩ := HF5.out hn1
          have hCS := fun W h => changedSince_any R1 d1 out sh (num - 1) dy W hol hcp.1 hcp.2 h
          simp only [sel_t f8, tb_t f8, f9] at hCS
          have HCS := Lib.hid hCS
          have hwr : IntKind.i64.wrap (num - 1) = num - 1 := IntWalk.i64_in _ (by omega)
          clear hCS f8 f9
          go_wp2_with fail
          ((with_reducible refine (HCS.out _ hR1.nl).mono ?_); rintro e w8 ⟨R4, d4, rfl, hR4, hb8⟩)
          replace hA := hA.ext hb8
          replace hN := hN.ext hb8
          replace hP := hP.ext hb8
          replace hR1 := hR1.ext hb8
          replace hB := ext_trans hB hb8
          have hz8 := hb8.size
          go_wp2_with fail
          ((with_reducible refine (rInts_same _ _ _ _ pl _ (by omega) hR4.fl hP.fl).mono ?_); rintro e w9 ⟨rfl, hb9⟩)
          replace hA := hA.ext hb9
          replace hN := hN.ext hb9
          replace hP := hP.ext hb9
          replace hR1 := hR1.ext hb9
          replace hR4 := hR4.ext hb9
          replace hB := ext_trans hB hb9
          have hz9 := hb9.size
          go_wp2_with fail
          go_loopw [19, 20, 21] (fun iv _ _ wr => ∃ k : Nat, k ≤ pl.length ∧ iv = .int .i64 (k : Int) ∧ Below (World.heap w9).size w9 wr) (fun iv _ _ _ => pl.length - (intOf iv).toNat)
          case atStart => exact ⟨0, by omega, rfl, Below.refl _ _⟩
          case round =>
            obtain ⟨k, hk, rfl, hbr⟩ := hrel
            by_cases hlt : k < pl.length
            · obtain ⟨x, b, o, hx, hBe, hbq, hc⟩ := ((hP.fl.ext hbr).at_ (k := k) hlt)
              subst hBe
              have c0 : World.cell? wr ⟨b, o + k, none⟩ = some (.int .i64 x) := by have := hc 0 x rfl; simpa using this
              obtain ⟨f10, f11⟩ := HF6.out x (List.mem_of_getElem? hx)
              have hPH := fun W h => placeHistory_any R1 d1 out sh x W hol hcp.1 hcp.2 h
              simp only [sel_t f10, tb_t f10] at hPH
              have hhl : (hist x (ofS sh out)).length ≤ 1048576 := Nat.le_trans (hist_len _ _) (Nat.le_trans (ofS_len _ _) (Nat.le_trans (wt_len out) hol))
              obtain ⟨hl, hhl2⟩ : ∃ z, z = hist x (ofS sh out) := ⟨_, rfl⟩
              simp only [← hhl2] at hPH hhl f11
              have HPH := Lib.hid hPH
              have HF11 := Lib.hid f11
              have HRr := Lib.hid (hR1.nl.ext hbr)
              have hk0 : (0 : Int) ≤ (k : Int) := by omega
              have hk1 : (k : Int) < (pl.length : Int) := by omega
              clear hc hx f10 f11 hPH hhl2
              go_wp2_with fail
              ((with_reducible refine (HPH.out _ HRr.out).mono ?_); rintro e w91 ⟨B1, e1, rfl, hF9, hb91⟩)
              have HHS := Lib.hid (hasI_any B1 e1 hl num w91 (by omega) hF9.fl)
              have HB9 := Lib.hid hb91
              clear hF9 hb91
              go_wp2_with fail
              ((with_reducible refine (HHS.out).mono ?_); rintro e w92 ⟨rfl, hb92⟩)
              rw [tb_t HF11.out]
              go_wp2
              go_roundw
              case rel => exact ⟨k + 1, by omega, by go_num, ext_trans hbr (ext_trans HB9.out hb92)⟩
              case measure => simp [intOf]; omega
            · have hkn : k = pl.length := by omega
              subst hkn
              go_wp2
              go_meet
              exact ext_trans (ext_trans (ext_trans (ext_trans (ext_trans (hb5) hb6) hb7) hb8) hb9) hbr
        · skip
          go_wp2_with fail
          go_loopw [19, 20, 21] (fun iv _ _ wr => ∃ k : Nat, k ≤ pl.length ∧ iv = .int .i64 (k : Int) ∧ Below (World.heap w7).size w7 wr) (fun iv _ _ _ => pl.length - (intOf iv).toNat)
          case atStart => exact ⟨0, by omega, rfl, Below.refl _ _⟩
          case round =>
            obtain ⟨k, hk, rfl, hbr⟩ := hrel
            by_cases hlt : k < pl.length
            · obtain ⟨x, b, o, hx, hBe, hbq, hc⟩ := ((hP.fl.ext hbr).at_ (k := k) hlt)
              subst hBe
              have c0 : World.cell? wr ⟨b, o + k, none⟩ = some (.int .i64 x) := by have := hc 0 x rfl; simpa using this
              obtain ⟨f10, f11⟩ := HF6.out x (List.mem_of_getElem? hx)
              have hPH := fun W h => placeHistory_any R1 d1 out sh x W hol hcp.1 hcp.2 h
              simp only [sel_t f10, tb_t f10] at hPH
              have hhl : (hist x (ofS sh out)).length ≤ 1048576 := Nat.le_trans (hist_len _ _) (Nat.le_trans (ofS_len _ _) (Nat.le_trans (wt_len out) hol))
              obtain ⟨hl, hhl2⟩ : ∃ z, z = hist x (ofS sh out) := ⟨_, rfl⟩
              simp only [← hhl2] at hPH hhl f11
              have HPH := Lib.hid hPH
              have HF11 := Lib.hid f11
              have HRr := Lib.hid (hR1.nl.ext hbr)
              have hk0 : (0 : Int) ≤ (k : Int) := by omega
              have hk1 : (k : Int) < (pl.length : Int) := by omega
              clear hc hx f10 f11 hPH hhl2
              go_wp2_with fail
              ((with_reducible refine (HPH.out _ HRr.out).mono ?_); rintro e w91 ⟨B1, e1, rfl, hF9, hb91⟩)
              have HHS := Lib.hid (hasI_any B1 e1 hl num w91 (by omega) hF9.fl)
              have HB9 := Lib.hid hb91
              clear hF9 hb91
              go_wp2_with fail
              ((with_reducible refine (HHS.out).mono ?_); rintro e w92 ⟨rfl, hb92⟩)
              rw [tb_t HF11.out]
              go_wp2
              go_roundw
              case rel => exact ⟨k + 1, by omega, by go_num, ext_trans hbr (ext_trans HB9.out hb92)⟩
              case measure => simp [intOf]; omega
            · have hkn : k = pl.length := by omega
              subst hkn
              go_wp2
              go_meet
              exact ext_trans (ext_trans (ext_trans (hb5) hb6) hb7) hbr
      · obtain rfl : ok = false := by rw [HG_ok.out, tb_f hNO]
        go_wp2
        go_meet
        exact Below.refl _ _
    case rest =>
      obtain ⟨w10, hwz⟩ : ∃ z, z = wc := ⟨_, rfl⟩
      subst hwz
      clear hN hP hR1 HI HJ HG_out HG_num HG_ok z0 z1 hcp hol
      replace hA := hA.ext hcut
      replace hB := ext_trans hB hcut
      have hz10 := hcut.size
      go_wp2_with fail
      ((with_reducible refine (drawChangedSince_any A n cap _ hA hn16).mono ?_); rintro e w11 ⟨MA, md, ys, s2, n2, y2, rfl, hcap2, hwt2, hM, hb11⟩)
      replace hA := hA.ext hb11
      replace hB := ext_trans hB hb11
      have hz11 := hb11.size
      obtain ⟨hc3, hc4⟩ := hcap2
      have hI := fun W h => changedSince_any MA md ys s2 n2 y2 W (by omega) hc3 hc4 h
      have hJ := fun W h => specChangedSince_any MA md ys s2 n2 y2 W (by omega) hc3 hc4 h
      have hE := fun W h => areEditions_any MA md ys W (by omega) hc3 hc4 h
      have hF := fun W h => specAreEditions_any MA md ys W (by omega) hc3 hc4 h
      obtain ⟨ps, hg_ps⟩ : ∃ z, z = sel (CsOk ys s2 n2 y2) (sinceL s2 n2 y2 ys) := ⟨_, rfl⟩
      obtain ⟨ok, hg_ok⟩ : ∃ z, z = tb (CsOk ys s2 n2 y2) := ⟨_, rfl⟩
      obtain ⟨ed, hg_ed⟩ : ∃ z, z = tb (Eds ys) := ⟨_, rfl⟩
      simp only [← hg_ps, ← hg_ok, ← hg_ed] at hI hJ hE hF
      have HI := Lib.hid hI
      have HJ := Lib.hid hJ
      have HE := Lib.hid hE
      have HF := Lib.hid hF
      have HG_ps := Lib.hid hg_ps
      have HG_ok := Lib.hid hg_ok
      have HG_ed := Lib.hid hg_ed
      clear hI hJ hE hF hg_ps hg_ok hg_ed
      have hpsl : ps.length ≤ 1048576 := HG_ps.out ▸ Nat.le_trans (sel_len _ _) (Nat.le_trans (sinceL_len _ _ _ _) (by have h := hwt2; unfold wt at h; omega))
      have z2 : (ok == ok) = true := beq_self_eq_true _
      have z3 : (ed == ed) = true := beq_self_eq_true _
      go_wp2_with fail
      ((with_reducible refine (HI.out _ hM.nl).mono ?_); rintro e w12 ⟨R5, d5, rfl, hR5, hb12⟩)
      replace hA := hA.ext hb12
      replace hM := hM.ext hb12
      replace hB := ext_trans hB hb12
      have hz12 := hb12.size
      go_wp2_with fail
      ((with_reducible refine (HJ.out _ hM.nl).mono ?_); rintro e w13 ⟨R6, d6, rfl, hR6, hb13⟩)
      replace hA := hA.ext hb13
      replace hM := hM.ext hb13
      replace hR5 := hR5.ext hb13
      replace hB := ext_trans hB hb13
      have hz13 := hb13.size
      go_wp2_with fail
      ((with_reducible refine (drawCurrentOn_any A n cap _ hA hn16).mono ?_); rintro e w14 ⟨UA, ud, us, s3, y3, rfl, hcap3, hwt3, hU, hb14⟩)
      replace hA := hA.ext hb14
      replace hM := hM.ext hb14
      replace hR5 := hR5.ext hb14
      replace hR6 := hR6.ext hb14
      replace hB := ext_trans hB hb14
      have hz14 := hb14.size
      obtain ⟨hc5, hc6⟩ := hcap3
      have hK := fun W h => currentOn_any UA ud us s3 y3 W (by omega) hc5 hc6 h
      have hL := fun W h => specCurrentOn_any UA ud us s3 y3 W (by omega) hc5 hc6 h
      obtain ⟨cu, hg_cu⟩ : ∃ z, z = seli (CurOk us s3 y3) (curN y3 (ofS s3 us)) := ⟨_, rfl⟩
      obtain ⟨ok3, hg_ok3⟩ : ∃ z, z = tb (CurOk us s3 y3) := ⟨_, rfl⟩
      simp only [← hg_cu, ← hg_ok3] at hK hL
      have HK := Lib.hid hK
      have HL := Lib.hid hL
      have HG_cu := Lib.hid hg_cu
      have HG_ok3 := Lib.hid hg_ok3
      clear hK hL hg_cu hg_ok3
      have z4 : (cu == cu) = true := beq_self_eq_true _
      have z5 : (ok3 == ok3) = true := beq_self_eq_true _
      go_wp2_with fail
      ((with_reducible refine (HK.out _ hU.nl).mono ?_); rintro e w15 ⟨rfl, hb15⟩)
      replace hA := hA.ext hb15
      replace hM := hM.ext hb15
      replace hR5 := hR5.ext hb15
      replace hR6 := hR6.ext hb15
      replace hU := hU.ext hb15
      replace hB := ext_trans hB hb15
      have hz15 := hb15.size
      go_wp2_with fail
      ((with_reducible refine (HL.out _ hU.nl).mono ?_); rintro e w16 ⟨rfl, hb16⟩)
      replace hA := hA.ext hb16
      replace hM := hM.ext hb16
      replace hR5 := hR5.ext hb16
      replace hR6 := hR6.ext hb16
      replace hU := hU.ext hb16
      replace hB := ext_trans hB hb16
      have hz16 := hb16.size
      go_wp2_with fail
      ((with_reducible refine (rInts_same _ _ _ _ ps _ (by omega) hR5.fl hR6.fl).mono ?_); rintro e w17 ⟨rfl, hb17⟩)
      replace hA := hA.ext hb17
      replace hM := hM.ext hb17
      replace hR5 := hR5.ext hb17
      replace hR6 := hR6.ext hb17
      replace hU := hU.ext hb17
      replace hB := ext_trans hB hb17
      have hz17 := hb17.size
      go_wp2_with fail
      ((with_reducible refine (HE.out _ hM.nl).mono ?_); rintro e w18 ⟨rfl, hb18⟩)
      replace hA := hA.ext hb18
      replace hM := hM.ext hb18
      replace hR5 := hR5.ext hb18
      replace hR6 := hR6.ext hb18
      replace hU := hU.ext hb18
      replace hB := ext_trans hB hb18
      have hz18 := hb18.size
      go_wp2_with fail
      ((with_reducible refine (HF.out _ hM.nl).mono ?_); rintro e w19 ⟨rfl, hb19⟩)
      replace hA := hA.ext hb19
      replace hM := hM.ext hb19
      replace hR5 := hR5.ext hb19
      replace hR6 := hR6.ext hb19
      replace hU := hU.ext hb19
      replace hB := ext_trans hB hb19
      have hz19 := hb19.size
      go_wp2
      go_ret
      exact ⟨rfl, hB⟩

set_option maxRecDepth 100000 in
theorem FnEditions_holds : Rows.FnEditionsSaid :=
  OpenClaim.holds_of_wide 3 Try.f3 rfl rfl rfl rfl rfl rfl rfl ⟨rfl, rfl, rfl, rfl, rfl⟩ rfl rfl rfl rfl rfl (by kernel_rfl) Try.func3 (by kernel_rfl)
    (of_decide_eq_true (by kernel_rfl)) (by unfold Func.isWrapper; first | (rw [if_pos (by decide +kernel)]; kernel_rfl) | (rw [if_neg (by decide +kernel)]; exact ⟨rfl, rfl⟩))
    (fun os started H enc _ => by
      refine law_lifted (s := Rows.fnEditionsSpec) (conds := []) os started H enc (by kernel_rfl) Try.func3 (by kernel_rfl) rfl rfl Try.underlying4
        (ChangeSpec.witness6 (enc := enc) (C := Try.checked) false ⟨#[], #[.slice none 0 0], []⟩ 8 (by kernel_rfl) (by kernel_rfl) (by kernel_rfl) (by kernel_rfl)) ?_
      intro W base args ds ps hval hA
      rw [Try.params3] at hA hval
      obtain ⟨v0, vs0, d0, ds0, p0, q0, hargs, rfl, rfl, h0, r0⟩ := trodAll_cons hA
      obtain ⟨rfl, rfl, rfl⟩ := trodAll_nil r0
      obtain rfl : args = #[v0] := by cases args; simp_all
      refine ⟨rfl, ?_⟩
      obtain ⟨A0, n0, c0, rfl, hm0, hb0⟩ := open_bytes Try.underlying22 Try.underlying5 (by kernel_rfl) (hval 0 22 v0 rfl rfl) h0
      exact fnEditions_any A0 n0 c0 W hm0 hb0)
end Go.Proofs.Ytadcjfbcfiljkaa
