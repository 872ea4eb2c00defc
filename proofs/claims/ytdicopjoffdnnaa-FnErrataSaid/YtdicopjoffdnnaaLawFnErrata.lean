/- The great law FnErrata. No condition. -/
import Derived.Test.YtdicopjoffdnnaaLaw
import Derived.Test.YtdicopjoffdnnaaOpen
import Derived.Test.YtdicopjoffdnnaaOpB
import Derived.Test.YtdicopjoffdnnaaDrErr
import Derived.Test.YtdicopjoffdnnaaRHeld
import Derived.Test.YtdicopjoffdnnaaFamInt
import Derived.Test.YtdicopjoffdnnaaFamHeld
import Derived.Test.YtdicopjoffdnnaaErP
import Derived.Test.YtdicopjoffdnnaaErQ
import Derived.Test.YtdicopjoffdnnaaPaI
import Derived.Test.YtdicopjoffdnnaaPaS
import Derived.Test.YtdicopjoffdnnaaMsW
import Derived.Test.YtdicopjoffdnnaaRight
import Derived.Test.YtdicopjoffdnnaaWorst
import Derived.Test.YtdicopjoffdnnaaHeldI
import Derived.Test.YtdicopjoffdnnaaHeldS
import Derived.Test.YtdicopjoffdnnaaErrataOk
import Derived.Test.YtdicopjoffdnnaaLst
import Derived.Lib.SmallJoins
import Derived.Deep.DeepCutAuto
import Derived.Deep.RegionLaw
namespace Go.Proofs.Ytdicopjoffdnnaa
open Go.ChangeShapes Go.WideShapes Go.ChangeAt Go.RowKit Go.Joins
set_option linter.unusedVariables false
set_option linter.unusedSimpArgs false

set_option maxHeartbeats 16000000 in
set_option maxRecDepth 100000 in
theorem fnErrata_any (A : Option Addr) (n cap : Nat) (w : World) (hm : n ≤ 9223372036854775807) (hA : Bytes w A n) :
    Calls Try.prog 3 #[.slice A n cap] w fun e w' => e = .returned (.bool true) ∧ Below w.heap.size w w' := by
  by_cases hbig : 65536 < (n : Int)
  · go_enter Try.func3, Try.ntmps3
    go_wp2_with fail
    ((with_reducible refine (rBig_any A n cap w _ Iff.rfl).mono ?_); rintro e w9 ⟨rfl, rfl⟩)
    rw [tb_t hbig]
    go_wp2
    go_ret
    exact ⟨rfl, Below.refl _ _⟩
  · have hn16 : n ≤ 1099511627776 := by omega
    have hB := Below.refl w.heap.size w
    go_enter Try.func3, Try.ntmps3
    go_wp2_with fail
    ((with_reducible refine (rBig_any A n cap w _ Iff.rfl).mono ?_); rintro e w9 ⟨rfl, rfl⟩)
    rw [tb_f (show ¬ 65536 < (n : Int) by omega)]
    clear hbig hm
    go_wp2_with fail
    ((with_reducible refine (drawPutAllSlips_any A n cap w hA hn16).mono ?_); rintro e w1 ⟨EA, ed, es, HA, hd, hs, day, rfl, hel, hwt, hE, hH, hb1⟩)
    replace hA := hA.ext hb1
    replace hB := ext_trans hB hb1
    have hz1 := hb1.size
    have hhl : hs.length ≤ 400 := Nat.le_trans (wt_len hs) hwt
    have hI := fun W h k => putAll_any EA ed es HA hd hs day W (by omega) h (by omega) k
    have hJ := fun W h k => specPutAll_any EA ed es HA hd hs day W (by omega) h (by omega) k
    by_cases hPO : PaOk es hs day
    · skip
      simp only [sel_t hPO, seli_t hPO, tb_t hPO] at hI hJ
      obtain ⟨f1, f2, f3⟩ := put_facts hPO
      have hol : wt (hs.map (addH es day)) ≤ 1048576 := by have h9 := pa_lens es hs day; rwa [sel_t hPO] at h9
      obtain ⟨out, hout⟩ : ∃ z, z = hs.map (addH es day) := ⟨_, rfl⟩
      simp only [← hout] at hI hJ f1 f2 f3 hol
      have HI := Lib.hid hI
      have HJ := Lib.hid hJ
      clear hI hJ hout hPO
      have HF1 := Lib.hid f1
      have HF2 := Lib.hid f2
      have HF3 := Lib.hid f3
      clear f1 f2 f3
      go_wp2_with fail
      ((with_reducible refine (HI.out _ hE.fl hH.nl).mono ?_); rintro e w2 ⟨R1, d1, rfl, hR1, hb2⟩)
      replace hA := hA.ext hb2
      replace hE := hE.ext hb2
      replace hH := hH.ext hb2
      replace hB := ext_trans hB hb2
      have hz2 := hb2.size
      go_wp2_with fail
      ((with_reducible refine (HJ.out _ hE.fl hH.nl).mono ?_); rintro e w3 ⟨R2, d2, rfl, hR2, hb3⟩)
      replace hA := hA.ext hb3
      replace hE := hE.ext hb3
      replace hH := hH.ext hb3
      replace hR1 := hR1.ext hb3
      replace hB := ext_trans hB hb3
      have hz3 := hb3.size
      go_wp2_with fail
      ((with_reducible refine (rHelds_same _ _ _ _ out _ (by omega) hR1.nl hR2.nl).mono ?_); rintro e w4 ⟨rfl, hb4⟩)
      replace hA := hA.ext hb4
      replace hE := hE.ext hb4
      replace hH := hH.ext hb4
      replace hR1 := hR1.ext hb4
      replace hR2 := hR2.ext hb4
      replace hB := ext_trans hB hb4
      have hz4 := hb4.size
      clear hR2
      go_wp2_with fail
      go_loopw [12, 13, 14, 15, 16, 17] (fun sm iv _ _ _ _ wr => ∃ k : Nat, k ≤ hs.length ∧ sm = .int .i64 (cntTo es day hs k : Int) ∧ iv = .int .i64 (k : Int) ∧ Below (World.heap w4).size w4 wr) (fun _ iv _ _ _ _ _ => hs.length - (intOf iv).toNat)
      case atStart => exact ⟨0, by omega, by simp [cntTo], rfl, Below.refl _ _⟩
      case round =>
        obtain ⟨k, hk, rfl, rfl, hbr⟩ := hrel
        by_cases hlt : k < hs.length
        · obtain ⟨x, b, o, A', d', hx, hBe, hb, hc, hfl⟩ := (hH.nl.ext hbr).at_ (k := k) hlt
          subst hBe
          have c0 := hc.ca
          obtain ⟨⟨m1, m2⟩, m3, m4⟩ := HF1.out k x hx
          have hM1 := fun W h j => missingSlips_any EA ed es (some ⟨b, o, none⟩) hd hs x.a day W (by omega) h (by omega) j
          have hM2 := fun W h j => missingSlips_any EA ed es R1 d1 out x.a day W (by omega) h hol j
          simp only [sel_t m1, tb_t m1, m2] at hM1
          simp only [sel_t m3, tb_t m3, m4] at hM2
          have hst := cntTo_step (xs := es) (day := day) hx
          have hbd := cnt_bd es day hs (k + 1)
          have hbd2 : (k + 1) * es.length ≤ 401 * 12 := Nat.mul_le_mul (by omega) hel
          rw [hst] at hbd
          obtain ⟨ml, hml⟩ : ∃ z, z = miss x day es := ⟨_, rfl⟩
          rw [← hml] at hst hbd
          simp only [← hml] at hM1
          obtain ⟨mn, hmn⟩ : ∃ z, z = ml.length := ⟨_, rfl⟩
          obtain ⟨ct, hct⟩ : ∃ z, z = cntTo es day hs k := ⟨_, rfl⟩
          rw [← hmn, ← hct] at hst hbd
          rw [← hct]
          have hw : IntKind.i64.wrap ((ct : Int) + (mn : Int)) = (ct : Int) + (mn : Int) := by rw [IntKind.wrap_i64]; omega
          have HM1 := Lib.hid hM1
          have HM2 := Lib.hid hM2
          have HST := Lib.hid hst
          have HMN := Lib.hid hmn
          have hk0 : (0 : Int) ≤ (k : Int) := by omega
          have hk1 : (k : Int) < (hs.length : Int) := by omega
          have HEr := Lib.hid (hE.fl.ext hbr)
          have HHr := Lib.hid (hH.nl.ext hbr)
          have HRr := Lib.hid (hR1.nl.ext hbr)
          clear hM1 hM2 hst hmn hml hct m1 m2 m3 m4 hc hx hfl hbd hbd2
          go_wp2_with fail
          ((with_reducible refine (HM1.out _ HEr.out HHr.out).mono ?_); rintro e w91 ⟨B1, f1, rfl, _, hb1q⟩)
          rw [← HMN.out]
          have c1 := (hb1q.cell (p := ⟨b, _, none⟩) hb).trans c0
          have hb9 := Nat.lt_of_lt_of_le hb hb1q.size
          clear c0
          go_wp2_with fail
          ((with_reducible refine (HM2.out _ (HEr.out.ext hb1q) (HRr.out.ext hb1q)).mono ?_); rintro e w92 ⟨B2, f2, rfl, _, hb2q⟩)
          go_wp2
          go_roundw
          case rel => exact ⟨k + 1, by omega, by rw [HST.out]; rfl, by go_num, ext_trans hbr (ext_trans hb1q hb2q)⟩
          case measure => simp [intOf]; omega
        · obtain rfl : k = hs.length := by omega
          obtain ⟨w5, hwz⟩ : ∃ z, z = wr := ⟨_, rfl⟩
          subst hwz
          replace hA := hA.ext hbr
          replace hE := hE.ext hbr
          replace hH := hH.ext hbr
          replace hR1 := hR1.ext hbr
          replace hB := ext_trans hB hbr
          have hz5 := hbr.size
          have hRo := fun W h j => rightCopies_any EA ed es R1 d1 out day W (by omega) h hol j
          simp only [sel_t HF2.out, tb_t HF2.out] at hRo
          obtain ⟨ro, hro⟩ : ∃ z, z = cw (NoMiss es day) out := ⟨_, rfl⟩
          simp only [← hro] at hRo
          have HRo := Lib.hid hRo
          have HLR := Lib.hid (show ro.length = hs.length by rw [hro]; exact HF3.out)
          clear hRo hro hlt
          go_wp2_with fail
          ((with_reducible refine (HRo.out _ hE.fl hR1.nl).mono ?_); rintro e w6 ⟨B5, f5, rfl, _, hb6⟩)
          replace hA := hA.ext hb6
          replace hE := hE.ext hb6
          replace hH := hH.ext hb6
          replace hR1 := hR1.ext hb6
          replace hB := ext_trans hB hb6
          have hz6 := hb6.size
          rw [HLR.out]
          have hW1 := fun W h k => worstCopy_any EA ed es HA hd hs day W (by omega) h (by omega) k
          have hW2 := fun W h k => specWorstCopy_any EA ed es HA hd hs day W (by omega) h (by omega) k
          have hR3 := fun W h k => rightCopies_any EA ed es HA hd hs day W (by omega) h (by omega) k
          have hR4 := fun W h k => specRightCopies_any EA ed es HA hd hs day W (by omega) h (by omega) k
          have hE1 := fun W h => areErrata_any EA ed es W (by omega) h
          have hE2 := fun W h => specAreErrata_any EA ed es W (by omega) h
          have hH1 := fun W h k => areHeld_any EA ed es HA hd hs W (by omega) h (by omega) k
          have hH2 := fun W h k => specAreHeld_any EA ed es HA hd hs W (by omega) h (by omega) k
          obtain ⟨wa, hwa⟩ : ∃ z, z = seli (WcOk es hs day) (worst es hs day).1 := ⟨_, rfl⟩
          obtain ⟨wm, hwm⟩ : ∃ z, z = seli (WcOk es hs day) (worst es hs day).2 := ⟨_, rfl⟩
          obtain ⟨wk, hwk⟩ : ∃ z, z = tb (WcOk es hs day) := ⟨_, rfl⟩
          obtain ⟨rs, hrs⟩ : ∃ z, z = sel (RcOk es hs day) (cw (NoMiss es day) hs) := ⟨_, rfl⟩
          obtain ⟨rk, hrk⟩ : ∃ z, z = tb (RcOk es hs day) := ⟨_, rfl⟩
          obtain ⟨ke, hke⟩ : ∃ z, z = tb (Errs es) := ⟨_, rfl⟩
          obtain ⟨kh, hkh⟩ : ∃ z, z = tb (HeldOk es hs) := ⟨_, rfl⟩
          simp only [← hwa, ← hwm, ← hwk, ← hrs, ← hrk, ← hke, ← hkh] at hW1 hW2 hR3 hR4 hE1 hE2 hH1 hH2
          have hrl : rs.length ≤ 1048576 := hrs ▸ Nat.le_trans (sel_len _ _) (Nat.le_trans (cw_len _ _) (by omega))
          obtain ⟨rl, hrle⟩ : ∃ z, z = rs.length := ⟨_, rfl⟩
          obtain ⟨bq, hbq⟩ : ∃ z : Bool, z = (wm == 0) := ⟨_, rfl⟩
          have hq : wk = true → ((rl : Int) == (hs.length : Int)) = bq := by
            intro hk
            have hW : WcOk es hs day := tb_true (by rw [← hwk]; exact hk)
            have hR : RcOk es hs day := ⟨hW.1, hW.2.1⟩
            have h1 := worst_right hW
            rw [hbq, hwm, seli_t hW, hrle, hrs, sel_t hR, Bool.eq_iff_iff]
            simp only [beq_iff_eq]
            omega
          have HW1 := Lib.hid hW1
          have HW2 := Lib.hid hW2
          have HR3 := Lib.hid hR3
          have HR4 := Lib.hid hR4
          have HE1 := Lib.hid hE1
          have HE2 := Lib.hid hE2
          have HH1 := Lib.hid hH1
          have HH2 := Lib.hid hH2
          have HRL := Lib.hid hrle
          clear hW1 hW2 hR3 hR4 hE1 hE2 hH1 hH2 hwa hwm hwk hrs hrk hke hkh hrle
          go_wp2_with fail
          ((with_reducible refine (HW1.out _ hE.fl hH.nl).mono ?_); rintro e w7 ⟨rfl, hb7⟩)
          replace hA := hA.ext hb7
          replace hE := hE.ext hb7
          replace hH := hH.ext hb7
          replace hR1 := hR1.ext hb7
          replace hB := ext_trans hB hb7
          have hz7 := hb7.size
          go_wp2_with fail
          ((with_reducible refine (HW2.out _ hE.fl hH.nl).mono ?_); rintro e w8 ⟨rfl, hb8⟩)
          replace hA := hA.ext hb8
          replace hE := hE.ext hb8
          replace hH := hH.ext hb8
          replace hR1 := hR1.ext hb8
          replace hB := ext_trans hB hb8
          have hz8 := hb8.size
          go_wp2_with fail
          ((with_reducible refine (HR3.out _ hE.fl hH.nl).mono ?_); rintro e w9 ⟨L1, k1, rfl, hL1, hb9⟩)
          replace hA := hA.ext hb9
          replace hE := hE.ext hb9
          replace hH := hH.ext hb9
          replace hR1 := hR1.ext hb9
          replace hB := ext_trans hB hb9
          have hz9 := hb9.size
          go_wp2_with fail
          ((with_reducible refine (HR4.out _ hE.fl hH.nl).mono ?_); rintro e w10 ⟨L2, k2, rfl, hL2, hb10⟩)
          replace hA := hA.ext hb10
          replace hE := hE.ext hb10
          replace hH := hH.ext hb10
          replace hR1 := hR1.ext hb10
          replace hL1 := hL1.ext hb10
          replace hB := ext_trans hB hb10
          have hz10 := hb10.size
          go_wp2_with fail
          ((with_reducible refine (rInts_same _ _ _ _ rs _ (by omega) hL1.fl hL2.fl).mono ?_); rintro e w11 ⟨rfl, hb11⟩)
          replace hA := hA.ext hb11
          replace hE := hE.ext hb11
          replace hH := hH.ext hb11
          replace hR1 := hR1.ext hb11
          replace hL1 := hL1.ext hb11
          replace hL2 := hL2.ext hb11
          replace hB := ext_trans hB hb11
          have hz11 := hb11.size
          go_wp2_with fail
          ((with_reducible refine (drawMissingSlips_any A n cap _ hA hn16).mono ?_); rintro e w12 ⟨UA, ud, us, YA, yd, ys, num, at9, rfl, hul, hyw, hU, hY, hb12⟩)
          replace hA := hA.ext hb12
          replace hE := hE.ext hb12
          replace hH := hH.ext hb12
          replace hR1 := hR1.ext hb12
          replace hB := ext_trans hB hb12
          have hz12 := hb12.size
          have hM1 := fun W h k => missingSlips_any UA ud us YA yd ys num at9 W (by omega) h (by omega) k
          have hM2 := fun W h k => specMissingSlips_any UA ud us YA yd ys num at9 W (by omega) h (by omega) k
          obtain ⟨ms, hms⟩ : ∃ z, z = sel (MsOk us ys (atH ys num) at9) (missAt us ys (atH ys num) at9) := ⟨_, rfl⟩
          obtain ⟨mk, hmk⟩ : ∃ z, z = tb (MsOk us ys (atH ys num) at9) := ⟨_, rfl⟩
          simp only [← hms, ← hmk] at hM1 hM2
          have hml : ms.length ≤ 1048576 := hms ▸ Nat.le_trans (sel_len _ _) (Nat.le_trans (missAt_len _ _ _ _) (by omega))
          have HM1 := Lib.hid hM1
          have HM2 := Lib.hid hM2
          clear hM1 hM2 hms hmk
          go_wp2_with fail
          ((with_reducible refine (HM1.out _ hU.fl hY.nl).mono ?_); rintro e w13 ⟨N1, e1, rfl, hN1, hb13⟩)
          replace hA := hA.ext hb13
          replace hE := hE.ext hb13
          replace hH := hH.ext hb13
          replace hR1 := hR1.ext hb13
          replace hU := hU.ext hb13
          replace hY := hY.ext hb13
          replace hB := ext_trans hB hb13
          have hz13 := hb13.size
          go_wp2_with fail
          ((with_reducible refine (HM2.out _ hU.fl hY.nl).mono ?_); rintro e w14 ⟨N2, e2, rfl, hN2, hb14⟩)
          replace hA := hA.ext hb14
          replace hE := hE.ext hb14
          replace hH := hH.ext hb14
          replace hR1 := hR1.ext hb14
          replace hU := hU.ext hb14
          replace hY := hY.ext hb14
          replace hN1 := hN1.ext hb14
          replace hB := ext_trans hB hb14
          have hz14 := hb14.size
          rw [← HRL.out]
          have hbqs := hbq.symm
          clear hbq
          go_wp2_with fail
          ((with_reducible refine (rInts_same _ _ _ _ ms _ (by omega) hN1.fl hN2.fl).mono ?_); rintro e w15 ⟨rfl, hb15⟩)
          replace hA := hA.ext hb15
          replace hE := hE.ext hb15
          replace hH := hH.ext hb15
          replace hR1 := hR1.ext hb15
          replace hU := hU.ext hb15
          replace hY := hY.ext hb15
          replace hN1 := hN1.ext hb15
          replace hN2 := hN2.ext hb15
          replace hB := ext_trans hB hb15
          have hz15 := hb15.size
          cases wk
          · skip
            clear hq hbqs
            go_wp2_with fail
            ((with_reducible refine (HE1.out _ hE.fl).mono ?_); rintro e w16 ⟨rfl, hb16⟩)
            replace hA := hA.ext hb16
            replace hE := hE.ext hb16
            replace hH := hH.ext hb16
            replace hR1 := hR1.ext hb16
            replace hU := hU.ext hb16
            replace hY := hY.ext hb16
            replace hN1 := hN1.ext hb16
            replace hN2 := hN2.ext hb16
            replace hB := ext_trans hB hb16
            have hz16 := hb16.size
            go_wp2_with fail
            ((with_reducible refine (HE2.out _ hE.fl).mono ?_); rintro e w17 ⟨rfl, hb17⟩)
            replace hA := hA.ext hb17
            replace hE := hE.ext hb17
            replace hH := hH.ext hb17
            replace hR1 := hR1.ext hb17
            replace hU := hU.ext hb17
            replace hY := hY.ext hb17
            replace hN1 := hN1.ext hb17
            replace hN2 := hN2.ext hb17
            replace hB := ext_trans hB hb17
            have hz17 := hb17.size
            go_wp2_with fail
            ((with_reducible refine (HH1.out _ hE.fl hH.nl).mono ?_); rintro e w18 ⟨rfl, hb18⟩)
            replace hA := hA.ext hb18
            replace hE := hE.ext hb18
            replace hH := hH.ext hb18
            replace hR1 := hR1.ext hb18
            replace hU := hU.ext hb18
            replace hY := hY.ext hb18
            replace hN1 := hN1.ext hb18
            replace hN2 := hN2.ext hb18
            replace hB := ext_trans hB hb18
            have hz18 := hb18.size
            go_wp2_with fail
            ((with_reducible refine (HH2.out _ hE.fl hH.nl).mono ?_); rintro e w19 ⟨rfl, hb19⟩)
            replace hA := hA.ext hb19
            replace hE := hE.ext hb19
            replace hH := hH.ext hb19
            replace hR1 := hR1.ext hb19
            replace hU := hU.ext hb19
            replace hY := hY.ext hb19
            replace hN1 := hN1.ext hb19
            replace hN2 := hN2.ext hb19
            replace hB := ext_trans hB hb19
            have hz19 := hb19.size
            go_wp2
            go_ret
            exact ⟨rfl, hB⟩
          · skip
            have hq9 := hq rfl
            clear hq
            go_wp2_with fail
            ((with_reducible refine (HE1.out _ hE.fl).mono ?_); rintro e w20 ⟨rfl, hb20⟩)
            replace hA := hA.ext hb20
            replace hE := hE.ext hb20
            replace hH := hH.ext hb20
            replace hR1 := hR1.ext hb20
            replace hU := hU.ext hb20
            replace hY := hY.ext hb20
            replace hN1 := hN1.ext hb20
            replace hN2 := hN2.ext hb20
            replace hB := ext_trans hB hb20
            have hz20 := hb20.size
            go_wp2_with fail
            ((with_reducible refine (HE2.out _ hE.fl).mono ?_); rintro e w21 ⟨rfl, hb21⟩)
            replace hA := hA.ext hb21
            replace hE := hE.ext hb21
            replace hH := hH.ext hb21
            replace hR1 := hR1.ext hb21
            replace hU := hU.ext hb21
            replace hY := hY.ext hb21
            replace hN1 := hN1.ext hb21
            replace hN2 := hN2.ext hb21
            replace hB := ext_trans hB hb21
            have hz21 := hb21.size
            go_wp2_with fail
            ((with_reducible refine (HH1.out _ hE.fl hH.nl).mono ?_); rintro e w22 ⟨rfl, hb22⟩)
            replace hA := hA.ext hb22
            replace hE := hE.ext hb22
            replace hH := hH.ext hb22
            replace hR1 := hR1.ext hb22
            replace hU := hU.ext hb22
            replace hY := hY.ext hb22
            replace hN1 := hN1.ext hb22
            replace hN2 := hN2.ext hb22
            replace hB := ext_trans hB hb22
            have hz22 := hb22.size
            go_wp2_with fail
            ((with_reducible refine (HH2.out _ hE.fl hH.nl).mono ?_); rintro e w23 ⟨rfl, hb23⟩)
            replace hA := hA.ext hb23
            replace hE := hE.ext hb23
            replace hH := hH.ext hb23
            replace hR1 := hR1.ext hb23
            replace hU := hU.ext hb23
            replace hY := hY.ext hb23
            replace hN1 := hN1.ext hb23
            replace hN2 := hN2.ext hb23
            replace hB := ext_trans hB hb23
            have hz23 := hb23.size
            go_wp2
            go_ret
            exact ⟨rfl, hB⟩
    · skip
      simp only [sel_f hPO, seli_f hPO, tb_f hPO] at hI hJ
      obtain ⟨out, hout⟩ : ∃ z, z = ([] : List Nest) := ⟨_, rfl⟩
      simp only [← hout] at hI hJ
      have hol : wt out ≤ 1048576 := by rw [hout]; simp [wt, lsum]
      have HI := Lib.hid hI
      have HJ := Lib.hid hJ
      clear hI hJ hout hPO
      go_wp2_with fail
      ((with_reducible refine (HI.out _ hE.fl hH.nl).mono ?_); rintro e w24 ⟨R1, d1, rfl, hR1, hb24⟩)
      replace hA := hA.ext hb24
      replace hE := hE.ext hb24
      replace hH := hH.ext hb24
      replace hB := ext_trans hB hb24
      have hz24 := hb24.size
      go_wp2_with fail
      ((with_reducible refine (HJ.out _ hE.fl hH.nl).mono ?_); rintro e w25 ⟨R2, d2, rfl, hR2, hb25⟩)
      replace hA := hA.ext hb25
      replace hE := hE.ext hb25
      replace hH := hH.ext hb25
      replace hR1 := hR1.ext hb25
      replace hB := ext_trans hB hb25
      have hz25 := hb25.size
      go_wp2_with fail
      ((with_reducible refine (rHelds_same _ _ _ _ out _ (by omega) hR1.nl hR2.nl).mono ?_); rintro e w26 ⟨rfl, hb26⟩)
      replace hA := hA.ext hb26
      replace hE := hE.ext hb26
      replace hH := hH.ext hb26
      replace hR1 := hR1.ext hb26
      replace hR2 := hR2.ext hb26
      replace hB := ext_trans hB hb26
      have hz26 := hb26.size
      clear hR2
      go_wp2_with fail
      by_cases h0 : (0 : Int) < (hs.length : Int)
      · refine wp_loop_rounds 1 ?_
        rw [rounds_succ]
        have hW1 := fun W h k => worstCopy_any EA ed es HA hd hs day W (by omega) h (by omega) k
        have hW2 := fun W h k => specWorstCopy_any EA ed es HA hd hs day W (by omega) h (by omega) k
        have hR3 := fun W h k => rightCopies_any EA ed es HA hd hs day W (by omega) h (by omega) k
        have hR4 := fun W h k => specRightCopies_any EA ed es HA hd hs day W (by omega) h (by omega) k
        have hE1 := fun W h => areErrata_any EA ed es W (by omega) h
        have hE2 := fun W h => specAreErrata_any EA ed es W (by omega) h
        have hH1 := fun W h k => areHeld_any EA ed es HA hd hs W (by omega) h (by omega) k
        have hH2 := fun W h k => specAreHeld_any EA ed es HA hd hs W (by omega) h (by omega) k
        obtain ⟨wa, hwa⟩ : ∃ z, z = seli (WcOk es hs day) (worst es hs day).1 := ⟨_, rfl⟩
        obtain ⟨wm, hwm⟩ : ∃ z, z = seli (WcOk es hs day) (worst es hs day).2 := ⟨_, rfl⟩
        obtain ⟨wk, hwk⟩ : ∃ z, z = tb (WcOk es hs day) := ⟨_, rfl⟩
        obtain ⟨rs, hrs⟩ : ∃ z, z = sel (RcOk es hs day) (cw (NoMiss es day) hs) := ⟨_, rfl⟩
        obtain ⟨rk, hrk⟩ : ∃ z, z = tb (RcOk es hs day) := ⟨_, rfl⟩
        obtain ⟨ke, hke⟩ : ∃ z, z = tb (Errs es) := ⟨_, rfl⟩
        obtain ⟨kh, hkh⟩ : ∃ z, z = tb (HeldOk es hs) := ⟨_, rfl⟩
        simp only [← hwa, ← hwm, ← hwk, ← hrs, ← hrk, ← hke, ← hkh] at hW1 hW2 hR3 hR4 hE1 hE2 hH1 hH2
        have hrl : rs.length ≤ 1048576 := hrs ▸ Nat.le_trans (sel_len _ _) (Nat.le_trans (cw_len _ _) (by omega))
        obtain ⟨rl, hrle⟩ : ∃ z, z = rs.length := ⟨_, rfl⟩
        obtain ⟨bq, hbq⟩ : ∃ z : Bool, z = (wm == 0) := ⟨_, rfl⟩
        have hq : wk = true → ((rl : Int) == (hs.length : Int)) = bq := by
          intro hk
          have hW : WcOk es hs day := tb_true (by rw [← hwk]; exact hk)
          have hR : RcOk es hs day := ⟨hW.1, hW.2.1⟩
          have h1 := worst_right hW
          rw [hbq, hwm, seli_t hW, hrle, hrs, sel_t hR, Bool.eq_iff_iff]
          simp only [beq_iff_eq]
          omega
        have HW1 := Lib.hid hW1
        have HW2 := Lib.hid hW2
        have HR3 := Lib.hid hR3
        have HR4 := Lib.hid hR4
        have HE1 := Lib.hid hE1
        have HE2 := Lib.hid hE2
        have HH1 := Lib.hid hH1
        have HH2 := Lib.hid hH2
        have HRL := Lib.hid hrle
        clear hW1 hW2 hR3 hR4 hE1 hE2 hH1 hH2 hwa hwm hwk hrs hrk hke hkh hrle
        go_wp2_with fail
        ((with_reducible refine (HW1.out _ hE.fl hH.nl).mono ?_); rintro e w27 ⟨rfl, hb27⟩)
        replace hA := hA.ext hb27
        replace hE := hE.ext hb27
        replace hH := hH.ext hb27
        replace hR1 := hR1.ext hb27
        replace hB := ext_trans hB hb27
        have hz27 := hb27.size
        go_wp2_with fail
        ((with_reducible refine (HW2.out _ hE.fl hH.nl).mono ?_); rintro e w28 ⟨rfl, hb28⟩)
        replace hA := hA.ext hb28
        replace hE := hE.ext hb28
        replace hH := hH.ext hb28
        replace hR1 := hR1.ext hb28
        replace hB := ext_trans hB hb28
        have hz28 := hb28.size
        go_wp2_with fail
        ((with_reducible refine (HR3.out _ hE.fl hH.nl).mono ?_); rintro e w29 ⟨L1, k1, rfl, hL1, hb29⟩)
        replace hA := hA.ext hb29
        replace hE := hE.ext hb29
        replace hH := hH.ext hb29
        replace hR1 := hR1.ext hb29
        replace hB := ext_trans hB hb29
        have hz29 := hb29.size
        go_wp2_with fail
        ((with_reducible refine (HR4.out _ hE.fl hH.nl).mono ?_); rintro e w30 ⟨L2, k2, rfl, hL2, hb30⟩)
        replace hA := hA.ext hb30
        replace hE := hE.ext hb30
        replace hH := hH.ext hb30
        replace hR1 := hR1.ext hb30
        replace hL1 := hL1.ext hb30
        replace hB := ext_trans hB hb30
        have hz30 := hb30.size
        go_wp2_with fail
        ((with_reducible refine (rInts_same _ _ _ _ rs _ (by omega) hL1.fl hL2.fl).mono ?_); rintro e w31 ⟨rfl, hb31⟩)
        replace hA := hA.ext hb31
        replace hE := hE.ext hb31
        replace hH := hH.ext hb31
        replace hR1 := hR1.ext hb31
        replace hL1 := hL1.ext hb31
        replace hL2 := hL2.ext hb31
        replace hB := ext_trans hB hb31
        have hz31 := hb31.size
        go_wp2_with fail
        ((with_reducible refine (drawMissingSlips_any A n cap _ hA hn16).mono ?_); rintro e w32 ⟨UA, ud, us, YA, yd, ys, num, at9, rfl, hul, hyw, hU, hY, hb32⟩)
        replace hA := hA.ext hb32
        replace hE := hE.ext hb32
        replace hH := hH.ext hb32
        replace hR1 := hR1.ext hb32
        replace hB := ext_trans hB hb32
        have hz32 := hb32.size
        have hM1 := fun W h k => missingSlips_any UA ud us YA yd ys num at9 W (by omega) h (by omega) k
        have hM2 := fun W h k => specMissingSlips_any UA ud us YA yd ys num at9 W (by omega) h (by omega) k
        obtain ⟨ms, hms⟩ : ∃ z, z = sel (MsOk us ys (atH ys num) at9) (missAt us ys (atH ys num) at9) := ⟨_, rfl⟩
        obtain ⟨mk, hmk⟩ : ∃ z, z = tb (MsOk us ys (atH ys num) at9) := ⟨_, rfl⟩
        simp only [← hms, ← hmk] at hM1 hM2
        have hml : ms.length ≤ 1048576 := hms ▸ Nat.le_trans (sel_len _ _) (Nat.le_trans (missAt_len _ _ _ _) (by omega))
        have HM1 := Lib.hid hM1
        have HM2 := Lib.hid hM2
        clear hM1 hM2 hms hmk
        go_wp2_with fail
        ((with_reducible refine (HM1.out _ hU.fl hY.nl).mono ?_); rintro e w33 ⟨N1, e1, rfl, hN1, hb33⟩)
        replace hA := hA.ext hb33
        replace hE := hE.ext hb33
        replace hH := hH.ext hb33
        replace hR1 := hR1.ext hb33
        replace hU := hU.ext hb33
        replace hY := hY.ext hb33
        replace hB := ext_trans hB hb33
        have hz33 := hb33.size
        go_wp2_with fail
        ((with_reducible refine (HM2.out _ hU.fl hY.nl).mono ?_); rintro e w34 ⟨N2, e2, rfl, hN2, hb34⟩)
        replace hA := hA.ext hb34
        replace hE := hE.ext hb34
        replace hH := hH.ext hb34
        replace hR1 := hR1.ext hb34
        replace hU := hU.ext hb34
        replace hY := hY.ext hb34
        replace hN1 := hN1.ext hb34
        replace hB := ext_trans hB hb34
        have hz34 := hb34.size
        rw [← HRL.out]
        have hbqs := hbq.symm
        clear hbq
        go_wp2_with fail
        ((with_reducible refine (rInts_same _ _ _ _ ms _ (by omega) hN1.fl hN2.fl).mono ?_); rintro e w35 ⟨rfl, hb35⟩)
        replace hA := hA.ext hb35
        replace hE := hE.ext hb35
        replace hH := hH.ext hb35
        replace hR1 := hR1.ext hb35
        replace hU := hU.ext hb35
        replace hY := hY.ext hb35
        replace hN1 := hN1.ext hb35
        replace hN2 := hN2.ext hb35
        replace hB := ext_trans hB hb35
        have hz35 := hb35.size
        cases wk
        · skip
          clear hq hbqs
          go_wp2_with fail
          ((with_reducible refine (HE1.out _ hE.fl).mono ?_); rintro e w36 ⟨rfl, hb36⟩)
          replace hA := hA.ext hb36
          replace hE := hE.ext hb36
          replace hH := hH.ext hb36
          replace hR1 := hR1.ext hb36
          replace hU := hU.ext hb36
          replace hY := hY.ext hb36
          replace hN1 := hN1.ext hb36
          replace hN2 := hN2.ext hb36
          replace hB := ext_trans hB hb36
          have hz36 := hb36.size
          go_wp2_with fail
          ((with_reducible refine (HE2.out _ hE.fl).mono ?_); rintro e w37 ⟨rfl, hb37⟩)
          replace hA := hA.ext hb37
          replace hE := hE.ext hb37
          replace hH := hH.ext hb37
          replace hR1 := hR1.ext hb37
          replace hU := hU.ext hb37
          replace hY := hY.ext hb37
          replace hN1 := hN1.ext hb37
          replace hN2 := hN2.ext hb37
          replace hB := ext_trans hB hb37
          have hz37 := hb37.size
          go_wp2_with fail
          ((with_reducible refine (HH1.out _ hE.fl hH.nl).mono ?_); rintro e w38 ⟨rfl, hb38⟩)
          replace hA := hA.ext hb38
          replace hE := hE.ext hb38
          replace hH := hH.ext hb38
          replace hR1 := hR1.ext hb38
          replace hU := hU.ext hb38
          replace hY := hY.ext hb38
          replace hN1 := hN1.ext hb38
          replace hN2 := hN2.ext hb38
          replace hB := ext_trans hB hb38
          have hz38 := hb38.size
          go_wp2_with fail
          ((with_reducible refine (HH2.out _ hE.fl hH.nl).mono ?_); rintro e w39 ⟨rfl, hb39⟩)
          replace hA := hA.ext hb39
          replace hE := hE.ext hb39
          replace hH := hH.ext hb39
          replace hR1 := hR1.ext hb39
          replace hU := hU.ext hb39
          replace hY := hY.ext hb39
          replace hN1 := hN1.ext hb39
          replace hN2 := hN2.ext hb39
          replace hB := ext_trans hB hb39
          have hz39 := hb39.size
          go_wp2
          go_ret
          exact ⟨rfl, hB⟩
        · skip
          have hq9 := hq rfl
          clear hq
          go_wp2_with fail
          ((with_reducible refine (HE1.out _ hE.fl).mono ?_); rintro e w40 ⟨rfl, hb40⟩)
          replace hA := hA.ext hb40
          replace hE := hE.ext hb40
          replace hH := hH.ext hb40
          replace hR1 := hR1.ext hb40
          replace hU := hU.ext hb40
          replace hY := hY.ext hb40
          replace hN1 := hN1.ext hb40
          replace hN2 := hN2.ext hb40
          replace hB := ext_trans hB hb40
          have hz40 := hb40.size
          go_wp2_with fail
          ((with_reducible refine (HE2.out _ hE.fl).mono ?_); rintro e w41 ⟨rfl, hb41⟩)
          replace hA := hA.ext hb41
          replace hE := hE.ext hb41
          replace hH := hH.ext hb41
          replace hR1 := hR1.ext hb41
          replace hU := hU.ext hb41
          replace hY := hY.ext hb41
          replace hN1 := hN1.ext hb41
          replace hN2 := hN2.ext hb41
          replace hB := ext_trans hB hb41
          have hz41 := hb41.size
          go_wp2_with fail
          ((with_reducible refine (HH1.out _ hE.fl hH.nl).mono ?_); rintro e w42 ⟨rfl, hb42⟩)
          replace hA := hA.ext hb42
          replace hE := hE.ext hb42
          replace hH := hH.ext hb42
          replace hR1 := hR1.ext hb42
          replace hU := hU.ext hb42
          replace hY := hY.ext hb42
          replace hN1 := hN1.ext hb42
          replace hN2 := hN2.ext hb42
          replace hB := ext_trans hB hb42
          have hz42 := hb42.size
          go_wp2_with fail
          ((with_reducible refine (HH2.out _ hE.fl hH.nl).mono ?_); rintro e w43 ⟨rfl, hb43⟩)
          replace hA := hA.ext hb43
          replace hE := hE.ext hb43
          replace hH := hH.ext hb43
          replace hR1 := hR1.ext hb43
          replace hU := hU.ext hb43
          replace hY := hY.ext hb43
          replace hN1 := hN1.ext hb43
          replace hN2 := hN2.ext hb43
          replace hB := ext_trans hB hb43
          have hz43 := hb43.size
          go_wp2
          go_ret
          exact ⟨rfl, hB⟩
      · refine wp_loop_rounds 1 ?_
        rw [rounds_succ]
        have hW1 := fun W h k => worstCopy_any EA ed es HA hd hs day W (by omega) h (by omega) k
        have hW2 := fun W h k => specWorstCopy_any EA ed es HA hd hs day W (by omega) h (by omega) k
        have hR3 := fun W h k => rightCopies_any EA ed es HA hd hs day W (by omega) h (by omega) k
        have hR4 := fun W h k => specRightCopies_any EA ed es HA hd hs day W (by omega) h (by omega) k
        have hE1 := fun W h => areErrata_any EA ed es W (by omega) h
        have hE2 := fun W h => specAreErrata_any EA ed es W (by omega) h
        have hH1 := fun W h k => areHeld_any EA ed es HA hd hs W (by omega) h (by omega) k
        have hH2 := fun W h k => specAreHeld_any EA ed es HA hd hs W (by omega) h (by omega) k
        obtain ⟨wa, hwa⟩ : ∃ z, z = seli (WcOk es hs day) (worst es hs day).1 := ⟨_, rfl⟩
        obtain ⟨wm, hwm⟩ : ∃ z, z = seli (WcOk es hs day) (worst es hs day).2 := ⟨_, rfl⟩
        obtain ⟨wk, hwk⟩ : ∃ z, z = tb (WcOk es hs day) := ⟨_, rfl⟩
        obtain ⟨rs, hrs⟩ : ∃ z, z = sel (RcOk es hs day) (cw (NoMiss es day) hs) := ⟨_, rfl⟩
        obtain ⟨rk, hrk⟩ : ∃ z, z = tb (RcOk es hs day) := ⟨_, rfl⟩
        obtain ⟨ke, hke⟩ : ∃ z, z = tb (Errs es) := ⟨_, rfl⟩
        obtain ⟨kh, hkh⟩ : ∃ z, z = tb (HeldOk es hs) := ⟨_, rfl⟩
        simp only [← hwa, ← hwm, ← hwk, ← hrs, ← hrk, ← hke, ← hkh] at hW1 hW2 hR3 hR4 hE1 hE2 hH1 hH2
        have hrl : rs.length ≤ 1048576 := hrs ▸ Nat.le_trans (sel_len _ _) (Nat.le_trans (cw_len _ _) (by omega))
        obtain ⟨rl, hrle⟩ : ∃ z, z = rs.length := ⟨_, rfl⟩
        obtain ⟨bq, hbq⟩ : ∃ z : Bool, z = (wm == 0) := ⟨_, rfl⟩
        have hq : wk = true → ((rl : Int) == (hs.length : Int)) = bq := by
          intro hk
          have hW : WcOk es hs day := tb_true (by rw [← hwk]; exact hk)
          have hR : RcOk es hs day := ⟨hW.1, hW.2.1⟩
          have h1 := worst_right hW
          rw [hbq, hwm, seli_t hW, hrle, hrs, sel_t hR, Bool.eq_iff_iff]
          simp only [beq_iff_eq]
          omega
        have HW1 := Lib.hid hW1
        have HW2 := Lib.hid hW2
        have HR3 := Lib.hid hR3
        have HR4 := Lib.hid hR4
        have HE1 := Lib.hid hE1
        have HE2 := Lib.hid hE2
        have HH1 := Lib.hid hH1
        have HH2 := Lib.hid hH2
        have HRL := Lib.hid hrle
        clear hW1 hW2 hR3 hR4 hE1 hE2 hH1 hH2 hwa hwm hwk hrs hrk hke hkh hrle
        go_wp2_with fail
        ((with_reducible refine (HW1.out _ hE.fl hH.nl).mono ?_); rintro e w44 ⟨rfl, hb44⟩)
        replace hA := hA.ext hb44
        replace hE := hE.ext hb44
        replace hH := hH.ext hb44
        replace hR1 := hR1.ext hb44
        replace hB := ext_trans hB hb44
        have hz44 := hb44.size
        go_wp2_with fail
        ((with_reducible refine (HW2.out _ hE.fl hH.nl).mono ?_); rintro e w45 ⟨rfl, hb45⟩)
        replace hA := hA.ext hb45
        replace hE := hE.ext hb45
        replace hH := hH.ext hb45
        replace hR1 := hR1.ext hb45
        replace hB := ext_trans hB hb45
        have hz45 := hb45.size
        go_wp2_with fail
        ((with_reducible refine (HR3.out _ hE.fl hH.nl).mono ?_); rintro e w46 ⟨L1, k1, rfl, hL1, hb46⟩)
        replace hA := hA.ext hb46
        replace hE := hE.ext hb46
        replace hH := hH.ext hb46
        replace hR1 := hR1.ext hb46
        replace hB := ext_trans hB hb46
        have hz46 := hb46.size
        go_wp2_with fail
        ((with_reducible refine (HR4.out _ hE.fl hH.nl).mono ?_); rintro e w47 ⟨L2, k2, rfl, hL2, hb47⟩)
        replace hA := hA.ext hb47
        replace hE := hE.ext hb47
        replace hH := hH.ext hb47
        replace hR1 := hR1.ext hb47
        replace hL1 := hL1.ext hb47
        replace hB := ext_trans hB hb47
        have hz47 := hb47.size
        go_wp2_with fail
        ((with_reducible refine (rInts_same _ _ _ _ rs _ (by omega) hL1.fl hL2.fl).mono ?_); rintro e w48 ⟨rfl, hb48⟩)
        replace hA := hA.ext hb48
        replace hE := hE.ext hb48
        replace hH := hH.ext hb48
        replace hR1 := hR1.ext hb48
        replace hL1 := hL1.ext hb48
        replace hL2 := hL2.ext hb48
        replace hB := ext_trans hB hb48
        have hz48 := hb48.size
        go_wp2_with fail
        ((with_reducible refine (drawMissingSlips_any A n cap _ hA hn16).mono ?_); rintro e w49 ⟨UA, ud, us, YA, yd, ys, num, at9, rfl, hul, hyw, hU, hY, hb49⟩)
        replace hA := hA.ext hb49
        replace hE := hE.ext hb49
        replace hH := hH.ext hb49
        replace hR1 := hR1.ext hb49
        replace hB := ext_trans hB hb49
        have hz49 := hb49.size
        have hM1 := fun W h k => missingSlips_any UA ud us YA yd ys num at9 W (by omega) h (by omega) k
        have hM2 := fun W h k => specMissingSlips_any UA ud us YA yd ys num at9 W (by omega) h (by omega) k
        obtain ⟨ms, hms⟩ : ∃ z, z = sel (MsOk us ys (atH ys num) at9) (missAt us ys (atH ys num) at9) := ⟨_, rfl⟩
        obtain ⟨mk, hmk⟩ : ∃ z, z = tb (MsOk us ys (atH ys num) at9) := ⟨_, rfl⟩
        simp only [← hms, ← hmk] at hM1 hM2
        have hml : ms.length ≤ 1048576 := hms ▸ Nat.le_trans (sel_len _ _) (Nat.le_trans (missAt_len _ _ _ _) (by omega))
        have HM1 := Lib.hid hM1
        have HM2 := Lib.hid hM2
        clear hM1 hM2 hms hmk
        go_wp2_with fail
        ((with_reducible refine (HM1.out _ hU.fl hY.nl).mono ?_); rintro e w50 ⟨N1, e1, rfl, hN1, hb50⟩)
        replace hA := hA.ext hb50
        replace hE := hE.ext hb50
        replace hH := hH.ext hb50
        replace hR1 := hR1.ext hb50
        replace hU := hU.ext hb50
        replace hY := hY.ext hb50
        replace hB := ext_trans hB hb50
        have hz50 := hb50.size
        go_wp2_with fail
        ((with_reducible refine (HM2.out _ hU.fl hY.nl).mono ?_); rintro e w51 ⟨N2, e2, rfl, hN2, hb51⟩)
        replace hA := hA.ext hb51
        replace hE := hE.ext hb51
        replace hH := hH.ext hb51
        replace hR1 := hR1.ext hb51
        replace hU := hU.ext hb51
        replace hY := hY.ext hb51
        replace hN1 := hN1.ext hb51
        replace hB := ext_trans hB hb51
        have hz51 := hb51.size
        rw [← HRL.out]
        have hbqs := hbq.symm
        clear hbq
        go_wp2_with fail
        ((with_reducible refine (rInts_same _ _ _ _ ms _ (by omega) hN1.fl hN2.fl).mono ?_); rintro e w52 ⟨rfl, hb52⟩)
        replace hA := hA.ext hb52
        replace hE := hE.ext hb52
        replace hH := hH.ext hb52
        replace hR1 := hR1.ext hb52
        replace hU := hU.ext hb52
        replace hY := hY.ext hb52
        replace hN1 := hN1.ext hb52
        replace hN2 := hN2.ext hb52
        replace hB := ext_trans hB hb52
        have hz52 := hb52.size
        cases wk
        · skip
          clear hq hbqs
          go_wp2_with fail
          ((with_reducible refine (HE1.out _ hE.fl).mono ?_); rintro e w53 ⟨rfl, hb53⟩)
          replace hA := hA.ext hb53
          replace hE := hE.ext hb53
          replace hH := hH.ext hb53
          replace hR1 := hR1.ext hb53
          replace hU := hU.ext hb53
          replace hY := hY.ext hb53
          replace hN1 := hN1.ext hb53
          replace hN2 := hN2.ext hb53
          replace hB := ext_trans hB hb53
          have hz53 := hb53.size
          go_wp2_with fail
          ((with_reducible refine (HE2.out _ hE.fl).mono ?_); rintro e w54 ⟨rfl, hb54⟩)
          replace hA := hA.ext hb54
          replace hE := hE.ext hb54
          replace hH := hH.ext hb54
          replace hR1 := hR1.ext hb54
          replace hU := hU.ext hb54
          replace hY := hY.ext hb54
          replace hN1 := hN1.ext hb54
          replace hN2 := hN2.ext hb54
          replace hB := ext_trans hB hb54
          have hz54 := hb54.size
          go_wp2_with fail
          ((with_reducible refine (HH1.out _ hE.fl hH.nl).mono ?_); rintro e w55 ⟨rfl, hb55⟩)
          replace hA := hA.ext hb55
          replace hE := hE.ext hb55
          replace hH := hH.ext hb55
          replace hR1 := hR1.ext hb55
          replace hU := hU.ext hb55
          replace hY := hY.ext hb55
          replace hN1 := hN1.ext hb55
          replace hN2 := hN2.ext hb55
          replace hB := ext_trans hB hb55
          have hz55 := hb55.size
          go_wp2_with fail
          ((with_reducible refine (HH2.out _ hE.fl hH.nl).mono ?_); rintro e w56 ⟨rfl, hb56⟩)
          replace hA := hA.ext hb56
          replace hE := hE.ext hb56
          replace hH := hH.ext hb56
          replace hR1 := hR1.ext hb56
          replace hU := hU.ext hb56
          replace hY := hY.ext hb56
          replace hN1 := hN1.ext hb56
          replace hN2 := hN2.ext hb56
          replace hB := ext_trans hB hb56
          have hz56 := hb56.size
          go_wp2
          go_ret
          exact ⟨rfl, hB⟩
        · skip
          have hq9 := hq rfl
          clear hq
          go_wp2_with fail
          ((with_reducible refine (HE1.out _ hE.fl).mono ?_); rintro e w57 ⟨rfl, hb57⟩)
          replace hA := hA.ext hb57
          replace hE := hE.ext hb57
          replace hH := hH.ext hb57
          replace hR1 := hR1.ext hb57
          replace hU := hU.ext hb57
          replace hY := hY.ext hb57
          replace hN1 := hN1.ext hb57
          replace hN2 := hN2.ext hb57
          replace hB := ext_trans hB hb57
          have hz57 := hb57.size
          go_wp2_with fail
          ((with_reducible refine (HE2.out _ hE.fl).mono ?_); rintro e w58 ⟨rfl, hb58⟩)
          replace hA := hA.ext hb58
          replace hE := hE.ext hb58
          replace hH := hH.ext hb58
          replace hR1 := hR1.ext hb58
          replace hU := hU.ext hb58
          replace hY := hY.ext hb58
          replace hN1 := hN1.ext hb58
          replace hN2 := hN2.ext hb58
          replace hB := ext_trans hB hb58
          have hz58 := hb58.size
          go_wp2_with fail
          ((with_reducible refine (HH1.out _ hE.fl hH.nl).mono ?_); rintro e w59 ⟨rfl, hb59⟩)
          replace hA := hA.ext hb59
          replace hE := hE.ext hb59
          replace hH := hH.ext hb59
          replace hR1 := hR1.ext hb59
          replace hU := hU.ext hb59
          replace hY := hY.ext hb59
          replace hN1 := hN1.ext hb59
          replace hN2 := hN2.ext hb59
          replace hB := ext_trans hB hb59
          have hz59 := hb59.size
          go_wp2_with fail
          ((with_reducible refine (HH2.out _ hE.fl hH.nl).mono ?_); rintro e w60 ⟨rfl, hb60⟩)
          replace hA := hA.ext hb60
          replace hE := hE.ext hb60
          replace hH := hH.ext hb60
          replace hR1 := hR1.ext hb60
          replace hU := hU.ext hb60
          replace hY := hY.ext hb60
          replace hN1 := hN1.ext hb60
          replace hN2 := hN2.ext hb60
          replace hB := ext_trans hB hb60
          have hz60 := hb60.size
          go_wp2
          go_ret
          exact ⟨rfl, hB⟩

set_option maxRecDepth 100000 in
theorem FnErrata_holds : Rows.FnErrataSaid :=
  OpenClaim.holds_of_wide 3 Try.f3 rfl rfl rfl rfl rfl rfl rfl ⟨rfl, rfl, rfl, rfl, rfl⟩ rfl rfl rfl rfl rfl (by kernel_rfl) Try.func3 (by kernel_rfl)
    (of_decide_eq_true (by kernel_rfl)) (by unfold Func.isWrapper; first | (rw [if_pos (by decide +kernel)]; kernel_rfl) | (rw [if_neg (by decide +kernel)]; exact ⟨rfl, rfl⟩))
    (fun os started H enc _ => by
      refine law_lifted (s := Rows.fnErrataSpec) (conds := []) os started H enc (by kernel_rfl) Try.func3 (by kernel_rfl) rfl rfl Try.underlying4
        (ChangeSpec.witness6 (enc := enc) (C := Try.checked) false ⟨#[], #[.slice none 0 0], []⟩ 8 (by kernel_rfl) (by kernel_rfl) (by kernel_rfl) (by kernel_rfl)) ?_
      intro W base args ds ps hval hA
      rw [Try.params3] at hA hval
      obtain ⟨v0, vs0, d0, ds0, p0, q0, hargs, rfl, rfl, h0, r0⟩ := trodAll_cons hA
      obtain ⟨rfl, rfl, rfl⟩ := trodAll_nil r0
      obtain rfl : args = #[v0] := by cases args; simp_all
      refine ⟨rfl, ?_⟩
      obtain ⟨A0, n0, c0, rfl, hm0, hb0⟩ := open_bytes Try.underlying22 Try.underlying5 (by kernel_rfl) (hval 0 22 v0 rfl rfl) h0
      exact fnErrata_any A0 n0 c0 W hm0 hb0)
end Go.Proofs.Ytdicopjoffdnnaa
