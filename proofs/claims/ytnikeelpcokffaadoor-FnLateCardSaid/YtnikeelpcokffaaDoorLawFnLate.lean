/- The great law FnLate. No condition. -/
import Derived.Test.YtnikeelpcokffaaDoorLawL
import Derived.Test.YtnikeelpcokffaaDoorOpen
import Derived.Test.YtnikeelpcokffaaDoorOpB
import Derived.Test.YtnikeelpcokffaaDoorDrLat
import Derived.Test.YtnikeelpcokffaaDoorSrLoans
import Derived.Test.YtnikeelpcokffaaDoorFamInt
import Derived.Test.YtnikeelpcokffaaDoorHasR
import Derived.Test.YtnikeelpcokffaaDoorLatF
import Derived.Test.YtnikeelpcokffaaDoorMgL
import Derived.Test.YtnikeelpcokffaaDoorWho
import Derived.Test.YtnikeelpcokffaaDoorFine
import Derived.Test.YtnikeelpcokffaaDoorMgP
import Derived.Test.YtnikeelpcokffaaDoorMgD
import Derived.Test.YtnikeelpcokffaaDoorMgF
import Derived.Test.YtnikeelpcokffaaDoorMgT
import Derived.Test.YtnikeelpcokffaaDoorMgO
import Derived.Test.YtnikeelpcokffaaDoorCards
import Derived.Test.YtnikeelpcokffaaDoorTie
import Derived.Test.YtnikeelpcokffaaDoorLst
import Derived.SevenTiedAt
import Derived.Lib.SmallJoins
import Derived.Deep.DeepCutAuto
import Derived.Deep.RegionLaw
namespace Go.Proofs.YtnikeelpcokffaaDoor
open Go.RowKit
set_option linter.unusedVariables false
set_option linter.unusedSimpArgs false

theorem Pow.at' {B : Nat} {w w1 : World} (h : Pow B w) (hb : Below B w w1) (hB : B ≤ w1.heap.size) : Pow w1.heap.size w1 := fun w' hb' => h w' (hb.trans (hb'.mono hB))
open Go.ChangeShapes Go.WideShapes Go.ChangeAt Go.Joins in
set_option maxHeartbeats 16000000 in
set_option maxRecDepth 100000 in
theorem fnLate_any (A : Option Addr) (n cap : Nat) (w : World) (hm : n ≤ 9223372036854775807) (hA : Bytes w A n) (hT : Pow w.heap.size w) :
    Calls Tryd.prog 3 #[.slice A n cap] w fun e w' => e = .returned (.bool true) ∧ Below w.heap.size w w' := by
  have HPOW := Lib.hid hT
  clear hT
  by_cases hbig : 65536 < (n : Int)
  · go_enter Tryd.func3, Tryd.ntmps3
    go_wp2_with fail
    ((with_reducible refine (rBig_any A n cap w _ Iff.rfl).mono ?_); rintro e w9 ⟨rfl, rfl⟩)
    rw [tb_t hbig]
    go_wp2
    go_ret
    exact ⟨rfl, Below.refl _ _⟩
  · have hn16 : n ≤ 1099511627776 := by omega
    have hB := Below.refl w.heap.size w
    go_enter Tryd.func3, Tryd.ntmps3
    go_wp2_with fail
    ((with_reducible refine (rBig_any A n cap w _ Iff.rfl).mono ?_); rintro e w9 ⟨rfl, rfl⟩)
    rw [tb_f (show ¬ 65536 < (n : Int) by omega)]
    clear hbig hm
    go_wp2_with fail
    ((with_reducible refine (drawLateOn_any A n cap w hA hn16).mono ?_); rintro e w1 ⟨LA, ld, xs, dy, rfl, hcap, hxl, hN, hb1⟩)
    replace hA := hA.ext hb1
    replace hB := ext_trans hB hb1
    have hz1 := hb1.size
    obtain ⟨hc1, hc2⟩ := hcap
    have hI := fun W h => lateOn_any LA ld xs dy W (by omega) hc1 hc2 h
    have hJ := fun W h => specLateOn_any LA ld xs dy W (by omega) hc1 hc2 h
    obtain ⟨la, hg_la⟩ : ∃ z, z = sel (LtOk xs dy) (putAll (lateS dy xs)) := ⟨_, rfl⟩
    obtain ⟨ok, hg_ok⟩ : ∃ z, z = tb (LtOk xs dy) := ⟨_, rfl⟩
    simp only [← hg_la, ← hg_ok] at hI hJ
    have HI := Lib.hid hI
    have HJ := Lib.hid hJ
    have HG_la := Lib.hid hg_la
    have HG_ok := Lib.hid hg_ok
    clear hI hJ hg_la hg_ok
    have hll : la.length ≤ 17 := HG_la.out ▸ Nat.le_trans (sel_len _ _) (Nat.le_trans (putAll_len _) (Nat.le_trans (lateS_len _ _) hxl))
    have z1 : (ok != ok) = false := by simp
    have HWH := Lib.hid (show ∀ s ∈ la, WhOk xs s dy ∧ whoL s dy xs ≠ 0 from fun s hs => by
      have h1 := HG_la.out
      by_cases q : LtOk xs dy
      · rw [sel_t q] at h1; exact late_who q (h1 ▸ hs)
      · rw [sel_f q] at h1; rw [h1] at hs; simp at hs)
    have HWC := Lib.hid (fun (s : Int) W h => whoHas_any LA ld xs s dy W (by omega) hc1 hc2 h)
    have HFI := Lib.hid (fun W h => favorite_any LA ld xs W (by omega) hc1 hc2 h)
    have HFS := Lib.hid (fun W h => specFavorite_any LA ld xs W (by omega) hc1 hc2 h)
    go_wp2_with fail
    ((with_reducible refine (HI.out _ hN.fl).mono ?_); rintro e w2 ⟨R1, d1, rfl, hR1, hb2⟩)
    replace hA := hA.ext hb2
    replace hN := hN.ext hb2
    replace hB := ext_trans hB hb2
    have hz2 := hb2.size
    go_wp2_with fail
    ((with_reducible refine (HJ.out _ hN.fl).mono ?_); rintro e w3 ⟨R2, d2, rfl, hR2, hb3⟩)
    replace hA := hA.ext hb3
    replace hN := hN.ext hb3
    replace hR1 := hR1.ext hb3
    replace hB := ext_trans hB hb3
    have hz3 := hb3.size
    go_wp2_with fail
    ((with_reducible refine (rInts_same _ _ _ _ la _ (by omega) hR1.fl hR2.fl).mono ?_); rintro e w4 ⟨rfl, hb4⟩)
    replace hA := hA.ext hb4
    replace hN := hN.ext hb4
    replace hR1 := hR1.ext hb4
    replace hR2 := hR2.ext hb4
    replace hB := ext_trans hB hb4
    have hz4 := hb4.size
    clear hR2 HI HJ HG_la HG_ok
    go_wp2_with fail
    go_loopw [9] (fun iv wr => ∃ k : Nat, k ≤ la.length ∧ iv = .int .i64 (k : Int) ∧ Below (World.heap w4).size w4 wr) (fun iv _ => la.length - (intOf iv).toNat)
    case atStart => exact ⟨0, by omega, rfl, Below.refl _ _⟩
    case round =>
      obtain ⟨k, hk, rfl, hbr⟩ := hrel
      by_cases hlt : k < la.length
      · obtain ⟨s, b, o, hs, hBe, hbq, hc⟩ := ((hR1.fl.ext hbr).at_ (k := k) hlt)
        subst hBe
        have c0 : World.cell? wr ⟨b, o + k, none⟩ = some (.int .i64 s) := by have := hc 0 s rfl; rwa [Nat.mul_one, Nat.add_zero] at this
        obtain ⟨q1, q2⟩ := HWH.out s (List.mem_of_getElem? hs)
        have hw := HWC.out s wr (hN.fl.ext hbr)
        rw [seli_t q1, tb_t q1] at hw
        obtain ⟨wv, hwv⟩ : ∃ z, z = whoL s dy xs := ⟨_, rfl⟩
        rw [← hwv] at hw q2
        have HW := Lib.hid hw
        have q3 : (wv == 0) = false := by simp [q2]
        have hk0 : (0 : Int) ≤ (k : Int) := by omega
        have hk1 : (k : Int) < (la.length : Int) := by omega
        clear hc hs hw q1 q2 hwv
        go_wp2_with fail
        ((with_reducible refine (HW.out).mono ?_); rintro e w92 ⟨rfl, hb92⟩)
        go_wp2
        go_roundw
        case rel => exact ⟨k + 1, by omega, by go_num, ext_trans hbr hb92⟩
        case measure => simp [intOf]; omega
      · have hkn : k = la.length := by omega
        subst hkn
        clear hlt hk
        as_aux_lemma =>
          obtain ⟨w5, hwz⟩ : ∃ z, z = wr := ⟨_, rfl⟩
          subst hwz
          clear hR1
          replace hA := hA.ext hbr
          replace hN := hN.ext hbr
          replace hB := ext_trans hB hbr
          have hz5 := hbr.size
          go_wp2_with fail
          ((with_reducible refine (drawProlongLoan_any A n cap _ hA hn16).mono ?_); rintro e w6 ⟨MA, md, ys, sx, ta, dz, rfl, hcap2, hyl, hM, hb6⟩)
          replace hA := hA.ext hb6
          replace hN := hN.ext hb6
          replace hB := ext_trans hB hb6
          have hz6 := hb6.size
          obtain ⟨hc3, hc4⟩ := hcap2
          have hI := fun W h => prolongLoan_any MA md ys sx ta dz W (by omega) hc3 hc4 h
          have hJ := fun W h => specProlongLoan_any MA md ys sx ta dz W (by omega) hc3 hc4 h
          obtain ⟨ou, hg_ou⟩ : ∃ z, z = sel (PrOk ys sx ta dz) (prlL sx dz ys) := ⟨_, rfl⟩
          obtain ⟨fi, hg_fi⟩ : ∃ z, z = tb (PrOk ys sx ta dz) := ⟨_, rfl⟩
          simp only [← hg_ou, ← hg_fi] at hI hJ
          have HI := Lib.hid hI
          have HJ := Lib.hid hJ
          have HG_ou := Lib.hid hg_ou
          have HG_fi := Lib.hid hg_fi
          clear hI hJ hg_ou hg_fi
          have hol : ou.length ≤ 17 := HG_ou.out ▸ Nat.le_trans (sel_len _ _) (by rw [prlL_len]; exact hyl)
          have z2 : (fi != fi) = false := by simp
          go_wp2_with fail
          ((with_reducible refine (HI.out _ hM.fl).mono ?_); rintro e w7 ⟨R4, d4, rfl, hcp, hR4, hb7⟩)
          replace hA := hA.ext hb7
          replace hN := hN.ext hb7
          replace hM := hM.ext hb7
          replace hB := ext_trans hB hb7
          have hz7 := hb7.size
          go_wp2_with fail
          ((with_reducible refine (HJ.out _ hM.fl).mono ?_); rintro e w8 ⟨R5, d5, rfl, hcq, hR5, hb8⟩)
          replace hA := hA.ext hb8
          replace hN := hN.ext hb8
          replace hM := hM.ext hb8
          replace hR4 := hR4.ext hb8
          replace hB := ext_trans hB hb8
          have hz8 := hb8.size
          go_wp2_with fail
          ((with_reducible refine (rLoans_same _ _ _ _ ou _ (by omega) hR4.fl hR5.fl).mono ?_); rintro e w9 ⟨rfl, hb9⟩)
          replace hA := hA.ext hb9
          replace hN := hN.ext hb9
          replace hM := hM.ext hb9
          replace hR4 := hR4.ext hb9
          replace hR5 := hR5.ext hb9
          replace hB := ext_trans hB hb9
          have hz9 := hb9.size
          clear hR5 hM
          go_upto_if 131 with fail
          go_cut [] (fun wx => Below (World.heap w9).size w9 wx)
          case first =>
            by_cases hPO : (PrOk ys sx ta dz)
            · skip
              obtain rfl : fi = true := by rw [HG_fi.out, tb_t hPO]
              have hou : ou = prlL sx dz ys := by rw [HG_ou.out, sel_t hPO]
              obtain ⟨⟨f1, f2⟩, f3, f4⟩ := prl_law hPO
              simp only [← hou] at f1 f2 f3 f4
              have hLa := fun W h => lateOn_any R4 d4 ou ta W (by omega) hcp.1 hcp.2 h
              simp only [sel_t f1, tb_t f1] at hLa
              have hFa := fun W h => fineOn_any R4 d4 ou sx ta W (by omega) hcp.1 hcp.2 h
              simp only [seli_t f3, tb_t f3, f4] at hFa
              have hlt9 : (putAll (lateS ta ou)).length ≤ 1048576 := Nat.le_trans (putAll_len _) (Nat.le_trans (lateS_len _ _) (by omega))
              obtain ⟨sm, hsm⟩ : ∃ z, z = putAll (lateS ta ou) := ⟨_, rfl⟩
              simp only [← hsm] at hLa f2 hlt9
              have HLA := Lib.hid hLa
              have HFA := Lib.hid hFa
              have HF2 := Lib.hid f2
              clear hLa hFa f1 f2 f3 f4 hou hPO hsm HG_ou HG_fi HI HJ z2
              go_wp2_with fail
              ((with_reducible refine (HLA.out _ hR4.fl).mono ?_); rintro e w10 ⟨B6, d6, rfl, hR6, hb10⟩)
              replace hA := hA.ext hb10
              replace hN := hN.ext hb10
              replace hR4 := hR4.ext hb10
              replace hB := ext_trans hB hb10
              have hz10 := hb10.size
              go_wp2_with fail
              ((with_reducible refine (HFA.out _ hR4.fl).mono ?_); rintro e w11 ⟨rfl, hb11⟩)
              replace hA := hA.ext hb11
              replace hN := hN.ext hb11
              replace hR4 := hR4.ext hb11
              replace hR6 := hR6.ext hb11
              replace hB := ext_trans hB hb11
              have hz11 := hb11.size
              go_wp2_with fail
              ((with_reducible refine (hasI_any B6 d6 sm sx _ (by omega) hR6.fl).mono ?_); rintro e w12 ⟨rfl, hb12⟩)
              replace hA := hA.ext hb12
              replace hN := hN.ext hb12
              replace hR4 := hR4.ext hb12
              replace hR6 := hR6.ext hb12
              replace hB := ext_trans hB hb12
              have hz12 := hb12.size
              rw [tb_f HF2.out]
              go_wp2
              go_meet
              exact ext_trans (ext_trans (hb10) hb11) hb12
            · obtain rfl : fi = false := by rw [HG_fi.out, tb_f hPO]
              go_wp2
              go_meet
              exact Below.refl _ _
          case rest =>
            as_aux_lemma =>
              obtain ⟨w13, hwz⟩ : ∃ z, z = wc := ⟨_, rfl⟩
              subst hwz
              clear hR4 HI HJ HG_ou HG_fi z2 hcp hcq hol
              replace hA := hA.ext hcut
              replace hN := hN.ext hcut
              replace hB := ext_trans hB hcut
              have hz13 := hcut.size
              go_wp2_with fail
              ((with_reducible refine (drawDaysLent_any A n cap _ hA hn16).mono ?_); rintro e w14 ⟨QA, qd, qs, sq, on, rfl, hcap5, hql, hQ, hb14⟩)
              replace hA := hA.ext hb14
              replace hN := hN.ext hb14
              replace hB := ext_trans hB hb14
              have hz14 := hb14.size
              obtain ⟨hc5, hc6⟩ := hcap5
              have hI := fun W h => daysLent_any QA qd qs sq on W (by omega) hc5 hc6 h
              have hJ := fun W h => specDaysLent_any QA qd qs sq on W (by omega) hc5 hc6 h
              obtain ⟨dn, hg_dn⟩ : ∃ z, z = seli (WhOk qs sq on) (dlS sq on qs) := ⟨_, rfl⟩
              obtain ⟨tk, hg_tk⟩ : ∃ z, z = tb (WhOk qs sq on) := ⟨_, rfl⟩
              simp only [← hg_dn, ← hg_tk] at hI hJ
              have HI := Lib.hid hI
              have HJ := Lib.hid hJ
              have HG_dn := Lib.hid hg_dn
              have HG_tk := Lib.hid hg_tk
              clear hI hJ hg_dn hg_tk
              have z3 : (dn != dn) = false := by simp
              have z4 : (tk != tk) = false := by simp
              have HNX := Lib.hid (fun (o2 : Int) W h => daysLent_any QA qd qs sq o2 W (by omega) hc5 hc6 h)
              go_wp2_with fail
              ((with_reducible refine (HI.out _ hQ.fl).mono ?_); rintro e w15 ⟨rfl, hb15⟩)
              replace hA := hA.ext hb15
              replace hN := hN.ext hb15
              replace hQ := hQ.ext hb15
              replace hB := ext_trans hB hb15
              have hz15 := hb15.size
              go_wp2_with fail
              ((with_reducible refine (HJ.out _ hQ.fl).mono ?_); rintro e w16 ⟨rfl, hb16⟩)
              replace hA := hA.ext hb16
              replace hN := hN.ext hb16
              replace hQ := hQ.ext hb16
              replace hB := ext_trans hB hb16
              have hz16 := hb16.size
              clear HI HJ
              obtain ⟨bt, hbt⟩ : ∃ z : Bool, z = (tk && decide (on < 4000)) := ⟨_, rfl⟩
              have HBT := Lib.hid hbt
              clear hbt
              go_upto_region 29 with fail
              go_cut [192] (fun v wx => v = .bool bt ∧ wx = w16)
              case first =>
                have hbt := HBT.out
                cases tk
                · obtain rfl : bt = false := by rw [hbt]; rfl
                  clear hbt HBT
                  go_wp2
                  go_meet
                  exact ⟨rfl, rfl⟩
                · by_cases ho : on < 4000
                  · obtain rfl : bt = true := by rw [hbt]; simp [ho]
                    clear hbt HBT
                    go_wp2
                    go_meet
                    exact ⟨rfl, rfl⟩
                  · obtain rfl : bt = false := by rw [hbt]; simp [ho]
                    clear hbt HBT
                    go_wp2
                    go_meet
                    exact ⟨rfl, rfl⟩
              case rest =>
                obtain ⟨rfl, hwx⟩ := hcut
                replace hwx := hwx.symm
                subst hwx
                clear z3 z4
                go_upto_if 192 with fail
                go_cut [] (fun wx => Below (World.heap w16).size w16 wx)
                case first =>
                  cases bt
                  · go_wp2
                    go_meet
                    exact Below.refl _ _
                  · skip
                    have hbt := HBT.out.symm
                    rw [Bool.and_eq_true, decide_eq_true_eq] at hbt
                    obtain ⟨ht1, ht2⟩ := hbt
                    have hWK : WhOk qs sq on := tb_true (HG_tk.out.symm.trans ht1)
                    have hdn : dn = dlS sq on qs := by rw [HG_dn.out, seli_t hWK]
                    have hds := dlS_bd (s := sq) hWK.2.2 qs (lns_lo hWK.1)
                    obtain ⟨f1, f2, f3⟩ := days_law hWK ht2
                    have hnx := fun W h => HNX.out (on + 1) W h
                    simp only [seli_t f1, tb_t f1] at hnx
                    obtain ⟨nx, hnxe⟩ : ∃ z, z = dlS sq (on + 1) qs := ⟨_, rfl⟩
                    simp only [← hnxe] at hnx f2 f3
                    rw [← hdn] at f2 f3 hds
                    have hon := hWK.2.2
                    have hw1 : IntKind.i64.wrap (on + 1) = on + 1 := IntWalk.i64_in _ (by omega)
                    have hw2 : IntKind.i64.wrap (dn + 1) = dn + 1 := IntWalk.i64_in _ (by omega)
                    have y1 : ¬ nx < dn := by omega
                    have y2 : ¬ dn + 1 < nx := by omega
                    have HNY := Lib.hid hnx
                    clear ht1 ht2 hWK hdn hds f1 f2 f3 hnx hnxe hon HNX HG_dn HG_tk HBT
                    go_wp2_with fail
                    ((with_reducible refine (HNY.out _ hQ.fl).mono ?_); rintro e w17 ⟨rfl, hb17⟩)
                    replace hA := hA.ext hb17
                    replace hN := hN.ext hb17
                    replace hQ := hQ.ext hb17
                    replace hB := ext_trans hB hb17
                    have hz17 := hb17.size
                    go_wp2
                    go_meet
                    exact hb17
                case rest =>
                  as_aux_lemma =>
                    obtain ⟨w18, hwz⟩ : ∃ z, z = wc := ⟨_, rfl⟩
                    subst hwz
                    clear hQ HNX HG_dn HG_tk HBT
                    replace hA := hA.ext hcut
                    replace hN := hN.ext hcut
                    replace hB := ext_trans hB hcut
                    have hz18 := hcut.size
                    obtain ⟨fv, hfv⟩ : ∃ z, z = seli (FvOk xs) (favI (allS xs)) := ⟨_, rfl⟩
                    obtain ⟨fk, hfk⟩ : ∃ z, z = tb (FvOk xs) := ⟨_, rfl⟩
                    have hfi := fun W h => HFI.out W h
                    have hfs := fun W h => HFS.out W h
                    simp only [← hfv, ← hfk] at hfi hfs
                    have HFI2 := Lib.hid hfi
                    have HFS2 := Lib.hid hfs
                    have z5 : (fv == fv) = true := beq_self_eq_true _
                    have z6 : (fk == fk) = true := beq_self_eq_true _
                    clear hfi hfs hfv hfk HFI HFS
                    go_wp2_with fail
                    ((with_reducible refine (HFI2.out _ hN.fl).mono ?_); rintro e w19 ⟨rfl, hb19⟩)
                    replace hA := hA.ext hb19
                    replace hN := hN.ext hb19
                    replace hB := ext_trans hB hb19
                    have hz19 := hb19.size
                    go_wp2_with fail
                    ((with_reducible refine (HFS2.out _ hN.fl).mono ?_); rintro e w20 ⟨rfl, hb20⟩)
                    replace hA := hA.ext hb20
                    replace hN := hN.ext hb20
                    replace hB := ext_trans hB hb20
                    have hz20 := hb20.size
                    clear hN HFI2 HFS2
                    as_aux_lemma =>
                      go_wp2_with fail
                      ((with_reducible refine (drawLoanText_any A n cap _ hA hn16).mono ?_); rintro e w21 ⟨y, rfl, hb21⟩)
                      replace hA := hA.ext hb21
                      replace hB := ext_trans hB hb21
                      have hz21 := hb21.size
                      obtain ⟨U1, hU1, hD1, hs1, hv1, _⟩ := box_world w21 #[Value.int .i64 y.sheet, Value.int .i64 y.reader, Value.int .i64 y.out, Value.int .i64 y.due, Value.int .i64 y.back] 43
                      replace hA := hA.ext hD1
                      replace hB := ext_trans hB hD1
                      have hz22 := hD1.size
                      have e_0 : World.cell? U1 ⟨(World.heap w21).size, 0, none⟩ = some (Value.int .i64 y.sheet) := hv1 0
                      have e_1 : World.cell? U1 ⟨(World.heap w21).size, 1, none⟩ = some (Value.int .i64 y.reader) := hv1 1
                      have e_2 : World.cell? U1 ⟨(World.heap w21).size, 2, none⟩ = some (Value.int .i64 y.out) := hv1 2
                      have e_3 : World.cell? U1 ⟨(World.heap w21).size, 3, none⟩ = some (Value.int .i64 y.due) := hv1 3
                      have e_4 : World.cell? U1 ⟨(World.heap w21).size, 4, none⟩ = some (Value.int .i64 y.back) := hv1 4
                      have eh := hs1
                      clear hv1
                      have hS := fun W hp => loanText_any y W hp
                      have hT := fun W => specLoanText_any y W
                      obtain ⟨tx, hg_tx⟩ : ∃ z, z = selt (IsLo y) (loanT y) := ⟨_, rfl⟩
                      obtain ⟨lk, hg_lk⟩ : ∃ z, z = tb (IsLo y) := ⟨_, rfl⟩
                      simp only [← hg_tx, ← hg_lk] at hS hT
                      have HS := Lib.hid hS
                      have HT := Lib.hid hT
                      have HG_tx := Lib.hid hg_tx
                      have HG_lk := Lib.hid hg_lk
                      clear hS hT hg_tx hg_lk
                      have z7 : (lk == lk) = true := beq_self_eq_true _
                      go_wp2_with fail
                      clear hU1
                      ((with_reducible refine (HS.out _ (HPOW.out.at' hB hB.size)).mono ?_); rintro e w23 ⟨rfl, hb23⟩)
                      replace hA := hA.ext hb23
                      replace e_0 := (hb23.cell (p := ⟨(World.heap w21).size, 0, none⟩) eh).trans e_0
                      replace e_1 := (hb23.cell (p := ⟨(World.heap w21).size, 1, none⟩) eh).trans e_1
                      replace e_2 := (hb23.cell (p := ⟨(World.heap w21).size, 2, none⟩) eh).trans e_2
                      replace e_3 := (hb23.cell (p := ⟨(World.heap w21).size, 3, none⟩) eh).trans e_3
                      replace e_4 := (hb23.cell (p := ⟨(World.heap w21).size, 4, none⟩) eh).trans e_4
                      replace eh := Nat.lt_of_lt_of_le eh hb23.size
                      replace hB := ext_trans hB hb23
                      have hz23 := hb23.size
                      go_wp2_with fail
                      ((with_reducible refine (HT.out _).mono ?_); rintro e w24 ⟨rfl, hb24⟩)
                      replace hA := hA.ext hb24
                      replace e_0 := (hb24.cell (p := ⟨(World.heap w21).size, 0, none⟩) eh).trans e_0
                      replace e_1 := (hb24.cell (p := ⟨(World.heap w21).size, 1, none⟩) eh).trans e_1
                      replace e_2 := (hb24.cell (p := ⟨(World.heap w21).size, 2, none⟩) eh).trans e_2
                      replace e_3 := (hb24.cell (p := ⟨(World.heap w21).size, 3, none⟩) eh).trans e_3
                      replace e_4 := (hb24.cell (p := ⟨(World.heap w21).size, 4, none⟩) eh).trans e_4
                      replace eh := Nat.lt_of_lt_of_le eh hb24.size
                      replace hB := ext_trans hB hb24
                      have hz24 := hb24.size
                      go_wp2_with fail
                      ((with_reducible refine (drawOpenLoans_any A n cap _ hA hn16).mono ?_); rintro e w25 ⟨UA, ud, us, rd, wn, rfl, hcap7, hul, hU, hb25⟩)
                      replace hA := hA.ext hb25
                      replace e_0 := (hb25.cell (p := ⟨(World.heap w21).size, 0, none⟩) eh).trans e_0
                      replace e_1 := (hb25.cell (p := ⟨(World.heap w21).size, 1, none⟩) eh).trans e_1
                      replace e_2 := (hb25.cell (p := ⟨(World.heap w21).size, 2, none⟩) eh).trans e_2
                      replace e_3 := (hb25.cell (p := ⟨(World.heap w21).size, 3, none⟩) eh).trans e_3
                      replace e_4 := (hb25.cell (p := ⟨(World.heap w21).size, 4, none⟩) eh).trans e_4
                      replace eh := Nat.lt_of_lt_of_le eh hb25.size
                      replace hB := ext_trans hB hb25
                      have hz25 := hb25.size
                      obtain ⟨hc7, hc8⟩ := hcap7
                      have hI := fun W h => openLoans_any UA ud us rd wn W (by omega) hc7 hc8 h
                      have hJ := fun W h => specOpenLoans_any UA ud us rd wn W (by omega) hc7 hc8 h
                      obtain ⟨op, hg_op⟩ : ∃ z, z = sel (OlOk us rd wn) ((openS rd wn us).mergeSort leI) := ⟨_, rfl⟩
                      obtain ⟨ob, hg_ob⟩ : ∃ z, z = tb (OlOk us rd wn) := ⟨_, rfl⟩
                      simp only [← hg_op, ← hg_ob] at hI hJ
                      have HI := Lib.hid hI
                      have HJ := Lib.hid hJ
                      have HG_op := Lib.hid hg_op
                      have HG_ob := Lib.hid hg_ob
                      clear hI hJ hg_op hg_ob
                      have hopl : op.length ≤ 1048576 := HG_op.out ▸ Nat.le_trans (sel_len _ _) (by rw [List.length_mergeSort]; exact Nat.le_trans (openS_len _ _ _) (by omega))
                      have z8 : (ob == ob) = true := beq_self_eq_true _
                      go_wp2_with fail
                      ((with_reducible refine (HI.out _ hU.fl).mono ?_); rintro e w26 ⟨R7, d7, rfl, hR7, hb26⟩)
                      replace hA := hA.ext hb26
                      replace hU := hU.ext hb26
                      replace e_0 := (hb26.cell (p := ⟨(World.heap w21).size, 0, none⟩) eh).trans e_0
                      replace e_1 := (hb26.cell (p := ⟨(World.heap w21).size, 1, none⟩) eh).trans e_1
                      replace e_2 := (hb26.cell (p := ⟨(World.heap w21).size, 2, none⟩) eh).trans e_2
                      replace e_3 := (hb26.cell (p := ⟨(World.heap w21).size, 3, none⟩) eh).trans e_3
                      replace e_4 := (hb26.cell (p := ⟨(World.heap w21).size, 4, none⟩) eh).trans e_4
                      replace eh := Nat.lt_of_lt_of_le eh hb26.size
                      replace hB := ext_trans hB hb26
                      have hz26 := hb26.size
                      go_wp2_with fail
                      ((with_reducible refine (HJ.out _ hU.fl).mono ?_); rintro e w27 ⟨R8, d8, rfl, hR8, hb27⟩)
                      replace hA := hA.ext hb27
                      replace hU := hU.ext hb27
                      replace hR7 := hR7.ext hb27
                      replace e_0 := (hb27.cell (p := ⟨(World.heap w21).size, 0, none⟩) eh).trans e_0
                      replace e_1 := (hb27.cell (p := ⟨(World.heap w21).size, 1, none⟩) eh).trans e_1
                      replace e_2 := (hb27.cell (p := ⟨(World.heap w21).size, 2, none⟩) eh).trans e_2
                      replace e_3 := (hb27.cell (p := ⟨(World.heap w21).size, 3, none⟩) eh).trans e_3
                      replace e_4 := (hb27.cell (p := ⟨(World.heap w21).size, 4, none⟩) eh).trans e_4
                      replace eh := Nat.lt_of_lt_of_le eh hb27.size
                      replace hB := ext_trans hB hb27
                      have hz27 := hb27.size
                      go_wp2_with fail
                      ((with_reducible refine (rInts_same _ _ _ _ op _ (by omega) hR7.fl hR8.fl).mono ?_); rintro e w28 ⟨rfl, hb28⟩)
                      replace hA := hA.ext hb28
                      replace hU := hU.ext hb28
                      replace hR7 := hR7.ext hb28
                      replace hR8 := hR8.ext hb28
                      replace e_0 := (hb28.cell (p := ⟨(World.heap w21).size, 0, none⟩) eh).trans e_0
                      replace e_1 := (hb28.cell (p := ⟨(World.heap w21).size, 1, none⟩) eh).trans e_1
                      replace e_2 := (hb28.cell (p := ⟨(World.heap w21).size, 2, none⟩) eh).trans e_2
                      replace e_3 := (hb28.cell (p := ⟨(World.heap w21).size, 3, none⟩) eh).trans e_3
                      replace e_4 := (hb28.cell (p := ⟨(World.heap w21).size, 4, none⟩) eh).trans e_4
                      replace eh := Nat.lt_of_lt_of_le eh hb28.size
                      replace hB := ext_trans hB hb28
                      have hz28 := hb28.size
                      go_wp2
                      go_ret
                      exact ⟨rfl, hB⟩
open Go.ChangeShapes Go.WideShapes Go.ChangeAt Go.WideMaps Go.WideElems Go.Joins in
set_option maxRecDepth 100000 in
theorem Late_lifted (os : Os) (started : os.Started) (H : Type) (enc : TypeId × Value → H) :
    ReturnsInHanded {} Tryd.checked os 3 .any (fun w args => (Rows.fnLateSpec.pre enc Tryd.prog Tryd.f3 [] false w args ∧ laidMetH Tryd.prog laid3 w) ∧ sizedMet enc Tryd.prog Tryd.f3 (OpenSpec.ofChange Rows.fnLateSpec) false w args)
      (Rows.fnLateSpec.post enc Tryd.prog Tryd.f3 false true false false) := by
  refine returnsInHanded_of_change_and (C := Tryd.checked) (X := fun w _ => laidMetH Tryd.prog laid3 w) (fun _ _ _ hh h => h.of_heap hh) own started (by kernel_rfl) Tryd.func3
    (ChangeSpec.witness_shaped (enc := enc) (C := Tryd.checked) (os := os) (X := fun w _ => laidMetH Tryd.prog laid3 w) false (World.doorLaid Tryd.prog 400 os) #[.slice none 0 0] 8 rfl (World.shaped_of_RefB (by kernel_rfl) (by kernel_rfl)) (by kernel_rfl) (by kernel_rfl) (by kernel_rfl) (door_met os _)) ?_
  intro W base args ds gs before hval0 hW _ _ hL _
  have hT := pow_of_laid hL
  have hval : ∀ (j : Nat) t v, Tryd.f3.params[j]? = some t → args[j]? = some v → Value.okWide Tryd.prog W .any base t v := hval0
  obtain ⟨p, q, hA0, hV, hx⟩ := id hW
  have hA : DataW.TrodAll enc Tryd.prog W 0 (fun _ => true) true Tryd.f3.params.toList args.toList ds p := hA0
  rw [Tryd.params3] at hA hval
  obtain ⟨v0, vs0, d0, ds0, p0, q0, hargs, rfl, rfl, h0, r0⟩ := trodAll_cons hA
  obtain ⟨rfl, rfl, rfl⟩ := trodAll_nil r0
  obtain rfl : args = #[v0] := by cases args; simp_all
  obtain ⟨A0, n0, c0, rfl, hm0, hb0⟩ := open_bytes Tryd.underlying22 Tryd.underlying5 (by kernel_rfl) (hval 0 22 v0 rfl rfl) h0
  refine (fnLate_any A0 n0 c0 W hm0 hb0 hT).mono fun e W' ⟨he, hb⟩ => ?_
  exact ⟨_, he, law_post laidOut (by kernel_rfl) rfl rfl Tryd.underlying4 rfl hW hb⟩

set_option maxRecDepth 100000 in
theorem Late_row : Rows.FnLateSaid :=
  OpenClaim.holds_of_wide 3 Tryd.f3 rfl rfl rfl rfl rfl rfl rfl ⟨rfl, rfl, rfl, rfl, rfl⟩ rfl rfl rfl rfl rfl (by kernel_rfl) Tryd.func3 (by kernel_rfl)
    (of_decide_eq_true (by kernel_rfl)) (by unfold Func.isWrapper; first | (rw [if_pos (by decide +kernel)]; kernel_rfl) | (rw [if_neg (by decide +kernel)]; exact ⟨rfl, rfl⟩))
    (fun os started H enc _ => Late_lifted os started H enc)

theorem FnLate_holds : Rows.FnLateCardSaid :=
  Claim7.holds_tied_plain_at .later [] [.data, .data, .data] true _ false
    Late_row (fun _ h => by cases h) (by kernel_rfl) (fun _ h => by cases h) fnLate_row_tie rfl ⟨rfl, rfl⟩ (by kernel_rfl) rfl
    (fun f fn hf hfn => by
      obtain rfl : f = 3 := Option.some.inj ((show Tryd.prog.funcNamed "loop.example/g01060/laws.FnLate" = some 3 by kernel_rfl).symm.trans hf) |>.symm
      obtain rfl : fn = Tryd.f3 := (Option.some.inj (Tryd.func3.symm.trans hfn)).symm
      exact ⟨by kernel_rfl, fun j t ht => by
        rw [Tryd.params3] at ht
        have hm : t ∈ [22] := by simpa using Array.mem_of_getElem? ht
        have hall : ([22].all fun u => !Tryd.prog.wantsStandIn u) = true := by kernel_rfl
        exact (show Tryd.prog.wantsStandIn t = false by simpa using List.all_eq_true.1 hall t hm)⟩)
    (by kernel_rfl)
end Go.Proofs.YtnikeelpcokffaaDoor
