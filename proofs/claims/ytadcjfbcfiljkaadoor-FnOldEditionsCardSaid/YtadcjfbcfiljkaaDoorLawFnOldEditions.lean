/- The great law FnOldEditions. No condition. -/
import Derived.Test.YtadcjfbcfiljkaaDoorLawL
import Derived.Test.YtadcjfbcfiljkaaDoorEdTI
import Derived.Test.YtadcjfbcfiljkaaDoorOpen
import Derived.Test.YtadcjfbcfiljkaaDoorOpB
import Derived.Test.YtadcjfbcfiljkaaDoorDrEdO
import Derived.Test.YtadcjfbcfiljkaaDoorLongW
import Derived.Test.YtadcjfbcfiljkaaDoorRestW
import Derived.Test.YtadcjfbcfiljkaaDoorOldW
import Derived.Test.YtadcjfbcfiljkaaDoorAppeared
import Derived.Test.YtadcjfbcfiljkaaDoorPlaceH
import Derived.Test.YtadcjfbcfiljkaaDoorCur
import Derived.Test.YtadcjfbcfiljkaaDoorFamInt
import Derived.Test.YtadcjfbcfiljkaaDoorFamRows
import Derived.Test.YtadcjfbcfiljkaaDoorCards
import Derived.Test.YtadcjfbcfiljkaaDoorTie
import Derived.Test.YtadcjfbcfiljkaaDoorLst
import Derived.SevenTiedAt
import Derived.Lib.SmallJoins
import Derived.Deep.DeepCutAuto
import Derived.Deep.RegionLaw
namespace Go.Proofs.YtadcjfbcfiljkaaDoor
open Go.RowKit
set_option linter.unusedVariables false
set_option linter.unusedSimpArgs false

theorem Pow.at' {B : Nat} {w w1 : World} (h : Pow B w) (hb : Below B w w1) (hB : B ≤ w1.heap.size) : Pow w1.heap.size w1 := fun w' hb' => h w' (hb.trans (hb'.mono hB))
open Go.ChangeShapes Go.WideShapes Go.ChangeAt Go.Joins in
set_option maxHeartbeats 16000000 in
set_option maxRecDepth 100000 in
theorem fnOldEditions_any (A : Option Addr) (n cap : Nat) (w : World) (hm : n ≤ 9223372036854775807) (hA : Bytes w A n) (hT : Pow w.heap.size w) :
    Calls Tryd.prog 3 #[.slice A n cap] w fun e w' => e = .returned (.bool true) ∧ Below w.heap.size w w' := by
  have HPOW := Lib.hid hT
  clear hT
  by_cases hbig : 65536 < (n : Int)
  · go_enter Tryd.func3, Tryd.ntmps3
    go_wp2_with fail
    ((with_reducible refine (rBig_any A n cap w _ Iff.rfl).mono ?_); rintro e w9 ⟨rfl, rfl⟩)
    rw [tb_t hbig]
    go_wp2
    go_ret
    exact ⟨rfl, Below.refl _ _⟩
  · have hn16 : n ≤ 1099511627776 := by omega
    have hB := Below.refl w.heap.size w
    go_enter Tryd.func3, Tryd.ntmps3
    go_wp2_with fail
    ((with_reducible refine (rBig_any A n cap w _ Iff.rfl).mono ?_); rintro e w9 ⟨rfl, rfl⟩)
    rw [tb_f (show ¬ 65536 < (n : Int) by omega)]
    clear hbig hm
    go_wp2_with fail
    ((with_reducible refine (drawLongestCurrent_any A n cap w hA hn16).mono ?_); rintro e w1 ⟨LA, ld, xs, sh, dy, rfl, hcap, hwt, hN, hb1⟩)
    replace hA := hA.ext hb1
    replace hB := ext_trans hB hb1
    have hz1 := hb1.size
    obtain ⟨hc1, hc2⟩ := hcap
    have hI := fun W h => longestCurrent_any LA ld xs sh dy W (by omega) hc1 hc2 h
    have hJ := fun W h => specLongestCurrent_any LA ld xs sh dy W (by omega) hc1 hc2 h
    have hK := fun W h => currentOn_any LA ld xs sh dy W (by omega) hc1 hc2 h
    obtain ⟨lb, hg_lb⟩ : ∃ z, z = seli (CurOk xs sh dy) (longS xs sh dy).1 := ⟨_, rfl⟩
    obtain ⟨lm, hg_lm⟩ : ∃ z, z = seli (CurOk xs sh dy) (longS xs sh dy).2 := ⟨_, rfl⟩
    obtain ⟨lo, hg_lo⟩ : ∃ z, z = tb ((CurOk xs sh dy) ∧ 0 < (longS xs sh dy).1) := ⟨_, rfl⟩
    obtain ⟨cu, hg_cu⟩ : ∃ z, z = seli (CurOk xs sh dy) (curN dy (ofS sh xs)) := ⟨_, rfl⟩
    obtain ⟨co, hg_co⟩ : ∃ z, z = tb (CurOk xs sh dy) := ⟨_, rfl⟩
    simp only [← hg_lb, ← hg_lm, ← hg_lo, ← hg_cu, ← hg_co] at hI hJ hK
    have HI := Lib.hid hI
    have HJ := Lib.hid hJ
    have HK := Lib.hid hK
    have HG_lb := Lib.hid hg_lb
    have HG_lm := Lib.hid hg_lm
    have HG_lo := Lib.hid hg_lo
    have HG_cu := Lib.hid hg_cu
    have HG_co := Lib.hid hg_co
    clear hI hJ hK hg_lb hg_lm hg_lo hg_cu hg_co
    have z0 : (lb != lb) = false := by simp
    have z1 : (lm != lm) = false := by simp
    have z2 : (lo != lo) = false := by simp
    have HLO := Lib.hid (show lo = (co && decide (0 < cu)) from by
      have h1 := HG_lo.out
      have h2 := HG_co.out
      have h3 := HG_cu.out
      by_cases h : (CurOk xs sh dy)
      · rw [tb_t h] at h2
        rw [seli_t h] at h3
        rw [h1, h2, h3]
        by_cases q : 0 < (longS xs sh dy).1
        · rw [tb_t ⟨h, q⟩]
          have := (long_cur h).1 q
          simp [this]
        · rw [tb_f fun e => q e.2]
          have : ¬ 0 < curN dy (ofS sh xs) := fun e => q ((long_cur h).2 e)
          simp [this]
      · rw [tb_f h] at h2
        rw [h1, h2, tb_f fun e => h e.1]
        rfl)
    have HLT := Lib.hid (fun (e : lo = true) (k : Nat) (x : Nest) (hx : xs[k]? = some x) => (show (0 ≤ dy ∧ dy ≤ 4000) ∧ (0 ≤ x.c ∧ x.c ≤ 4000) ∧ (x.a = sh → x.b = 1 → lm ≤ dy - x.c + 1) from by
      have h1 := HG_lo.out
      rw [e] at h1
      obtain ⟨h2, h3⟩ := tb_true h1.symm
      refine ⟨h2.2.2, (h2.1.1 k x hx).1.2.2.2.2.2.1, fun ha hb => ?_⟩
      rw [HG_lm.out, seli_t h2]
      exact long_first h2 h3 hx ha hb))
    go_wp2_with fail
    ((with_reducible refine (HI.out _ hN.nl).mono ?_); rintro e w2 ⟨rfl, hb2⟩)
    replace hA := hA.ext hb2
    replace hN := hN.ext hb2
    replace hB := ext_trans hB hb2
    have hz2 := hb2.size
    go_wp2_with fail
    ((with_reducible refine (HJ.out _ hN.nl).mono ?_); rintro e w3 ⟨rfl, hb3⟩)
    replace hA := hA.ext hb3
    replace hN := hN.ext hb3
    replace hB := ext_trans hB hb3
    have hz3 := hb3.size
    go_wp2_with fail
    ((with_reducible refine (HK.out _ hN.nl).mono ?_); rintro e w4 ⟨rfl, hb4⟩)
    replace hA := hA.ext hb4
    replace hN := hN.ext hb4
    replace hB := ext_trans hB hb4
    have hz4 := hb4.size
    clear HI HJ HK HG_lb HG_lm HG_lo HG_cu HG_co
    go_upto_region 9 with fail
    go_cut [94] (fun v wx => v = .bool false ∧ wx = w4)
    case first =>
      have hlo := HLO.out
      cases co
      · obtain rfl : lo = false := by rw [hlo]; rfl
        clear hlo
        go_wp2
        go_meet
        exact ⟨rfl, rfl⟩
      · by_cases hcu : 0 < cu
        · obtain rfl : lo = true := by rw [hlo]; simp [hcu]
          clear hlo
          go_wp2
          go_meet
          exact ⟨rfl, rfl⟩
        · obtain rfl : lo = false := by rw [hlo]; simp [hcu]
          clear hlo
          go_wp2
          go_meet
          exact ⟨rfl, rfl⟩
    case rest =>
      obtain ⟨rfl, hwx⟩ := hcut
      replace hwx := hwx.symm
      subst hwx
      clear HLO z0 z1 z2
      go_wp2_with fail
      go_loopw [14] (fun iv wr => ∃ k : Nat, k ≤ xs.length ∧ iv = .int .i64 (k : Int) ∧ Below (World.heap w4).size w4 wr) (fun iv _ => xs.length - (intOf iv).toNat)
      case atStart => exact ⟨0, by omega, rfl, Below.refl _ _⟩
      case round =>
        obtain ⟨k, hk, rfl, hbr⟩ := hrel
        obtain ⟨bt, hbt⟩ : ∃ z : Bool, z = (decide (k < xs.length) && lo) := ⟨_, rfl⟩
        have HBT := Lib.hid hbt
        clear hbt
        go_upto_region 12 with fail
        go_cut [101] (fun v wx => v = .bool bt ∧ wx = wr)
        case first =>
          have hbt := HBT.out
          by_cases hlt : k < xs.length
          · have hlt' : (k : Int) < (xs.length : Int) := by omega
            obtain rfl : bt = lo := by rw [hbt]; simp [hlt]
            clear hbt HBT
            go_wp2
            go_meet
            exact ⟨rfl, rfl⟩
          · have hlt' : ¬ (k : Int) < (xs.length : Int) := by omega
            obtain rfl : bt = false := by rw [hbt]; simp [hlt]
            clear hbt HBT
            go_wp2
            go_meet
            exact ⟨rfl, rfl⟩
        case rest =>
          obtain ⟨rfl, hwx⟩ := hcut
          replace hwx := hwx.symm
          subst hwx
          cases bt
          · skip
            obtain ⟨w5, hwz⟩ : ∃ z, z = wr := ⟨_, rfl⟩
            subst hwz
            clear HBT HLT hwt hc1 hc2 hk
            clear hN
            replace hA := hA.ext hbr
            replace hB := ext_trans hB hbr
            have hz5 := hbr.size
            go_wp2_with fail
            ((with_reducible refine (drawRestlessPlace_any A n cap _ hA hn16).mono ?_); rintro e w6 ⟨MA, md, ys, s2, rfl, hcap2, hwt2, hM, hb6⟩)
            replace hA := hA.ext hb6
            replace hB := ext_trans hB hb6
            have hz6 := hb6.size
            obtain ⟨hc3, hc4⟩ := hcap2
            have hI := fun W h => restlessPlace_any MA md ys s2 W (by omega) hc3 hc4 h
            have hJ := fun W h => specRestlessPlace_any MA md ys s2 W (by omega) hc3 hc4 h
            obtain ⟨rp, hg_rp⟩ : ∃ z, z = seli (ReOk ys s2) (restS ys s2).1 := ⟨_, rfl⟩
            obtain ⟨rn, hg_rn⟩ : ∃ z, z = seli (ReOk ys s2) (restS ys s2).2 := ⟨_, rfl⟩
            obtain ⟨ro, hg_ro⟩ : ∃ z, z = tb ((ReOk ys s2) ∧ 0 < (restS ys s2).2) := ⟨_, rfl⟩
            simp only [← hg_rp, ← hg_rn, ← hg_ro] at hI hJ
            have HI := Lib.hid hI
            have HJ := Lib.hid hJ
            have HG_rp := Lib.hid hg_rp
            have HG_rn := Lib.hid hg_rn
            have HG_ro := Lib.hid hg_ro
            clear hI hJ hg_rp hg_rn hg_ro
            have z0 : (rp != rp) = false := by simp
            have z1 : (rn != rn) = false := by simp
            have z2 : (ro != ro) = false := by simp
            go_wp2_with fail
            ((with_reducible refine (HI.out _ hM.nl).mono ?_); rintro e w7 ⟨rfl, hb7⟩)
            replace hA := hA.ext hb7
            replace hM := hM.ext hb7
            replace hB := ext_trans hB hb7
            have hz7 := hb7.size
            go_wp2_with fail
            ((with_reducible refine (HJ.out _ hM.nl).mono ?_); rintro e w8 ⟨rfl, hb8⟩)
            replace hA := hA.ext hb8
            replace hM := hM.ext hb8
            replace hB := ext_trans hB hb8
            have hz8 := hb8.size
            go_upto_if 163 with fail
            go_cut [] (fun wx => Below (World.heap w8).size w8 wx)
            case first =>
              by_cases hRo : (ReOk ys s2) ∧ 0 < (restS ys s2).2
              · skip
                obtain rfl : ro = true := by rw [HG_ro.out, tb_t hRo]
                have hrp : rp = (restS ys s2).1 := by rw [HG_rp.out, seli_t hRo.1]
                have hrn : rn = (restS ys s2).2 := by rw [HG_rn.out, seli_t hRo.1]
                obtain ⟨f1, f2⟩ := rest_hist hRo.1 hRo.2
                rw [← hrp] at f1 f2
                rw [← hrn] at f2
                have hPH := fun W h => placeHistory_any MA md ys s2 rp W (by omega) hc3 hc4 h
                simp only [sel_t f1, tb_t f1] at hPH
                obtain ⟨hl, hhl⟩ : ∃ z, z = hist rp (ofS s2 ys) := ⟨_, rfl⟩
                simp only [← hhl] at hPH f2
                have HPH := Lib.hid hPH
                have z3 : ((hl.length : Int) != rn) = false := by rw [f2]; simp
                clear hPH f1 f2 hhl hrp hrn hRo HI HJ HG_rp HG_rn HG_ro
                go_wp2_with fail
                ((with_reducible refine (HPH.out _ hM.nl).mono ?_); rintro e w9 ⟨B3, e3, rfl, _, hb9⟩)
                replace hA := hA.ext hb9
                replace hM := hM.ext hb9
                replace hB := ext_trans hB hb9
                have hz9 := hb9.size
                go_wp2
                go_meet
                exact hb9
              · obtain rfl : ro = false := by rw [HG_ro.out, tb_f hRo]
                go_wp2
                go_meet
                exact Below.refl _ _
            case rest =>
              obtain ⟨w10, hwz⟩ : ∃ z, z = wc := ⟨_, rfl⟩
              subst hwz
              clear hM HI HJ HG_rp HG_rn HG_ro z0 z1 z2
              replace hA := hA.ext hcut
              replace hB := ext_trans hB hcut
              have hz10 := hcut.size
              go_wp2_with fail
              ((with_reducible refine (drawOldEditions_any A n cap _ hA hn16).mono ?_); rintro e w11 ⟨UA, ud, us, y3, g3, rfl, hcap3, hwt3, hU, hb11⟩)
              replace hA := hA.ext hb11
              replace hB := ext_trans hB hb11
              have hz11 := hb11.size
              obtain ⟨hc5, hc6⟩ := hcap3
              have hI := fun W h => oldEditions_any UA ud us y3 g3 W (by omega) hc5 hc6 h
              have hJ := fun W h => specOldEditions_any UA ud us y3 g3 W (by omega) hc5 hc6 h
              obtain ⟨os, hg_os⟩ : ∃ z, z = sel (OdOk us y3 g3) (oldS us y3 g3) := ⟨_, rfl⟩
              obtain ⟨ok, hg_ok⟩ : ∃ z, z = tb (OdOk us y3 g3) := ⟨_, rfl⟩
              simp only [← hg_os, ← hg_ok] at hI hJ
              have HI := Lib.hid hI
              have HJ := Lib.hid hJ
              have HG_os := Lib.hid hg_os
              have HG_ok := Lib.hid hg_ok
              clear hI hJ hg_os hg_ok
              have hosl : os.length ≤ 1048576 := HG_os.out ▸ Nat.le_trans (sel_len _ _) (Nat.le_trans (oldS_len _ _ _) (Nat.le_trans (wt_len us) (by omega)))
              have z3 : (ok == ok) = true := beq_self_eq_true _
              go_wp2_with fail
              ((with_reducible refine (HI.out _ hU.nl).mono ?_); rintro e w12 ⟨R5, d5, rfl, hR5, hb12⟩)
              replace hA := hA.ext hb12
              replace hU := hU.ext hb12
              replace hB := ext_trans hB hb12
              have hz12 := hb12.size
              go_wp2_with fail
              ((with_reducible refine (HJ.out _ hU.nl).mono ?_); rintro e w13 ⟨R6, d6, rfl, hR6, hb13⟩)
              replace hA := hA.ext hb13
              replace hU := hU.ext hb13
              replace hR5 := hR5.ext hb13
              replace hB := ext_trans hB hb13
              have hz13 := hb13.size
              go_wp2_with fail
              ((with_reducible refine (drawAppearedIn_any A n cap _ hA hn16).mono ?_); rintro e w14 ⟨VA, vd, vs, f4, u4, rfl, hcap4, hwt4, hV, hb14⟩)
              replace hA := hA.ext hb14
              replace hU := hU.ext hb14
              replace hR5 := hR5.ext hb14
              replace hR6 := hR6.ext hb14
              replace hB := ext_trans hB hb14
              have hz14 := hb14.size
              obtain ⟨hc7, hc8⟩ := hcap4
              have hK := fun W h => appearedIn_any VA vd vs f4 u4 W (by omega) hc7 hc8 h
              have hL := fun W h => specAppearedIn_any VA vd vs f4 u4 W (by omega) hc7 hc8 h
              obtain ⟨ws, hg_ws⟩ : ∃ z, z = sel (ApOk vs f4 u4) (appD f4 u4 vs) := ⟨_, rfl⟩
              obtain ⟨ok2, hg_ok2⟩ : ∃ z, z = tb (ApOk vs f4 u4) := ⟨_, rfl⟩
              simp only [← hg_ws, ← hg_ok2] at hK hL
              have HK := Lib.hid hK
              have HL := Lib.hid hL
              have HG_ws := Lib.hid hg_ws
              have HG_ok2 := Lib.hid hg_ok2
              clear hK hL hg_ws hg_ok2
              have hwsl : rwt ws ≤ 1048576 := HG_ws.out ▸ appD_sel f4 u4 vs
              have z4 : (ok2 == ok2) = true := beq_self_eq_true _
              go_wp2_with fail
              ((with_reducible refine (HK.out _ hV.nl).mono ?_); rintro e w15 ⟨R7, d7, rfl, hR7, hb15⟩)
              replace hA := hA.ext hb15
              replace hU := hU.ext hb15
              replace hR5 := hR5.ext hb15
              replace hR6 := hR6.ext hb15
              replace hV := hV.ext hb15
              replace hB := ext_trans hB hb15
              have hz15 := hb15.size
              go_wp2_with fail
              ((with_reducible refine (HL.out _ hV.nl).mono ?_); rintro e w16 ⟨R8, d8, rfl, hR8, hb16⟩)
              replace hA := hA.ext hb16
              replace hU := hU.ext hb16
              replace hR5 := hR5.ext hb16
              replace hR6 := hR6.ext hb16
              replace hV := hV.ext hb16
              replace hR7 := hR7.ext hb16
              replace hB := ext_trans hB hb16
              have hz16 := hb16.size
              go_wp2_with fail
              ((with_reducible refine (drawEditionText_any A n cap _ hA hn16).mono ?_); rintro e w17 ⟨x, EA, ed, rfl, hxl, hX, hb17⟩)
              replace hA := hA.ext hb17
              replace hU := hU.ext hb17
              replace hR5 := hR5.ext hb17
              replace hR6 := hR6.ext hb17
              replace hV := hV.ext hb17
              replace hR7 := hR7.ext hb17
              replace hR8 := hR8.ext hb17
              replace hB := ext_trans hB hb17
              have hz17 := hb17.size
              obtain ⟨U1, hU1, hD1, hs1, hv1, _⟩ := box_world w17 #[Value.int .i64 x.a, Value.int .i64 x.b, Value.int .i64 x.c, Value.slice EA x.l.length ed] 33
              replace hA := hA.ext hD1
              replace hU := hU.ext hD1
              replace hR5 := hR5.ext hD1
              replace hR6 := hR6.ext hD1
              replace hV := hV.ext hD1
              replace hR7 := hR7.ext hD1
              replace hR8 := hR8.ext hD1
              replace hX := hX.ext hD1
              replace hB := ext_trans hB hD1
              have hz18 := hD1.size
              have e_0 : World.cell? U1 ⟨(World.heap w17).size, 0, none⟩ = some (Value.int .i64 x.a) := hv1 0
              have e_1 : World.cell? U1 ⟨(World.heap w17).size, 1, none⟩ = some (Value.int .i64 x.b) := hv1 1
              have e_2 : World.cell? U1 ⟨(World.heap w17).size, 2, none⟩ = some (Value.int .i64 x.c) := hv1 2
              have e_3 : World.cell? U1 ⟨(World.heap w17).size, 3, none⟩ = some (Value.slice EA x.l.length ed) := hv1 3
              have eh := hs1
              clear hv1
              have hM := fun W h hp => editionText_any x EA ed W (by omega) h hp
              have hO := fun W h => specEditionText_any x EA ed W (by omega) h
              obtain ⟨tx, hg_tx⟩ : ∃ z, z = selt (IsEd x) (edX x) := ⟨_, rfl⟩
              obtain ⟨tk, hg_tk⟩ : ∃ z, z = tb (IsEd x) := ⟨_, rfl⟩
              simp only [← hg_tx, ← hg_tk] at hM hO
              have HM := Lib.hid hM
              have HO := Lib.hid hO
              have HG_tx := Lib.hid hg_tx
              have HG_tk := Lib.hid hg_tk
              clear hM hO hg_tx hg_tk
              have z5 : (tk == tk) = true := beq_self_eq_true _
              go_wp2_with fail
              clear hU1
              ((with_reducible refine (HM.out _ hX.fl (HPOW.out.at' hB hB.size)).mono ?_); rintro e w19 ⟨rfl, hb19⟩)
              replace hA := hA.ext hb19
              replace hU := hU.ext hb19
              replace hR5 := hR5.ext hb19
              replace hR6 := hR6.ext hb19
              replace hV := hV.ext hb19
              replace hR7 := hR7.ext hb19
              replace hR8 := hR8.ext hb19
              replace hX := hX.ext hb19
              replace e_0 := (hb19.cell (p := ⟨(World.heap w17).size, 0, none⟩) eh).trans e_0
              replace e_1 := (hb19.cell (p := ⟨(World.heap w17).size, 1, none⟩) eh).trans e_1
              replace e_2 := (hb19.cell (p := ⟨(World.heap w17).size, 2, none⟩) eh).trans e_2
              replace e_3 := (hb19.cell (p := ⟨(World.heap w17).size, 3, none⟩) eh).trans e_3
              replace eh := Nat.lt_of_lt_of_le eh hb19.size
              replace hB := ext_trans hB hb19
              have hz19 := hb19.size
              go_wp2_with fail
              ((with_reducible refine (HO.out _ hX.fl).mono ?_); rintro e w20 ⟨rfl, hb20⟩)
              replace hA := hA.ext hb20
              replace hU := hU.ext hb20
              replace hR5 := hR5.ext hb20
              replace hR6 := hR6.ext hb20
              replace hV := hV.ext hb20
              replace hR7 := hR7.ext hb20
              replace hR8 := hR8.ext hb20
              replace hX := hX.ext hb20
              replace e_0 := (hb20.cell (p := ⟨(World.heap w17).size, 0, none⟩) eh).trans e_0
              replace e_1 := (hb20.cell (p := ⟨(World.heap w17).size, 1, none⟩) eh).trans e_1
              replace e_2 := (hb20.cell (p := ⟨(World.heap w17).size, 2, none⟩) eh).trans e_2
              replace e_3 := (hb20.cell (p := ⟨(World.heap w17).size, 3, none⟩) eh).trans e_3
              replace eh := Nat.lt_of_lt_of_le eh hb20.size
              replace hB := ext_trans hB hb20
              have hz20 := hb20.size
              go_wp2_with fail
              ((with_reducible refine (rInts_same _ _ _ _ os _ (by omega) hR5.fl hR6.fl).mono ?_); rintro e w21 ⟨rfl, hb21⟩)
              replace hA := hA.ext hb21
              replace hU := hU.ext hb21
              replace hR5 := hR5.ext hb21
              replace hR6 := hR6.ext hb21
              replace hV := hV.ext hb21
              replace hR7 := hR7.ext hb21
              replace hR8 := hR8.ext hb21
              replace hX := hX.ext hb21
              replace e_0 := (hb21.cell (p := ⟨(World.heap w17).size, 0, none⟩) eh).trans e_0
              replace e_1 := (hb21.cell (p := ⟨(World.heap w17).size, 1, none⟩) eh).trans e_1
              replace e_2 := (hb21.cell (p := ⟨(World.heap w17).size, 2, none⟩) eh).trans e_2
              replace e_3 := (hb21.cell (p := ⟨(World.heap w17).size, 3, none⟩) eh).trans e_3
              replace eh := Nat.lt_of_lt_of_le eh hb21.size
              replace hB := ext_trans hB hb21
              have hz21 := hb21.size
              go_wp2_with fail
              ((with_reducible refine (rTable_same _ _ _ _ ws _ (by omega) hR7.gl hR8.gl).mono ?_); rintro e w22 ⟨rfl, hb22⟩)
              replace hA := hA.ext hb22
              replace hU := hU.ext hb22
              replace hR5 := hR5.ext hb22
              replace hR6 := hR6.ext hb22
              replace hV := hV.ext hb22
              replace hR7 := hR7.ext hb22
              replace hR8 := hR8.ext hb22
              replace hX := hX.ext hb22
              replace e_0 := (hb22.cell (p := ⟨(World.heap w17).size, 0, none⟩) eh).trans e_0
              replace e_1 := (hb22.cell (p := ⟨(World.heap w17).size, 1, none⟩) eh).trans e_1
              replace e_2 := (hb22.cell (p := ⟨(World.heap w17).size, 2, none⟩) eh).trans e_2
              replace e_3 := (hb22.cell (p := ⟨(World.heap w17).size, 3, none⟩) eh).trans e_3
              replace eh := Nat.lt_of_lt_of_le eh hb22.size
              replace hB := ext_trans hB hb22
              have hz22 := hb22.size
              go_wp2
              go_ret
              exact ⟨rfl, hB⟩
          · have hbt := HBT.out
            have hlt : k < xs.length := by
              rcases Nat.lt_or_ge k xs.length with h | h
              · exact h
              · rw [decide_eq_false (by omega)] at hbt; simp at hbt
            have hlo : lo = true := by
              rw [decide_eq_true hlt] at hbt; simpa using hbt.symm
            obtain ⟨x, b, o, A', d', hx, hBe, hbq, hc, _⟩ := ((hN.nl.ext hbr).at_ (k := k) hlt)
            subst hBe
            obtain ⟨hd, hxc, hle⟩ := HLT.out hlo k x hx
            have c0 := hc.ca
            have c1 := hc.cb
            have c2 := hc.cc
            have hk0 : (0 : Int) ≤ (k : Int) := by omega
            have hk1 : (k : Int) < (xs.length : Int) := by omega
            clear hc hx hbt HBT HLT hlo
            by_cases ha : x.a = sh
            · by_cases hb : x.b = 1
              · have hle2 := hle ha hb
                have hw1 : IntKind.i64.wrap (dy - x.c) = dy - x.c := IntWalk.i64_in _ (by omega)
                have hw2 : IntKind.i64.wrap (dy - x.c + 1) = dy - x.c + 1 := IntWalk.i64_in _ (by omega)
                have hng : ¬ dy - x.c + 1 < lm := by omega
                clear hle hle2
                go_wp2
                go_roundw
                case rel => exact ⟨k + 1, by omega, by go_num, hbr⟩
                case measure => simp [intOf]; omega
              · have hbf : (x.b == 1) = false := by simp [hb]
                clear hle
                go_wp2
                go_roundw
                case rel => exact ⟨k + 1, by omega, by go_num, hbr⟩
                case measure => simp [intOf]; omega
            · have haf : (x.a == sh) = false := by simp [ha]
              clear hle
              go_wp2
              go_roundw
              case rel => exact ⟨k + 1, by omega, by go_num, hbr⟩
              case measure => simp [intOf]; omega
open Go.ChangeShapes Go.WideShapes Go.ChangeAt Go.WideMaps Go.WideElems Go.Joins in
set_option maxRecDepth 100000 in
theorem OldEditions_lifted (os : Os) (started : os.Started) (H : Type) (enc : TypeId × Value → H) :
    ReturnsInHanded {} Tryd.checked os 3 .any (fun w args => (Rows.fnOldEditionsSpec.pre enc Tryd.prog Tryd.f3 [] false w args ∧ laidMetH Tryd.prog laid3 w) ∧ sizedMet enc Tryd.prog Tryd.f3 (OpenSpec.ofChange Rows.fnOldEditionsSpec) false w args)
      (Rows.fnOldEditionsSpec.post enc Tryd.prog Tryd.f3 false true false false) := by
  refine returnsInHanded_of_change_and (C := Tryd.checked) (X := fun w _ => laidMetH Tryd.prog laid3 w) (fun _ _ _ hh h => h.of_heap hh) own started (by kernel_rfl) Tryd.func3
    (ChangeSpec.witness_shaped (enc := enc) (C := Tryd.checked) (os := os) (X := fun w _ => laidMetH Tryd.prog laid3 w) false (World.doorLaid Tryd.prog 400 os) #[.slice none 0 0] 8 rfl (World.shaped_of_RefB (by kernel_rfl) (by kernel_rfl)) (by kernel_rfl) (by kernel_rfl) (by kernel_rfl) (door_met os _)) ?_
  intro W base args ds gs before hval0 hW _ _ hL _
  have hT := pow_of_laid hL
  have hval : ∀ (j : Nat) t v, Tryd.f3.params[j]? = some t → args[j]? = some v → Value.okWide Tryd.prog W .any base t v := hval0
  obtain ⟨p, q, hA0, hV, hx⟩ := id hW
  have hA : DataW.TrodAll enc Tryd.prog W 0 (fun _ => true) true Tryd.f3.params.toList args.toList ds p := hA0
  rw [Tryd.params3] at hA hval
  obtain ⟨v0, vs0, d0, ds0, p0, q0, hargs, rfl, rfl, h0, r0⟩ := trodAll_cons hA
  obtain ⟨rfl, rfl, rfl⟩ := trodAll_nil r0
  obtain rfl : args = #[v0] := by cases args; simp_all
  obtain ⟨A0, n0, c0, rfl, hm0, hb0⟩ := open_bytes Tryd.underlying22 Tryd.underlying5 (by kernel_rfl) (hval 0 22 v0 rfl rfl) h0
  refine (fnOldEditions_any A0 n0 c0 W hm0 hb0 hT).mono fun e W' ⟨he, hb⟩ => ?_
  exact ⟨_, he, law_post laidOut (by kernel_rfl) rfl rfl Tryd.underlying4 rfl hW hb⟩

set_option maxRecDepth 100000 in
theorem OldEditions_row : Rows.FnOldEditionsSaid :=
  OpenClaim.holds_of_wide 3 Tryd.f3 rfl rfl rfl rfl rfl rfl rfl ⟨rfl, rfl, rfl, rfl, rfl⟩ rfl rfl rfl rfl rfl (by kernel_rfl) Tryd.func3 (by kernel_rfl)
    (of_decide_eq_true (by kernel_rfl)) (by unfold Func.isWrapper; first | (rw [if_pos (by decide +kernel)]; kernel_rfl) | (rw [if_neg (by decide +kernel)]; exact ⟨rfl, rfl⟩))
    (fun os started H enc _ => OldEditions_lifted os started H enc)

theorem FnOldEditions_holds : Rows.FnOldEditionsCardSaid :=
  Claim7.holds_tied_plain_at .later [] [.data, .data, .data] true _ false
    OldEditions_row (fun _ h => by cases h) (by kernel_rfl) (fun _ h => by cases h) fnOldEditions_row_tie rfl ⟨rfl, rfl⟩ (by kernel_rfl) rfl
    (fun f fn hf hfn => by
      obtain rfl : f = 3 := Option.some.inj ((show Tryd.prog.funcNamed "loop.example/g01060/laws.FnOldEditions" = some 3 by kernel_rfl).symm.trans hf) |>.symm
      obtain rfl : fn = Tryd.f3 := (Option.some.inj (Tryd.func3.symm.trans hfn)).symm
      exact ⟨by kernel_rfl, fun j t ht => by
        rw [Tryd.params3] at ht
        have hm : t ∈ [22] := by simpa using Array.mem_of_getElem? ht
        have hall : ([22].all fun u => !Tryd.prog.wantsStandIn u) = true := by kernel_rfl
        exact (show Tryd.prog.wantsStandIn t = false by simpa using List.all_eq_true.1 hall t hm)⟩)
    (by kernel_rfl)
end Go.Proofs.YtadcjfbcfiljkaaDoor
