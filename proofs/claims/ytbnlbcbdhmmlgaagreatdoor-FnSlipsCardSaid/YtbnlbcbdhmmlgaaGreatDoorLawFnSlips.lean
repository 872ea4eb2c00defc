/- The great law FnSlips. No condition. -/
import Derived.Test.YtbnlbcbdhmmlgaaGreatDoorLawL
import Derived.Test.YtbnlbcbdhmmlgaaGreatDoorMgJ
import Derived.Test.YtbnlbcbdhmmlgaaGreatDoorOpen
import Derived.Test.YtbnlbcbdhmmlgaaGreatDoorOpB
import Derived.Test.YtbnlbcbdhmmlgaaGreatDoorDrSlq
import Derived.Test.YtbnlbcbdhmmlgaaGreatDoorDrSlp
import Derived.Test.YtbnlbcbdhmmlgaaGreatDoorSlpF
import Derived.Test.YtbnlbcbdhmmlgaaGreatDoorPsI
import Derived.Test.YtbnlbcbdhmmlgaaGreatDoorPsS
import Derived.Test.YtbnlbcbdhmmlgaaGreatDoorForW
import Derived.Test.YtbnlbcbdhmmlgaaGreatDoorWdI
import Derived.Test.YtbnlbcbdhmmlgaaGreatDoorWdS
import Derived.Test.YtbnlbcbdhmmlgaaGreatDoorNewErratum
import Derived.Test.YtbnlbcbdhmmlgaaGreatDoorMgH
import Derived.Test.YtbnlbcbdhmmlgaaGreatDoorMgB
import Derived.Test.YtbnlbcbdhmmlgaaGreatDoorMgC
import Derived.Test.YtbnlbcbdhmmlgaaGreatDoorCards
import Derived.Test.YtbnlbcbdhmmlgaaGreatDoorTie
import Derived.Test.YtbnlbcbdhmmlgaaGreatDoorMgA
import Derived.SevenTiedAt
import Derived.Lib.SmallJoins
import Derived.Deep.DeepCutAuto
import Derived.Deep.RegionLaw
namespace Go.Proofs.YtbnlbcbdhmmlgaaGreatDoor
open Go.RowKit
set_option linter.unusedVariables false
set_option linter.unusedSimpArgs false

theorem Pow.at' {B : Nat} {w w1 : World} (h : Pow B w) (hb : Below B w w1) (hB : B ≤ w1.heap.size) : Pow w1.heap.size w1 := fun w' hb' => h w' (hb.trans (hb'.mono hB))
open Go.ChangeShapes Go.WideShapes Go.ChangeAt Go.Joins in
set_option maxHeartbeats 16000000 in
set_option maxRecDepth 100000 in
theorem fnSlips_any (A : Option Addr) (n cap : Nat) (w : World) (hm : n ≤ 9223372036854775807) (hA : Bytes w A n) (hT : Pow w.heap.size w) :
    Calls Tryz.prog 3 #[.slice A n cap] w fun e w' => e = .returned (.bool true) ∧ Below w.heap.size w w' := by
  have HPOW := Lib.hid hT
  clear hT
  by_cases hbig : 65536 < (n : Int)
  · go_enter Tryz.func3, Tryz.ntmps3
    go_wp2_with fail
    ((with_reducible refine (rBig_any A n cap w _ Iff.rfl).mono ?_); rintro e w9 ⟨rfl, rfl⟩)
    rw [tb_t hbig]
    go_wp2
    go_ret
    exact ⟨rfl, Below.refl _ _⟩
  · have hn16 : n ≤ 1099511627776 := by omega
    have hB := Below.refl w.heap.size w
    go_enter Tryz.func3, Tryz.ntmps3
    go_wp2_with fail
    ((with_reducible refine (rBig_any A n cap w _ Iff.rfl).mono ?_); rintro e w9 ⟨rfl, rfl⟩)
    rw [tb_f (show ¬ 65536 < (n : Int) by omega)]
    clear hbig hm
    go_wp2_with fail
    ((with_reducible refine (drawPutSlip_any A n cap w hA hn16).mono ?_); rintro e w1 ⟨EA, ed, es, HA, hd, hs, nu, id, rfl, hel, hecp, hwt, hE, hH, hb1⟩)
    replace hA := hA.ext hb1
    replace hB := ext_trans hB hb1
    have hz1 := hb1.size
    have hhl : hs.length ≤ 400 := Nat.le_trans (wt_len hs) hwt
    have hI := fun W h k => putSlip_any EA ed es HA hd hs nu id W (by omega) h (by omega) k
    have hJ := fun W h k => specPutSlip_any EA ed es HA hd hs nu id W (by omega) h (by omega) k
    obtain ⟨out, hg_out⟩ : ∃ z, z = sel (PsOk es hs (atH hs nu) (atE es id) id) (psRes hs (atH hs nu) id) := ⟨_, rfl⟩
    obtain ⟨ok, hg_ok⟩ : ∃ z, z = tb (PsOk es hs (atH hs nu) (atE es id) id) := ⟨_, rfl⟩
    simp only [← hg_out, ← hg_ok] at hI hJ
    have HI := Lib.hid hI
    have HJ := Lib.hid hJ
    have HG_out := Lib.hid hg_out
    have HG_ok := Lib.hid hg_ok
    clear hI hJ hg_out hg_ok
    have hol : wt out ≤ 1048576 := HG_out.out ▸ ps_wt es hs (atH hs nu) (atE es id) id
    have z1 : (ok != ok) = false := by simp
    go_wp2_with fail
    ((with_reducible refine (HI.out _ hE.fl hH.nl).mono ?_); rintro e w2 ⟨R1, d1, rfl, hR1, hb2⟩)
    replace hA := hA.ext hb2
    replace hE := hE.ext hb2
    replace hH := hH.ext hb2
    replace hB := ext_trans hB hb2
    have hz2 := hb2.size
    go_wp2_with fail
    ((with_reducible refine (HJ.out _ hE.fl hH.nlc).mono ?_); rintro e w3 ⟨R2, d2, rfl, hR2, hb3⟩)
    replace hA := hA.ext hb3
    replace hE := hE.ext hb3
    replace hH := hH.ext hb3
    replace hR1 := hR1.ext hb3
    replace hB := ext_trans hB hb3
    have hz3 := hb3.size
    go_wp2_with fail
    ((with_reducible refine (rHelds_same _ _ _ _ out _ (by omega) hR1.nl hR2.nl).mono ?_); rintro e w4 ⟨rfl, hb4⟩)
    replace hA := hA.ext hb4
    replace hE := hE.ext hb4
    replace hH := hH.ext hb4
    replace hR1 := hR1.ext hb4
    replace hR2 := hR2.ext hb4
    replace hB := ext_trans hB hb4
    have hz4 := hb4.size
    clear hR2
    go_upto_if 79 with fail
    go_cut [] (fun wx => Below (World.heap w4).size w4 wx)
    case first =>
      by_cases hPO : (PsOk es hs (atH hs nu) (atE es id) id)
      · skip
        obtain rfl : ok = true := by rw [HG_ok.out, tb_t hPO]
        have hout : out = psRes hs (atH hs nu) id := by rw [HG_out.out, sel_t hPO]
        obtain ⟨f1, f2, f3, f4, f5⟩ := slip_facts hPO
        rw [← hout] at f2 f4 f5
        have hCb := fun W h k => copiesFor_any EA ed es HA hd hs id W (by omega) h (by omega) k
        simp only [sel_t f1, tb_t f1] at hCb
        have hCa := fun W h k => copiesFor_any EA ed es R1 d1 out id W (by omega) h hol k
        simp only [sel_t f2, tb_t f2] at hCa
        have hbl := cw_len (needAt es (atE es id) id) hs
        obtain ⟨bs, hbs⟩ : ∃ z, z = cw (needAt es (atE es id) id) hs := ⟨_, rfl⟩
        obtain ⟨cs, hcs⟩ : ∃ z, z = cw (needAt es (atE es id) id) out := ⟨_, rfl⟩
        simp only [← hbs] at hCb f3 f5 hbl
        simp only [← hcs] at hCa f4 f5
        have hwr : IntKind.i64.wrap ((bs.length : Int) - 1) = (cs.length : Int) := by rw [IntWalk.i64_in _ (by omega)]; omega
        have z2 : ((cs.length : Int) != (cs.length : Int)) = false := by simp
        have HCB := Lib.hid hCb
        have HCA := Lib.hid hCa
        have HF3 := Lib.hid f3
        have HF4 := Lib.hid f4
        have hcl : cs.length ≤ 400 := by omega
        clear hCb hCa f1 f2 f3 f4 f5 hbs hcs hout hPO HI HJ HG_out HG_ok z1
        go_wp2_with fail
        ((with_reducible refine (HCB.out _ hE.fl hH.nl).mono ?_); rintro e w5 ⟨B1, e1, rfl, hF1, hb5⟩)
        replace hA := hA.ext hb5
        replace hE := hE.ext hb5
        replace hH := hH.ext hb5
        replace hR1 := hR1.ext hb5
        replace hB := ext_trans hB hb5
        have hz5 := hb5.size
        go_wp2_with fail
        ((with_reducible refine (HCA.out _ hE.fl hR1.nl).mono ?_); rintro e w6 ⟨B2, e2, rfl, hF2, hb6⟩)
        replace hA := hA.ext hb6
        replace hE := hE.ext hb6
        replace hH := hH.ext hb6
        replace hR1 := hR1.ext hb6
        replace hF1 := hF1.ext hb6
        replace hB := ext_trans hB hb6
        have hz6 := hb6.size
        go_wp2_with fail
        ((with_reducible refine (hasI_any B1 e1 bs nu _ (by omega) hF1.fl).mono ?_); rintro e w7 ⟨rfl, hb7⟩)
        replace hA := hA.ext hb7
        replace hE := hE.ext hb7
        replace hH := hH.ext hb7
        replace hR1 := hR1.ext hb7
        replace hF1 := hF1.ext hb7
        replace hF2 := hF2.ext hb7
        replace hB := ext_trans hB hb7
        have hz7 := hb7.size
        rw [tb_t HF3.out]
        go_wp2_with fail
        ((with_reducible refine (hasI_any B2 e2 cs nu _ (by omega) hF2.fl).mono ?_); rintro e w8 ⟨rfl, hb8⟩)
        replace hA := hA.ext hb8
        replace hE := hE.ext hb8
        replace hH := hH.ext hb8
        replace hR1 := hR1.ext hb8
        replace hF1 := hF1.ext hb8
        replace hF2 := hF2.ext hb8
        replace hB := ext_trans hB hb8
        have hz8 := hb8.size
        rw [tb_f HF4.out]
        go_wp2
        go_meet
        exact ext_trans (ext_trans (ext_trans (hb5) hb6) hb7) hb8
      · obtain rfl : ok = false := by rw [HG_ok.out, tb_f hPO]
        go_wp2
        go_meet
        exact Below.refl _ _
    case rest =>
      obtain ⟨w9, hwz⟩ : ∃ z, z = wc := ⟨_, rfl⟩
      subst hwz
      clear hE hH hR1 HI HJ HG_out HG_ok z1 hol hhl
      replace hA := hA.ext hcut
      replace hB := ext_trans hB hcut
      have hz9 := hcut.size
      go_wp2_with fail
      ((with_reducible refine (drawWithdraw_any A n cap _ hA hn16).mono ?_); rintro e w10 ⟨FA, fd, fs, GA, gd, gs, x, rfl, hfl, hfcp, hgw, hF, hG, hb10⟩)
      replace hA := hA.ext hb10
      replace hB := ext_trans hB hb10
      have hz10 := hb10.size
      have hgl : gs.length ≤ 400 := Nat.le_trans (wt_len gs) hgw
      have hI := fun W h k => withdraw_any FA fd fs GA gd gs x W (by omega) h (by omega) k hfcp.1 hfcp.2
      have hJ := fun W h k => specWithdraw_any FA fd fs GA gd gs x W (by omega) h (by omega) k hfcp.1 hfcp.2
      have hK := fun W h k => copiesFor_any FA fd fs GA gd gs x W (by omega) h (by omega) k
      have hL := fun W h k => specCopiesFor_any FA fd fs GA gd gs x W (by omega) h (by omega) k
      obtain ⟨le, hg_le⟩ : ∃ z, z = sel (FoOk fs gs (atE fs x)) (dropAt fs (atE fs x)) := ⟨_, rfl⟩
      obtain ⟨nx, hg_nx⟩ : ∃ z, z = sel (FoOk fs gs (atE fs x)) (gs.map (delH x)) := ⟨_, rfl⟩
      obtain ⟨cs, hg_cs⟩ : ∃ z, z = sel (FoOk fs gs (atE fs x)) (cw (needAt fs (atE fs x) x) gs) := ⟨_, rfl⟩
      obtain ⟨ok, hg_ok⟩ : ∃ z, z = tb (FoOk fs gs (atE fs x)) := ⟨_, rfl⟩
      simp only [← hg_le, ← hg_nx, ← hg_cs, ← hg_ok] at hI hJ hK hL
      have HI := Lib.hid hI
      have HJ := Lib.hid hJ
      have HK := Lib.hid hK
      have HL := Lib.hid hL
      have HG_le := Lib.hid hg_le
      have HG_nx := Lib.hid hg_nx
      have HG_cs := Lib.hid hg_cs
      have HG_ok := Lib.hid hg_ok
      clear hI hJ hK hL hg_le hg_nx hg_cs hg_ok
      have hlel : le.length ≤ 1048576 := HG_le.out ▸ Nat.le_trans (sel_len _ _) (Nat.le_trans (dropAt_len _ _) (by omega))
      have hnxl : wt nx ≤ 1048576 := HG_nx.out ▸ wd_wt (FoOk fs gs (atE fs x)) gs x (by omega)
      have hcsl : cs.length ≤ 1048576 := HG_cs.out ▸ Nat.le_trans (sel_len _ _) (Nat.le_trans (cw_len _ _) (by omega))
      have HNX := Lib.hid (show ∀ y ∈ nx, x ∉ y.l from HG_nx.out ▸ wd_none (FoOk fs gs (atE fs x)) gs x)
      have z1 : (ok != ok) = false := by simp
      have z2 : (ok == ok) = true := beq_self_eq_true _
      go_wp2_with fail
      ((with_reducible refine (HI.out _ hF.fl hG.nl).mono ?_); rintro e w11 ⟨B1, e1, C1, f1, m1, rfl, _, _, hB1, hC1, hb11⟩)
      replace hA := hA.ext hb11
      replace hF := hF.ext hb11
      replace hG := hG.ext hb11
      replace hB := ext_trans hB hb11
      have hz11 := hb11.size
      go_wp2_with fail
      ((with_reducible refine (HJ.out _ hF.fl hG.nl).mono ?_); rintro e w12 ⟨B2, e2, C2, f2, m2, rfl, _, _, hB2, hC2, hb12⟩)
      replace hA := hA.ext hb12
      replace hF := hF.ext hb12
      replace hG := hG.ext hb12
      replace hB1 := hB1.ext hb12
      replace hC1 := hC1.ext hb12
      replace hB := ext_trans hB hb12
      have hz12 := hb12.size
      go_wp2_with fail
      ((with_reducible refine (rErrata_same _ _ _ _ le _ (by omega) hB1.fl hB2.fl).mono ?_); rintro e w13 ⟨rfl, hb13⟩)
      replace hA := hA.ext hb13
      replace hF := hF.ext hb13
      replace hG := hG.ext hb13
      replace hB1 := hB1.ext hb13
      replace hC1 := hC1.ext hb13
      replace hB2 := hB2.ext hb13
      replace hC2 := hC2.ext hb13
      replace hB := ext_trans hB hb13
      have hz13 := hb13.size
      go_wp2_with fail
      ((with_reducible refine (rHelds_same _ _ _ _ nx _ (by omega) hC1.nl hC2.nl).mono ?_); rintro e w14 ⟨rfl, hb14⟩)
      replace hA := hA.ext hb14
      replace hF := hF.ext hb14
      replace hG := hG.ext hb14
      replace hB1 := hB1.ext hb14
      replace hC1 := hC1.ext hb14
      replace hB2 := hB2.ext hb14
      replace hC2 := hC2.ext hb14
      replace hB := ext_trans hB hb14
      have hz14 := hb14.size
      clear hB1 hB2 hC2
      have hnlen : nx.length ≤ 1048576 := Nat.le_trans (wt_len nx) hnxl
      go_wp2_with fail
      go_loopw [24] (fun iv wr => ∃ k : Nat, k ≤ nx.length ∧ iv = .int .i64 (k : Int) ∧ Below (World.heap w14).size w14 wr) (fun iv _ => nx.length - (intOf iv).toNat)
      case atStart => exact ⟨0, by omega, rfl, Below.refl _ _⟩
      case round =>
        obtain ⟨k, hk, rfl, hbr⟩ := hrel
        by_cases hlt : k < nx.length
        · obtain ⟨y, b, o, A', d', hx, hBe, hbq, hc, hfl9⟩ := ((hC1.nl.ext hbr).at_ (k := k) hlt)
          subst hBe
          have c3 := hc.cl
          have hym := List.mem_of_getElem? hx
          have hyl : y.l.length ≤ 1048576 := Nat.le_trans (wt_in hym) hnxl
          have hno := HNX.out y hym
          have HHS := Lib.hid (hasI_any A' d' y.l x wr (by omega) hfl9)
          have HNO := Lib.hid hno
          obtain ⟨yl, hyl2⟩ : ∃ z, z = y.l.length := ⟨_, rfl⟩
          rw [← hyl2] at c3 HHS
          have hk0 : (0 : Int) ≤ (k : Int) := by omega
          have hk1 : (k : Int) < (nx.length : Int) := by omega
          clear hc hx hfl9 hym hno hyl2 hyl
          go_wp2_with fail
          ((with_reducible refine (HHS.out).mono ?_); rintro e w92 ⟨rfl, hb92⟩)
          rw [tb_f HNO.out]
          go_wp2
          go_roundw
          case rel => exact ⟨k + 1, by omega, by go_num, ext_trans hbr hb92⟩
          case measure => simp [intOf]; omega
        · have hkn : k = nx.length := by omega
          subst hkn
          clear hlt hk hnlen
          obtain ⟨w15, hwz⟩ : ∃ z, z = wr := ⟨_, rfl⟩
          subst hwz
          clear hC1
          replace hA := hA.ext hbr
          replace hF := hF.ext hbr
          replace hG := hG.ext hbr
          replace hB := ext_trans hB hbr
          have hz15 := hbr.size
          go_wp2_with fail
          ((with_reducible refine (drawNewErratum_any A n cap _ hA hn16).mono ?_); rintro e w16 ⟨UA, ud, us, s5, f5, u5, d5, rfl, hul, hU, hb16⟩)
          replace hA := hA.ext hb16
          replace hF := hF.ext hb16
          replace hG := hG.ext hb16
          replace hB := ext_trans hB hb16
          have hz16 := hb16.size
          have hM := fun W h => newErratum_any s5 f5 u5 d5 UA ud us W (by omega) h
          have hO := fun W h => newErratum_spec s5 f5 u5 d5 UA ud us W (by omega) h
          obtain ⟨mo, hg_mo⟩ : ∃ z, z = sel (NewOk s5 f5 u5 d5 us) (us ++ [newErr s5 f5 u5 d5 us]) := ⟨_, rfl⟩
          obtain ⟨nn, hg_nn⟩ : ∃ z, z = seli (NewOk s5 f5 u5 d5 us) (newId us) := ⟨_, rfl⟩
          obtain ⟨nk, hg_nk⟩ : ∃ z, z = tb (NewOk s5 f5 u5 d5 us) := ⟨_, rfl⟩
          simp only [← hg_mo, ← hg_nn, ← hg_nk] at hM hO
          have HM := Lib.hid hM
          have HO := Lib.hid hO
          have HG_mo := Lib.hid hg_mo
          have HG_nn := Lib.hid hg_nn
          have HG_nk := Lib.hid hg_nk
          clear hM hO hg_mo hg_nn hg_nk
          have hmol : mo.length ≤ 1048576 := HG_mo.out ▸ Nat.le_trans (sel_len _ _) (by simp; omega)
          have z3 : (nn != nn) = false := by simp
          have z4 : (nk != nk) = false := by simp
          go_wp2_with fail
          ((with_reducible refine (HM.out _ hU.fl).mono ?_); rintro e w17 ⟨R5, c5, rfl, hR5, hb17⟩)
          replace hA := hA.ext hb17
          replace hF := hF.ext hb17
          replace hG := hG.ext hb17
          replace hU := hU.ext hb17
          replace hB := ext_trans hB hb17
          have hz17 := hb17.size
          go_wp2_with fail
          ((with_reducible refine (HO.out _ hU.fl).mono ?_); rintro e w18 ⟨R6, c6, rfl, hR6, hb18⟩)
          replace hA := hA.ext hb18
          replace hF := hF.ext hb18
          replace hG := hG.ext hb18
          replace hU := hU.ext hb18
          replace hR5 := hR5.ext hb18
          replace hB := ext_trans hB hb18
          have hz18 := hb18.size
          go_wp2_with fail
          ((with_reducible refine (rErrata_same _ _ _ _ mo _ (by omega) hR5.fl hR6.fl).mono ?_); rintro e w19 ⟨rfl, hb19⟩)
          replace hA := hA.ext hb19
          replace hF := hF.ext hb19
          replace hG := hG.ext hb19
          replace hU := hU.ext hb19
          replace hR5 := hR5.ext hb19
          replace hR6 := hR6.ext hb19
          replace hB := ext_trans hB hb19
          have hz19 := hb19.size
          clear hR6
          go_wp2_with fail
          ((with_reducible refine (drawErratumText_any A n cap _ hA hn16).mono ?_); rintro e w20 ⟨y, rfl, hb20⟩)
          replace hA := hA.ext hb20
          replace hF := hF.ext hb20
          replace hG := hG.ext hb20
          replace hU := hU.ext hb20
          replace hR5 := hR5.ext hb20
          replace hB := ext_trans hB hb20
          have hz20 := hb20.size
          obtain ⟨U1, hU1, hD1, hs1, hv1, _⟩ := box_world w20 #[Value.int .i64 y.id, Value.int .i64 y.sheet, Value.int .i64 y.frm, Value.int .i64 y.til, Value.int .i64 y.day] 47
          replace hA := hA.ext hD1
          replace hF := hF.ext hD1
          replace hG := hG.ext hD1
          replace hU := hU.ext hD1
          replace hR5 := hR5.ext hD1
          replace hB := ext_trans hB hD1
          have hz21 := hD1.size
          have e_0 : World.cell? U1 ⟨(World.heap w20).size, 0, none⟩ = some (Value.int .i64 y.id) := hv1 0
          have e_1 : World.cell? U1 ⟨(World.heap w20).size, 1, none⟩ = some (Value.int .i64 y.sheet) := hv1 1
          have e_2 : World.cell? U1 ⟨(World.heap w20).size, 2, none⟩ = some (Value.int .i64 y.frm) := hv1 2
          have e_3 : World.cell? U1 ⟨(World.heap w20).size, 3, none⟩ = some (Value.int .i64 y.til) := hv1 3
          have e_4 : World.cell? U1 ⟨(World.heap w20).size, 4, none⟩ = some (Value.int .i64 y.day) := hv1 4
          have eh := hs1
          clear hv1
          have hS := fun W hp => erratumText_any y W hp
          have hT := fun W => specErratumText_any y W
          obtain ⟨tx, hg_tx⟩ : ∃ z, z = selt (IsErr y) (errT y) := ⟨_, rfl⟩
          obtain ⟨tk, hg_tk⟩ : ∃ z, z = tb (IsErr y) := ⟨_, rfl⟩
          simp only [← hg_tx, ← hg_tk] at hS hT
          have HS := Lib.hid hS
          have HT := Lib.hid hT
          have HG_tx := Lib.hid hg_tx
          have HG_tk := Lib.hid hg_tk
          clear hS hT hg_tx hg_tk
          have z5 : (tk == tk) = true := beq_self_eq_true _
          go_wp2_with fail
          clear hU1
          ((with_reducible refine (HS.out _ (HPOW.out.at' hB hB.size)).mono ?_); rintro e w22 ⟨rfl, hb22⟩)
          replace hA := hA.ext hb22
          replace hF := hF.ext hb22
          replace hG := hG.ext hb22
          replace hU := hU.ext hb22
          replace hR5 := hR5.ext hb22
          replace e_0 := (hb22.cell (p := ⟨(World.heap w20).size, 0, none⟩) eh).trans e_0
          replace e_1 := (hb22.cell (p := ⟨(World.heap w20).size, 1, none⟩) eh).trans e_1
          replace e_2 := (hb22.cell (p := ⟨(World.heap w20).size, 2, none⟩) eh).trans e_2
          replace e_3 := (hb22.cell (p := ⟨(World.heap w20).size, 3, none⟩) eh).trans e_3
          replace e_4 := (hb22.cell (p := ⟨(World.heap w20).size, 4, none⟩) eh).trans e_4
          replace eh := Nat.lt_of_lt_of_le eh hb22.size
          replace hB := ext_trans hB hb22
          have hz22 := hb22.size
          go_wp2_with fail
          ((with_reducible refine (HT.out _).mono ?_); rintro e w23 ⟨rfl, hb23⟩)
          replace hA := hA.ext hb23
          replace hF := hF.ext hb23
          replace hG := hG.ext hb23
          replace hU := hU.ext hb23
          replace hR5 := hR5.ext hb23
          replace e_0 := (hb23.cell (p := ⟨(World.heap w20).size, 0, none⟩) eh).trans e_0
          replace e_1 := (hb23.cell (p := ⟨(World.heap w20).size, 1, none⟩) eh).trans e_1
          replace e_2 := (hb23.cell (p := ⟨(World.heap w20).size, 2, none⟩) eh).trans e_2
          replace e_3 := (hb23.cell (p := ⟨(World.heap w20).size, 3, none⟩) eh).trans e_3
          replace e_4 := (hb23.cell (p := ⟨(World.heap w20).size, 4, none⟩) eh).trans e_4
          replace eh := Nat.lt_of_lt_of_le eh hb23.size
          replace hB := ext_trans hB hb23
          have hz23 := hb23.size
          go_wp2_with fail
          ((with_reducible refine (HK.out _ hF.fl hG.nl).mono ?_); rintro e w24 ⟨B7, e7, rfl, hB7, hb24⟩)
          replace hA := hA.ext hb24
          replace hF := hF.ext hb24
          replace hG := hG.ext hb24
          replace hU := hU.ext hb24
          replace hR5 := hR5.ext hb24
          replace e_0 := (hb24.cell (p := ⟨(World.heap w20).size, 0, none⟩) eh).trans e_0
          replace e_1 := (hb24.cell (p := ⟨(World.heap w20).size, 1, none⟩) eh).trans e_1
          replace e_2 := (hb24.cell (p := ⟨(World.heap w20).size, 2, none⟩) eh).trans e_2
          replace e_3 := (hb24.cell (p := ⟨(World.heap w20).size, 3, none⟩) eh).trans e_3
          replace e_4 := (hb24.cell (p := ⟨(World.heap w20).size, 4, none⟩) eh).trans e_4
          replace eh := Nat.lt_of_lt_of_le eh hb24.size
          replace hB := ext_trans hB hb24
          have hz24 := hb24.size
          go_wp2_with fail
          ((with_reducible refine (HL.out _ hF.fl hG.nl).mono ?_); rintro e w25 ⟨B8, e8, rfl, hB8, hb25⟩)
          replace hA := hA.ext hb25
          replace hF := hF.ext hb25
          replace hG := hG.ext hb25
          replace hU := hU.ext hb25
          replace hR5 := hR5.ext hb25
          replace hB7 := hB7.ext hb25
          replace e_0 := (hb25.cell (p := ⟨(World.heap w20).size, 0, none⟩) eh).trans e_0
          replace e_1 := (hb25.cell (p := ⟨(World.heap w20).size, 1, none⟩) eh).trans e_1
          replace e_2 := (hb25.cell (p := ⟨(World.heap w20).size, 2, none⟩) eh).trans e_2
          replace e_3 := (hb25.cell (p := ⟨(World.heap w20).size, 3, none⟩) eh).trans e_3
          replace e_4 := (hb25.cell (p := ⟨(World.heap w20).size, 4, none⟩) eh).trans e_4
          replace eh := Nat.lt_of_lt_of_le eh hb25.size
          replace hB := ext_trans hB hb25
          have hz25 := hb25.size
          go_wp2_with fail
          ((with_reducible refine (rInts_same _ _ _ _ cs _ (by omega) hB7.fl hB8.fl).mono ?_); rintro e w26 ⟨rfl, hb26⟩)
          replace hA := hA.ext hb26
          replace hF := hF.ext hb26
          replace hG := hG.ext hb26
          replace hU := hU.ext hb26
          replace hR5 := hR5.ext hb26
          replace hB7 := hB7.ext hb26
          replace hB8 := hB8.ext hb26
          replace e_0 := (hb26.cell (p := ⟨(World.heap w20).size, 0, none⟩) eh).trans e_0
          replace e_1 := (hb26.cell (p := ⟨(World.heap w20).size, 1, none⟩) eh).trans e_1
          replace e_2 := (hb26.cell (p := ⟨(World.heap w20).size, 2, none⟩) eh).trans e_2
          replace e_3 := (hb26.cell (p := ⟨(World.heap w20).size, 3, none⟩) eh).trans e_3
          replace e_4 := (hb26.cell (p := ⟨(World.heap w20).size, 4, none⟩) eh).trans e_4
          replace eh := Nat.lt_of_lt_of_le eh hb26.size
          replace hB := ext_trans hB hb26
          have hz26 := hb26.size
          by_cases hNK : (NewOk s5 f5 u5 d5 us)
          · obtain rfl : nk = true := by rw [HG_nk.out, tb_t hNK]
            have hmo : mo = us ++ [newErr s5 f5 u5 d5 us] := by rw [HG_mo.out, sel_t hNK]
            have hEm : Errs mo := by rw [hmo]; exact hNK.2
            have hAE := areErrata_any R5 c5 mo w26 (by omega) hR5.fl
            rw [tb_t hEm] at hAE
            have HAE := Lib.hid hAE
            clear hAE hEm hmo hNK
            go_wp2_with fail
            ((with_reducible refine (HAE.out).mono ?_); rintro e w27 ⟨rfl, hb27⟩)
            replace hA := hA.ext hb27
            replace hF := hF.ext hb27
            replace hG := hG.ext hb27
            replace hU := hU.ext hb27
            replace hR5 := hR5.ext hb27
            replace hB7 := hB7.ext hb27
            replace hB8 := hB8.ext hb27
            replace e_0 := (hb27.cell (p := ⟨(World.heap w20).size, 0, none⟩) eh).trans e_0
            replace e_1 := (hb27.cell (p := ⟨(World.heap w20).size, 1, none⟩) eh).trans e_1
            replace e_2 := (hb27.cell (p := ⟨(World.heap w20).size, 2, none⟩) eh).trans e_2
            replace e_3 := (hb27.cell (p := ⟨(World.heap w20).size, 3, none⟩) eh).trans e_3
            replace e_4 := (hb27.cell (p := ⟨(World.heap w20).size, 4, none⟩) eh).trans e_4
            replace eh := Nat.lt_of_lt_of_le eh hb27.size
            replace hB := ext_trans hB hb27
            have hz27 := hb27.size
            go_wp2
            go_ret
            exact ⟨rfl, hB⟩
          · obtain rfl : nk = false := by rw [HG_nk.out, tb_f hNK]
            go_wp2
            go_ret
            exact ⟨rfl, hB⟩
open Go.ChangeShapes Go.WideShapes Go.ChangeAt Go.WideMaps Go.WideElems Go.Joins in
set_option maxRecDepth 100000 in
theorem Slips_lifted (os : Os) (started : os.Started) (H : Type) (enc : TypeId × Value → H) :
    ReturnsInHanded {} Tryz.checked os 3 .any (fun w args => (Rows.fnSlipsSpec.pre enc Tryz.prog Tryz.f3 [] false w args ∧ laidMetH Tryz.prog laid3 w) ∧ sizedMet enc Tryz.prog Tryz.f3 (OpenSpec.ofChange Rows.fnSlipsSpec) false w args)
      (Rows.fnSlipsSpec.post enc Tryz.prog Tryz.f3 false true false false) := by
  refine returnsInHanded_of_change_and (C := Tryz.checked) (X := fun w _ => laidMetH Tryz.prog laid3 w) (fun _ _ _ hh h => h.of_heap hh) own started (by kernel_rfl) Tryz.func3
    (ChangeSpec.witness_shaped (enc := enc) (C := Tryz.checked) (os := os) (X := fun w _ => laidMetH Tryz.prog laid3 w) false (World.doorLaid Tryz.prog 400 os) #[.slice none 0 0] 8 rfl (World.shaped_of_RefB (by kernel_rfl) (by kernel_rfl)) (by kernel_rfl) (by kernel_rfl) (by kernel_rfl) (door_met os _)) ?_
  intro W base args ds gs before hval0 hW _ _ hL _
  have hT := pow_of_laid hL
  have hval : ∀ (j : Nat) t v, Tryz.f3.params[j]? = some t → args[j]? = some v → Value.okWide Tryz.prog W .any base t v := hval0
  obtain ⟨p, q, hA0, hV, hx⟩ := id hW
  have hA : DataW.TrodAll enc Tryz.prog W 0 (fun _ => true) true Tryz.f3.params.toList args.toList ds p := hA0
  rw [Tryz.params3] at hA hval
  obtain ⟨v0, vs0, d0, ds0, p0, q0, hargs, rfl, rfl, h0, r0⟩ := trodAll_cons hA
  obtain ⟨rfl, rfl, rfl⟩ := trodAll_nil r0
  obtain rfl : args = #[v0] := by cases args; simp_all
  obtain ⟨A0, n0, c0, rfl, hm0, hb0⟩ := open_bytes Tryz.underlying22 Tryz.underlying5 (by kernel_rfl) (hval 0 22 v0 rfl rfl) h0
  refine (fnSlips_any A0 n0 c0 W hm0 hb0 hT).mono fun e W' ⟨he, hb⟩ => ?_
  exact ⟨_, he, law_post laidOut (by kernel_rfl) rfl rfl Tryz.underlying4 rfl hW hb⟩

set_option maxRecDepth 100000 in
theorem Slips_row : Rows.FnSlipsSaid :=
  OpenClaim.holds_of_wide 3 Tryz.f3 rfl rfl rfl rfl rfl rfl rfl ⟨rfl, rfl, rfl, rfl, rfl⟩ rfl rfl rfl rfl rfl (by kernel_rfl) Tryz.func3 (by kernel_rfl)
    (of_decide_eq_true (by kernel_rfl)) (by unfold Func.isWrapper; first | (rw [if_pos (by decide +kernel)]; kernel_rfl) | (rw [if_neg (by decide +kernel)]; exact ⟨rfl, rfl⟩))
    (fun os started H enc _ => Slips_lifted os started H enc)

theorem FnSlips_holds : Rows.FnSlipsCardSaid :=
  Claim7.holds_tied_plain_at .later [] [.data, .data, .data] true _ false
    Slips_row (fun _ h => by cases h) (by kernel_rfl) (fun _ h => by cases h) fnSlips_row_tie rfl ⟨rfl, rfl⟩ (by kernel_rfl) rfl
    (fun f fn hf hfn => by
      obtain rfl : f = 3 := Option.some.inj ((show Tryz.prog.funcNamed "loop.example/g01060/laws.FnSlips" = some 3 by kernel_rfl).symm.trans hf) |>.symm
      obtain rfl : fn = Tryz.f3 := (Option.some.inj (Tryz.func3.symm.trans hfn)).symm
      exact ⟨by kernel_rfl, fun j t ht => by
        rw [Tryz.params3] at ht
        have hm : t ∈ [22] := by simpa using Array.mem_of_getElem? ht
        have hall : ([22].all fun u => !Tryz.prog.wantsStandIn u) = true := by kernel_rfl
        exact (show Tryz.prog.wantsStandIn t = false by simpa using List.all_eq_true.1 hall t hm)⟩)
    (by kernel_rfl)
end Go.Proofs.YtbnlbcbdhmmlgaaGreatDoor
