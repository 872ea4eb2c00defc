/- The great law FnSafe. No condition. -/
import Derived.Test.YtlkojpmhniokfaaLaw
import Derived.Test.YtlkojpmhniokfaaOpen
import Derived.Test.YtlkojpmhniokfaaOpV
import Derived.Test.YtlkojpmhniokfaaSafX
import Derived.Test.YtlkojpmhniokfaaSafeF
import Derived.Test.YtlkojpmhniokfaaSafeI
import Derived.Test.YtlkojpmhniokfaaSafeL
import Derived.Test.YtlkojpmhniokfaaSvLegs
import Derived.Test.YtlkojpmhniokfaaStpW
import Derived.Test.YtlkojpmhniokfaaFamV
import Derived.Test.YtlkojpmhniokfaaLandOk
import Derived.Test.YtlkojpmhniokfaaFltN
import Derived.Test.YtlkojpmhniokfaaLst
import Derived.Lib.SmallJoins
import Derived.Deep.DeepCutAuto
import Derived.Deep.RegionLaw
namespace Go.Proofs.Ytlkojpmhniokfaa
open Go.ChangeShapes Go.WideShapes Go.ChangeAt Go.RowKit Go.Joins
set_option linter.unusedVariables false
set_option linter.unusedSimpArgs false

set_option maxHeartbeats 16000000 in
set_option maxRecDepth 100000 in
theorem fnSafe_any (A : Option Addr) (n cap : Nat) (w : World) (hm : n ≤ 9223372036854775807) (hA : Bytes w A n) :
    Calls Try.prog 3 #[.slice A n cap] w fun e w' => e = .returned (.bool true) ∧ Below w.heap.size w w' := by
  by_cases hbig : 65536 < (n : Int)
  · go_enter Try.func3, Try.ntmps3
    go_wp2_with fail
    ((with_reducible refine (rBig_any A n cap w _ Iff.rfl).mono ?_); rintro e w9 ⟨rfl, rfl⟩)
    rw [tb_t hbig]
    go_wp2
    go_ret
    exact ⟨rfl, Below.refl _ _⟩
  · have hn16 : n ≤ 1099511627776 := by omega
    have hB := Below.refl w.heap.size w
    go_enter Try.func3, Try.ntmps3
    go_wp2_with fail
    ((with_reducible refine (rBig_any A n cap w _ Iff.rfl).mono ?_); rintro e w9 ⟨rfl, rfl⟩)
    rw [tb_f (show ¬ 65536 < (n : Int) by omega)]
    clear hbig hm
    go_wp2_with fail
    ((with_reducible refine (drawFirstFault_any A n cap w hA hn16).mono ?_); rintro e w1 ⟨wi, hg, st, LA, ld, xs, px, py, ab, ao, rd, ls, m, rfl, hxl, hrl, hrc, hX, hR, hb1⟩)
    replace hA := hA.ext hb1
    replace hB := ext_trans hB hb1
    have hz1 := hb1.size
    obtain ⟨U1, hU1, hD1, hs1, hv1, _⟩ := box_world w1 #[Value.int .i64 wi, Value.int .i64 hg, Value.slice LA xs.length ld, Value.int .i64 st] 26
    replace hA := hA.ext hD1
    replace hX := hX.ext hD1
    replace hR := hR.ext hD1
    replace hB := ext_trans hB hD1
    have hz2 := hD1.size
    have x_0 : World.cell? U1 ⟨(World.heap w1).size, 0, none⟩ = some (Value.int .i64 wi) := hv1 0
    have x_1 : World.cell? U1 ⟨(World.heap w1).size, 1, none⟩ = some (Value.int .i64 hg) := hv1 1
    have x_2 : World.cell? U1 ⟨(World.heap w1).size, 2, none⟩ = some (Value.slice LA xs.length ld) := hv1 2
    have x_3 : World.cell? U1 ⟨(World.heap w1).size, 3, none⟩ = some (Value.int .i64 st) := hv1 3
    have xh := hs1
    clear hv1
    have hI := fun W h k => firstFaultI_any wi hg st px py m LA ld xs (some ⟨ab, ao, none⟩) rd ls W (by omega) h (by omega) k hrc.1 hrc.2
    have hJ := fun W h k => specFirstFault_any wi hg st px py m LA ld xs (some ⟨ab, ao, none⟩) rd ls W (by omega) h (by omega) k hrc.1 hrc.2
    have hS := fun W h k => isSafe_any wi hg st px py m LA ld xs (some ⟨ab, ao, none⟩) rd ls W (by omega) h (by omega) k hrc.1 hrc.2
    have hT := fun W h k => specIsSafe_any wi hg st px py m LA ld xs (some ⟨ab, ao, none⟩) rd ls W (by omega) h (by omega) k hrc.1 hrc.2
    have hU := fun W h k => safeLegsC_any wi hg st px py m LA ld xs ab ao rd ls W (by omega) h (by omega) k hrc.1 hrc.2
    have hV := fun W h k => specSafeLegs_any wi hg st px py m LA ld xs ab ao rd ls W (by omega) h (by omega) k hrc.1 hrc.2
    have hK := fun W h => isLand_any wi hg st LA ld xs W (by omega) h
    have hM := fun W h => specIsLand_any wi hg st LA ld xs W (by omega) h
    have hP := fun W h k => steepLegs_any wi hg st LA ld xs (some ⟨ab, ao, none⟩) rd ls W (by omega) h (by omega) k
    have hQ := fun W h k => specSteepLegs_any wi hg st LA ld xs (some ⟨ab, ao, none⟩) rd ls W (by omega) h (by omega) k
    obtain ⟨fv, hg_fv⟩ : ∃ z, z = seli (Asked wi hg st px py xs ls m) (faultL wi hg st m xs ls 0 px py 0).1 := ⟨_, rfl⟩
    obtain ⟨av, hg_av⟩ : ∃ z, z = seli (Asked wi hg st px py xs ls m) (faultP (faultL wi hg st m xs ls 0 px py 0)) := ⟨_, rfl⟩
    obtain ⟨ok, hg_ok⟩ : ∃ z, z = tb (Asked wi hg st px py xs ls m) := ⟨_, rfl⟩
    obtain ⟨sv, hg_sv⟩ : ∃ z, z = tb ((Asked wi hg st px py xs ls m) ∧ (faultL wi hg st m xs ls 0 px py 0).1 = 0) := ⟨_, rfl⟩
    obtain ⟨ys, hg_ys⟩ : ∃ z, z = sel (Asked wi hg st px py xs ls m) (ls.take (faultL wi hg st m xs ls 0 px py 0).2.toNat) := ⟨_, rfl⟩
    obtain ⟨gl, hg_gl⟩ : ∃ z, z = tb (Lnd wi hg st xs) := ⟨_, rfl⟩
    obtain ⟨ps, hg_ps⟩ : ∃ z, z = sel (SlOk wi hg st xs ls) (stpTo st ls ls.length) := ⟨_, rfl⟩
    obtain ⟨o2, hg_o2⟩ : ∃ z, z = tb (SlOk wi hg st xs ls) := ⟨_, rfl⟩
    simp only [← hg_fv, ← hg_av, ← hg_ok, ← hg_sv, ← hg_ys, ← hg_gl, ← hg_ps, ← hg_o2] at hI hJ hS hT hU hV hK hM hP hQ
    have HI := Lib.hid hI
    have HJ := Lib.hid hJ
    have HS := Lib.hid hS
    have HT := Lib.hid hT
    have HU := Lib.hid hU
    have HV := Lib.hid hV
    have HK := Lib.hid hK
    have HM := Lib.hid hM
    have HP := Lib.hid hP
    have HQ := Lib.hid hQ
    have HG_fv := Lib.hid hg_fv
    have HG_av := Lib.hid hg_av
    have HG_ok := Lib.hid hg_ok
    have HG_sv := Lib.hid hg_sv
    have HG_ys := Lib.hid hg_ys
    have HG_gl := Lib.hid hg_gl
    have HG_ps := Lib.hid hg_ps
    have HG_o2 := Lib.hid hg_o2
    clear hI hJ hS hT hU hV hK hM hP hQ hg_fv hg_av hg_ok hg_sv hg_ys hg_gl hg_ps hg_o2
    have hpl : ps.length ≤ 1048576 := HG_ps.out ▸ Nat.le_trans (sel_len _ _) (Nat.le_trans (stpTo_len _ _ _) (by omega))
    have hyl : ys.length ≤ 16 := HG_ys.out ▸ Nat.le_trans (sel_len _ _) (Nat.le_trans (List.length_take_le' _ _) hrl)
    have z0 : (fv != fv) = false := by simp
    have z1 : (av != av) = false := by simp
    have z2 : (gl != gl) = false := by simp
    have z3 : (o2 != o2) = false := by simp
    by_cases hAS : (Asked wi hg st px py xs ls m)
    · by_cases hF0 : (faultL wi hg st m xs ls 0 px py 0).1 = 0
      · skip
        obtain rfl : ok = true := by rw [HG_ok.out, tb_t hAS]
        obtain ⟨j, hj, hjl, hA1, hF1, hone, hfull⟩ := safe_one hAS
        have hys : ys = ls.take j := by rw [HG_ys.out, sel_t hAS, hj]; simp
        have hyj : ys.length = j := by rw [hys, List.length_take]; omega
        have hgood : tb (Asked wi hg st px py xs ys m ∧ (faultL wi hg st m xs ys 0 px py 0).1 = 0) = true := tb_t (by rw [hys]; exact ⟨hA1, hF1⟩)
        have hasked : tb (Asked wi hg st px py xs ys m) = true := tb_t (by rw [hys]; exact hA1)
        have HG1 := Lib.hid hgood
        have HG2 := Lib.hid hasked
        obtain rfl : sv = true := by rw [HG_sv.out]; exact tb_t ⟨hAS, hF0⟩
        obtain rfl : fv = 0 := by rw [HG_fv.out, seli_t hAS, hF0]
        have hjj := hfull hF0
        obtain rfl : ps = [] := by rw [HG_ps.out]; exact safe_flat ⟨hAS, hF0⟩
        have hlt : ¬ ((ys.length : Nat) : Int) < ((ls.length : Nat) : Int) := by omega
        clear hAS hyj hF0 hj hA1 hF1 hone hfull hys hgood hasked
        go_wp2_with fail
        clear hU1
        ((with_reducible refine (HI.out _ hX.fl hR.fl).mono ?_); rintro e w3 ⟨rfl, hb3⟩)
        replace hA := hA.ext hb3
        replace hX := hX.ext hb3
        replace hR := hR.ext hb3
        replace x_0 := (hb3.cell (p := ⟨(World.heap w1).size, 0, none⟩) xh).trans x_0
        replace x_1 := (hb3.cell (p := ⟨(World.heap w1).size, 1, none⟩) xh).trans x_1
        replace x_2 := (hb3.cell (p := ⟨(World.heap w1).size, 2, none⟩) xh).trans x_2
        replace x_3 := (hb3.cell (p := ⟨(World.heap w1).size, 3, none⟩) xh).trans x_3
        replace xh := Nat.lt_of_lt_of_le xh hb3.size
        replace hB := ext_trans hB hb3
        have hz3 := hb3.size
        go_wp2_with fail
        ((with_reducible refine (HJ.out _ hX.fl hR.fl).mono ?_); rintro e w4 ⟨rfl, hb4⟩)
        replace hA := hA.ext hb4
        replace hX := hX.ext hb4
        replace hR := hR.ext hb4
        replace x_0 := (hb4.cell (p := ⟨(World.heap w1).size, 0, none⟩) xh).trans x_0
        replace x_1 := (hb4.cell (p := ⟨(World.heap w1).size, 1, none⟩) xh).trans x_1
        replace x_2 := (hb4.cell (p := ⟨(World.heap w1).size, 2, none⟩) xh).trans x_2
        replace x_3 := (hb4.cell (p := ⟨(World.heap w1).size, 3, none⟩) xh).trans x_3
        replace xh := Nat.lt_of_lt_of_le xh hb4.size
        replace hB := ext_trans hB hb4
        have hz4 := hb4.size
        have hpc := plus_cell w4
        have HK3 := Lib.hid (fun W (hb : Below (World.heap w4).size w4 W) => HK.out W (hX.ext hb).fl)
        have HM3 := Lib.hid (fun W (hb : Below (World.heap w4).size w4 W) => HM.out W (hX.ext hb).fl)
        go_upto_region 6 with fail
        refine wp_region_grow (by kernel_rfl) (by kernel_rfl) ?_
        repeat (go_big_quiet_step ((first | (go_at_call 9; exact quiet_below (HK3.out _ (plus_below _ _))) | (go_at_call 10; exact quiet_below (HM3.out _ (plus_below _ _))))))
        refine wpQuiet_nil ?_
        intro w1 hb1
        obtain ⟨w5, hwz⟩ : ∃ z, z = w1 := ⟨_, rfl⟩
        subst hwz
        replace hA := hA.ext hb1
        replace hX := hX.ext hb1
        replace hR := hR.ext hb1
        replace x_0 := (hb1.cell (p := ⟨(World.heap w1).size, 0, none⟩) xh).trans x_0
        replace x_1 := (hb1.cell (p := ⟨(World.heap w1).size, 1, none⟩) xh).trans x_1
        replace x_2 := (hb1.cell (p := ⟨(World.heap w1).size, 2, none⟩) xh).trans x_2
        replace x_3 := (hb1.cell (p := ⟨(World.heap w1).size, 3, none⟩) xh).trans x_3
        replace xh := Nat.lt_of_lt_of_le xh hb1.size
        replace hB := ext_trans hB hb1
        have hz5 := hb1.size
        clear hpc HK3 HM3
        go_wp2_with fail
        ((with_reducible refine (HS.out _ hX.fl hR.fl).mono ?_); rintro e w6 ⟨rfl, hb6⟩)
        replace hA := hA.ext hb6
        replace hX := hX.ext hb6
        replace hR := hR.ext hb6
        replace x_0 := (hb6.cell (p := ⟨(World.heap w1).size, 0, none⟩) xh).trans x_0
        replace x_1 := (hb6.cell (p := ⟨(World.heap w1).size, 1, none⟩) xh).trans x_1
        replace x_2 := (hb6.cell (p := ⟨(World.heap w1).size, 2, none⟩) xh).trans x_2
        replace x_3 := (hb6.cell (p := ⟨(World.heap w1).size, 3, none⟩) xh).trans x_3
        replace xh := Nat.lt_of_lt_of_le xh hb6.size
        replace hB := ext_trans hB hb6
        have hz6 := hb6.size
        go_wp2_with fail
        ((with_reducible refine (HT.out _ hX.fl hR.fl).mono ?_); rintro e w7 ⟨rfl, hb7⟩)
        replace hA := hA.ext hb7
        replace hX := hX.ext hb7
        replace hR := hR.ext hb7
        replace x_0 := (hb7.cell (p := ⟨(World.heap w1).size, 0, none⟩) xh).trans x_0
        replace x_1 := (hb7.cell (p := ⟨(World.heap w1).size, 1, none⟩) xh).trans x_1
        replace x_2 := (hb7.cell (p := ⟨(World.heap w1).size, 2, none⟩) xh).trans x_2
        replace x_3 := (hb7.cell (p := ⟨(World.heap w1).size, 3, none⟩) xh).trans x_3
        replace xh := Nat.lt_of_lt_of_le xh hb7.size
        replace hB := ext_trans hB hb7
        have hz7 := hb7.size
        go_wp2_with fail
        ((with_reducible refine (HU.out _ hX.fl hR.fl).mono ?_); rintro e w8 ⟨R1, d1, rfl, hcp, hR1, hb8⟩)
        replace hA := hA.ext hb8
        replace hX := hX.ext hb8
        replace hR := hR.ext hb8
        replace x_0 := (hb8.cell (p := ⟨(World.heap w1).size, 0, none⟩) xh).trans x_0
        replace x_1 := (hb8.cell (p := ⟨(World.heap w1).size, 1, none⟩) xh).trans x_1
        replace x_2 := (hb8.cell (p := ⟨(World.heap w1).size, 2, none⟩) xh).trans x_2
        replace x_3 := (hb8.cell (p := ⟨(World.heap w1).size, 3, none⟩) xh).trans x_3
        replace xh := Nat.lt_of_lt_of_le xh hb8.size
        replace hB := ext_trans hB hb8
        have hz8 := hb8.size
        go_wp2_with fail
        ((with_reducible refine (HV.out _ hX.fl hR.fl).mono ?_); rintro e w9 ⟨R2, d2, rfl, hR2, hb9⟩)
        replace hA := hA.ext hb9
        replace hX := hX.ext hb9
        replace hR := hR.ext hb9
        replace hR1 := hR1.ext hb9
        replace x_0 := (hb9.cell (p := ⟨(World.heap w1).size, 0, none⟩) xh).trans x_0
        replace x_1 := (hb9.cell (p := ⟨(World.heap w1).size, 1, none⟩) xh).trans x_1
        replace x_2 := (hb9.cell (p := ⟨(World.heap w1).size, 2, none⟩) xh).trans x_2
        replace x_3 := (hb9.cell (p := ⟨(World.heap w1).size, 3, none⟩) xh).trans x_3
        replace xh := Nat.lt_of_lt_of_le xh hb9.size
        replace hB := ext_trans hB hb9
        have hz9 := hb9.size
        go_wp2_with fail
        ((with_reducible refine (vLegs_same _ _ _ _ ys _ (by omega) hR1.fl hR2.fl).mono ?_); rintro e w10 ⟨rfl, hb10⟩)
        replace hA := hA.ext hb10
        replace hX := hX.ext hb10
        replace hR := hR.ext hb10
        replace hR1 := hR1.ext hb10
        replace hR2 := hR2.ext hb10
        replace x_0 := (hb10.cell (p := ⟨(World.heap w1).size, 0, none⟩) xh).trans x_0
        replace x_1 := (hb10.cell (p := ⟨(World.heap w1).size, 1, none⟩) xh).trans x_1
        replace x_2 := (hb10.cell (p := ⟨(World.heap w1).size, 2, none⟩) xh).trans x_2
        replace x_3 := (hb10.cell (p := ⟨(World.heap w1).size, 3, none⟩) xh).trans x_3
        replace xh := Nat.lt_of_lt_of_le xh hb10.size
        replace hB := ext_trans hB hb10
        have hz10 := hb10.size
        go_wp2_with fail
        ((with_reducible refine ((isSafe_any wi hg st px py m LA ld xs R1 d1 ys _ (by omega) hX.fl (by omega) hR1.fl hcp.1 hcp.2)).mono ?_); rintro e w11 ⟨rfl, hb11⟩)
        replace hA := hA.ext hb11
        replace hX := hX.ext hb11
        replace hR := hR.ext hb11
        replace hR1 := hR1.ext hb11
        replace hR2 := hR2.ext hb11
        replace x_0 := (hb11.cell (p := ⟨(World.heap w1).size, 0, none⟩) xh).trans x_0
        replace x_1 := (hb11.cell (p := ⟨(World.heap w1).size, 1, none⟩) xh).trans x_1
        replace x_2 := (hb11.cell (p := ⟨(World.heap w1).size, 2, none⟩) xh).trans x_2
        replace x_3 := (hb11.cell (p := ⟨(World.heap w1).size, 3, none⟩) xh).trans x_3
        replace xh := Nat.lt_of_lt_of_le xh hb11.size
        replace hB := ext_trans hB hb11
        have hz11 := hb11.size
        rw [HG1.out, HG2.out]
        go_wp2_with fail
        ((with_reducible refine (HP.out _ hX.fl hR.fl).mono ?_); rintro e w12 ⟨R3, d3, rfl, hR3, hb12⟩)
        replace hA := hA.ext hb12
        replace hX := hX.ext hb12
        replace hR := hR.ext hb12
        replace hR1 := hR1.ext hb12
        replace hR2 := hR2.ext hb12
        replace x_0 := (hb12.cell (p := ⟨(World.heap w1).size, 0, none⟩) xh).trans x_0
        replace x_1 := (hb12.cell (p := ⟨(World.heap w1).size, 1, none⟩) xh).trans x_1
        replace x_2 := (hb12.cell (p := ⟨(World.heap w1).size, 2, none⟩) xh).trans x_2
        replace x_3 := (hb12.cell (p := ⟨(World.heap w1).size, 3, none⟩) xh).trans x_3
        replace xh := Nat.lt_of_lt_of_le xh hb12.size
        replace hB := ext_trans hB hb12
        have hz12 := hb12.size
        go_wp2_with fail
        ((with_reducible refine (HQ.out _ hX.fl hR.fl).mono ?_); rintro e w13 ⟨R4, d4, rfl, hR4, hb13⟩)
        replace hA := hA.ext hb13
        replace hX := hX.ext hb13
        replace hR := hR.ext hb13
        replace hR1 := hR1.ext hb13
        replace hR2 := hR2.ext hb13
        replace hR3 := hR3.ext hb13
        replace x_0 := (hb13.cell (p := ⟨(World.heap w1).size, 0, none⟩) xh).trans x_0
        replace x_1 := (hb13.cell (p := ⟨(World.heap w1).size, 1, none⟩) xh).trans x_1
        replace x_2 := (hb13.cell (p := ⟨(World.heap w1).size, 2, none⟩) xh).trans x_2
        replace x_3 := (hb13.cell (p := ⟨(World.heap w1).size, 3, none⟩) xh).trans x_3
        replace xh := Nat.lt_of_lt_of_le xh hb13.size
        replace hB := ext_trans hB hb13
        have hz13 := hb13.size
        have HV9 := Lib.hid (show Calls Try.prog 18 #[.slice R3 0 d3, .slice R4 0 d4] w13 (fun e w' => e = .returned (.bool true) ∧ Below (World.heap w13).size w13 w') from vInts_same R3 R4 d3 d4 [] w13 (by simp) hR3.fl hR4.fl)
        go_wp2_with fail
        ((with_reducible refine (HV9.out).mono ?_); rintro e w14 ⟨rfl, hb14⟩)
        replace hA := hA.ext hb14
        replace hX := hX.ext hb14
        replace hR := hR.ext hb14
        replace hR1 := hR1.ext hb14
        replace hR2 := hR2.ext hb14
        replace hR3 := hR3.ext hb14
        replace hR4 := hR4.ext hb14
        replace x_0 := (hb14.cell (p := ⟨(World.heap w1).size, 0, none⟩) xh).trans x_0
        replace x_1 := (hb14.cell (p := ⟨(World.heap w1).size, 1, none⟩) xh).trans x_1
        replace x_2 := (hb14.cell (p := ⟨(World.heap w1).size, 2, none⟩) xh).trans x_2
        replace x_3 := (hb14.cell (p := ⟨(World.heap w1).size, 3, none⟩) xh).trans x_3
        replace xh := Nat.lt_of_lt_of_le xh hb14.size
        replace hB := ext_trans hB hb14
        have hz14 := hb14.size
        go_wp2_with fail
        ((with_reducible refine (drawFaultName_any A n cap _ hA hn16).mono ?_); rintro e w15 ⟨y, rfl, hb15⟩)
        replace hA := hA.ext hb15
        replace hX := hX.ext hb15
        replace hR := hR.ext hb15
        replace hR1 := hR1.ext hb15
        replace hR2 := hR2.ext hb15
        replace hR3 := hR3.ext hb15
        replace hR4 := hR4.ext hb15
        replace x_0 := (hb15.cell (p := ⟨(World.heap w1).size, 0, none⟩) xh).trans x_0
        replace x_1 := (hb15.cell (p := ⟨(World.heap w1).size, 1, none⟩) xh).trans x_1
        replace x_2 := (hb15.cell (p := ⟨(World.heap w1).size, 2, none⟩) xh).trans x_2
        replace x_3 := (hb15.cell (p := ⟨(World.heap w1).size, 3, none⟩) xh).trans x_3
        replace xh := Nat.lt_of_lt_of_le xh hb15.size
        replace hB := ext_trans hB hb15
        have hz15 := hb15.size
        go_wp2_with fail
        ((with_reducible refine (faultName_any y _).mono ?_); rintro e w16 ⟨rfl, hb16⟩)
        replace hA := hA.ext hb16
        replace hX := hX.ext hb16
        replace hR := hR.ext hb16
        replace hR1 := hR1.ext hb16
        replace hR2 := hR2.ext hb16
        replace hR3 := hR3.ext hb16
        replace hR4 := hR4.ext hb16
        replace x_0 := (hb16.cell (p := ⟨(World.heap w1).size, 0, none⟩) xh).trans x_0
        replace x_1 := (hb16.cell (p := ⟨(World.heap w1).size, 1, none⟩) xh).trans x_1
        replace x_2 := (hb16.cell (p := ⟨(World.heap w1).size, 2, none⟩) xh).trans x_2
        replace x_3 := (hb16.cell (p := ⟨(World.heap w1).size, 3, none⟩) xh).trans x_3
        replace xh := Nat.lt_of_lt_of_le xh hb16.size
        replace hB := ext_trans hB hb16
        have hz16 := hb16.size
        go_wp2_with fail
        ((with_reducible refine (specFaultName_any y _).mono ?_); rintro e w17 ⟨rfl, hb17⟩)
        replace hA := hA.ext hb17
        replace hX := hX.ext hb17
        replace hR := hR.ext hb17
        replace hR1 := hR1.ext hb17
        replace hR2 := hR2.ext hb17
        replace hR3 := hR3.ext hb17
        replace hR4 := hR4.ext hb17
        replace x_0 := (hb17.cell (p := ⟨(World.heap w1).size, 0, none⟩) xh).trans x_0
        replace x_1 := (hb17.cell (p := ⟨(World.heap w1).size, 1, none⟩) xh).trans x_1
        replace x_2 := (hb17.cell (p := ⟨(World.heap w1).size, 2, none⟩) xh).trans x_2
        replace x_3 := (hb17.cell (p := ⟨(World.heap w1).size, 3, none⟩) xh).trans x_3
        replace xh := Nat.lt_of_lt_of_le xh hb17.size
        replace hB := ext_trans hB hb17
        have hz17 := hb17.size
        have z9 : (tb (0 ≤ y ∧ y ≤ 4) == tb (0 ≤ y ∧ y ≤ 4)) = true := beq_self_eq_true _
        go_wp2
        go_ret
        exact ⟨rfl, hB⟩
      · skip
        obtain rfl : ok = true := by rw [HG_ok.out, tb_t hAS]
        obtain ⟨j, hj, hjl, hA1, hF1, hone, hfull⟩ := safe_one hAS
        have hys : ys = ls.take j := by rw [HG_ys.out, sel_t hAS, hj]; simp
        have hyj : ys.length = j := by rw [hys, List.length_take]; omega
        have hgood : tb (Asked wi hg st px py xs ys m ∧ (faultL wi hg st m xs ys 0 px py 0).1 = 0) = true := tb_t (by rw [hys]; exact ⟨hA1, hF1⟩)
        have hasked : tb (Asked wi hg st px py xs ys m) = true := tb_t (by rw [hys]; exact hA1)
        have HG1 := Lib.hid hgood
        have HG2 := Lib.hid hasked
        obtain rfl : sv = false := by rw [HG_sv.out]; exact tb_f fun h => hF0 h.2
        have hfv : fv ≠ 0 := by rw [HG_fv.out, seli_t hAS]; exact hF0
        have hjj : j < ls.length := Nat.lt_of_le_of_ne hjl fun h => hF0 (by rw [h, List.take_length] at hF1; exact hF1)
        obtain ⟨hP1, hA2, hF2⟩ := hone hjj
        obtain rfl : av = (ys.length : Int) := by rw [HG_av.out, seli_t hAS, hP1, hyj]
        obtain ⟨zs, hzs⟩ : ∃ z, z = ls.take (j + 1) := ⟨_, rfl⟩
        have hzl : zs.length = ys.length + 1 := by rw [hzs, List.length_take]; omega
        have hbad : tb (Asked wi hg st px py xs zs m ∧ (faultL wi hg st m xs zs 0 px py 0).1 = 0) = false := tb_f (by rw [hzs]; exact fun h => hF2 h.2)
        have hask2 : tb (Asked wi hg st px py xs zs m) = true := tb_t (by rw [hzs]; exact hA2)
        have HB1 := Lib.hid hbad
        have HB2 := Lib.hid hask2
        have HZ := Lib.hid hzs
        have HZL := Lib.hid hzl
        have hlt : ((ys.length : Nat) : Int) < ((ls.length : Nat) : Int) := by omega
        have hwr : IntKind.i64.wrap (((ys.length : Nat) : Int) + 1) = ((ys.length : Nat) : Int) + 1 := IntWalk.i64_in _ (by omega)
        clear hAS hyj hF0 hj hA1 hF1 hone hfull hys hgood hasked hzl hP1 hA2 hF2 hzs hbad hask2
        go_wp2_with fail
        clear hU1
        ((with_reducible refine (HI.out _ hX.fl hR.fl).mono ?_); rintro e w18 ⟨rfl, hb18⟩)
        replace hA := hA.ext hb18
        replace hX := hX.ext hb18
        replace hR := hR.ext hb18
        replace x_0 := (hb18.cell (p := ⟨(World.heap w1).size, 0, none⟩) xh).trans x_0
        replace x_1 := (hb18.cell (p := ⟨(World.heap w1).size, 1, none⟩) xh).trans x_1
        replace x_2 := (hb18.cell (p := ⟨(World.heap w1).size, 2, none⟩) xh).trans x_2
        replace x_3 := (hb18.cell (p := ⟨(World.heap w1).size, 3, none⟩) xh).trans x_3
        replace xh := Nat.lt_of_lt_of_le xh hb18.size
        replace hB := ext_trans hB hb18
        have hz18 := hb18.size
        go_wp2_with fail
        ((with_reducible refine (HJ.out _ hX.fl hR.fl).mono ?_); rintro e w19 ⟨rfl, hb19⟩)
        replace hA := hA.ext hb19
        replace hX := hX.ext hb19
        replace hR := hR.ext hb19
        replace x_0 := (hb19.cell (p := ⟨(World.heap w1).size, 0, none⟩) xh).trans x_0
        replace x_1 := (hb19.cell (p := ⟨(World.heap w1).size, 1, none⟩) xh).trans x_1
        replace x_2 := (hb19.cell (p := ⟨(World.heap w1).size, 2, none⟩) xh).trans x_2
        replace x_3 := (hb19.cell (p := ⟨(World.heap w1).size, 3, none⟩) xh).trans x_3
        replace xh := Nat.lt_of_lt_of_le xh hb19.size
        replace hB := ext_trans hB hb19
        have hz19 := hb19.size
        have hpc := plus_cell w19
        have HK3 := Lib.hid (fun W (hb : Below (World.heap w19).size w19 W) => HK.out W (hX.ext hb).fl)
        have HM3 := Lib.hid (fun W (hb : Below (World.heap w19).size w19 W) => HM.out W (hX.ext hb).fl)
        go_upto_region 6 with fail
        refine wp_region_grow (by kernel_rfl) (by kernel_rfl) ?_
        repeat (go_big_quiet_step ((first | (go_at_call 9; exact quiet_below (HK3.out _ (plus_below _ _))) | (go_at_call 10; exact quiet_below (HM3.out _ (plus_below _ _))))))
        refine wpQuiet_nil ?_
        intro w1 hb1
        obtain ⟨w20, hwz⟩ : ∃ z, z = w1 := ⟨_, rfl⟩
        subst hwz
        replace hA := hA.ext hb1
        replace hX := hX.ext hb1
        replace hR := hR.ext hb1
        replace x_0 := (hb1.cell (p := ⟨(World.heap w1).size, 0, none⟩) xh).trans x_0
        replace x_1 := (hb1.cell (p := ⟨(World.heap w1).size, 1, none⟩) xh).trans x_1
        replace x_2 := (hb1.cell (p := ⟨(World.heap w1).size, 2, none⟩) xh).trans x_2
        replace x_3 := (hb1.cell (p := ⟨(World.heap w1).size, 3, none⟩) xh).trans x_3
        replace xh := Nat.lt_of_lt_of_le xh hb1.size
        replace hB := ext_trans hB hb1
        have hz20 := hb1.size
        clear hpc HK3 HM3
        go_wp2_with fail
        ((with_reducible refine (HS.out _ hX.fl hR.fl).mono ?_); rintro e w21 ⟨rfl, hb21⟩)
        replace hA := hA.ext hb21
        replace hX := hX.ext hb21
        replace hR := hR.ext hb21
        replace x_0 := (hb21.cell (p := ⟨(World.heap w1).size, 0, none⟩) xh).trans x_0
        replace x_1 := (hb21.cell (p := ⟨(World.heap w1).size, 1, none⟩) xh).trans x_1
        replace x_2 := (hb21.cell (p := ⟨(World.heap w1).size, 2, none⟩) xh).trans x_2
        replace x_3 := (hb21.cell (p := ⟨(World.heap w1).size, 3, none⟩) xh).trans x_3
        replace xh := Nat.lt_of_lt_of_le xh hb21.size
        replace hB := ext_trans hB hb21
        have hz21 := hb21.size
        go_wp2_with fail
        ((with_reducible refine (HT.out _ hX.fl hR.fl).mono ?_); rintro e w22 ⟨rfl, hb22⟩)
        replace hA := hA.ext hb22
        replace hX := hX.ext hb22
        replace hR := hR.ext hb22
        replace x_0 := (hb22.cell (p := ⟨(World.heap w1).size, 0, none⟩) xh).trans x_0
        replace x_1 := (hb22.cell (p := ⟨(World.heap w1).size, 1, none⟩) xh).trans x_1
        replace x_2 := (hb22.cell (p := ⟨(World.heap w1).size, 2, none⟩) xh).trans x_2
        replace x_3 := (hb22.cell (p := ⟨(World.heap w1).size, 3, none⟩) xh).trans x_3
        replace xh := Nat.lt_of_lt_of_le xh hb22.size
        replace hB := ext_trans hB hb22
        have hz22 := hb22.size
        go_wp2_with fail
        ((with_reducible refine (HU.out _ hX.fl hR.fl).mono ?_); rintro e w23 ⟨R1, d1, rfl, hcp, hR1, hb23⟩)
        replace hA := hA.ext hb23
        replace hX := hX.ext hb23
        replace hR := hR.ext hb23
        replace x_0 := (hb23.cell (p := ⟨(World.heap w1).size, 0, none⟩) xh).trans x_0
        replace x_1 := (hb23.cell (p := ⟨(World.heap w1).size, 1, none⟩) xh).trans x_1
        replace x_2 := (hb23.cell (p := ⟨(World.heap w1).size, 2, none⟩) xh).trans x_2
        replace x_3 := (hb23.cell (p := ⟨(World.heap w1).size, 3, none⟩) xh).trans x_3
        replace xh := Nat.lt_of_lt_of_le xh hb23.size
        replace hB := ext_trans hB hb23
        have hz23 := hb23.size
        go_wp2_with fail
        ((with_reducible refine (HV.out _ hX.fl hR.fl).mono ?_); rintro e w24 ⟨R2, d2, rfl, hR2, hb24⟩)
        replace hA := hA.ext hb24
        replace hX := hX.ext hb24
        replace hR := hR.ext hb24
        replace hR1 := hR1.ext hb24
        replace x_0 := (hb24.cell (p := ⟨(World.heap w1).size, 0, none⟩) xh).trans x_0
        replace x_1 := (hb24.cell (p := ⟨(World.heap w1).size, 1, none⟩) xh).trans x_1
        replace x_2 := (hb24.cell (p := ⟨(World.heap w1).size, 2, none⟩) xh).trans x_2
        replace x_3 := (hb24.cell (p := ⟨(World.heap w1).size, 3, none⟩) xh).trans x_3
        replace xh := Nat.lt_of_lt_of_le xh hb24.size
        replace hB := ext_trans hB hb24
        have hz24 := hb24.size
        go_wp2_with fail
        ((with_reducible refine (vLegs_same _ _ _ _ ys _ (by omega) hR1.fl hR2.fl).mono ?_); rintro e w25 ⟨rfl, hb25⟩)
        replace hA := hA.ext hb25
        replace hX := hX.ext hb25
        replace hR := hR.ext hb25
        replace hR1 := hR1.ext hb25
        replace hR2 := hR2.ext hb25
        replace x_0 := (hb25.cell (p := ⟨(World.heap w1).size, 0, none⟩) xh).trans x_0
        replace x_1 := (hb25.cell (p := ⟨(World.heap w1).size, 1, none⟩) xh).trans x_1
        replace x_2 := (hb25.cell (p := ⟨(World.heap w1).size, 2, none⟩) xh).trans x_2
        replace x_3 := (hb25.cell (p := ⟨(World.heap w1).size, 3, none⟩) xh).trans x_3
        replace xh := Nat.lt_of_lt_of_le xh hb25.size
        replace hB := ext_trans hB hb25
        have hz25 := hb25.size
        go_wp2_with fail
        ((with_reducible refine ((isSafe_any wi hg st px py m LA ld xs R1 d1 ys _ (by omega) hX.fl (by omega) hR1.fl hcp.1 hcp.2)).mono ?_); rintro e w26 ⟨rfl, hb26⟩)
        replace hA := hA.ext hb26
        replace hX := hX.ext hb26
        replace hR := hR.ext hb26
        replace hR1 := hR1.ext hb26
        replace hR2 := hR2.ext hb26
        replace x_0 := (hb26.cell (p := ⟨(World.heap w1).size, 0, none⟩) xh).trans x_0
        replace x_1 := (hb26.cell (p := ⟨(World.heap w1).size, 1, none⟩) xh).trans x_1
        replace x_2 := (hb26.cell (p := ⟨(World.heap w1).size, 2, none⟩) xh).trans x_2
        replace x_3 := (hb26.cell (p := ⟨(World.heap w1).size, 3, none⟩) xh).trans x_3
        replace xh := Nat.lt_of_lt_of_le xh hb26.size
        replace hB := ext_trans hB hb26
        have hz26 := hb26.size
        rw [HG1.out, HG2.out]
        have hpc := plus_cell w26
        have HS3 := Lib.hid (fun W (hb : Below (World.heap w26).size w26 W) => (HZL.out ▸ isSafe_any wi hg st px py m LA ld xs (some ⟨ab, ao, none⟩) rd zs W (by omega) (hX.ext hb).fl (by have := HZL.out; omega) (HZ.out ▸ (hR.ext hb).fl.takeC _) (by have := HZL.out; omega) hrc.2 : Calls Try.prog 11 #[.agg #[.int .i64 wi, .int .i64 hg, .slice LA xs.length ld, .int .i64 st], .int .i64 px, .int .i64 py, .slice (some ⟨ab, ao, none⟩) (ys.length + 1) rd, .int .i64 m] W (fun r w' => r = .returned (.tuple #[.bool (tb (Asked wi hg st px py xs zs m ∧ (faultL wi hg st m xs zs 0 px py 0).1 = 0)), .bool (tb (Asked wi hg st px py xs zs m))]) ∧ Below W.heap.size W w')))
        have HS4 := HS3.out
        rw [HB1.out, HB2.out] at HS4
        have HS5 := Lib.hid HS4
        clear HS3 HS4
        go_upto_region 21 with fail
        refine wp_region_grow (by kernel_rfl) (by kernel_rfl) ?_
        repeat (go_big_quiet_step ((first | (go_at_call 11; exact quiet_below (HS5.out _ (plus_below _ _))))))
        refine wpQuiet_nil ?_
        intro w1 hb1
        obtain ⟨w27, hwz⟩ : ∃ z, z = w1 := ⟨_, rfl⟩
        subst hwz
        replace hA := hA.ext hb1
        replace hX := hX.ext hb1
        replace hR := hR.ext hb1
        replace hR1 := hR1.ext hb1
        replace hR2 := hR2.ext hb1
        replace x_0 := (hb1.cell (p := ⟨(World.heap w1).size, 0, none⟩) xh).trans x_0
        replace x_1 := (hb1.cell (p := ⟨(World.heap w1).size, 1, none⟩) xh).trans x_1
        replace x_2 := (hb1.cell (p := ⟨(World.heap w1).size, 2, none⟩) xh).trans x_2
        replace x_3 := (hb1.cell (p := ⟨(World.heap w1).size, 3, none⟩) xh).trans x_3
        replace xh := Nat.lt_of_lt_of_le xh hb1.size
        replace hB := ext_trans hB hb1
        have hz27 := hb1.size
        clear hpc HS5
        go_wp2_with fail
        ((with_reducible refine (HP.out _ hX.fl hR.fl).mono ?_); rintro e w28 ⟨R3, d3, rfl, hR3, hb28⟩)
        replace hA := hA.ext hb28
        replace hX := hX.ext hb28
        replace hR := hR.ext hb28
        replace hR1 := hR1.ext hb28
        replace hR2 := hR2.ext hb28
        replace x_0 := (hb28.cell (p := ⟨(World.heap w1).size, 0, none⟩) xh).trans x_0
        replace x_1 := (hb28.cell (p := ⟨(World.heap w1).size, 1, none⟩) xh).trans x_1
        replace x_2 := (hb28.cell (p := ⟨(World.heap w1).size, 2, none⟩) xh).trans x_2
        replace x_3 := (hb28.cell (p := ⟨(World.heap w1).size, 3, none⟩) xh).trans x_3
        replace xh := Nat.lt_of_lt_of_le xh hb28.size
        replace hB := ext_trans hB hb28
        have hz28 := hb28.size
        go_wp2_with fail
        ((with_reducible refine (HQ.out _ hX.fl hR.fl).mono ?_); rintro e w29 ⟨R4, d4, rfl, hR4, hb29⟩)
        replace hA := hA.ext hb29
        replace hX := hX.ext hb29
        replace hR := hR.ext hb29
        replace hR1 := hR1.ext hb29
        replace hR2 := hR2.ext hb29
        replace hR3 := hR3.ext hb29
        replace x_0 := (hb29.cell (p := ⟨(World.heap w1).size, 0, none⟩) xh).trans x_0
        replace x_1 := (hb29.cell (p := ⟨(World.heap w1).size, 1, none⟩) xh).trans x_1
        replace x_2 := (hb29.cell (p := ⟨(World.heap w1).size, 2, none⟩) xh).trans x_2
        replace x_3 := (hb29.cell (p := ⟨(World.heap w1).size, 3, none⟩) xh).trans x_3
        replace xh := Nat.lt_of_lt_of_le xh hb29.size
        replace hB := ext_trans hB hb29
        have hz29 := hb29.size
        go_wp2_with fail
        ((with_reducible refine (vInts_same _ _ _ _ ps _ (by omega) hR3.fl hR4.fl).mono ?_); rintro e w30 ⟨rfl, hb30⟩)
        replace hA := hA.ext hb30
        replace hX := hX.ext hb30
        replace hR := hR.ext hb30
        replace hR1 := hR1.ext hb30
        replace hR2 := hR2.ext hb30
        replace hR3 := hR3.ext hb30
        replace hR4 := hR4.ext hb30
        replace x_0 := (hb30.cell (p := ⟨(World.heap w1).size, 0, none⟩) xh).trans x_0
        replace x_1 := (hb30.cell (p := ⟨(World.heap w1).size, 1, none⟩) xh).trans x_1
        replace x_2 := (hb30.cell (p := ⟨(World.heap w1).size, 2, none⟩) xh).trans x_2
        replace x_3 := (hb30.cell (p := ⟨(World.heap w1).size, 3, none⟩) xh).trans x_3
        replace xh := Nat.lt_of_lt_of_le xh hb30.size
        replace hB := ext_trans hB hb30
        have hz30 := hb30.size
        go_wp2_with fail
        ((with_reducible refine (drawFaultName_any A n cap _ hA hn16).mono ?_); rintro e w31 ⟨y, rfl, hb31⟩)
        replace hA := hA.ext hb31
        replace hX := hX.ext hb31
        replace hR := hR.ext hb31
        replace hR1 := hR1.ext hb31
        replace hR2 := hR2.ext hb31
        replace hR3 := hR3.ext hb31
        replace hR4 := hR4.ext hb31
        replace x_0 := (hb31.cell (p := ⟨(World.heap w1).size, 0, none⟩) xh).trans x_0
        replace x_1 := (hb31.cell (p := ⟨(World.heap w1).size, 1, none⟩) xh).trans x_1
        replace x_2 := (hb31.cell (p := ⟨(World.heap w1).size, 2, none⟩) xh).trans x_2
        replace x_3 := (hb31.cell (p := ⟨(World.heap w1).size, 3, none⟩) xh).trans x_3
        replace xh := Nat.lt_of_lt_of_le xh hb31.size
        replace hB := ext_trans hB hb31
        have hz31 := hb31.size
        go_wp2_with fail
        ((with_reducible refine (faultName_any y _).mono ?_); rintro e w32 ⟨rfl, hb32⟩)
        replace hA := hA.ext hb32
        replace hX := hX.ext hb32
        replace hR := hR.ext hb32
        replace hR1 := hR1.ext hb32
        replace hR2 := hR2.ext hb32
        replace hR3 := hR3.ext hb32
        replace hR4 := hR4.ext hb32
        replace x_0 := (hb32.cell (p := ⟨(World.heap w1).size, 0, none⟩) xh).trans x_0
        replace x_1 := (hb32.cell (p := ⟨(World.heap w1).size, 1, none⟩) xh).trans x_1
        replace x_2 := (hb32.cell (p := ⟨(World.heap w1).size, 2, none⟩) xh).trans x_2
        replace x_3 := (hb32.cell (p := ⟨(World.heap w1).size, 3, none⟩) xh).trans x_3
        replace xh := Nat.lt_of_lt_of_le xh hb32.size
        replace hB := ext_trans hB hb32
        have hz32 := hb32.size
        go_wp2_with fail
        ((with_reducible refine (specFaultName_any y _).mono ?_); rintro e w33 ⟨rfl, hb33⟩)
        replace hA := hA.ext hb33
        replace hX := hX.ext hb33
        replace hR := hR.ext hb33
        replace hR1 := hR1.ext hb33
        replace hR2 := hR2.ext hb33
        replace hR3 := hR3.ext hb33
        replace hR4 := hR4.ext hb33
        replace x_0 := (hb33.cell (p := ⟨(World.heap w1).size, 0, none⟩) xh).trans x_0
        replace x_1 := (hb33.cell (p := ⟨(World.heap w1).size, 1, none⟩) xh).trans x_1
        replace x_2 := (hb33.cell (p := ⟨(World.heap w1).size, 2, none⟩) xh).trans x_2
        replace x_3 := (hb33.cell (p := ⟨(World.heap w1).size, 3, none⟩) xh).trans x_3
        replace xh := Nat.lt_of_lt_of_le xh hb33.size
        replace hB := ext_trans hB hb33
        have hz33 := hb33.size
        have z9 : (tb (0 ≤ y ∧ y ≤ 4) == tb (0 ≤ y ∧ y ≤ 4)) = true := beq_self_eq_true _
        go_wp2
        go_ret
        exact ⟨rfl, hB⟩
    · skip
      obtain rfl : ok = false := by rw [HG_ok.out, tb_f hAS]
      obtain rfl : sv = false := by rw [HG_sv.out]; exact tb_f fun h => hAS h.1
      obtain rfl : fv = 0 := by rw [HG_fv.out, seli_f hAS]
      clear hAS
      go_wp2_with fail
      clear hU1
      ((with_reducible refine (HI.out _ hX.fl hR.fl).mono ?_); rintro e w34 ⟨rfl, hb34⟩)
      replace hA := hA.ext hb34
      replace hX := hX.ext hb34
      replace hR := hR.ext hb34
      replace x_0 := (hb34.cell (p := ⟨(World.heap w1).size, 0, none⟩) xh).trans x_0
      replace x_1 := (hb34.cell (p := ⟨(World.heap w1).size, 1, none⟩) xh).trans x_1
      replace x_2 := (hb34.cell (p := ⟨(World.heap w1).size, 2, none⟩) xh).trans x_2
      replace x_3 := (hb34.cell (p := ⟨(World.heap w1).size, 3, none⟩) xh).trans x_3
      replace xh := Nat.lt_of_lt_of_le xh hb34.size
      replace hB := ext_trans hB hb34
      have hz34 := hb34.size
      go_wp2_with fail
      ((with_reducible refine (HJ.out _ hX.fl hR.fl).mono ?_); rintro e w35 ⟨rfl, hb35⟩)
      replace hA := hA.ext hb35
      replace hX := hX.ext hb35
      replace hR := hR.ext hb35
      replace x_0 := (hb35.cell (p := ⟨(World.heap w1).size, 0, none⟩) xh).trans x_0
      replace x_1 := (hb35.cell (p := ⟨(World.heap w1).size, 1, none⟩) xh).trans x_1
      replace x_2 := (hb35.cell (p := ⟨(World.heap w1).size, 2, none⟩) xh).trans x_2
      replace x_3 := (hb35.cell (p := ⟨(World.heap w1).size, 3, none⟩) xh).trans x_3
      replace xh := Nat.lt_of_lt_of_le xh hb35.size
      replace hB := ext_trans hB hb35
      have hz35 := hb35.size
      have hpc := plus_cell w35
      have HK3 := Lib.hid (fun W (hb : Below (World.heap w35).size w35 W) => HK.out W (hX.ext hb).fl)
      have HM3 := Lib.hid (fun W (hb : Below (World.heap w35).size w35 W) => HM.out W (hX.ext hb).fl)
      go_upto_region 6 with fail
      refine wp_region_grow (by kernel_rfl) (by kernel_rfl) ?_
      repeat (go_big_quiet_step ((first | (go_at_call 9; exact quiet_below (HK3.out _ (plus_below _ _))) | (go_at_call 10; exact quiet_below (HM3.out _ (plus_below _ _))))))
      refine wpQuiet_nil ?_
      intro w1 hb1
      obtain ⟨w36, hwz⟩ : ∃ z, z = w1 := ⟨_, rfl⟩
      subst hwz
      replace hA := hA.ext hb1
      replace hX := hX.ext hb1
      replace hR := hR.ext hb1
      replace x_0 := (hb1.cell (p := ⟨(World.heap w1).size, 0, none⟩) xh).trans x_0
      replace x_1 := (hb1.cell (p := ⟨(World.heap w1).size, 1, none⟩) xh).trans x_1
      replace x_2 := (hb1.cell (p := ⟨(World.heap w1).size, 2, none⟩) xh).trans x_2
      replace x_3 := (hb1.cell (p := ⟨(World.heap w1).size, 3, none⟩) xh).trans x_3
      replace xh := Nat.lt_of_lt_of_le xh hb1.size
      replace hB := ext_trans hB hb1
      have hz36 := hb1.size
      clear hpc HK3 HM3
      go_wp2_with fail
      ((with_reducible refine (HS.out _ hX.fl hR.fl).mono ?_); rintro e w37 ⟨rfl, hb37⟩)
      replace hA := hA.ext hb37
      replace hX := hX.ext hb37
      replace hR := hR.ext hb37
      replace x_0 := (hb37.cell (p := ⟨(World.heap w1).size, 0, none⟩) xh).trans x_0
      replace x_1 := (hb37.cell (p := ⟨(World.heap w1).size, 1, none⟩) xh).trans x_1
      replace x_2 := (hb37.cell (p := ⟨(World.heap w1).size, 2, none⟩) xh).trans x_2
      replace x_3 := (hb37.cell (p := ⟨(World.heap w1).size, 3, none⟩) xh).trans x_3
      replace xh := Nat.lt_of_lt_of_le xh hb37.size
      replace hB := ext_trans hB hb37
      have hz37 := hb37.size
      go_wp2_with fail
      ((with_reducible refine (HT.out _ hX.fl hR.fl).mono ?_); rintro e w38 ⟨rfl, hb38⟩)
      replace hA := hA.ext hb38
      replace hX := hX.ext hb38
      replace hR := hR.ext hb38
      replace x_0 := (hb38.cell (p := ⟨(World.heap w1).size, 0, none⟩) xh).trans x_0
      replace x_1 := (hb38.cell (p := ⟨(World.heap w1).size, 1, none⟩) xh).trans x_1
      replace x_2 := (hb38.cell (p := ⟨(World.heap w1).size, 2, none⟩) xh).trans x_2
      replace x_3 := (hb38.cell (p := ⟨(World.heap w1).size, 3, none⟩) xh).trans x_3
      replace xh := Nat.lt_of_lt_of_le xh hb38.size
      replace hB := ext_trans hB hb38
      have hz38 := hb38.size
      go_wp2_with fail
      ((with_reducible refine (HU.out _ hX.fl hR.fl).mono ?_); rintro e w39 ⟨R1, d1, rfl, hcp, hR1, hb39⟩)
      replace hA := hA.ext hb39
      replace hX := hX.ext hb39
      replace hR := hR.ext hb39
      replace x_0 := (hb39.cell (p := ⟨(World.heap w1).size, 0, none⟩) xh).trans x_0
      replace x_1 := (hb39.cell (p := ⟨(World.heap w1).size, 1, none⟩) xh).trans x_1
      replace x_2 := (hb39.cell (p := ⟨(World.heap w1).size, 2, none⟩) xh).trans x_2
      replace x_3 := (hb39.cell (p := ⟨(World.heap w1).size, 3, none⟩) xh).trans x_3
      replace xh := Nat.lt_of_lt_of_le xh hb39.size
      replace hB := ext_trans hB hb39
      have hz39 := hb39.size
      go_wp2_with fail
      ((with_reducible refine (HV.out _ hX.fl hR.fl).mono ?_); rintro e w40 ⟨R2, d2, rfl, hR2, hb40⟩)
      replace hA := hA.ext hb40
      replace hX := hX.ext hb40
      replace hR := hR.ext hb40
      replace hR1 := hR1.ext hb40
      replace x_0 := (hb40.cell (p := ⟨(World.heap w1).size, 0, none⟩) xh).trans x_0
      replace x_1 := (hb40.cell (p := ⟨(World.heap w1).size, 1, none⟩) xh).trans x_1
      replace x_2 := (hb40.cell (p := ⟨(World.heap w1).size, 2, none⟩) xh).trans x_2
      replace x_3 := (hb40.cell (p := ⟨(World.heap w1).size, 3, none⟩) xh).trans x_3
      replace xh := Nat.lt_of_lt_of_le xh hb40.size
      replace hB := ext_trans hB hb40
      have hz40 := hb40.size
      go_wp2_with fail
      ((with_reducible refine (vLegs_same _ _ _ _ ys _ (by omega) hR1.fl hR2.fl).mono ?_); rintro e w41 ⟨rfl, hb41⟩)
      replace hA := hA.ext hb41
      replace hX := hX.ext hb41
      replace hR := hR.ext hb41
      replace hR1 := hR1.ext hb41
      replace hR2 := hR2.ext hb41
      replace x_0 := (hb41.cell (p := ⟨(World.heap w1).size, 0, none⟩) xh).trans x_0
      replace x_1 := (hb41.cell (p := ⟨(World.heap w1).size, 1, none⟩) xh).trans x_1
      replace x_2 := (hb41.cell (p := ⟨(World.heap w1).size, 2, none⟩) xh).trans x_2
      replace x_3 := (hb41.cell (p := ⟨(World.heap w1).size, 3, none⟩) xh).trans x_3
      replace xh := Nat.lt_of_lt_of_le xh hb41.size
      replace hB := ext_trans hB hb41
      have hz41 := hb41.size
      go_wp2_with fail
      ((with_reducible refine (HP.out _ hX.fl hR.fl).mono ?_); rintro e w42 ⟨R3, d3, rfl, hR3, hb42⟩)
      replace hA := hA.ext hb42
      replace hX := hX.ext hb42
      replace hR := hR.ext hb42
      replace hR1 := hR1.ext hb42
      replace hR2 := hR2.ext hb42
      replace x_0 := (hb42.cell (p := ⟨(World.heap w1).size, 0, none⟩) xh).trans x_0
      replace x_1 := (hb42.cell (p := ⟨(World.heap w1).size, 1, none⟩) xh).trans x_1
      replace x_2 := (hb42.cell (p := ⟨(World.heap w1).size, 2, none⟩) xh).trans x_2
      replace x_3 := (hb42.cell (p := ⟨(World.heap w1).size, 3, none⟩) xh).trans x_3
      replace xh := Nat.lt_of_lt_of_le xh hb42.size
      replace hB := ext_trans hB hb42
      have hz42 := hb42.size
      go_wp2_with fail
      ((with_reducible refine (HQ.out _ hX.fl hR.fl).mono ?_); rintro e w43 ⟨R4, d4, rfl, hR4, hb43⟩)
      replace hA := hA.ext hb43
      replace hX := hX.ext hb43
      replace hR := hR.ext hb43
      replace hR1 := hR1.ext hb43
      replace hR2 := hR2.ext hb43
      replace hR3 := hR3.ext hb43
      replace x_0 := (hb43.cell (p := ⟨(World.heap w1).size, 0, none⟩) xh).trans x_0
      replace x_1 := (hb43.cell (p := ⟨(World.heap w1).size, 1, none⟩) xh).trans x_1
      replace x_2 := (hb43.cell (p := ⟨(World.heap w1).size, 2, none⟩) xh).trans x_2
      replace x_3 := (hb43.cell (p := ⟨(World.heap w1).size, 3, none⟩) xh).trans x_3
      replace xh := Nat.lt_of_lt_of_le xh hb43.size
      replace hB := ext_trans hB hb43
      have hz43 := hb43.size
      go_wp2_with fail
      ((with_reducible refine (vInts_same _ _ _ _ ps _ (by omega) hR3.fl hR4.fl).mono ?_); rintro e w44 ⟨rfl, hb44⟩)
      replace hA := hA.ext hb44
      replace hX := hX.ext hb44
      replace hR := hR.ext hb44
      replace hR1 := hR1.ext hb44
      replace hR2 := hR2.ext hb44
      replace hR3 := hR3.ext hb44
      replace hR4 := hR4.ext hb44
      replace x_0 := (hb44.cell (p := ⟨(World.heap w1).size, 0, none⟩) xh).trans x_0
      replace x_1 := (hb44.cell (p := ⟨(World.heap w1).size, 1, none⟩) xh).trans x_1
      replace x_2 := (hb44.cell (p := ⟨(World.heap w1).size, 2, none⟩) xh).trans x_2
      replace x_3 := (hb44.cell (p := ⟨(World.heap w1).size, 3, none⟩) xh).trans x_3
      replace xh := Nat.lt_of_lt_of_le xh hb44.size
      replace hB := ext_trans hB hb44
      have hz44 := hb44.size
      go_wp2_with fail
      ((with_reducible refine (drawFaultName_any A n cap _ hA hn16).mono ?_); rintro e w45 ⟨y, rfl, hb45⟩)
      replace hA := hA.ext hb45
      replace hX := hX.ext hb45
      replace hR := hR.ext hb45
      replace hR1 := hR1.ext hb45
      replace hR2 := hR2.ext hb45
      replace hR3 := hR3.ext hb45
      replace hR4 := hR4.ext hb45
      replace x_0 := (hb45.cell (p := ⟨(World.heap w1).size, 0, none⟩) xh).trans x_0
      replace x_1 := (hb45.cell (p := ⟨(World.heap w1).size, 1, none⟩) xh).trans x_1
      replace x_2 := (hb45.cell (p := ⟨(World.heap w1).size, 2, none⟩) xh).trans x_2
      replace x_3 := (hb45.cell (p := ⟨(World.heap w1).size, 3, none⟩) xh).trans x_3
      replace xh := Nat.lt_of_lt_of_le xh hb45.size
      replace hB := ext_trans hB hb45
      have hz45 := hb45.size
      go_wp2_with fail
      ((with_reducible refine (faultName_any y _).mono ?_); rintro e w46 ⟨rfl, hb46⟩)
      replace hA := hA.ext hb46
      replace hX := hX.ext hb46
      replace hR := hR.ext hb46
      replace hR1 := hR1.ext hb46
      replace hR2 := hR2.ext hb46
      replace hR3 := hR3.ext hb46
      replace hR4 := hR4.ext hb46
      replace x_0 := (hb46.cell (p := ⟨(World.heap w1).size, 0, none⟩) xh).trans x_0
      replace x_1 := (hb46.cell (p := ⟨(World.heap w1).size, 1, none⟩) xh).trans x_1
      replace x_2 := (hb46.cell (p := ⟨(World.heap w1).size, 2, none⟩) xh).trans x_2
      replace x_3 := (hb46.cell (p := ⟨(World.heap w1).size, 3, none⟩) xh).trans x_3
      replace xh := Nat.lt_of_lt_of_le xh hb46.size
      replace hB := ext_trans hB hb46
      have hz46 := hb46.size
      go_wp2_with fail
      ((with_reducible refine (specFaultName_any y _).mono ?_); rintro e w47 ⟨rfl, hb47⟩)
      replace hA := hA.ext hb47
      replace hX := hX.ext hb47
      replace hR := hR.ext hb47
      replace hR1 := hR1.ext hb47
      replace hR2 := hR2.ext hb47
      replace hR3 := hR3.ext hb47
      replace hR4 := hR4.ext hb47
      replace x_0 := (hb47.cell (p := ⟨(World.heap w1).size, 0, none⟩) xh).trans x_0
      replace x_1 := (hb47.cell (p := ⟨(World.heap w1).size, 1, none⟩) xh).trans x_1
      replace x_2 := (hb47.cell (p := ⟨(World.heap w1).size, 2, none⟩) xh).trans x_2
      replace x_3 := (hb47.cell (p := ⟨(World.heap w1).size, 3, none⟩) xh).trans x_3
      replace xh := Nat.lt_of_lt_of_le xh hb47.size
      replace hB := ext_trans hB hb47
      have hz47 := hb47.size
      have z9 : (tb (0 ≤ y ∧ y ≤ 4) == tb (0 ≤ y ∧ y ≤ 4)) = true := beq_self_eq_true _
      go_wp2
      go_ret
      exact ⟨rfl, hB⟩

set_option maxRecDepth 100000 in
theorem FnSafe_holds : Rows.FnSafeSaid :=
  OpenClaim.holds_of_wide 3 Try.f3 rfl rfl rfl rfl rfl rfl rfl ⟨rfl, rfl, rfl, rfl, rfl⟩ rfl rfl rfl rfl rfl (by kernel_rfl) Try.func3 (by kernel_rfl)
    (of_decide_eq_true (by kernel_rfl)) (by unfold Func.isWrapper; first | (rw [if_pos (by decide +kernel)]; kernel_rfl) | (rw [if_neg (by decide +kernel)]; exact ⟨rfl, rfl⟩))
    (fun os started H enc _ => by
      refine law_lifted (s := Rows.fnSafeSpec) (conds := []) os started H enc (by kernel_rfl) Try.func3 (by kernel_rfl) rfl rfl Try.underlying4
        (ChangeSpec.witness6 (enc := enc) (C := Try.checked) false ⟨#[], #[.slice none 0 0], []⟩ 8 (by kernel_rfl) (by kernel_rfl) (by kernel_rfl) (by kernel_rfl)) ?_
      intro W base args ds ps hval hA
      rw [Try.params3] at hA hval
      obtain ⟨v0, vs0, d0, ds0, p0, q0, hargs, rfl, rfl, h0, r0⟩ := trodAll_cons hA
      obtain ⟨rfl, rfl, rfl⟩ := trodAll_nil r0
      obtain rfl : args = #[v0] := by cases args; simp_all
      refine ⟨rfl, ?_⟩
      obtain ⟨A0, n0, c0, rfl, hm0, hb0⟩ := open_bytes Try.underlying22 Try.underlying5 (by kernel_rfl) (hval 0 22 v0 rfl rfl) h0
      exact fnSafe_any A0 n0 c0 W hm0 hb0)
end Go.Proofs.Ytlkojpmhniokfaa
