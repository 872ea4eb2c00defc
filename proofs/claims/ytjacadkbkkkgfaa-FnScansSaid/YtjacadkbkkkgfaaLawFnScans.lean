/- The great law FnScans. No condition. -/
import Derived.Test.YtjacadkbkkkgfaaLaw
import Derived.Test.YtjacadkbkkkgfaaOpen
import Derived.Test.YtjacadkbkkkgfaaOpB
import Derived.Test.YtjacadkbkkkgfaaDrSum
import Derived.Test.YtjacadkbkkkgfaaRTil
import Derived.Test.YtjacadkbkkkgfaaFamInt
import Derived.Test.YtjacadkbkkkgfaaFamRows
import Derived.Test.YtjacadkbkkkgfaaFamScan
import Derived.Test.YtjacadkbkkkgfaaScPl
import Derived.Test.YtjacadkbkkkgfaaPtI
import Derived.Test.YtjacadkbkkkgfaaPtS
import Derived.Test.YtjacadkbkkkgfaaMissI
import Derived.Test.YtjacadkbkkkgfaaMissS
import Derived.Test.YtjacadkbkkkgfaaDoneI
import Derived.Test.YtjacadkbkkkgfaaDoneS
import Derived.Test.YtjacadkbkkkgfaaSeal
import Derived.Test.YtjacadkbkkkgfaaScanText
import Derived.Test.YtjacadkbkkkgfaaIsScS
import Derived.Test.YtjacadkbkkkgfaaLst
import Derived.Lib.SmallJoins
import Derived.Deep.DeepCutAuto
import Derived.Deep.RegionLaw
namespace Go.Proofs.Ytjacadkbkkkgfaa
open Go.ChangeShapes Go.WideShapes Go.ChangeAt Go.RowKit Go.Joins
set_option linter.unusedVariables false
set_option linter.unusedSimpArgs false

set_option maxHeartbeats 16000000 in
set_option maxRecDepth 100000 in
theorem fnScans_any (A : Option Addr) (n cap : Nat) (w : World) (hm : n ≤ 9223372036854775807) (hA : Bytes w A n) :
    Calls Try.prog 4 #[.slice A n cap] w fun e w' => e = .returned (.bool true) ∧ Below w.heap.size w w' := by
  by_cases hbig : 65536 < (n : Int)
  · go_enter Try.func4, Try.ntmps4
    go_wp2_with fail
    ((with_reducible refine (rBig_any A n cap w _ Iff.rfl).mono ?_); rintro e w9 ⟨rfl, rfl⟩)
    rw [tb_t hbig]
    go_wp2
    go_ret
    exact ⟨rfl, Below.refl _ _⟩
  · have hn16 : n ≤ 1099511627776 := by omega
    have hB := Below.refl w.heap.size w
    go_enter Try.func4, Try.ntmps4
    go_wp2_with fail
    ((with_reducible refine (rBig_any A n cap w _ Iff.rfl).mono ?_); rintro e w9 ⟨rfl, rfl⟩)
    rw [tb_f (show ¬ 65536 < (n : Int) by omega)]
    clear hbig hm
    go_wp2_with fail
    ((with_reducible refine (drawPutTile_any A n cap w hA hn16).mono ?_); rintro e w1 ⟨sr, sc, S, sd, xs, t, rfl, hxl, hS, hb1⟩)
    replace hA := hA.ext hb1
    replace hB := ext_trans hB hb1
    have hz1 := hb1.size
    obtain ⟨E1, hE1, hD1, hs1, hv1, _⟩ := box_world w1 #[Value.int .i64 0, Value.int .i64 0, Value.slice none 0 0] 26
    have va1 : Var3 E1 (World.heap w1).size (.int .i64 0) (.int .i64 0) (.slice none 0 0) := hE1 ▸ var3_box w1 _ _ _ _
    obtain ⟨F1, hF1, hG1, hr1, hw1, _⟩ := box_world E1 #[Value.int .i64 0, Value.int .i64 0, Value.int .i64 0] 39
    have vb1 : Var3 F1 (World.heap E1).size (.int .i64 0) (.int .i64 0) (.int .i64 0) := hF1 ▸ var3_box E1 _ _ _ _
    have vc1 := va1.ext hG1
    have g0 := vc1.c0
    have g1 := vc1.c1
    have g2 := vc1.c2
    have gz := vc1.fz
    have gl := vc1.lt
    have e0 := vb1.c0
    have e1 := vb1.c1
    have e2 := vb1.c2
    have ez := vb1.fz
    have el := vb1.lt
    obtain ⟨U1, hU1⟩ : ∃ z, z = ((((((F1.setCell ⟨(World.heap w1).size, 0, none⟩ (Value.int .i64 sr)).setCell ⟨(World.heap w1).size, 1, none⟩ (Value.int .i64 sc)).setCell ⟨(World.heap w1).size, 2, none⟩ (Value.slice S xs.length sd)).setCell ⟨(World.heap E1).size, 0, none⟩ (Value.int .i64 t.row)).setCell ⟨(World.heap E1).size, 1, none⟩ (Value.int .i64 t.col)).setCell ⟨(World.heap E1).size, 2, none⟩ (Value.int .i64 t.sum)) := ⟨_, rfl⟩
    have ta1 := set3_touch F1 (World.heap w1).size (Value.int .i64 sr) (Value.int .i64 sc) (Value.slice S xs.length sd)
    have tz1 := set3_touch (((F1.setCell ⟨(World.heap w1).size, 0, none⟩ (Value.int .i64 sr)).setCell ⟨(World.heap w1).size, 1, none⟩ (Value.int .i64 sc)).setCell ⟨(World.heap w1).size, 2, none⟩ (Value.slice S xs.length sd)) (World.heap E1).size (Value.int .i64 t.row) (Value.int .i64 t.col) (Value.int .i64 t.sum)
    have vd1 := (vc1.set3 (Value.int .i64 sr) (Value.int .i64 sc) (Value.slice S xs.length sd)).touch tz1 (.inl hs1)
    have ve1 := (vb1.touch ta1 (.inr hs1)).set3 (Value.int .i64 t.row) (Value.int .i64 t.col) (Value.int .i64 t.sum)
    have hDU1 : Below (World.heap w1).size w1 U1 := hU1 ▸ tz1.below (ta1.below (ext_trans hD1 hG1) (Nat.le_refl _)) (Nat.le_of_lt hs1)
    rw [← hU1] at vd1 ve1
    clear hv1 hw1 ta1 tz1 va1 vb1 vc1
    go_upto_region 4 with fail
    rw [← hU1]
    clear hU1 hE1 hF1 g0 g1 g2 gz gl e0 e1 e2 ez el hD1 hG1
    replace hA := hA.ext hDU1
    replace hS := hS.ext hDU1
    replace hB := ext_trans hB hDU1
    have hz2 := hDU1.size
    have s_0 := vd1.c0
    have s_1 := vd1.c1
    have s_2 := vd1.c2
    have sh := vd1.lt
    have t_0 := ve1.c0
    have t_1 := ve1.c1
    have t_2 := ve1.c2
    have th := ve1.lt
    clear vd1 ve1
    have hI := fun W h => putTile_any sr sc S sd xs t W (by omega) h
    have hJ := fun W h => specPutTile_any sr sc S sd xs t W (by omega) h
    obtain ⟨ys, hys⟩ : ∃ y, y = sel (PutOk sr sc xs t) (insT t xs) := ⟨_, rfl⟩
    obtain ⟨ra, hra⟩ : ∃ y, y = seli (PutOk sr sc xs t) sr := ⟨_, rfl⟩
    obtain ⟨ca, hca⟩ : ∃ y, y = seli (PutOk sr sc xs t) sc := ⟨_, rfl⟩
    obtain ⟨ok, hok⟩ : ∃ y, y = tb (PutOk sr sc xs t) := ⟨_, rfl⟩
    have hyl : ys.length ≤ 1048576 := hys ▸ insT_sel
    rw [← hys, ← hra, ← hca, ← hok] at hI hJ
    have HI := Lib.hid hI
    have HJ := Lib.hid hJ
    have HYS := Lib.hid hys
    have HRA := Lib.hid hra
    have HCA := Lib.hid hca
    have HOK := Lib.hid hok
    clear hI hJ hys hra hca hok
    go_wp2_with fail
    ((with_reducible refine (HI.out _ hS.fl).mono ?_); rintro e w3 ⟨R1, d1, rfl, hR1, hb3⟩)
    replace hA := hA.ext hb3
    replace hS := hS.ext hb3
    replace s_0 := (hb3.cell (p := ⟨(World.heap w1).size, 0, none⟩) sh).trans s_0
    replace s_1 := (hb3.cell (p := ⟨(World.heap w1).size, 1, none⟩) sh).trans s_1
    replace s_2 := (hb3.cell (p := ⟨(World.heap w1).size, 2, none⟩) sh).trans s_2
    replace sh := Nat.lt_of_lt_of_le sh hb3.size
    replace t_0 := (hb3.cell (p := ⟨(World.heap E1).size, 0, none⟩) th).trans t_0
    replace t_1 := (hb3.cell (p := ⟨(World.heap E1).size, 1, none⟩) th).trans t_1
    replace t_2 := (hb3.cell (p := ⟨(World.heap E1).size, 2, none⟩) th).trans t_2
    replace th := Nat.lt_of_lt_of_le th hb3.size
    replace hB := ext_trans hB hb3
    have hz3 := hb3.size
    obtain ⟨U2, hU2, hD2, hs2, hv2, _⟩ := box_world w3 #[Value.int .i64 ra, Value.int .i64 ca, Value.slice R1 ys.length d1] 26
    replace hA := hA.ext hD2
    replace hS := hS.ext hD2
    replace hR1 := hR1.ext hD2
    replace s_0 := (hD2.cell (p := ⟨(World.heap w1).size, 0, none⟩) sh).trans s_0
    replace s_1 := (hD2.cell (p := ⟨(World.heap w1).size, 1, none⟩) sh).trans s_1
    replace s_2 := (hD2.cell (p := ⟨(World.heap w1).size, 2, none⟩) sh).trans s_2
    replace sh := Nat.lt_of_lt_of_le sh hD2.size
    replace t_0 := (hD2.cell (p := ⟨(World.heap E1).size, 0, none⟩) th).trans t_0
    replace t_1 := (hD2.cell (p := ⟨(World.heap E1).size, 1, none⟩) th).trans t_1
    replace t_2 := (hD2.cell (p := ⟨(World.heap E1).size, 2, none⟩) th).trans t_2
    replace th := Nat.lt_of_lt_of_le th hD2.size
    replace hB := ext_trans hB hD2
    have hz4 := hD2.size
    have o_0 : World.cell? U2 ⟨(World.heap w3).size, 0, none⟩ = some (Value.int .i64 ra) := hv2 0
    have o_1 : World.cell? U2 ⟨(World.heap w3).size, 1, none⟩ = some (Value.int .i64 ca) := hv2 1
    have o_2 : World.cell? U2 ⟨(World.heap w3).size, 2, none⟩ = some (Value.slice R1 ys.length d1) := hv2 2
    have oh := hs2
    clear hv2
    go_wp2_with fail
    clear hU2
    ((with_reducible refine (HJ.out _ hS.fl).mono ?_); rintro e w5 ⟨R2, d2, rfl, hR2, hb5⟩)
    replace hA := hA.ext hb5
    replace hS := hS.ext hb5
    replace hR1 := hR1.ext hb5
    replace s_0 := (hb5.cell (p := ⟨(World.heap w1).size, 0, none⟩) sh).trans s_0
    replace s_1 := (hb5.cell (p := ⟨(World.heap w1).size, 1, none⟩) sh).trans s_1
    replace s_2 := (hb5.cell (p := ⟨(World.heap w1).size, 2, none⟩) sh).trans s_2
    replace sh := Nat.lt_of_lt_of_le sh hb5.size
    replace t_0 := (hb5.cell (p := ⟨(World.heap E1).size, 0, none⟩) th).trans t_0
    replace t_1 := (hb5.cell (p := ⟨(World.heap E1).size, 1, none⟩) th).trans t_1
    replace t_2 := (hb5.cell (p := ⟨(World.heap E1).size, 2, none⟩) th).trans t_2
    replace th := Nat.lt_of_lt_of_le th hb5.size
    replace o_0 := (hb5.cell (p := ⟨(World.heap w3).size, 0, none⟩) oh).trans o_0
    replace o_1 := (hb5.cell (p := ⟨(World.heap w3).size, 1, none⟩) oh).trans o_1
    replace o_2 := (hb5.cell (p := ⟨(World.heap w3).size, 2, none⟩) oh).trans o_2
    replace oh := Nat.lt_of_lt_of_le oh hb5.size
    replace hB := ext_trans hB hb5
    have hz5 := hb5.size
    obtain ⟨U3, hU3, hD3, hs3, hv3, _⟩ := box_world w5 #[Value.int .i64 ra, Value.int .i64 ca, Value.slice R2 ys.length d2] 26
    replace hA := hA.ext hD3
    replace hS := hS.ext hD3
    replace hR1 := hR1.ext hD3
    replace hR2 := hR2.ext hD3
    replace s_0 := (hD3.cell (p := ⟨(World.heap w1).size, 0, none⟩) sh).trans s_0
    replace s_1 := (hD3.cell (p := ⟨(World.heap w1).size, 1, none⟩) sh).trans s_1
    replace s_2 := (hD3.cell (p := ⟨(World.heap w1).size, 2, none⟩) sh).trans s_2
    replace sh := Nat.lt_of_lt_of_le sh hD3.size
    replace t_0 := (hD3.cell (p := ⟨(World.heap E1).size, 0, none⟩) th).trans t_0
    replace t_1 := (hD3.cell (p := ⟨(World.heap E1).size, 1, none⟩) th).trans t_1
    replace t_2 := (hD3.cell (p := ⟨(World.heap E1).size, 2, none⟩) th).trans t_2
    replace th := Nat.lt_of_lt_of_le th hD3.size
    replace o_0 := (hD3.cell (p := ⟨(World.heap w3).size, 0, none⟩) oh).trans o_0
    replace o_1 := (hD3.cell (p := ⟨(World.heap w3).size, 1, none⟩) oh).trans o_1
    replace o_2 := (hD3.cell (p := ⟨(World.heap w3).size, 2, none⟩) oh).trans o_2
    replace oh := Nat.lt_of_lt_of_le oh hD3.size
    replace hB := ext_trans hB hD3
    have hz6 := hD3.size
    have p_0 : World.cell? U3 ⟨(World.heap w5).size, 0, none⟩ = some (Value.int .i64 ra) := hv3 0
    have p_1 : World.cell? U3 ⟨(World.heap w5).size, 1, none⟩ = some (Value.int .i64 ca) := hv3 1
    have p_2 : World.cell? U3 ⟨(World.heap w5).size, 2, none⟩ = some (Value.slice R2 ys.length d2) := hv3 2
    have ph := hs3
    clear hv3
    go_wp2_with fail
    clear hU3
    ((with_reducible refine (rScan_same ra ca _ _ _ _ ys _ (by omega) hR1.fl hR2.fl).mono ?_); rintro e w7 ⟨rfl, hb7⟩)
    replace hA := hA.ext hb7
    replace hS := hS.ext hb7
    replace hR1 := hR1.ext hb7
    replace hR2 := hR2.ext hb7
    replace s_0 := (hb7.cell (p := ⟨(World.heap w1).size, 0, none⟩) sh).trans s_0
    replace s_1 := (hb7.cell (p := ⟨(World.heap w1).size, 1, none⟩) sh).trans s_1
    replace s_2 := (hb7.cell (p := ⟨(World.heap w1).size, 2, none⟩) sh).trans s_2
    replace sh := Nat.lt_of_lt_of_le sh hb7.size
    replace t_0 := (hb7.cell (p := ⟨(World.heap E1).size, 0, none⟩) th).trans t_0
    replace t_1 := (hb7.cell (p := ⟨(World.heap E1).size, 1, none⟩) th).trans t_1
    replace t_2 := (hb7.cell (p := ⟨(World.heap E1).size, 2, none⟩) th).trans t_2
    replace th := Nat.lt_of_lt_of_le th hb7.size
    replace o_0 := (hb7.cell (p := ⟨(World.heap w3).size, 0, none⟩) oh).trans o_0
    replace o_1 := (hb7.cell (p := ⟨(World.heap w3).size, 1, none⟩) oh).trans o_1
    replace o_2 := (hb7.cell (p := ⟨(World.heap w3).size, 2, none⟩) oh).trans o_2
    replace oh := Nat.lt_of_lt_of_le oh hb7.size
    replace p_0 := (hb7.cell (p := ⟨(World.heap w5).size, 0, none⟩) ph).trans p_0
    replace p_1 := (hb7.cell (p := ⟨(World.heap w5).size, 1, none⟩) ph).trans p_1
    replace p_2 := (hb7.cell (p := ⟨(World.heap w5).size, 2, none⟩) ph).trans p_2
    replace ph := Nat.lt_of_lt_of_le ph hb7.size
    replace hB := ext_trans hB hb7
    have hz7 := hb7.size
    clear p_0 p_1 p_2 ph hR2
    go_upto_if 67 with fail
    go_cut [] (fun wx => Below (World.heap w7).size w7 wx)
    case first =>
      by_cases hPO : PutOk sr sc xs t
      · skip
        obtain ⟨f1, f2, f3, f4, f5, f6⟩ := put_facts hPO
        have hy : ys = insT t xs := by rw [HYS.out, sel_t hPO]
        obtain rfl : ra = sr := by rw [HRA.out, seli_t hPO]
        obtain rfl : ca = sc := by rw [HCA.out, seli_t hPO]
        obtain rfl : ok = true := by rw [HOK.out, tb_t hPO]
        rw [← hy] at f1 f2 f3 f4 f5 f6
        have hSA := fun W h => sumAt_any ra ca R1 d1 ys t.row t.col W hyl h
        have hMI := fun W h => missingTiles_any ra ca R1 d1 ys W hyl h
        have hWH := fun W h => isWhole_any ra ca R1 d1 ys W hyl h
        obtain ⟨zs, hzs⟩ : ∃ z, z = gridS (missP ys) ra ca := ⟨_, rfl⟩
        obtain ⟨bw, hbw⟩ : ∃ z, z = tb (Whole ra ca ys) := ⟨_, rfl⟩
        simp only [seli_t f2, tb_t f2, f3] at hSA
        simp only [sel_t f1, tb_t f1, ← hzs] at hMI
        simp only [tb_t f1, ← hbw] at hWH
        rw [← hzs] at f4 f5 f6
        obtain ⟨m, hm⟩ : ∃ z, z = zs.length := ⟨_, rfl⟩
        have hrw := (grid_sel (P := Scn ra ca ys) (p := missP ys) (rows := ra) (cols := ca) (fun h => h.2))
        rw [sel_t f1, ← hzs] at hrw
        have hm36 : (m : Int) + (ys.length : Int) ≤ 36 := by rw [hm, f4]; exact (mul_side f1.2).2
        rw [← hm] at f4 f5
        have hq : ((m : Int) == 0) = bw := by
          rw [hbw, tb_iff f5]
          exact eqb_tb (by omega)
        have hw1 : IntKind.i64.wrap (ra * ca) = (m : Int) + (ys.length : Int) := by rw [← f4, IntKind.wrap_i64]; omega
        have hw2 : IntKind.i64.wrap ((m : Int) + (ys.length : Int)) = (m : Int) + (ys.length : Int) := by rw [IntKind.wrap_i64]; omega
        have HSA := Lib.hid hSA
        have HMI := Lib.hid hMI
        have HWH := Lib.hid hWH
        have HM := Lib.hid hm
        have HF6 := Lib.hid f6
        have HRW := Lib.hid hrw
        clear hSA hMI hWH hm f1 f2 f3 f4 f5 f6 hrw hy hzs hbw hPO
        go_wp2_with fail
        ((with_reducible refine (HSA.out _ hR1.fl).mono ?_); rintro e w8 ⟨rfl, hb8⟩)
        replace hA := hA.ext hb8
        replace hS := hS.ext hb8
        replace hR1 := hR1.ext hb8
        replace s_0 := (hb8.cell (p := ⟨(World.heap w1).size, 0, none⟩) sh).trans s_0
        replace s_1 := (hb8.cell (p := ⟨(World.heap w1).size, 1, none⟩) sh).trans s_1
        replace s_2 := (hb8.cell (p := ⟨(World.heap w1).size, 2, none⟩) sh).trans s_2
        replace sh := Nat.lt_of_lt_of_le sh hb8.size
        replace t_0 := (hb8.cell (p := ⟨(World.heap E1).size, 0, none⟩) th).trans t_0
        replace t_1 := (hb8.cell (p := ⟨(World.heap E1).size, 1, none⟩) th).trans t_1
        replace t_2 := (hb8.cell (p := ⟨(World.heap E1).size, 2, none⟩) th).trans t_2
        replace th := Nat.lt_of_lt_of_le th hb8.size
        replace o_0 := (hb8.cell (p := ⟨(World.heap w3).size, 0, none⟩) oh).trans o_0
        replace o_1 := (hb8.cell (p := ⟨(World.heap w3).size, 1, none⟩) oh).trans o_1
        replace o_2 := (hb8.cell (p := ⟨(World.heap w3).size, 2, none⟩) oh).trans o_2
        replace oh := Nat.lt_of_lt_of_le oh hb8.size
        replace hB := ext_trans hB hb8
        have hz8 := hb8.size
        go_wp2_with fail
        ((with_reducible refine (HMI.out _ hR1.fl).mono ?_); rintro e w9 ⟨M, dm, rfl, hM, hb9⟩)
        replace hA := hA.ext hb9
        replace hS := hS.ext hb9
        replace hR1 := hR1.ext hb9
        replace s_0 := (hb9.cell (p := ⟨(World.heap w1).size, 0, none⟩) sh).trans s_0
        replace s_1 := (hb9.cell (p := ⟨(World.heap w1).size, 1, none⟩) sh).trans s_1
        replace s_2 := (hb9.cell (p := ⟨(World.heap w1).size, 2, none⟩) sh).trans s_2
        replace sh := Nat.lt_of_lt_of_le sh hb9.size
        replace t_0 := (hb9.cell (p := ⟨(World.heap E1).size, 0, none⟩) th).trans t_0
        replace t_1 := (hb9.cell (p := ⟨(World.heap E1).size, 1, none⟩) th).trans t_1
        replace t_2 := (hb9.cell (p := ⟨(World.heap E1).size, 2, none⟩) th).trans t_2
        replace th := Nat.lt_of_lt_of_le th hb9.size
        replace o_0 := (hb9.cell (p := ⟨(World.heap w3).size, 0, none⟩) oh).trans o_0
        replace o_1 := (hb9.cell (p := ⟨(World.heap w3).size, 1, none⟩) oh).trans o_1
        replace o_2 := (hb9.cell (p := ⟨(World.heap w3).size, 2, none⟩) oh).trans o_2
        replace oh := Nat.lt_of_lt_of_le oh hb9.size
        replace hB := ext_trans hB hb9
        have hz9 := hb9.size
        rw [← HM.out]
        go_wp2_with fail
        ((with_reducible refine (HWH.out _ hR1.fl).mono ?_); rintro e w10 ⟨rfl, hb10⟩)
        replace hA := hA.ext hb10
        replace hS := hS.ext hb10
        replace hR1 := hR1.ext hb10
        replace hM := hM.ext hb10
        replace s_0 := (hb10.cell (p := ⟨(World.heap w1).size, 0, none⟩) sh).trans s_0
        replace s_1 := (hb10.cell (p := ⟨(World.heap w1).size, 1, none⟩) sh).trans s_1
        replace s_2 := (hb10.cell (p := ⟨(World.heap w1).size, 2, none⟩) sh).trans s_2
        replace sh := Nat.lt_of_lt_of_le sh hb10.size
        replace t_0 := (hb10.cell (p := ⟨(World.heap E1).size, 0, none⟩) th).trans t_0
        replace t_1 := (hb10.cell (p := ⟨(World.heap E1).size, 1, none⟩) th).trans t_1
        replace t_2 := (hb10.cell (p := ⟨(World.heap E1).size, 2, none⟩) th).trans t_2
        replace th := Nat.lt_of_lt_of_le th hb10.size
        replace o_0 := (hb10.cell (p := ⟨(World.heap w3).size, 0, none⟩) oh).trans o_0
        replace o_1 := (hb10.cell (p := ⟨(World.heap w3).size, 1, none⟩) oh).trans o_1
        replace o_2 := (hb10.cell (p := ⟨(World.heap w3).size, 2, none⟩) oh).trans o_2
        replace oh := Nat.lt_of_lt_of_le oh hb10.size
        replace hB := ext_trans hB hb10
        have hz10 := hb10.size
        go_wp2_with fail
        go_loopw [15] (fun i wr => ∃ k : Nat, k ≤ m ∧ i = .int .i64 (k : Int) ∧ Below (World.heap w10).size w10 wr) (fun i _ => m - (intOf i).toNat)
        case atStart => exact ⟨0, by omega, rfl, Below.refl _ _⟩
        case round =>
          obtain ⟨k, hk, rfl, hbr⟩ := hrel
          by_cases hlt : k < m
          · obtain ⟨x, b, o, A', d', hx, rfl, hb, hc, hfl⟩ := (hM.gl.ext hbr).at_ (k := k) (by rw [← HM.out]; exact hlt)
            have hne := HF6.out x (List.mem_of_getElem? hx)
            have hxl : x.length ≤ 1152921504606846976 := Nat.le_trans (rwt_in (List.mem_of_getElem? hx)) (Nat.le_trans HRW.out (by decide))
            have c0 : World.cell? wr ⟨b, o + k, none⟩ = some (.slice A' x.length d') := by have := hc.ct; simpa [slf] using this
            have hfl' : Fl one 1 wr A' x := hfl
            have HRI := Lib.hid (show ∀ W : World, Fl one 1 W A' x → Fl one 1 W (some ⟨(World.heap wr).size, 0, none⟩) [t.row, t.col] → Calls Try.prog 25 #[.slice A' x.length d', .slice (some ⟨(World.heap wr).size, 0, none⟩) 2 2] W fun e w' => e = .returned (.bool false) ∧ Below W.heap.size W w' from fun W h1 h2 => by
              have h := rInts_any A' (some ⟨(World.heap wr).size, 0, none⟩) d' 2 x [t.row, t.col] W hxl (by simp) h1 h2
              rw [tb_f hne] at h
              exact h)
            have y0 := (hbr.cell (p := ⟨(World.heap E1).size, 0, none⟩) th).trans t_0
            have y1 := (hbr.cell (p := ⟨(World.heap E1).size, 1, none⟩) th).trans t_1
            have yl := Nat.lt_of_lt_of_le th hbr.size
            have HFL := Lib.hid hfl'
            have HLIT := Lib.hid (show Fl one 1 (World.drew (wr.alloc (.cells #[.int .i64 t.row, .int .i64 t.col] 3))) (some ⟨(World.heap wr).size, 0, none⟩) [t.row, t.col] from ((lit_flo wr [t.row, t.col] 3 #[.int .i64 t.row, .int .i64 t.col] rfl).ext (ext_drew _)).fl)
            obtain ⟨l9, hl9⟩ : ∃ z, z = x.length := ⟨_, rfl⟩
            rw [← hl9] at c0 HRI
            have hk0 : (0 : Int) ≤ (k : Int) := by omega
            have hk1 : (k : Int) < (m : Int) := by omega
            clear hc hx hfl hfl' hne hxl hl9
            go_wp2_with fail
            go_upto_region 17 with fail
            go_region_held3 (fun w' => Below (World.heap wr).size wr w' ∧ ∀ b o, b < (World.heap wr).size → w'.cell? ⟨b, o, none⟩ = World.cell? wr ⟨b, o, none⟩) (first | exact cls_of (ext_drew _) | with_reducible exact cls_of (ext_trans (ext_alloc _ _) (ext_drew _)) | with_reducible exact cls_of (ext_trans (ext_drew _) (ext_alloc _ _)) | with_reducible exact cls_of hb9) ((first | (go_at_call 25; (with_reducible refine (HRI.out _ ?_ ?_).mono ?_); (first | with_reducible exact HFL.out.ext (ext_trans (ext_alloc _ _) (ext_drew _)) | with_reducible exact HFL.out.ext (ext_trans (ext_drew _) (ext_alloc _ _))); (with_reducible exact HLIT.out); rintro e w9 ⟨rfl, hb9q⟩; (first | with_reducible have hb9 := ext_trans (ext_trans (ext_alloc wr _) (ext_drew _)) hb9q | with_reducible have hb9 := ext_trans (ext_trans (ext_drew wr) (ext_alloc _ _)) hb9q))))
            go_wp2
            go_roundw
            case rel => exact ⟨k + 1, by omega, by go_num, ext_trans hbr hb9⟩
            case measure => simp [intOf]; omega
          · have hkn : k = m := by omega
            subst hkn
            go_wp2
            go_meet
            exact ext_trans (ext_trans (ext_trans (hb8) hb9) hb10) hbr
      · obtain rfl : ok = false := by rw [HOK.out, tb_f hPO]
        go_wp2
        go_meet
        exact Below.refl _ _
    case rest =>
      obtain ⟨w11, hwz⟩ : ∃ z, z = wc := ⟨_, rfl⟩
      subst hwz
      replace hA := hA.ext hcut
      replace hS := hS.ext hcut
      replace hR1 := hR1.ext hcut
      replace s_0 := (hcut.cell (p := ⟨(World.heap w1).size, 0, none⟩) sh).trans s_0
      replace s_1 := (hcut.cell (p := ⟨(World.heap w1).size, 1, none⟩) sh).trans s_1
      replace s_2 := (hcut.cell (p := ⟨(World.heap w1).size, 2, none⟩) sh).trans s_2
      replace sh := Nat.lt_of_lt_of_le sh hcut.size
      replace t_0 := (hcut.cell (p := ⟨(World.heap E1).size, 0, none⟩) th).trans t_0
      replace t_1 := (hcut.cell (p := ⟨(World.heap E1).size, 1, none⟩) th).trans t_1
      replace t_2 := (hcut.cell (p := ⟨(World.heap E1).size, 2, none⟩) th).trans t_2
      replace th := Nat.lt_of_lt_of_le th hcut.size
      replace o_0 := (hcut.cell (p := ⟨(World.heap w3).size, 0, none⟩) oh).trans o_0
      replace o_1 := (hcut.cell (p := ⟨(World.heap w3).size, 1, none⟩) oh).trans o_1
      replace o_2 := (hcut.cell (p := ⟨(World.heap w3).size, 2, none⟩) oh).trans o_2
      replace oh := Nat.lt_of_lt_of_le oh hcut.size
      replace hB := ext_trans hB hcut
      have hz11 := hcut.size
      clear o_0 o_1 o_2 oh hR1
      have hM1 := fun W h => missingTiles_any sr sc S sd xs W (by omega) h
      have hM2 := fun W h => specMissingTiles_any sr sc S sd xs W (by omega) h
      have hE1 := fun W h => sealOf_any sr sc S sd xs W (by omega) h
      have hE2 := fun W h => specSealOf_any sr sc S sd xs W (by omega) h
      have hD1 := fun W h => rowsDone_any sr sc S sd xs W (by omega) h
      have hD2 := fun W h => specRowsDone_any sr sc S sd xs W (by omega) h
      have hT1 := fun W h => scanText_any sr sc S sd xs W (by omega) h
      have hT2 := fun W h => specScanText_any sr sc S sd xs W (by omega) h
      have hO1 := fun W h => isScan_any sr sc S sd xs W (by omega) h
      have hO2 := fun W h => specIsScan_any sr sc S sd xs W (by omega) h
      obtain ⟨bs, hbs⟩ : ∃ z, z = tb (Scn sr sc xs) := ⟨_, rfl⟩
      obtain ⟨ms, hms⟩ : ∃ z, z = sel (Scn sr sc xs) (gridS (missP xs) sr sc) := ⟨_, rfl⟩
      obtain ⟨ds, hds⟩ : ∃ z, z = sel (Scn sr sc xs) (doneTo xs sc sr.toNat) := ⟨_, rfl⟩
      obtain ⟨qs, hqs⟩ : ∃ z, z = seli (Scn sr sc xs) (sealN xs) := ⟨_, rfl⟩
      obtain ⟨ts, hts⟩ : ∃ z, z = selt (Scn sr sc xs) (scanT sr sc xs) := ⟨_, rfl⟩
      have hmw : rwt ms ≤ 1048576 := hms ▸ grid_sel (fun h => h.2)
      have hdl : ds.length ≤ 1048576 := hds ▸ done_len sr sc xs _ (fun h => h.2)
      simp only [← hbs, ← hms, ← hds, ← hqs, ← hts] at hM1 hM2 hE1 hE2 hD1 hD2 hT1 hT2 hO1 hO2
      have HM1 := Lib.hid hM1
      have HM2 := Lib.hid hM2
      have HE1 := Lib.hid hE1
      have HE2 := Lib.hid hE2
      have HD1 := Lib.hid hD1
      have HD2 := Lib.hid hD2
      have HT1 := Lib.hid hT1
      have HT2 := Lib.hid hT2
      have HO1 := Lib.hid hO1
      have HO2 := Lib.hid hO2
      clear hM1 hM2 hE1 hE2 hD1 hD2 hT1 hT2 hO1 hO2 hbs hms hds hqs hts
      go_wp2_with fail
      ((with_reducible refine (HM1.out _ hS.fl).mono ?_); rintro e w12 ⟨M1, e1, rfl, hM1, hb12⟩)
      replace hA := hA.ext hb12
      replace hS := hS.ext hb12
      replace s_0 := (hb12.cell (p := ⟨(World.heap w1).size, 0, none⟩) sh).trans s_0
      replace s_1 := (hb12.cell (p := ⟨(World.heap w1).size, 1, none⟩) sh).trans s_1
      replace s_2 := (hb12.cell (p := ⟨(World.heap w1).size, 2, none⟩) sh).trans s_2
      replace sh := Nat.lt_of_lt_of_le sh hb12.size
      replace t_0 := (hb12.cell (p := ⟨(World.heap E1).size, 0, none⟩) th).trans t_0
      replace t_1 := (hb12.cell (p := ⟨(World.heap E1).size, 1, none⟩) th).trans t_1
      replace t_2 := (hb12.cell (p := ⟨(World.heap E1).size, 2, none⟩) th).trans t_2
      replace th := Nat.lt_of_lt_of_le th hb12.size
      replace hB := ext_trans hB hb12
      have hz12 := hb12.size
      go_wp2_with fail
      ((with_reducible refine (HM2.out _ hS.fl).mono ?_); rintro e w13 ⟨M2, e2, rfl, hM2, hb13⟩)
      replace hA := hA.ext hb13
      replace hS := hS.ext hb13
      replace hM1 := hM1.ext hb13
      replace s_0 := (hb13.cell (p := ⟨(World.heap w1).size, 0, none⟩) sh).trans s_0
      replace s_1 := (hb13.cell (p := ⟨(World.heap w1).size, 1, none⟩) sh).trans s_1
      replace s_2 := (hb13.cell (p := ⟨(World.heap w1).size, 2, none⟩) sh).trans s_2
      replace sh := Nat.lt_of_lt_of_le sh hb13.size
      replace t_0 := (hb13.cell (p := ⟨(World.heap E1).size, 0, none⟩) th).trans t_0
      replace t_1 := (hb13.cell (p := ⟨(World.heap E1).size, 1, none⟩) th).trans t_1
      replace t_2 := (hb13.cell (p := ⟨(World.heap E1).size, 2, none⟩) th).trans t_2
      replace th := Nat.lt_of_lt_of_le th hb13.size
      replace hB := ext_trans hB hb13
      have hz13 := hb13.size
      go_wp2_with fail
      ((with_reducible refine (rTable_same _ _ _ _ ms _ (by omega) hM1.gl hM2.gl).mono ?_); rintro e w14 ⟨rfl, hb14⟩)
      replace hA := hA.ext hb14
      replace hS := hS.ext hb14
      replace hM1 := hM1.ext hb14
      replace hM2 := hM2.ext hb14
      replace s_0 := (hb14.cell (p := ⟨(World.heap w1).size, 0, none⟩) sh).trans s_0
      replace s_1 := (hb14.cell (p := ⟨(World.heap w1).size, 1, none⟩) sh).trans s_1
      replace s_2 := (hb14.cell (p := ⟨(World.heap w1).size, 2, none⟩) sh).trans s_2
      replace sh := Nat.lt_of_lt_of_le sh hb14.size
      replace t_0 := (hb14.cell (p := ⟨(World.heap E1).size, 0, none⟩) th).trans t_0
      replace t_1 := (hb14.cell (p := ⟨(World.heap E1).size, 1, none⟩) th).trans t_1
      replace t_2 := (hb14.cell (p := ⟨(World.heap E1).size, 2, none⟩) th).trans t_2
      replace th := Nat.lt_of_lt_of_le th hb14.size
      replace hB := ext_trans hB hb14
      have hz14 := hb14.size
      go_wp2_with fail
      ((with_reducible refine (HE1.out _ hS.fl).mono ?_); rintro e w15 ⟨rfl, hb15⟩)
      replace hA := hA.ext hb15
      replace hS := hS.ext hb15
      replace s_0 := (hb15.cell (p := ⟨(World.heap w1).size, 0, none⟩) sh).trans s_0
      replace s_1 := (hb15.cell (p := ⟨(World.heap w1).size, 1, none⟩) sh).trans s_1
      replace s_2 := (hb15.cell (p := ⟨(World.heap w1).size, 2, none⟩) sh).trans s_2
      replace sh := Nat.lt_of_lt_of_le sh hb15.size
      replace t_0 := (hb15.cell (p := ⟨(World.heap E1).size, 0, none⟩) th).trans t_0
      replace t_1 := (hb15.cell (p := ⟨(World.heap E1).size, 1, none⟩) th).trans t_1
      replace t_2 := (hb15.cell (p := ⟨(World.heap E1).size, 2, none⟩) th).trans t_2
      replace th := Nat.lt_of_lt_of_le th hb15.size
      replace hB := ext_trans hB hb15
      have hz15 := hb15.size
      go_wp2_with fail
      ((with_reducible refine (HE2.out _ hS.fl).mono ?_); rintro e w16 ⟨rfl, hb16⟩)
      replace hA := hA.ext hb16
      replace hS := hS.ext hb16
      replace s_0 := (hb16.cell (p := ⟨(World.heap w1).size, 0, none⟩) sh).trans s_0
      replace s_1 := (hb16.cell (p := ⟨(World.heap w1).size, 1, none⟩) sh).trans s_1
      replace s_2 := (hb16.cell (p := ⟨(World.heap w1).size, 2, none⟩) sh).trans s_2
      replace sh := Nat.lt_of_lt_of_le sh hb16.size
      replace t_0 := (hb16.cell (p := ⟨(World.heap E1).size, 0, none⟩) th).trans t_0
      replace t_1 := (hb16.cell (p := ⟨(World.heap E1).size, 1, none⟩) th).trans t_1
      replace t_2 := (hb16.cell (p := ⟨(World.heap E1).size, 2, none⟩) th).trans t_2
      replace th := Nat.lt_of_lt_of_le th hb16.size
      replace hB := ext_trans hB hb16
      have hz16 := hb16.size
      go_wp2_with fail
      ((with_reducible refine (drawSumAt_any A n cap w16 hA hn16).mono ?_); rintro e w17 ⟨ur, uc, U, ud, us, ua, ub, rfl, hul, hU, hb17⟩)
      replace hA := hA.ext hb17
      replace hS := hS.ext hb17
      replace s_0 := (hb17.cell (p := ⟨(World.heap w1).size, 0, none⟩) sh).trans s_0
      replace s_1 := (hb17.cell (p := ⟨(World.heap w1).size, 1, none⟩) sh).trans s_1
      replace s_2 := (hb17.cell (p := ⟨(World.heap w1).size, 2, none⟩) sh).trans s_2
      replace sh := Nat.lt_of_lt_of_le sh hb17.size
      replace t_0 := (hb17.cell (p := ⟨(World.heap E1).size, 0, none⟩) th).trans t_0
      replace t_1 := (hb17.cell (p := ⟨(World.heap E1).size, 1, none⟩) th).trans t_1
      replace t_2 := (hb17.cell (p := ⟨(World.heap E1).size, 2, none⟩) th).trans t_2
      replace th := Nat.lt_of_lt_of_le th hb17.size
      replace hB := ext_trans hB hb17
      have hz17 := hb17.size
      obtain ⟨U4, hU4, hD4, hs4, hv4, _⟩ := box_world w17 #[Value.int .i64 ur, Value.int .i64 uc, Value.slice U us.length ud] 26
      replace hA := hA.ext hD4
      replace hS := hS.ext hD4
      replace hU := hU.ext hD4
      replace s_0 := (hD4.cell (p := ⟨(World.heap w1).size, 0, none⟩) sh).trans s_0
      replace s_1 := (hD4.cell (p := ⟨(World.heap w1).size, 1, none⟩) sh).trans s_1
      replace s_2 := (hD4.cell (p := ⟨(World.heap w1).size, 2, none⟩) sh).trans s_2
      replace sh := Nat.lt_of_lt_of_le sh hD4.size
      replace t_0 := (hD4.cell (p := ⟨(World.heap E1).size, 0, none⟩) th).trans t_0
      replace t_1 := (hD4.cell (p := ⟨(World.heap E1).size, 1, none⟩) th).trans t_1
      replace t_2 := (hD4.cell (p := ⟨(World.heap E1).size, 2, none⟩) th).trans t_2
      replace th := Nat.lt_of_lt_of_le th hD4.size
      replace hB := ext_trans hB hD4
      have hz18 := hD4.size
      have u_0 : World.cell? U4 ⟨(World.heap w17).size, 0, none⟩ = some (Value.int .i64 ur) := hv4 0
      have u_1 : World.cell? U4 ⟨(World.heap w17).size, 1, none⟩ = some (Value.int .i64 uc) := hv4 1
      have u_2 : World.cell? U4 ⟨(World.heap w17).size, 2, none⟩ = some (Value.slice U us.length ud) := hv4 2
      have uh := hs4
      clear hv4
      have hA1 := fun W h => sumAt_any ur uc U ud us ua ub W (by omega) h
      have hA2 := fun W h => specSumAt_any ur uc U ud us ua ub W (by omega) h
      obtain ⟨su, hsu⟩ : ∃ z, z = seli (SumOk ur uc us ua ub) (sumAt ua ub us) := ⟨_, rfl⟩
      obtain ⟨bu, hbu⟩ : ∃ z, z = tb (SumOk ur uc us ua ub) := ⟨_, rfl⟩
      rw [← hsu, ← hbu] at hA1 hA2
      have HA1 := Lib.hid hA1
      have HA2 := Lib.hid hA2
      clear hA1 hA2 hsu hbu
      go_wp2_with fail
      clear hU4
      ((with_reducible refine (HA1.out _ hU.fl).mono ?_); rintro e w19 ⟨rfl, hb19⟩)
      replace hA := hA.ext hb19
      replace hS := hS.ext hb19
      replace hU := hU.ext hb19
      replace s_0 := (hb19.cell (p := ⟨(World.heap w1).size, 0, none⟩) sh).trans s_0
      replace s_1 := (hb19.cell (p := ⟨(World.heap w1).size, 1, none⟩) sh).trans s_1
      replace s_2 := (hb19.cell (p := ⟨(World.heap w1).size, 2, none⟩) sh).trans s_2
      replace sh := Nat.lt_of_lt_of_le sh hb19.size
      replace t_0 := (hb19.cell (p := ⟨(World.heap E1).size, 0, none⟩) th).trans t_0
      replace t_1 := (hb19.cell (p := ⟨(World.heap E1).size, 1, none⟩) th).trans t_1
      replace t_2 := (hb19.cell (p := ⟨(World.heap E1).size, 2, none⟩) th).trans t_2
      replace th := Nat.lt_of_lt_of_le th hb19.size
      replace u_0 := (hb19.cell (p := ⟨(World.heap w17).size, 0, none⟩) uh).trans u_0
      replace u_1 := (hb19.cell (p := ⟨(World.heap w17).size, 1, none⟩) uh).trans u_1
      replace u_2 := (hb19.cell (p := ⟨(World.heap w17).size, 2, none⟩) uh).trans u_2
      replace uh := Nat.lt_of_lt_of_le uh hb19.size
      replace hB := ext_trans hB hb19
      have hz19 := hb19.size
      go_wp2_with fail
      ((with_reducible refine (HA2.out _ hU.fl).mono ?_); rintro e w20 ⟨rfl, hb20⟩)
      replace hA := hA.ext hb20
      replace hS := hS.ext hb20
      replace hU := hU.ext hb20
      replace s_0 := (hb20.cell (p := ⟨(World.heap w1).size, 0, none⟩) sh).trans s_0
      replace s_1 := (hb20.cell (p := ⟨(World.heap w1).size, 1, none⟩) sh).trans s_1
      replace s_2 := (hb20.cell (p := ⟨(World.heap w1).size, 2, none⟩) sh).trans s_2
      replace sh := Nat.lt_of_lt_of_le sh hb20.size
      replace t_0 := (hb20.cell (p := ⟨(World.heap E1).size, 0, none⟩) th).trans t_0
      replace t_1 := (hb20.cell (p := ⟨(World.heap E1).size, 1, none⟩) th).trans t_1
      replace t_2 := (hb20.cell (p := ⟨(World.heap E1).size, 2, none⟩) th).trans t_2
      replace th := Nat.lt_of_lt_of_le th hb20.size
      replace u_0 := (hb20.cell (p := ⟨(World.heap w17).size, 0, none⟩) uh).trans u_0
      replace u_1 := (hb20.cell (p := ⟨(World.heap w17).size, 1, none⟩) uh).trans u_1
      replace u_2 := (hb20.cell (p := ⟨(World.heap w17).size, 2, none⟩) uh).trans u_2
      replace uh := Nat.lt_of_lt_of_le uh hb20.size
      replace hB := ext_trans hB hb20
      have hz20 := hb20.size
      go_wp2_with fail
      ((with_reducible refine (HD1.out _ hS.fl).mono ?_); rintro e w21 ⟨L1, k1, rfl, hL1, hb21⟩)
      replace hA := hA.ext hb21
      replace hS := hS.ext hb21
      replace hU := hU.ext hb21
      replace s_0 := (hb21.cell (p := ⟨(World.heap w1).size, 0, none⟩) sh).trans s_0
      replace s_1 := (hb21.cell (p := ⟨(World.heap w1).size, 1, none⟩) sh).trans s_1
      replace s_2 := (hb21.cell (p := ⟨(World.heap w1).size, 2, none⟩) sh).trans s_2
      replace sh := Nat.lt_of_lt_of_le sh hb21.size
      replace t_0 := (hb21.cell (p := ⟨(World.heap E1).size, 0, none⟩) th).trans t_0
      replace t_1 := (hb21.cell (p := ⟨(World.heap E1).size, 1, none⟩) th).trans t_1
      replace t_2 := (hb21.cell (p := ⟨(World.heap E1).size, 2, none⟩) th).trans t_2
      replace th := Nat.lt_of_lt_of_le th hb21.size
      replace u_0 := (hb21.cell (p := ⟨(World.heap w17).size, 0, none⟩) uh).trans u_0
      replace u_1 := (hb21.cell (p := ⟨(World.heap w17).size, 1, none⟩) uh).trans u_1
      replace u_2 := (hb21.cell (p := ⟨(World.heap w17).size, 2, none⟩) uh).trans u_2
      replace uh := Nat.lt_of_lt_of_le uh hb21.size
      replace hB := ext_trans hB hb21
      have hz21 := hb21.size
      go_wp2_with fail
      ((with_reducible refine (HD2.out _ hS.fl).mono ?_); rintro e w22 ⟨L2, k2, rfl, hL2, hb22⟩)
      replace hA := hA.ext hb22
      replace hS := hS.ext hb22
      replace hU := hU.ext hb22
      replace hL1 := hL1.ext hb22
      replace s_0 := (hb22.cell (p := ⟨(World.heap w1).size, 0, none⟩) sh).trans s_0
      replace s_1 := (hb22.cell (p := ⟨(World.heap w1).size, 1, none⟩) sh).trans s_1
      replace s_2 := (hb22.cell (p := ⟨(World.heap w1).size, 2, none⟩) sh).trans s_2
      replace sh := Nat.lt_of_lt_of_le sh hb22.size
      replace t_0 := (hb22.cell (p := ⟨(World.heap E1).size, 0, none⟩) th).trans t_0
      replace t_1 := (hb22.cell (p := ⟨(World.heap E1).size, 1, none⟩) th).trans t_1
      replace t_2 := (hb22.cell (p := ⟨(World.heap E1).size, 2, none⟩) th).trans t_2
      replace th := Nat.lt_of_lt_of_le th hb22.size
      replace u_0 := (hb22.cell (p := ⟨(World.heap w17).size, 0, none⟩) uh).trans u_0
      replace u_1 := (hb22.cell (p := ⟨(World.heap w17).size, 1, none⟩) uh).trans u_1
      replace u_2 := (hb22.cell (p := ⟨(World.heap w17).size, 2, none⟩) uh).trans u_2
      replace uh := Nat.lt_of_lt_of_le uh hb22.size
      replace hB := ext_trans hB hb22
      have hz22 := hb22.size
      go_wp2_with fail
      ((with_reducible refine (HT1.out _ hS.fl).mono ?_); rintro e w23 ⟨rfl, hb23⟩)
      replace hA := hA.ext hb23
      replace hS := hS.ext hb23
      replace hU := hU.ext hb23
      replace hL1 := hL1.ext hb23
      replace hL2 := hL2.ext hb23
      replace s_0 := (hb23.cell (p := ⟨(World.heap w1).size, 0, none⟩) sh).trans s_0
      replace s_1 := (hb23.cell (p := ⟨(World.heap w1).size, 1, none⟩) sh).trans s_1
      replace s_2 := (hb23.cell (p := ⟨(World.heap w1).size, 2, none⟩) sh).trans s_2
      replace sh := Nat.lt_of_lt_of_le sh hb23.size
      replace t_0 := (hb23.cell (p := ⟨(World.heap E1).size, 0, none⟩) th).trans t_0
      replace t_1 := (hb23.cell (p := ⟨(World.heap E1).size, 1, none⟩) th).trans t_1
      replace t_2 := (hb23.cell (p := ⟨(World.heap E1).size, 2, none⟩) th).trans t_2
      replace th := Nat.lt_of_lt_of_le th hb23.size
      replace u_0 := (hb23.cell (p := ⟨(World.heap w17).size, 0, none⟩) uh).trans u_0
      replace u_1 := (hb23.cell (p := ⟨(World.heap w17).size, 1, none⟩) uh).trans u_1
      replace u_2 := (hb23.cell (p := ⟨(World.heap w17).size, 2, none⟩) uh).trans u_2
      replace uh := Nat.lt_of_lt_of_le uh hb23.size
      replace hB := ext_trans hB hb23
      have hz23 := hb23.size
      go_wp2_with fail
      ((with_reducible refine (HT2.out _ hS.fl).mono ?_); rintro e w24 ⟨rfl, hb24⟩)
      replace hA := hA.ext hb24
      replace hS := hS.ext hb24
      replace hU := hU.ext hb24
      replace hL1 := hL1.ext hb24
      replace hL2 := hL2.ext hb24
      replace s_0 := (hb24.cell (p := ⟨(World.heap w1).size, 0, none⟩) sh).trans s_0
      replace s_1 := (hb24.cell (p := ⟨(World.heap w1).size, 1, none⟩) sh).trans s_1
      replace s_2 := (hb24.cell (p := ⟨(World.heap w1).size, 2, none⟩) sh).trans s_2
      replace sh := Nat.lt_of_lt_of_le sh hb24.size
      replace t_0 := (hb24.cell (p := ⟨(World.heap E1).size, 0, none⟩) th).trans t_0
      replace t_1 := (hb24.cell (p := ⟨(World.heap E1).size, 1, none⟩) th).trans t_1
      replace t_2 := (hb24.cell (p := ⟨(World.heap E1).size, 2, none⟩) th).trans t_2
      replace th := Nat.lt_of_lt_of_le th hb24.size
      replace u_0 := (hb24.cell (p := ⟨(World.heap w17).size, 0, none⟩) uh).trans u_0
      replace u_1 := (hb24.cell (p := ⟨(World.heap w17).size, 1, none⟩) uh).trans u_1
      replace u_2 := (hb24.cell (p := ⟨(World.heap w17).size, 2, none⟩) uh).trans u_2
      replace uh := Nat.lt_of_lt_of_le uh hb24.size
      replace hB := ext_trans hB hb24
      have hz24 := hb24.size
      have z1 : (qs == qs) = true := by simp
      have z2 : (bs == bs) = true := by simp
      have z3 : (su == su) = true := by simp
      have z4 : (bu == bu) = true := by simp
      have hpc := plus_cell w24
      have HI9 := Lib.hid (fun W (hb : Below (World.heap w24).size w24 W) => rInts_same L1 L2 k1 k2 ds W (by omega) (hL1.ext hb).fl (hL2.ext hb).fl)
      have HO3 := Lib.hid (fun W (hb : Below (World.heap w24).size w24 W) => HO1.out W (hS.ext hb).fl)
      have HO4 := Lib.hid (fun W (hb : Below (World.heap w24).size w24 W) => HO2.out W (hS.ext hb).fl)
      go_upto_region 32 with fail
      refine wp_region_grow (by kernel_rfl) (by kernel_rfl) ?_
      repeat (go_big_quiet_step ((first | (go_at_call 25; exact quiet_below (HI9.out _ (plus_below _ _))) | (go_at_call 35; exact quiet_below (HO3.out _ (plus_below _ _))) | (go_at_call 36; exact quiet_below (HO4.out _ (plus_below _ _))))))
      refine wpQuiet_nil ?_
      intro w1 hb1
      go_wp2
      go_ret
      exact ⟨rfl, ext_trans hB hb1⟩

set_option maxRecDepth 100000 in
theorem FnScans_holds : Rows.FnScansSaid :=
  OpenClaim.holds_of_wide 4 Try.f4 rfl rfl rfl rfl rfl rfl rfl ⟨rfl, rfl, rfl, rfl, rfl⟩ rfl rfl rfl rfl rfl (by kernel_rfl) Try.func4 (by kernel_rfl)
    (of_decide_eq_true (by kernel_rfl)) (by unfold Func.isWrapper; first | (rw [if_pos (by decide +kernel)]; kernel_rfl) | (rw [if_neg (by decide +kernel)]; exact ⟨rfl, rfl⟩))
    (fun os started H enc _ => by
      refine law_lifted (s := Rows.fnScansSpec) (conds := []) os started H enc (by kernel_rfl) Try.func4 (by kernel_rfl) rfl rfl Try.underlying4
        (ChangeSpec.witness6 (enc := enc) (C := Try.checked) false ⟨#[], #[.slice none 0 0], []⟩ 8 (by kernel_rfl) (by kernel_rfl) (by kernel_rfl) (by kernel_rfl)) ?_
      intro W base args ds ps hval hA
      rw [Try.params4] at hA hval
      obtain ⟨v0, vs0, d0, ds0, p0, q0, hargs, rfl, rfl, h0, r0⟩ := trodAll_cons hA
      obtain ⟨rfl, rfl, rfl⟩ := trodAll_nil r0
      obtain rfl : args = #[v0] := by cases args; simp_all
      refine ⟨rfl, ?_⟩
      obtain ⟨A0, n0, c0, rfl, hm0, hb0⟩ := open_bytes Try.underlying22 Try.underlying5 (by kernel_rfl) (hval 0 22 v0 rfl rfl) h0
      exact fnScans_any A0 n0 c0 W hm0 hb0)
end Go.Proofs.Ytjacadkbkkkgfaa
