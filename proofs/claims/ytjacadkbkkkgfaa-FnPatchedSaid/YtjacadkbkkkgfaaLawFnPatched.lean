/- The great law FnPatched. No condition. -/
import Derived.Test.YtjacadkbkkkgfaaLaw
import Derived.Test.YtjacadkbkkkgfaaOpen
import Derived.Test.YtjacadkbkkkgfaaOpB
import Derived.Test.YtjacadkbkkkgfaaDrPat
import Derived.Test.YtjacadkbkkkgfaaDrBes
import Derived.Test.YtjacadkbkkkgfaaDrCrop
import Derived.Test.YtjacadkbkkkgfaaRTil
import Derived.Test.YtjacadkbkkkgfaaFamInt
import Derived.Test.YtjacadkbkkkgfaaFamRows
import Derived.Test.YtjacadkbkkkgfaaFamScan
import Derived.Test.YtjacadkbkkkgfaaScPb
import Derived.Test.YtjacadkbkkkgfaaOthI
import Derived.Test.YtjacadkbkkkgfaaOthS
import Derived.Test.YtjacadkbkkkgfaaPatI
import Derived.Test.YtjacadkbkkkgfaaPatS
import Derived.Test.YtjacadkbkkkgfaaBesI
import Derived.Test.YtjacadkbkkkgfaaBesS
import Derived.Test.YtjacadkbkkkgfaaCropI
import Derived.Test.YtjacadkbkkkgfaaCropS
import Derived.Test.YtjacadkbkkkgfaaSumAt
import Derived.Test.YtjacadkbkkkgfaaLst
import Derived.Lib.SmallJoins
import Derived.Deep.DeepCutAuto
import Derived.Deep.RegionLaw
namespace Go.Proofs.Ytjacadkbkkkgfaa
open Go.ChangeShapes Go.WideShapes Go.ChangeAt Go.RowKit Go.Joins
set_option linter.unusedVariables false
set_option linter.unusedSimpArgs false

set_option maxHeartbeats 16000000 in
set_option maxRecDepth 100000 in
theorem fnPatched_any (A : Option Addr) (n cap : Nat) (w : World) (hm : n ≤ 9223372036854775807) (hA : Bytes w A n) :
    Calls Try.prog 3 #[.slice A n cap] w fun e w' => e = .returned (.bool true) ∧ Below w.heap.size w w' := by
  by_cases hbig : 65536 < (n : Int)
  · go_enter Try.func3, Try.ntmps3
    go_wp2_with fail
    ((with_reducible refine (rBig_any A n cap w _ Iff.rfl).mono ?_); rintro e w9 ⟨rfl, rfl⟩)
    rw [tb_t hbig]
    go_wp2
    go_ret
    exact ⟨rfl, Below.refl _ _⟩
  · have hn16 : n ≤ 1099511627776 := by omega
    have hB := Below.refl w.heap.size w
    go_enter Try.func3, Try.ntmps3
    go_wp2_with fail
    ((with_reducible refine (rBig_any A n cap w _ Iff.rfl).mono ?_); rintro e w9 ⟨rfl, rfl⟩)
    rw [tb_f (show ¬ 65536 < (n : Int) by omega)]
    clear hbig hm
    go_wp2_with fail
    ((with_reducible refine (drawPatchScan_any A n cap w hA hn16).mono ?_); rintro e w1 ⟨ra, ca, S, sd, xs, rb, cb, T, td, bs, rfl, hal, hbl, hS, hT, hb1⟩)
    replace hA := hA.ext hb1
    replace hB := ext_trans hB hb1
    have hz1 := hb1.size
    obtain ⟨E1, hE1, hD1, hs1, hv1, _⟩ := box_world w1 #[Value.int .i64 0, Value.int .i64 0, Value.slice none 0 0] 26
    have va1 : Var3 E1 (World.heap w1).size (.int .i64 0) (.int .i64 0) (.slice none 0 0) := hE1 ▸ var3_box w1 _ _ _ _
    obtain ⟨F1, hF1, hG1, hr1, hw1, _⟩ := box_world E1 #[Value.int .i64 0, Value.int .i64 0, Value.slice none 0 0] 26
    have vb1 : Var3 F1 (World.heap E1).size (.int .i64 0) (.int .i64 0) (.slice none 0 0) := hF1 ▸ var3_box E1 _ _ _ _
    have vc1 := va1.ext hG1
    have g0 := vc1.c0
    have g1 := vc1.c1
    have g2 := vc1.c2
    have gz := vc1.fz
    have gl := vc1.lt
    have e0 := vb1.c0
    have e1 := vb1.c1
    have e2 := vb1.c2
    have ez := vb1.fz
    have el := vb1.lt
    obtain ⟨U1, hU1⟩ : ∃ z, z = ((((((F1.setCell ⟨(World.heap w1).size, 0, none⟩ (Value.int .i64 ra)).setCell ⟨(World.heap w1).size, 1, none⟩ (Value.int .i64 ca)).setCell ⟨(World.heap w1).size, 2, none⟩ (Value.slice S xs.length sd)).setCell ⟨(World.heap E1).size, 0, none⟩ (Value.int .i64 rb)).setCell ⟨(World.heap E1).size, 1, none⟩ (Value.int .i64 cb)).setCell ⟨(World.heap E1).size, 2, none⟩ (Value.slice T bs.length td)) := ⟨_, rfl⟩
    have ta1 := set3_touch F1 (World.heap w1).size (Value.int .i64 ra) (Value.int .i64 ca) (Value.slice S xs.length sd)
    have tz1 := set3_touch (((F1.setCell ⟨(World.heap w1).size, 0, none⟩ (Value.int .i64 ra)).setCell ⟨(World.heap w1).size, 1, none⟩ (Value.int .i64 ca)).setCell ⟨(World.heap w1).size, 2, none⟩ (Value.slice S xs.length sd)) (World.heap E1).size (Value.int .i64 rb) (Value.int .i64 cb) (Value.slice T bs.length td)
    have vd1 := (vc1.set3 (Value.int .i64 ra) (Value.int .i64 ca) (Value.slice S xs.length sd)).touch tz1 (.inl hs1)
    have ve1 := (vb1.touch ta1 (.inr hs1)).set3 (Value.int .i64 rb) (Value.int .i64 cb) (Value.slice T bs.length td)
    have hDU1 : Below (World.heap w1).size w1 U1 := hU1 ▸ tz1.below (ta1.below (ext_trans hD1 hG1) (Nat.le_refl _)) (Nat.le_of_lt hs1)
    rw [← hU1] at vd1 ve1
    clear hv1 hw1 ta1 tz1 va1 vb1 vc1
    go_upto_region 4 with fail
    rw [← hU1]
    clear hU1 hE1 hF1 g0 g1 g2 gz gl e0 e1 e2 ez el hD1 hG1
    replace hA := hA.ext hDU1
    replace hS := hS.ext hDU1
    replace hT := hT.ext hDU1
    replace hB := ext_trans hB hDU1
    have hz2 := hDU1.size
    have a_0 := vd1.c0
    have a_1 := vd1.c1
    have a_2 := vd1.c2
    have ah := vd1.lt
    have b_0 := ve1.c0
    have b_1 := ve1.c1
    have b_2 := ve1.c2
    have bh := ve1.lt
    clear vd1 ve1
    have hI := fun W h k => patchScan_any ra ca rb cb S sd xs T td bs W (by omega) h (by omega) k
    have hJ := fun W h k => specPatchScan_any ra ca rb cb S sd xs T td bs W (by omega) h (by omega) k
    obtain ⟨ys, hg_ys⟩ : ∃ z, z = sel (AlikeS ra ca xs rb cb bs) (patchL id xs bs) := ⟨_, rfl⟩
    obtain ⟨rr, hg_rr⟩ : ∃ z, z = seli (AlikeS ra ca xs rb cb bs) ra := ⟨_, rfl⟩
    obtain ⟨cc, hg_cc⟩ : ∃ z, z = seli (AlikeS ra ca xs rb cb bs) ca := ⟨_, rfl⟩
    obtain ⟨ok, hg_ok⟩ : ∃ z, z = tb (AlikeS ra ca xs rb cb bs) := ⟨_, rfl⟩
    simp only [← hg_ys, ← hg_rr, ← hg_cc, ← hg_ok] at hI hJ
    have HI := Lib.hid hI
    have HJ := Lib.hid hJ
    have HG_ys := Lib.hid hg_ys
    have HG_rr := Lib.hid hg_rr
    have HG_cc := Lib.hid hg_cc
    have HG_ok := Lib.hid hg_ok
    clear hI hJ hg_ys hg_rr hg_cc hg_ok
    have hK := fun W h k => otherTiles_any ra ca rb cb S sd xs T td bs W (by omega) h (by omega) k
    have hL := fun W h k => specOtherTiles_any ra ca rb cb S sd xs T td bs W (by omega) h (by omega) k
    obtain ⟨os, hg_os⟩ : ∃ z, z = sel (AlikeS ra ca xs rb cb bs) (gridS (otherP xs bs) ra ca) := ⟨_, rfl⟩
    obtain ⟨ok2, hg_ok2⟩ : ∃ z, z = tb (AlikeS ra ca xs rb cb bs) := ⟨_, rfl⟩
    simp only [← hg_os, ← hg_ok2] at hK hL
    have HK := Lib.hid hK
    have HL := Lib.hid hL
    have HG_os := Lib.hid hg_os
    have HG_ok2 := Lib.hid hg_ok2
    clear hK hL hg_os hg_ok2
    have hyl : ys.length ≤ 1048576 := HG_ys.out ▸ patch_sel (P := (AlikeS ra ca xs rb cb bs)) (ra := ra) (ca := ca) (rb := rb) (cb := cb) (fun h => ⟨h.1, h.2.1⟩)
    have how : rwt os ≤ 1048576 := HG_os.out ▸ grid_sel (P := (AlikeS ra ca xs rb cb bs)) (fun h => h.1.2)
    go_wp2_with fail
    ((with_reducible refine (HI.out _ hS.fl hT.fl).mono ?_); rintro e w3 ⟨R1, d1, rfl, hR1, hb3⟩)
    replace hA := hA.ext hb3
    replace hS := hS.ext hb3
    replace hT := hT.ext hb3
    replace a_0 := (hb3.cell (p := ⟨(World.heap w1).size, 0, none⟩) ah).trans a_0
    replace a_1 := (hb3.cell (p := ⟨(World.heap w1).size, 1, none⟩) ah).trans a_1
    replace a_2 := (hb3.cell (p := ⟨(World.heap w1).size, 2, none⟩) ah).trans a_2
    replace ah := Nat.lt_of_lt_of_le ah hb3.size
    replace b_0 := (hb3.cell (p := ⟨(World.heap E1).size, 0, none⟩) bh).trans b_0
    replace b_1 := (hb3.cell (p := ⟨(World.heap E1).size, 1, none⟩) bh).trans b_1
    replace b_2 := (hb3.cell (p := ⟨(World.heap E1).size, 2, none⟩) bh).trans b_2
    replace bh := Nat.lt_of_lt_of_le bh hb3.size
    replace hB := ext_trans hB hb3
    have hz3 := hb3.size
    obtain ⟨U2, hU2, hD2, hs2, hv2, _⟩ := box_world w3 #[Value.int .i64 rr, Value.int .i64 cc, Value.slice R1 ys.length d1] 26
    replace hA := hA.ext hD2
    replace hS := hS.ext hD2
    replace hT := hT.ext hD2
    replace hR1 := hR1.ext hD2
    replace a_0 := (hD2.cell (p := ⟨(World.heap w1).size, 0, none⟩) ah).trans a_0
    replace a_1 := (hD2.cell (p := ⟨(World.heap w1).size, 1, none⟩) ah).trans a_1
    replace a_2 := (hD2.cell (p := ⟨(World.heap w1).size, 2, none⟩) ah).trans a_2
    replace ah := Nat.lt_of_lt_of_le ah hD2.size
    replace b_0 := (hD2.cell (p := ⟨(World.heap E1).size, 0, none⟩) bh).trans b_0
    replace b_1 := (hD2.cell (p := ⟨(World.heap E1).size, 1, none⟩) bh).trans b_1
    replace b_2 := (hD2.cell (p := ⟨(World.heap E1).size, 2, none⟩) bh).trans b_2
    replace bh := Nat.lt_of_lt_of_le bh hD2.size
    replace hB := ext_trans hB hD2
    have hz4 := hD2.size
    have o_0 : World.cell? U2 ⟨(World.heap w3).size, 0, none⟩ = some (Value.int .i64 rr) := hv2 0
    have o_1 : World.cell? U2 ⟨(World.heap w3).size, 1, none⟩ = some (Value.int .i64 cc) := hv2 1
    have o_2 : World.cell? U2 ⟨(World.heap w3).size, 2, none⟩ = some (Value.slice R1 ys.length d1) := hv2 2
    have oh := hs2
    clear hv2
    go_wp2_with fail
    clear hU2
    ((with_reducible refine (HJ.out _ hS.fl hT.fl).mono ?_); rintro e w5 ⟨R2, d2, rfl, hR2, hb5⟩)
    replace hA := hA.ext hb5
    replace hS := hS.ext hb5
    replace hT := hT.ext hb5
    replace hR1 := hR1.ext hb5
    replace a_0 := (hb5.cell (p := ⟨(World.heap w1).size, 0, none⟩) ah).trans a_0
    replace a_1 := (hb5.cell (p := ⟨(World.heap w1).size, 1, none⟩) ah).trans a_1
    replace a_2 := (hb5.cell (p := ⟨(World.heap w1).size, 2, none⟩) ah).trans a_2
    replace ah := Nat.lt_of_lt_of_le ah hb5.size
    replace b_0 := (hb5.cell (p := ⟨(World.heap E1).size, 0, none⟩) bh).trans b_0
    replace b_1 := (hb5.cell (p := ⟨(World.heap E1).size, 1, none⟩) bh).trans b_1
    replace b_2 := (hb5.cell (p := ⟨(World.heap E1).size, 2, none⟩) bh).trans b_2
    replace bh := Nat.lt_of_lt_of_le bh hb5.size
    replace o_0 := (hb5.cell (p := ⟨(World.heap w3).size, 0, none⟩) oh).trans o_0
    replace o_1 := (hb5.cell (p := ⟨(World.heap w3).size, 1, none⟩) oh).trans o_1
    replace o_2 := (hb5.cell (p := ⟨(World.heap w3).size, 2, none⟩) oh).trans o_2
    replace oh := Nat.lt_of_lt_of_le oh hb5.size
    replace hB := ext_trans hB hb5
    have hz5 := hb5.size
    obtain ⟨U3, hU3, hD3, hs3, hv3, _⟩ := box_world w5 #[Value.int .i64 rr, Value.int .i64 cc, Value.slice R2 ys.length d2] 26
    replace hA := hA.ext hD3
    replace hS := hS.ext hD3
    replace hT := hT.ext hD3
    replace hR1 := hR1.ext hD3
    replace hR2 := hR2.ext hD3
    replace a_0 := (hD3.cell (p := ⟨(World.heap w1).size, 0, none⟩) ah).trans a_0
    replace a_1 := (hD3.cell (p := ⟨(World.heap w1).size, 1, none⟩) ah).trans a_1
    replace a_2 := (hD3.cell (p := ⟨(World.heap w1).size, 2, none⟩) ah).trans a_2
    replace ah := Nat.lt_of_lt_of_le ah hD3.size
    replace b_0 := (hD3.cell (p := ⟨(World.heap E1).size, 0, none⟩) bh).trans b_0
    replace b_1 := (hD3.cell (p := ⟨(World.heap E1).size, 1, none⟩) bh).trans b_1
    replace b_2 := (hD3.cell (p := ⟨(World.heap E1).size, 2, none⟩) bh).trans b_2
    replace bh := Nat.lt_of_lt_of_le bh hD3.size
    replace o_0 := (hD3.cell (p := ⟨(World.heap w3).size, 0, none⟩) oh).trans o_0
    replace o_1 := (hD3.cell (p := ⟨(World.heap w3).size, 1, none⟩) oh).trans o_1
    replace o_2 := (hD3.cell (p := ⟨(World.heap w3).size, 2, none⟩) oh).trans o_2
    replace oh := Nat.lt_of_lt_of_le oh hD3.size
    replace hB := ext_trans hB hD3
    have hz6 := hD3.size
    have p_0 : World.cell? U3 ⟨(World.heap w5).size, 0, none⟩ = some (Value.int .i64 rr) := hv3 0
    have p_1 : World.cell? U3 ⟨(World.heap w5).size, 1, none⟩ = some (Value.int .i64 cc) := hv3 1
    have p_2 : World.cell? U3 ⟨(World.heap w5).size, 2, none⟩ = some (Value.slice R2 ys.length d2) := hv3 2
    have ph := hs3
    clear hv3
    go_wp2_with fail
    clear hU3
    ((with_reducible refine (rScan_same rr cc _ _ _ _ ys _ (by omega) hR1.fl hR2.fl).mono ?_); rintro e w7 ⟨rfl, hb7⟩)
    replace hA := hA.ext hb7
    replace hS := hS.ext hb7
    replace hT := hT.ext hb7
    replace hR1 := hR1.ext hb7
    replace hR2 := hR2.ext hb7
    replace a_0 := (hb7.cell (p := ⟨(World.heap w1).size, 0, none⟩) ah).trans a_0
    replace a_1 := (hb7.cell (p := ⟨(World.heap w1).size, 1, none⟩) ah).trans a_1
    replace a_2 := (hb7.cell (p := ⟨(World.heap w1).size, 2, none⟩) ah).trans a_2
    replace ah := Nat.lt_of_lt_of_le ah hb7.size
    replace b_0 := (hb7.cell (p := ⟨(World.heap E1).size, 0, none⟩) bh).trans b_0
    replace b_1 := (hb7.cell (p := ⟨(World.heap E1).size, 1, none⟩) bh).trans b_1
    replace b_2 := (hb7.cell (p := ⟨(World.heap E1).size, 2, none⟩) bh).trans b_2
    replace bh := Nat.lt_of_lt_of_le bh hb7.size
    replace o_0 := (hb7.cell (p := ⟨(World.heap w3).size, 0, none⟩) oh).trans o_0
    replace o_1 := (hb7.cell (p := ⟨(World.heap w3).size, 1, none⟩) oh).trans o_1
    replace o_2 := (hb7.cell (p := ⟨(World.heap w3).size, 2, none⟩) oh).trans o_2
    replace oh := Nat.lt_of_lt_of_le oh hb7.size
    replace p_0 := (hb7.cell (p := ⟨(World.heap w5).size, 0, none⟩) ph).trans p_0
    replace p_1 := (hb7.cell (p := ⟨(World.heap w5).size, 1, none⟩) ph).trans p_1
    replace p_2 := (hb7.cell (p := ⟨(World.heap w5).size, 2, none⟩) ph).trans p_2
    replace ph := Nat.lt_of_lt_of_le ph hb7.size
    replace hB := ext_trans hB hb7
    have hz7 := hb7.size
    clear p_0 p_1 p_2 ph hR2
    go_wp2_with fail
    ((with_reducible refine (HK.out _ hS.fl hT.fl).mono ?_); rintro e w8 ⟨M1, e1, rfl, hM1, hb8⟩)
    replace hA := hA.ext hb8
    replace hS := hS.ext hb8
    replace hT := hT.ext hb8
    replace hR1 := hR1.ext hb8
    replace a_0 := (hb8.cell (p := ⟨(World.heap w1).size, 0, none⟩) ah).trans a_0
    replace a_1 := (hb8.cell (p := ⟨(World.heap w1).size, 1, none⟩) ah).trans a_1
    replace a_2 := (hb8.cell (p := ⟨(World.heap w1).size, 2, none⟩) ah).trans a_2
    replace ah := Nat.lt_of_lt_of_le ah hb8.size
    replace b_0 := (hb8.cell (p := ⟨(World.heap E1).size, 0, none⟩) bh).trans b_0
    replace b_1 := (hb8.cell (p := ⟨(World.heap E1).size, 1, none⟩) bh).trans b_1
    replace b_2 := (hb8.cell (p := ⟨(World.heap E1).size, 2, none⟩) bh).trans b_2
    replace bh := Nat.lt_of_lt_of_le bh hb8.size
    replace o_0 := (hb8.cell (p := ⟨(World.heap w3).size, 0, none⟩) oh).trans o_0
    replace o_1 := (hb8.cell (p := ⟨(World.heap w3).size, 1, none⟩) oh).trans o_1
    replace o_2 := (hb8.cell (p := ⟨(World.heap w3).size, 2, none⟩) oh).trans o_2
    replace oh := Nat.lt_of_lt_of_le oh hb8.size
    replace hB := ext_trans hB hb8
    have hz8 := hb8.size
    go_wp2_with fail
    ((with_reducible refine (HL.out _ hS.fl hT.fl).mono ?_); rintro e w9 ⟨M2, e2, rfl, hM2, hb9⟩)
    replace hA := hA.ext hb9
    replace hS := hS.ext hb9
    replace hT := hT.ext hb9
    replace hR1 := hR1.ext hb9
    replace hM1 := hM1.ext hb9
    replace a_0 := (hb9.cell (p := ⟨(World.heap w1).size, 0, none⟩) ah).trans a_0
    replace a_1 := (hb9.cell (p := ⟨(World.heap w1).size, 1, none⟩) ah).trans a_1
    replace a_2 := (hb9.cell (p := ⟨(World.heap w1).size, 2, none⟩) ah).trans a_2
    replace ah := Nat.lt_of_lt_of_le ah hb9.size
    replace b_0 := (hb9.cell (p := ⟨(World.heap E1).size, 0, none⟩) bh).trans b_0
    replace b_1 := (hb9.cell (p := ⟨(World.heap E1).size, 1, none⟩) bh).trans b_1
    replace b_2 := (hb9.cell (p := ⟨(World.heap E1).size, 2, none⟩) bh).trans b_2
    replace bh := Nat.lt_of_lt_of_le bh hb9.size
    replace o_0 := (hb9.cell (p := ⟨(World.heap w3).size, 0, none⟩) oh).trans o_0
    replace o_1 := (hb9.cell (p := ⟨(World.heap w3).size, 1, none⟩) oh).trans o_1
    replace o_2 := (hb9.cell (p := ⟨(World.heap w3).size, 2, none⟩) oh).trans o_2
    replace oh := Nat.lt_of_lt_of_le oh hb9.size
    replace hB := ext_trans hB hb9
    have hz9 := hb9.size
    go_wp2_with fail
    ((with_reducible refine (rTable_same _ _ _ _ os _ (by omega) hM1.gl hM2.gl).mono ?_); rintro e w10 ⟨rfl, hb10⟩)
    replace hA := hA.ext hb10
    replace hS := hS.ext hb10
    replace hT := hT.ext hb10
    replace hR1 := hR1.ext hb10
    replace hM1 := hM1.ext hb10
    replace hM2 := hM2.ext hb10
    replace a_0 := (hb10.cell (p := ⟨(World.heap w1).size, 0, none⟩) ah).trans a_0
    replace a_1 := (hb10.cell (p := ⟨(World.heap w1).size, 1, none⟩) ah).trans a_1
    replace a_2 := (hb10.cell (p := ⟨(World.heap w1).size, 2, none⟩) ah).trans a_2
    replace ah := Nat.lt_of_lt_of_le ah hb10.size
    replace b_0 := (hb10.cell (p := ⟨(World.heap E1).size, 0, none⟩) bh).trans b_0
    replace b_1 := (hb10.cell (p := ⟨(World.heap E1).size, 1, none⟩) bh).trans b_1
    replace b_2 := (hb10.cell (p := ⟨(World.heap E1).size, 2, none⟩) bh).trans b_2
    replace bh := Nat.lt_of_lt_of_le bh hb10.size
    replace o_0 := (hb10.cell (p := ⟨(World.heap w3).size, 0, none⟩) oh).trans o_0
    replace o_1 := (hb10.cell (p := ⟨(World.heap w3).size, 1, none⟩) oh).trans o_1
    replace o_2 := (hb10.cell (p := ⟨(World.heap w3).size, 2, none⟩) oh).trans o_2
    replace oh := Nat.lt_of_lt_of_le oh hb10.size
    replace hB := ext_trans hB hb10
    have hz10 := hb10.size
    clear hM1 hM2
    go_upto_if 88 with fail
    go_cut [] (fun wx => Below (World.heap w10).size w10 wx)
    case first =>
      by_cases hAL : (AlikeS ra ca xs rb cb bs)
      · skip
        obtain ⟨f1, f2, f3, f4⟩ := patch_facts hAL
        have hy : ys = patchL id xs bs := by rw [HG_ys.out, sel_t hAL]
        obtain rfl : rr = ra := by rw [HG_rr.out, seli_t hAL]
        obtain rfl : cc = ca := by rw [HG_cc.out, seli_t hAL]
        obtain rfl : ok = true := by rw [HG_ok.out, tb_t hAL]
        rw [← hy] at f1 f2 f3 f4
        have hSA : ∀ t ∈ bs, ∀ W : World, Fl Tile.ints 3 W R1 ys → Calls Try.prog 13 #[.agg #[.int .i64 rr, .int .i64 cc, .slice R1 ys.length d1], .int .i64 t.row, .int .i64 t.col] W fun e w' => e = .returned (.tuple #[.int .i64 t.sum, .bool true]) ∧ Below W.heap.size W w' := fun t ht W h => by
          have q := sumAt_any rr cc R1 d1 ys t.row t.col W hyl h
          obtain ⟨k1, k2⟩ := f2 t ht
          rw [seli_t k1, tb_t k1, k2] at q
          exact q
        have hAA : AlikeS rr cc xs rr cc xs := ⟨hAL.1, hAL.1, rfl, rfl⟩
        have hNO := fun W h => otherTiles_any rr cc rr cc S sd xs S sd xs W (by omega) h (by omega) h
        have hAG := fun W h k => patchScan_any rr cc rb cb R1 d1 ys T td bs W hyl h (by omega) k
        simp only [sel_t hAA, tb_t hAA, gridS, other_self] at hNO
        simp only [sel_t f4, seli_t f4, tb_t f4, f3] at hAG
        have HSA := Lib.hid hSA
        have HNO := Lib.hid hNO
        have HAG := Lib.hid hAG
        clear hSA hNO hAG f1 f2 f3 f4 hy hAL hAA
        go_wp2_with fail
        go_loopw [13, 14, 15] (fun i _ _ wr => ∃ k : Nat, k ≤ bs.length ∧ i = .int .i64 (k : Int) ∧ Below (World.heap w10).size w10 wr) (fun i _ _ _ => bs.length - (intOf i).toNat)
        case atStart => exact ⟨0, by omega, rfl, Below.refl _ _⟩
        case round =>
          obtain ⟨k, hk, rfl, hbr⟩ := hrel
          have o0 := (hbr.cell (p := ⟨(World.heap w3).size, 0, none⟩) oh).trans o_0
          have o1 := (hbr.cell (p := ⟨(World.heap w3).size, 1, none⟩) oh).trans o_1
          have o2 := (hbr.cell (p := ⟨(World.heap w3).size, 2, none⟩) oh).trans o_2
          have b2 := (hbr.cell (p := ⟨(World.heap E1).size, 2, none⟩) bh).trans b_2
          have ol := Nat.lt_of_lt_of_le oh hbr.size
          have bl := Nat.lt_of_lt_of_le bh hbr.size
          by_cases hlt : k < bs.length
          · obtain ⟨x, b, o, hx, rfl, hbq, hc⟩ := ((hT.fl.ext hbr).at_ (k := k) hlt)
            have HSX := Lib.hid (fun W h => HSA.out x (List.mem_of_getElem? hx) W h)
            have HR1 := Lib.hid (hR1.fl.ext hbr)
            have c0 : World.cell? wr ⟨b, o + k * 3, none⟩ = some (.int .i64 x.row) := by simpa using hc 0 x.row rfl
            have c1 : World.cell? wr ⟨b, o + k * 3 + 1, none⟩ = some (.int .i64 x.col) := by simpa using hc 1 x.col rfl
            have c2 : World.cell? wr ⟨b, o + k * 3 + 2, none⟩ = some (.int .i64 x.sum) := by simpa using hc 2 x.sum rfl
            have hk0 : (0 : Int) ≤ (k : Int) := by omega
            have hk1 : (k : Int) < (bs.length : Int) := by omega
            obtain ⟨m, hm⟩ : ∃ z, z = bs.length := ⟨_, rfl⟩
            rw [← hm] at hk1 b2 ⊢
            have HM := Lib.hid hm
            have hpc := plus_cell wr
            clear hc hx hm
            go_wp2_with fail
            go_upto_region 16 with fail
            refine wp_region_grow (by kernel_rfl) (by kernel_rfl) ?_
            repeat (go_big_quiet_step ((first | (go_at_call 13; exact quiet_below (HSX.out _ (HR1.out.ext (plus_below _ _)))))))
            refine wpQuiet_nil ?_
            intro w1 hb1
            obtain ⟨wv, hwv⟩ : ∃ z, z = w1 := ⟨_, rfl⟩
            subst hwv
            have d2 := (hb1.cell (p := ⟨b, o + k * 3 + 2, none⟩) hbq).trans c2
            have e2 := (hb1.cell (p := ⟨(World.heap E1).size, 2, none⟩) bl).trans b2
            have el := Nat.lt_of_lt_of_le bl hb1.size
            clear hpc o0 o1 o2 b2 c0 c1 c2
            go_wp2
            go_roundw
            case rel => exact ⟨k + 1, by omega, by go_num, ext_trans hbr hb1⟩
            case measure => simp [intOf]; omega
          · have hkn : bs.length = k := by omega
            obtain ⟨w11, hwz⟩ : ∃ z, z = wr := ⟨_, rfl⟩
            subst hwz
            clear o0 o1 o2 b2 ol bl hkn
            replace hA := hA.ext hbr
            replace hS := hS.ext hbr
            replace hT := hT.ext hbr
            replace hR1 := hR1.ext hbr
            replace a_0 := (hbr.cell (p := ⟨(World.heap w1).size, 0, none⟩) ah).trans a_0
            replace a_1 := (hbr.cell (p := ⟨(World.heap w1).size, 1, none⟩) ah).trans a_1
            replace a_2 := (hbr.cell (p := ⟨(World.heap w1).size, 2, none⟩) ah).trans a_2
            replace ah := Nat.lt_of_lt_of_le ah hbr.size
            replace b_0 := (hbr.cell (p := ⟨(World.heap E1).size, 0, none⟩) bh).trans b_0
            replace b_1 := (hbr.cell (p := ⟨(World.heap E1).size, 1, none⟩) bh).trans b_1
            replace b_2 := (hbr.cell (p := ⟨(World.heap E1).size, 2, none⟩) bh).trans b_2
            replace bh := Nat.lt_of_lt_of_le bh hbr.size
            replace o_0 := (hbr.cell (p := ⟨(World.heap w3).size, 0, none⟩) oh).trans o_0
            replace o_1 := (hbr.cell (p := ⟨(World.heap w3).size, 1, none⟩) oh).trans o_1
            replace o_2 := (hbr.cell (p := ⟨(World.heap w3).size, 2, none⟩) oh).trans o_2
            replace oh := Nat.lt_of_lt_of_le oh hbr.size
            replace hB := ext_trans hB hbr
            have hz11 := hbr.size
            go_wp2_with fail
            ((with_reducible refine (HNO.out _ hS.fl).mono ?_); rintro e w12 ⟨N1, n1, rfl, hN1, hb12⟩)
            replace hA := hA.ext hb12
            replace hS := hS.ext hb12
            replace hT := hT.ext hb12
            replace hR1 := hR1.ext hb12
            replace a_0 := (hb12.cell (p := ⟨(World.heap w1).size, 0, none⟩) ah).trans a_0
            replace a_1 := (hb12.cell (p := ⟨(World.heap w1).size, 1, none⟩) ah).trans a_1
            replace a_2 := (hb12.cell (p := ⟨(World.heap w1).size, 2, none⟩) ah).trans a_2
            replace ah := Nat.lt_of_lt_of_le ah hb12.size
            replace b_0 := (hb12.cell (p := ⟨(World.heap E1).size, 0, none⟩) bh).trans b_0
            replace b_1 := (hb12.cell (p := ⟨(World.heap E1).size, 1, none⟩) bh).trans b_1
            replace b_2 := (hb12.cell (p := ⟨(World.heap E1).size, 2, none⟩) bh).trans b_2
            replace bh := Nat.lt_of_lt_of_le bh hb12.size
            replace o_0 := (hb12.cell (p := ⟨(World.heap w3).size, 0, none⟩) oh).trans o_0
            replace o_1 := (hb12.cell (p := ⟨(World.heap w3).size, 1, none⟩) oh).trans o_1
            replace o_2 := (hb12.cell (p := ⟨(World.heap w3).size, 2, none⟩) oh).trans o_2
            replace oh := Nat.lt_of_lt_of_le oh hb12.size
            replace hB := ext_trans hB hb12
            have hz12 := hb12.size
            go_wp2_with fail
            ((with_reducible refine (HAG.out _ hR1.fl hT.fl).mono ?_); rintro e w13 ⟨G1, g1, rfl, hG1, hb13⟩)
            replace hA := hA.ext hb13
            replace hS := hS.ext hb13
            replace hT := hT.ext hb13
            replace hR1 := hR1.ext hb13
            replace a_0 := (hb13.cell (p := ⟨(World.heap w1).size, 0, none⟩) ah).trans a_0
            replace a_1 := (hb13.cell (p := ⟨(World.heap w1).size, 1, none⟩) ah).trans a_1
            replace a_2 := (hb13.cell (p := ⟨(World.heap w1).size, 2, none⟩) ah).trans a_2
            replace ah := Nat.lt_of_lt_of_le ah hb13.size
            replace b_0 := (hb13.cell (p := ⟨(World.heap E1).size, 0, none⟩) bh).trans b_0
            replace b_1 := (hb13.cell (p := ⟨(World.heap E1).size, 1, none⟩) bh).trans b_1
            replace b_2 := (hb13.cell (p := ⟨(World.heap E1).size, 2, none⟩) bh).trans b_2
            replace bh := Nat.lt_of_lt_of_le bh hb13.size
            replace o_0 := (hb13.cell (p := ⟨(World.heap w3).size, 0, none⟩) oh).trans o_0
            replace o_1 := (hb13.cell (p := ⟨(World.heap w3).size, 1, none⟩) oh).trans o_1
            replace o_2 := (hb13.cell (p := ⟨(World.heap w3).size, 2, none⟩) oh).trans o_2
            replace oh := Nat.lt_of_lt_of_le oh hb13.size
            replace hB := ext_trans hB hb13
            have hz13 := hb13.size
            obtain ⟨U4, hU4, hD4, hs4, hv4, _⟩ := box_world w13 #[Value.int .i64 rr, Value.int .i64 cc, Value.slice G1 ys.length g1] 26
            replace hA := hA.ext hD4
            replace hS := hS.ext hD4
            replace hT := hT.ext hD4
            replace hR1 := hR1.ext hD4
            replace hG1 := hG1.ext hD4
            replace a_0 := (hD4.cell (p := ⟨(World.heap w1).size, 0, none⟩) ah).trans a_0
            replace a_1 := (hD4.cell (p := ⟨(World.heap w1).size, 1, none⟩) ah).trans a_1
            replace a_2 := (hD4.cell (p := ⟨(World.heap w1).size, 2, none⟩) ah).trans a_2
            replace ah := Nat.lt_of_lt_of_le ah hD4.size
            replace b_0 := (hD4.cell (p := ⟨(World.heap E1).size, 0, none⟩) bh).trans b_0
            replace b_1 := (hD4.cell (p := ⟨(World.heap E1).size, 1, none⟩) bh).trans b_1
            replace b_2 := (hD4.cell (p := ⟨(World.heap E1).size, 2, none⟩) bh).trans b_2
            replace bh := Nat.lt_of_lt_of_le bh hD4.size
            replace o_0 := (hD4.cell (p := ⟨(World.heap w3).size, 0, none⟩) oh).trans o_0
            replace o_1 := (hD4.cell (p := ⟨(World.heap w3).size, 1, none⟩) oh).trans o_1
            replace o_2 := (hD4.cell (p := ⟨(World.heap w3).size, 2, none⟩) oh).trans o_2
            replace oh := Nat.lt_of_lt_of_le oh hD4.size
            replace hB := ext_trans hB hD4
            have hz14 := hD4.size
            have q_0 : World.cell? U4 ⟨(World.heap w13).size, 0, none⟩ = some (Value.int .i64 rr) := hv4 0
            have q_1 : World.cell? U4 ⟨(World.heap w13).size, 1, none⟩ = some (Value.int .i64 cc) := hv4 1
            have q_2 : World.cell? U4 ⟨(World.heap w13).size, 2, none⟩ = some (Value.slice G1 ys.length g1) := hv4 2
            have qh := hs4
            clear hv4
            go_wp2_with fail
            clear hU4
            ((with_reducible refine (rScan_same rr cc _ _ _ _ ys _ (by omega) hG1.fl hR1.fl).mono ?_); rintro e w15 ⟨rfl, hb15⟩)
            replace hA := hA.ext hb15
            replace hS := hS.ext hb15
            replace hT := hT.ext hb15
            replace hR1 := hR1.ext hb15
            replace hG1 := hG1.ext hb15
            replace a_0 := (hb15.cell (p := ⟨(World.heap w1).size, 0, none⟩) ah).trans a_0
            replace a_1 := (hb15.cell (p := ⟨(World.heap w1).size, 1, none⟩) ah).trans a_1
            replace a_2 := (hb15.cell (p := ⟨(World.heap w1).size, 2, none⟩) ah).trans a_2
            replace ah := Nat.lt_of_lt_of_le ah hb15.size
            replace b_0 := (hb15.cell (p := ⟨(World.heap E1).size, 0, none⟩) bh).trans b_0
            replace b_1 := (hb15.cell (p := ⟨(World.heap E1).size, 1, none⟩) bh).trans b_1
            replace b_2 := (hb15.cell (p := ⟨(World.heap E1).size, 2, none⟩) bh).trans b_2
            replace bh := Nat.lt_of_lt_of_le bh hb15.size
            replace o_0 := (hb15.cell (p := ⟨(World.heap w3).size, 0, none⟩) oh).trans o_0
            replace o_1 := (hb15.cell (p := ⟨(World.heap w3).size, 1, none⟩) oh).trans o_1
            replace o_2 := (hb15.cell (p := ⟨(World.heap w3).size, 2, none⟩) oh).trans o_2
            replace oh := Nat.lt_of_lt_of_le oh hb15.size
            replace q_0 := (hb15.cell (p := ⟨(World.heap w13).size, 0, none⟩) qh).trans q_0
            replace q_1 := (hb15.cell (p := ⟨(World.heap w13).size, 1, none⟩) qh).trans q_1
            replace q_2 := (hb15.cell (p := ⟨(World.heap w13).size, 2, none⟩) qh).trans q_2
            replace qh := Nat.lt_of_lt_of_le qh hb15.size
            replace hB := ext_trans hB hb15
            have hz15 := hb15.size
            go_wp2
            go_meet
            exact ext_trans (ext_trans (ext_trans (ext_trans (hbr) hb12) hb13) hD4) hb15
      · obtain rfl : ok = false := by rw [HG_ok.out, tb_f hAL]
        go_wp2
        go_meet
        exact Below.refl _ _
    case rest =>
      obtain ⟨w16, hwz⟩ : ∃ z, z = wc := ⟨_, rfl⟩
      subst hwz
      clear a_0 a_1 a_2 ah b_0 b_1 b_2 bh o_0 o_1 o_2 oh hS hT hR1
      replace hA := hA.ext hcut
      replace hB := ext_trans hB hcut
      have hz16 := hcut.size
      go_wp2_with fail
      ((with_reducible refine (drawBesideScan_any A n cap _ hA hn16).mono ?_); rintro e w17 ⟨rx, cx, X, xd, us, ry, cy, Y, yd, vs, rfl, hul, hvl, hX, hY, hb17⟩)
      replace hA := hA.ext hb17
      replace hB := ext_trans hB hb17
      have hz17 := hb17.size
      obtain ⟨E5, hE5, hD5, hs5, hv5, _⟩ := box_world w17 #[Value.int .i64 0, Value.int .i64 0, Value.slice none 0 0] 26
      have va5 : Var3 E5 (World.heap w17).size (.int .i64 0) (.int .i64 0) (.slice none 0 0) := hE5 ▸ var3_box w17 _ _ _ _
      obtain ⟨F5, hF5, hG5, hr5, hw5, _⟩ := box_world E5 #[Value.int .i64 0, Value.int .i64 0, Value.slice none 0 0] 26
      have vb5 : Var3 F5 (World.heap E5).size (.int .i64 0) (.int .i64 0) (.slice none 0 0) := hF5 ▸ var3_box E5 _ _ _ _
      have vc5 := va5.ext hG5
      have g0 := vc5.c0
      have g1 := vc5.c1
      have g2 := vc5.c2
      have gz := vc5.fz
      have gl := vc5.lt
      have e0 := vb5.c0
      have e1 := vb5.c1
      have e2 := vb5.c2
      have ez := vb5.fz
      have el := vb5.lt
      obtain ⟨U5, hU5⟩ : ∃ z, z = ((((((F5.setCell ⟨(World.heap w17).size, 0, none⟩ (Value.int .i64 rx)).setCell ⟨(World.heap w17).size, 1, none⟩ (Value.int .i64 cx)).setCell ⟨(World.heap w17).size, 2, none⟩ (Value.slice X us.length xd)).setCell ⟨(World.heap E5).size, 0, none⟩ (Value.int .i64 ry)).setCell ⟨(World.heap E5).size, 1, none⟩ (Value.int .i64 cy)).setCell ⟨(World.heap E5).size, 2, none⟩ (Value.slice Y vs.length yd)) := ⟨_, rfl⟩
      have ta5 := set3_touch F5 (World.heap w17).size (Value.int .i64 rx) (Value.int .i64 cx) (Value.slice X us.length xd)
      have tz5 := set3_touch (((F5.setCell ⟨(World.heap w17).size, 0, none⟩ (Value.int .i64 rx)).setCell ⟨(World.heap w17).size, 1, none⟩ (Value.int .i64 cx)).setCell ⟨(World.heap w17).size, 2, none⟩ (Value.slice X us.length xd)) (World.heap E5).size (Value.int .i64 ry) (Value.int .i64 cy) (Value.slice Y vs.length yd)
      have vd5 := (vc5.set3 (Value.int .i64 rx) (Value.int .i64 cx) (Value.slice X us.length xd)).touch tz5 (.inl hs5)
      have ve5 := (vb5.touch ta5 (.inr hs5)).set3 (Value.int .i64 ry) (Value.int .i64 cy) (Value.slice Y vs.length yd)
      have hDU5 : Below (World.heap w17).size w17 U5 := hU5 ▸ tz5.below (ta5.below (ext_trans hD5 hG5) (Nat.le_refl _)) (Nat.le_of_lt hs5)
      rw [← hU5] at vd5 ve5
      clear hv5 hw5 ta5 tz5 va5 vb5 vc5
      go_upto_region 26 with fail
      rw [← hU5]
      clear hU5 hE5 hF5 g0 g1 g2 gz gl e0 e1 e2 ez el hD5 hG5
      replace hA := hA.ext hDU5
      replace hX := hX.ext hDU5
      replace hY := hY.ext hDU5
      replace hB := ext_trans hB hDU5
      have hz18 := hDU5.size
      have x_0 := vd5.c0
      have x_1 := vd5.c1
      have x_2 := vd5.c2
      have xh := vd5.lt
      have y_0 := ve5.c0
      have y_1 := ve5.c1
      have y_2 := ve5.c2
      have yh := ve5.lt
      clear vd5 ve5
      have hU := fun W h k => besideScan_any rx cx ry cy X xd us Y yd vs W (by omega) h (by omega) k
      have hV := fun W h k => specBesideScan_any rx cx ry cy X xd us Y yd vs W (by omega) h (by omega) k
      obtain ⟨zs, hg_zs⟩ : ∃ z, z = sel (BesOk rx cx us ry cy vs) (patchL (besT cx) us vs) := ⟨_, rfl⟩
      obtain ⟨r3, hg_r3⟩ : ∃ z, z = seli (BesOk rx cx us ry cy vs) rx := ⟨_, rfl⟩
      obtain ⟨c3, hg_c3⟩ : ∃ z, z = seli (BesOk rx cx us ry cy vs) (cx + cy) := ⟨_, rfl⟩
      obtain ⟨k3, hg_k3⟩ : ∃ z, z = tb (BesOk rx cx us ry cy vs) := ⟨_, rfl⟩
      simp only [← hg_zs, ← hg_r3, ← hg_c3, ← hg_k3] at hU hV
      have HU := Lib.hid hU
      have HV := Lib.hid hV
      have HG_zs := Lib.hid hg_zs
      have HG_r3 := Lib.hid hg_r3
      have HG_c3 := Lib.hid hg_c3
      have HG_k3 := Lib.hid hg_k3
      clear hU hV hg_zs hg_r3 hg_c3 hg_k3
      have hzl : zs.length ≤ 1048576 := HG_zs.out ▸ patch_sel (P := (BesOk rx cx us ry cy vs)) (ra := rx) (ca := cx) (rb := ry) (cb := cy) (fun h => ⟨h.1, h.2.1⟩)
      go_wp2_with fail
      ((with_reducible refine (HU.out _ hX.fl hY.fl).mono ?_); rintro e w19 ⟨R3, d3, rfl, hR3, hb19⟩)
      replace hA := hA.ext hb19
      replace hX := hX.ext hb19
      replace hY := hY.ext hb19
      replace x_0 := (hb19.cell (p := ⟨(World.heap w17).size, 0, none⟩) xh).trans x_0
      replace x_1 := (hb19.cell (p := ⟨(World.heap w17).size, 1, none⟩) xh).trans x_1
      replace x_2 := (hb19.cell (p := ⟨(World.heap w17).size, 2, none⟩) xh).trans x_2
      replace xh := Nat.lt_of_lt_of_le xh hb19.size
      replace y_0 := (hb19.cell (p := ⟨(World.heap E5).size, 0, none⟩) yh).trans y_0
      replace y_1 := (hb19.cell (p := ⟨(World.heap E5).size, 1, none⟩) yh).trans y_1
      replace y_2 := (hb19.cell (p := ⟨(World.heap E5).size, 2, none⟩) yh).trans y_2
      replace yh := Nat.lt_of_lt_of_le yh hb19.size
      replace hB := ext_trans hB hb19
      have hz19 := hb19.size
      obtain ⟨U6, hU6, hD6, hs6, hv6, _⟩ := box_world w19 #[Value.int .i64 r3, Value.int .i64 c3, Value.slice R3 zs.length d3] 26
      replace hA := hA.ext hD6
      replace hX := hX.ext hD6
      replace hY := hY.ext hD6
      replace hR3 := hR3.ext hD6
      replace x_0 := (hD6.cell (p := ⟨(World.heap w17).size, 0, none⟩) xh).trans x_0
      replace x_1 := (hD6.cell (p := ⟨(World.heap w17).size, 1, none⟩) xh).trans x_1
      replace x_2 := (hD6.cell (p := ⟨(World.heap w17).size, 2, none⟩) xh).trans x_2
      replace xh := Nat.lt_of_lt_of_le xh hD6.size
      replace y_0 := (hD6.cell (p := ⟨(World.heap E5).size, 0, none⟩) yh).trans y_0
      replace y_1 := (hD6.cell (p := ⟨(World.heap E5).size, 1, none⟩) yh).trans y_1
      replace y_2 := (hD6.cell (p := ⟨(World.heap E5).size, 2, none⟩) yh).trans y_2
      replace yh := Nat.lt_of_lt_of_le yh hD6.size
      replace hB := ext_trans hB hD6
      have hz20 := hD6.size
      have o_0 : World.cell? U6 ⟨(World.heap w19).size, 0, none⟩ = some (Value.int .i64 r3) := hv6 0
      have o_1 : World.cell? U6 ⟨(World.heap w19).size, 1, none⟩ = some (Value.int .i64 c3) := hv6 1
      have o_2 : World.cell? U6 ⟨(World.heap w19).size, 2, none⟩ = some (Value.slice R3 zs.length d3) := hv6 2
      have oh := hs6
      clear hv6
      go_wp2_with fail
      clear hU6
      ((with_reducible refine (HV.out _ hX.fl hY.fl).mono ?_); rintro e w21 ⟨R4, d4, rfl, hR4, hb21⟩)
      replace hA := hA.ext hb21
      replace hX := hX.ext hb21
      replace hY := hY.ext hb21
      replace hR3 := hR3.ext hb21
      replace x_0 := (hb21.cell (p := ⟨(World.heap w17).size, 0, none⟩) xh).trans x_0
      replace x_1 := (hb21.cell (p := ⟨(World.heap w17).size, 1, none⟩) xh).trans x_1
      replace x_2 := (hb21.cell (p := ⟨(World.heap w17).size, 2, none⟩) xh).trans x_2
      replace xh := Nat.lt_of_lt_of_le xh hb21.size
      replace y_0 := (hb21.cell (p := ⟨(World.heap E5).size, 0, none⟩) yh).trans y_0
      replace y_1 := (hb21.cell (p := ⟨(World.heap E5).size, 1, none⟩) yh).trans y_1
      replace y_2 := (hb21.cell (p := ⟨(World.heap E5).size, 2, none⟩) yh).trans y_2
      replace yh := Nat.lt_of_lt_of_le yh hb21.size
      replace o_0 := (hb21.cell (p := ⟨(World.heap w19).size, 0, none⟩) oh).trans o_0
      replace o_1 := (hb21.cell (p := ⟨(World.heap w19).size, 1, none⟩) oh).trans o_1
      replace o_2 := (hb21.cell (p := ⟨(World.heap w19).size, 2, none⟩) oh).trans o_2
      replace oh := Nat.lt_of_lt_of_le oh hb21.size
      replace hB := ext_trans hB hb21
      have hz21 := hb21.size
      obtain ⟨U7, hU7, hD7, hs7, hv7, _⟩ := box_world w21 #[Value.int .i64 r3, Value.int .i64 c3, Value.slice R4 zs.length d4] 26
      replace hA := hA.ext hD7
      replace hX := hX.ext hD7
      replace hY := hY.ext hD7
      replace hR3 := hR3.ext hD7
      replace hR4 := hR4.ext hD7
      replace x_0 := (hD7.cell (p := ⟨(World.heap w17).size, 0, none⟩) xh).trans x_0
      replace x_1 := (hD7.cell (p := ⟨(World.heap w17).size, 1, none⟩) xh).trans x_1
      replace x_2 := (hD7.cell (p := ⟨(World.heap w17).size, 2, none⟩) xh).trans x_2
      replace xh := Nat.lt_of_lt_of_le xh hD7.size
      replace y_0 := (hD7.cell (p := ⟨(World.heap E5).size, 0, none⟩) yh).trans y_0
      replace y_1 := (hD7.cell (p := ⟨(World.heap E5).size, 1, none⟩) yh).trans y_1
      replace y_2 := (hD7.cell (p := ⟨(World.heap E5).size, 2, none⟩) yh).trans y_2
      replace yh := Nat.lt_of_lt_of_le yh hD7.size
      replace o_0 := (hD7.cell (p := ⟨(World.heap w19).size, 0, none⟩) oh).trans o_0
      replace o_1 := (hD7.cell (p := ⟨(World.heap w19).size, 1, none⟩) oh).trans o_1
      replace o_2 := (hD7.cell (p := ⟨(World.heap w19).size, 2, none⟩) oh).trans o_2
      replace oh := Nat.lt_of_lt_of_le oh hD7.size
      replace hB := ext_trans hB hD7
      have hz22 := hD7.size
      have p_0 : World.cell? U7 ⟨(World.heap w21).size, 0, none⟩ = some (Value.int .i64 r3) := hv7 0
      have p_1 : World.cell? U7 ⟨(World.heap w21).size, 1, none⟩ = some (Value.int .i64 c3) := hv7 1
      have p_2 : World.cell? U7 ⟨(World.heap w21).size, 2, none⟩ = some (Value.slice R4 zs.length d4) := hv7 2
      have ph := hs7
      clear hv7
      go_wp2_with fail
      clear hU7
      ((with_reducible refine (rScan_same r3 c3 _ _ _ _ zs _ (by omega) hR3.fl hR4.fl).mono ?_); rintro e w23 ⟨rfl, hb23⟩)
      replace hA := hA.ext hb23
      replace hX := hX.ext hb23
      replace hY := hY.ext hb23
      replace hR3 := hR3.ext hb23
      replace hR4 := hR4.ext hb23
      replace x_0 := (hb23.cell (p := ⟨(World.heap w17).size, 0, none⟩) xh).trans x_0
      replace x_1 := (hb23.cell (p := ⟨(World.heap w17).size, 1, none⟩) xh).trans x_1
      replace x_2 := (hb23.cell (p := ⟨(World.heap w17).size, 2, none⟩) xh).trans x_2
      replace xh := Nat.lt_of_lt_of_le xh hb23.size
      replace y_0 := (hb23.cell (p := ⟨(World.heap E5).size, 0, none⟩) yh).trans y_0
      replace y_1 := (hb23.cell (p := ⟨(World.heap E5).size, 1, none⟩) yh).trans y_1
      replace y_2 := (hb23.cell (p := ⟨(World.heap E5).size, 2, none⟩) yh).trans y_2
      replace yh := Nat.lt_of_lt_of_le yh hb23.size
      replace o_0 := (hb23.cell (p := ⟨(World.heap w19).size, 0, none⟩) oh).trans o_0
      replace o_1 := (hb23.cell (p := ⟨(World.heap w19).size, 1, none⟩) oh).trans o_1
      replace o_2 := (hb23.cell (p := ⟨(World.heap w19).size, 2, none⟩) oh).trans o_2
      replace oh := Nat.lt_of_lt_of_le oh hb23.size
      replace p_0 := (hb23.cell (p := ⟨(World.heap w21).size, 0, none⟩) ph).trans p_0
      replace p_1 := (hb23.cell (p := ⟨(World.heap w21).size, 1, none⟩) ph).trans p_1
      replace p_2 := (hb23.cell (p := ⟨(World.heap w21).size, 2, none⟩) ph).trans p_2
      replace ph := Nat.lt_of_lt_of_le ph hb23.size
      replace hB := ext_trans hB hb23
      have hz23 := hb23.size
      clear p_0 p_1 p_2 ph hR4
      go_upto_if 178 with fail
      go_cut [] (fun wx => Below (World.heap w23).size w23 wx)
      case first =>
        by_cases hBO : (BesOk rx cx us ry cy vs)
        · skip
          obtain ⟨f1, f2, f3, f4⟩ := bes_facts hBO
          have hz : zs = patchL (besT cx) us vs := by rw [HG_zs.out, sel_t hBO]
          obtain rfl : r3 = rx := by rw [HG_r3.out, seli_t hBO]
          have hc3 : c3 = cx + cy := by rw [HG_c3.out, seli_t hBO]
          obtain rfl : k3 = true := by rw [HG_k3.out, tb_t hBO]
          rw [← hz] at f1 f2 f3 f4
          rw [← hc3] at f1 f2
          have hL := fun W h => cropScan_any r3 c3 R3 d3 zs 0 0 r3 cx W hzl h
          have hR := fun W h => cropScan_any r3 c3 R3 d3 zs 0 cx ry cy W hzl h
          simp only [sel_t f1, seli_t f1, tb_t f1, f3] at hL
          simp only [sel_t f2, seli_t f2, tb_t f2, f4] at hR
          have HL9 := Lib.hid hL
          have HR9 := Lib.hid hR
          clear hL hR f1 f2 f3 f4 hz hc3 hBO
          go_wp2_with fail
          ((with_reducible refine (HL9.out _ hR3.fl).mono ?_); rintro e w24 ⟨L5, l5, rfl, hL5, hb24⟩)
          replace hA := hA.ext hb24
          replace hX := hX.ext hb24
          replace hY := hY.ext hb24
          replace hR3 := hR3.ext hb24
          replace x_0 := (hb24.cell (p := ⟨(World.heap w17).size, 0, none⟩) xh).trans x_0
          replace x_1 := (hb24.cell (p := ⟨(World.heap w17).size, 1, none⟩) xh).trans x_1
          replace x_2 := (hb24.cell (p := ⟨(World.heap w17).size, 2, none⟩) xh).trans x_2
          replace xh := Nat.lt_of_lt_of_le xh hb24.size
          replace y_0 := (hb24.cell (p := ⟨(World.heap E5).size, 0, none⟩) yh).trans y_0
          replace y_1 := (hb24.cell (p := ⟨(World.heap E5).size, 1, none⟩) yh).trans y_1
          replace y_2 := (hb24.cell (p := ⟨(World.heap E5).size, 2, none⟩) yh).trans y_2
          replace yh := Nat.lt_of_lt_of_le yh hb24.size
          replace o_0 := (hb24.cell (p := ⟨(World.heap w19).size, 0, none⟩) oh).trans o_0
          replace o_1 := (hb24.cell (p := ⟨(World.heap w19).size, 1, none⟩) oh).trans o_1
          replace o_2 := (hb24.cell (p := ⟨(World.heap w19).size, 2, none⟩) oh).trans o_2
          replace oh := Nat.lt_of_lt_of_le oh hb24.size
          replace hB := ext_trans hB hb24
          have hz24 := hb24.size
          obtain ⟨U8, hU8, hD8, hs8, hv8, _⟩ := box_world w24 #[Value.int .i64 r3, Value.int .i64 cx, Value.slice L5 us.length l5] 26
          replace hA := hA.ext hD8
          replace hX := hX.ext hD8
          replace hY := hY.ext hD8
          replace hR3 := hR3.ext hD8
          replace hL5 := hL5.ext hD8
          replace x_0 := (hD8.cell (p := ⟨(World.heap w17).size, 0, none⟩) xh).trans x_0
          replace x_1 := (hD8.cell (p := ⟨(World.heap w17).size, 1, none⟩) xh).trans x_1
          replace x_2 := (hD8.cell (p := ⟨(World.heap w17).size, 2, none⟩) xh).trans x_2
          replace xh := Nat.lt_of_lt_of_le xh hD8.size
          replace y_0 := (hD8.cell (p := ⟨(World.heap E5).size, 0, none⟩) yh).trans y_0
          replace y_1 := (hD8.cell (p := ⟨(World.heap E5).size, 1, none⟩) yh).trans y_1
          replace y_2 := (hD8.cell (p := ⟨(World.heap E5).size, 2, none⟩) yh).trans y_2
          replace yh := Nat.lt_of_lt_of_le yh hD8.size
          replace o_0 := (hD8.cell (p := ⟨(World.heap w19).size, 0, none⟩) oh).trans o_0
          replace o_1 := (hD8.cell (p := ⟨(World.heap w19).size, 1, none⟩) oh).trans o_1
          replace o_2 := (hD8.cell (p := ⟨(World.heap w19).size, 2, none⟩) oh).trans o_2
          replace oh := Nat.lt_of_lt_of_le oh hD8.size
          replace hB := ext_trans hB hD8
          have hz25 := hD8.size
          have l_0 : World.cell? U8 ⟨(World.heap w24).size, 0, none⟩ = some (Value.int .i64 r3) := hv8 0
          have l_1 : World.cell? U8 ⟨(World.heap w24).size, 1, none⟩ = some (Value.int .i64 cx) := hv8 1
          have l_2 : World.cell? U8 ⟨(World.heap w24).size, 2, none⟩ = some (Value.slice L5 us.length l5) := hv8 2
          have lh := hs8
          clear hv8
          go_wp2_with fail
          clear hU8
          ((with_reducible refine (HR9.out _ hR3.fl).mono ?_); rintro e w26 ⟨L6, l6, rfl, hL6, hb26⟩)
          replace hA := hA.ext hb26
          replace hX := hX.ext hb26
          replace hY := hY.ext hb26
          replace hR3 := hR3.ext hb26
          replace hL5 := hL5.ext hb26
          replace x_0 := (hb26.cell (p := ⟨(World.heap w17).size, 0, none⟩) xh).trans x_0
          replace x_1 := (hb26.cell (p := ⟨(World.heap w17).size, 1, none⟩) xh).trans x_1
          replace x_2 := (hb26.cell (p := ⟨(World.heap w17).size, 2, none⟩) xh).trans x_2
          replace xh := Nat.lt_of_lt_of_le xh hb26.size
          replace y_0 := (hb26.cell (p := ⟨(World.heap E5).size, 0, none⟩) yh).trans y_0
          replace y_1 := (hb26.cell (p := ⟨(World.heap E5).size, 1, none⟩) yh).trans y_1
          replace y_2 := (hb26.cell (p := ⟨(World.heap E5).size, 2, none⟩) yh).trans y_2
          replace yh := Nat.lt_of_lt_of_le yh hb26.size
          replace o_0 := (hb26.cell (p := ⟨(World.heap w19).size, 0, none⟩) oh).trans o_0
          replace o_1 := (hb26.cell (p := ⟨(World.heap w19).size, 1, none⟩) oh).trans o_1
          replace o_2 := (hb26.cell (p := ⟨(World.heap w19).size, 2, none⟩) oh).trans o_2
          replace oh := Nat.lt_of_lt_of_le oh hb26.size
          replace l_0 := (hb26.cell (p := ⟨(World.heap w24).size, 0, none⟩) lh).trans l_0
          replace l_1 := (hb26.cell (p := ⟨(World.heap w24).size, 1, none⟩) lh).trans l_1
          replace l_2 := (hb26.cell (p := ⟨(World.heap w24).size, 2, none⟩) lh).trans l_2
          replace lh := Nat.lt_of_lt_of_le lh hb26.size
          replace hB := ext_trans hB hb26
          have hz26 := hb26.size
          obtain ⟨U9, hU9, hD9, hs9, hv9, _⟩ := box_world w26 #[Value.int .i64 ry, Value.int .i64 cy, Value.slice L6 vs.length l6] 26
          replace hA := hA.ext hD9
          replace hX := hX.ext hD9
          replace hY := hY.ext hD9
          replace hR3 := hR3.ext hD9
          replace hL5 := hL5.ext hD9
          replace hL6 := hL6.ext hD9
          replace x_0 := (hD9.cell (p := ⟨(World.heap w17).size, 0, none⟩) xh).trans x_0
          replace x_1 := (hD9.cell (p := ⟨(World.heap w17).size, 1, none⟩) xh).trans x_1
          replace x_2 := (hD9.cell (p := ⟨(World.heap w17).size, 2, none⟩) xh).trans x_2
          replace xh := Nat.lt_of_lt_of_le xh hD9.size
          replace y_0 := (hD9.cell (p := ⟨(World.heap E5).size, 0, none⟩) yh).trans y_0
          replace y_1 := (hD9.cell (p := ⟨(World.heap E5).size, 1, none⟩) yh).trans y_1
          replace y_2 := (hD9.cell (p := ⟨(World.heap E5).size, 2, none⟩) yh).trans y_2
          replace yh := Nat.lt_of_lt_of_le yh hD9.size
          replace o_0 := (hD9.cell (p := ⟨(World.heap w19).size, 0, none⟩) oh).trans o_0
          replace o_1 := (hD9.cell (p := ⟨(World.heap w19).size, 1, none⟩) oh).trans o_1
          replace o_2 := (hD9.cell (p := ⟨(World.heap w19).size, 2, none⟩) oh).trans o_2
          replace oh := Nat.lt_of_lt_of_le oh hD9.size
          replace l_0 := (hD9.cell (p := ⟨(World.heap w24).size, 0, none⟩) lh).trans l_0
          replace l_1 := (hD9.cell (p := ⟨(World.heap w24).size, 1, none⟩) lh).trans l_1
          replace l_2 := (hD9.cell (p := ⟨(World.heap w24).size, 2, none⟩) lh).trans l_2
          replace lh := Nat.lt_of_lt_of_le lh hD9.size
          replace hB := ext_trans hB hD9
          have hz27 := hD9.size
          have m_0 : World.cell? U9 ⟨(World.heap w26).size, 0, none⟩ = some (Value.int .i64 ry) := hv9 0
          have m_1 : World.cell? U9 ⟨(World.heap w26).size, 1, none⟩ = some (Value.int .i64 cy) := hv9 1
          have m_2 : World.cell? U9 ⟨(World.heap w26).size, 2, none⟩ = some (Value.slice L6 vs.length l6) := hv9 2
          have mh := hs9
          clear hv9
          go_wp2_with fail
          clear hU9
          ((with_reducible refine (rScan_same r3 cx _ _ _ _ us _ (by omega) hL5.fl hX.fl).mono ?_); rintro e w28 ⟨rfl, hb28⟩)
          replace hA := hA.ext hb28
          replace hX := hX.ext hb28
          replace hY := hY.ext hb28
          replace hR3 := hR3.ext hb28
          replace hL5 := hL5.ext hb28
          replace hL6 := hL6.ext hb28
          replace x_0 := (hb28.cell (p := ⟨(World.heap w17).size, 0, none⟩) xh).trans x_0
          replace x_1 := (hb28.cell (p := ⟨(World.heap w17).size, 1, none⟩) xh).trans x_1
          replace x_2 := (hb28.cell (p := ⟨(World.heap w17).size, 2, none⟩) xh).trans x_2
          replace xh := Nat.lt_of_lt_of_le xh hb28.size
          replace y_0 := (hb28.cell (p := ⟨(World.heap E5).size, 0, none⟩) yh).trans y_0
          replace y_1 := (hb28.cell (p := ⟨(World.heap E5).size, 1, none⟩) yh).trans y_1
          replace y_2 := (hb28.cell (p := ⟨(World.heap E5).size, 2, none⟩) yh).trans y_2
          replace yh := Nat.lt_of_lt_of_le yh hb28.size
          replace o_0 := (hb28.cell (p := ⟨(World.heap w19).size, 0, none⟩) oh).trans o_0
          replace o_1 := (hb28.cell (p := ⟨(World.heap w19).size, 1, none⟩) oh).trans o_1
          replace o_2 := (hb28.cell (p := ⟨(World.heap w19).size, 2, none⟩) oh).trans o_2
          replace oh := Nat.lt_of_lt_of_le oh hb28.size
          replace l_0 := (hb28.cell (p := ⟨(World.heap w24).size, 0, none⟩) lh).trans l_0
          replace l_1 := (hb28.cell (p := ⟨(World.heap w24).size, 1, none⟩) lh).trans l_1
          replace l_2 := (hb28.cell (p := ⟨(World.heap w24).size, 2, none⟩) lh).trans l_2
          replace lh := Nat.lt_of_lt_of_le lh hb28.size
          replace m_0 := (hb28.cell (p := ⟨(World.heap w26).size, 0, none⟩) mh).trans m_0
          replace m_1 := (hb28.cell (p := ⟨(World.heap w26).size, 1, none⟩) mh).trans m_1
          replace m_2 := (hb28.cell (p := ⟨(World.heap w26).size, 2, none⟩) mh).trans m_2
          replace mh := Nat.lt_of_lt_of_le mh hb28.size
          replace hB := ext_trans hB hb28
          have hz28 := hb28.size
          go_wp2_with fail
          ((with_reducible refine (rScan_same ry cy _ _ _ _ vs _ (by omega) hL6.fl hY.fl).mono ?_); rintro e w29 ⟨rfl, hb29⟩)
          replace hA := hA.ext hb29
          replace hX := hX.ext hb29
          replace hY := hY.ext hb29
          replace hR3 := hR3.ext hb29
          replace hL5 := hL5.ext hb29
          replace hL6 := hL6.ext hb29
          replace x_0 := (hb29.cell (p := ⟨(World.heap w17).size, 0, none⟩) xh).trans x_0
          replace x_1 := (hb29.cell (p := ⟨(World.heap w17).size, 1, none⟩) xh).trans x_1
          replace x_2 := (hb29.cell (p := ⟨(World.heap w17).size, 2, none⟩) xh).trans x_2
          replace xh := Nat.lt_of_lt_of_le xh hb29.size
          replace y_0 := (hb29.cell (p := ⟨(World.heap E5).size, 0, none⟩) yh).trans y_0
          replace y_1 := (hb29.cell (p := ⟨(World.heap E5).size, 1, none⟩) yh).trans y_1
          replace y_2 := (hb29.cell (p := ⟨(World.heap E5).size, 2, none⟩) yh).trans y_2
          replace yh := Nat.lt_of_lt_of_le yh hb29.size
          replace o_0 := (hb29.cell (p := ⟨(World.heap w19).size, 0, none⟩) oh).trans o_0
          replace o_1 := (hb29.cell (p := ⟨(World.heap w19).size, 1, none⟩) oh).trans o_1
          replace o_2 := (hb29.cell (p := ⟨(World.heap w19).size, 2, none⟩) oh).trans o_2
          replace oh := Nat.lt_of_lt_of_le oh hb29.size
          replace l_0 := (hb29.cell (p := ⟨(World.heap w24).size, 0, none⟩) lh).trans l_0
          replace l_1 := (hb29.cell (p := ⟨(World.heap w24).size, 1, none⟩) lh).trans l_1
          replace l_2 := (hb29.cell (p := ⟨(World.heap w24).size, 2, none⟩) lh).trans l_2
          replace lh := Nat.lt_of_lt_of_le lh hb29.size
          replace m_0 := (hb29.cell (p := ⟨(World.heap w26).size, 0, none⟩) mh).trans m_0
          replace m_1 := (hb29.cell (p := ⟨(World.heap w26).size, 1, none⟩) mh).trans m_1
          replace m_2 := (hb29.cell (p := ⟨(World.heap w26).size, 2, none⟩) mh).trans m_2
          replace mh := Nat.lt_of_lt_of_le mh hb29.size
          replace hB := ext_trans hB hb29
          have hz29 := hb29.size
          go_wp2
          go_meet
          exact ext_trans (ext_trans (ext_trans (ext_trans (ext_trans (hb24) hD8) hb26) hD9) hb28) hb29
        · obtain rfl : k3 = false := by rw [HG_k3.out, tb_f hBO]
          go_wp2
          go_meet
          exact Below.refl _ _
      case rest =>
        obtain ⟨w30, hwz⟩ : ∃ z, z = wc := ⟨_, rfl⟩
        subst hwz
        clear x_0 x_1 x_2 xh y_0 y_1 y_2 yh o_0 o_1 o_2 oh hX hY hR3
        replace hA := hA.ext hcut
        replace hB := ext_trans hB hcut
        have hz30 := hcut.size
        go_wp2_with fail
        ((with_reducible refine (drawCropScan_any A n cap _ hA hn16).mono ?_); rintro e w31 ⟨rs, cs, C9, cd, ws, q1, q2, q3, q4, rfl, hwl, hC9, hb31⟩)
        replace hA := hA.ext hb31
        replace hB := ext_trans hB hb31
        have hz31 := hb31.size
        obtain ⟨U10, hU10, hD10, hs10, hv10, _⟩ := box_world w31 #[Value.int .i64 rs, Value.int .i64 cs, Value.slice C9 ws.length cd] 26
        replace hA := hA.ext hD10
        replace hC9 := hC9.ext hD10
        replace hB := ext_trans hB hD10
        have hz32 := hD10.size
        have s_0 : World.cell? U10 ⟨(World.heap w31).size, 0, none⟩ = some (Value.int .i64 rs) := hv10 0
        have s_1 : World.cell? U10 ⟨(World.heap w31).size, 1, none⟩ = some (Value.int .i64 cs) := hv10 1
        have s_2 : World.cell? U10 ⟨(World.heap w31).size, 2, none⟩ = some (Value.slice C9 ws.length cd) := hv10 2
        have sh := hs10
        clear hv10
        have hP := fun W h => cropScan_any rs cs C9 cd ws q1 q2 q3 q4 W (by omega) h
        have hQ := fun W h => specCropScan_any rs cs C9 cd ws q1 q2 q3 q4 W (by omega) h
        obtain ⟨ts, hg_ts⟩ : ∃ z, z = sel (CropOk rs cs ws q1 q2 q3 q4) (cropL q1 q2 q3 q4 ws) := ⟨_, rfl⟩
        obtain ⟨r5, hg_r5⟩ : ∃ z, z = seli (CropOk rs cs ws q1 q2 q3 q4) q3 := ⟨_, rfl⟩
        obtain ⟨c5, hg_c5⟩ : ∃ z, z = seli (CropOk rs cs ws q1 q2 q3 q4) q4 := ⟨_, rfl⟩
        obtain ⟨k5, hg_k5⟩ : ∃ z, z = tb (CropOk rs cs ws q1 q2 q3 q4) := ⟨_, rfl⟩
        simp only [← hg_ts, ← hg_r5, ← hg_c5, ← hg_k5] at hP hQ
        have HP := Lib.hid hP
        have HQ := Lib.hid hQ
        have HG_ts := Lib.hid hg_ts
        have HG_r5 := Lib.hid hg_r5
        have HG_c5 := Lib.hid hg_c5
        have HG_k5 := Lib.hid hg_k5
        clear hP hQ hg_ts hg_r5 hg_c5 hg_k5
        have htl : ts.length ≤ 1048576 := HG_ts.out ▸ Nat.le_trans (sel_len _ _) (Nat.le_trans (cropL_len _ _ _ _ _) (by omega))
        go_wp2_with fail
        clear hU10
        ((with_reducible refine (HP.out _ hC9.fl).mono ?_); rintro e w33 ⟨R7, d7, rfl, hR7, hb33⟩)
        replace hA := hA.ext hb33
        replace hC9 := hC9.ext hb33
        replace s_0 := (hb33.cell (p := ⟨(World.heap w31).size, 0, none⟩) sh).trans s_0
        replace s_1 := (hb33.cell (p := ⟨(World.heap w31).size, 1, none⟩) sh).trans s_1
        replace s_2 := (hb33.cell (p := ⟨(World.heap w31).size, 2, none⟩) sh).trans s_2
        replace sh := Nat.lt_of_lt_of_le sh hb33.size
        replace hB := ext_trans hB hb33
        have hz33 := hb33.size
        obtain ⟨U11, hU11, hD11, hs11, hv11, _⟩ := box_world w33 #[Value.int .i64 r5, Value.int .i64 c5, Value.slice R7 ts.length d7] 26
        replace hA := hA.ext hD11
        replace hC9 := hC9.ext hD11
        replace hR7 := hR7.ext hD11
        replace s_0 := (hD11.cell (p := ⟨(World.heap w31).size, 0, none⟩) sh).trans s_0
        replace s_1 := (hD11.cell (p := ⟨(World.heap w31).size, 1, none⟩) sh).trans s_1
        replace s_2 := (hD11.cell (p := ⟨(World.heap w31).size, 2, none⟩) sh).trans s_2
        replace sh := Nat.lt_of_lt_of_le sh hD11.size
        replace hB := ext_trans hB hD11
        have hz34 := hD11.size
        have e_0 : World.cell? U11 ⟨(World.heap w33).size, 0, none⟩ = some (Value.int .i64 r5) := hv11 0
        have e_1 : World.cell? U11 ⟨(World.heap w33).size, 1, none⟩ = some (Value.int .i64 c5) := hv11 1
        have e_2 : World.cell? U11 ⟨(World.heap w33).size, 2, none⟩ = some (Value.slice R7 ts.length d7) := hv11 2
        have eh := hs11
        clear hv11
        go_wp2_with fail
        clear hU11
        ((with_reducible refine (HQ.out _ hC9.fl).mono ?_); rintro e w35 ⟨R8, d8, rfl, hR8, hb35⟩)
        replace hA := hA.ext hb35
        replace hC9 := hC9.ext hb35
        replace hR7 := hR7.ext hb35
        replace s_0 := (hb35.cell (p := ⟨(World.heap w31).size, 0, none⟩) sh).trans s_0
        replace s_1 := (hb35.cell (p := ⟨(World.heap w31).size, 1, none⟩) sh).trans s_1
        replace s_2 := (hb35.cell (p := ⟨(World.heap w31).size, 2, none⟩) sh).trans s_2
        replace sh := Nat.lt_of_lt_of_le sh hb35.size
        replace e_0 := (hb35.cell (p := ⟨(World.heap w33).size, 0, none⟩) eh).trans e_0
        replace e_1 := (hb35.cell (p := ⟨(World.heap w33).size, 1, none⟩) eh).trans e_1
        replace e_2 := (hb35.cell (p := ⟨(World.heap w33).size, 2, none⟩) eh).trans e_2
        replace eh := Nat.lt_of_lt_of_le eh hb35.size
        replace hB := ext_trans hB hb35
        have hz35 := hb35.size
        obtain ⟨U12, hU12, hD12, hs12, hv12, _⟩ := box_world w35 #[Value.int .i64 r5, Value.int .i64 c5, Value.slice R8 ts.length d8] 26
        replace hA := hA.ext hD12
        replace hC9 := hC9.ext hD12
        replace hR7 := hR7.ext hD12
        replace hR8 := hR8.ext hD12
        replace s_0 := (hD12.cell (p := ⟨(World.heap w31).size, 0, none⟩) sh).trans s_0
        replace s_1 := (hD12.cell (p := ⟨(World.heap w31).size, 1, none⟩) sh).trans s_1
        replace s_2 := (hD12.cell (p := ⟨(World.heap w31).size, 2, none⟩) sh).trans s_2
        replace sh := Nat.lt_of_lt_of_le sh hD12.size
        replace e_0 := (hD12.cell (p := ⟨(World.heap w33).size, 0, none⟩) eh).trans e_0
        replace e_1 := (hD12.cell (p := ⟨(World.heap w33).size, 1, none⟩) eh).trans e_1
        replace e_2 := (hD12.cell (p := ⟨(World.heap w33).size, 2, none⟩) eh).trans e_2
        replace eh := Nat.lt_of_lt_of_le eh hD12.size
        replace hB := ext_trans hB hD12
        have hz36 := hD12.size
        have f_0 : World.cell? U12 ⟨(World.heap w35).size, 0, none⟩ = some (Value.int .i64 r5) := hv12 0
        have f_1 : World.cell? U12 ⟨(World.heap w35).size, 1, none⟩ = some (Value.int .i64 c5) := hv12 1
        have f_2 : World.cell? U12 ⟨(World.heap w35).size, 2, none⟩ = some (Value.slice R8 ts.length d8) := hv12 2
        have fh := hs12
        clear hv12
        have z1 : (k5 == k5) = true := by simp
        go_wp2_with fail
        clear hU12
        ((with_reducible refine (rScan_same r5 c5 _ _ _ _ ts _ (by omega) hR7.fl hR8.fl).mono ?_); rintro e w37 ⟨rfl, hb37⟩)
        replace hA := hA.ext hb37
        replace hC9 := hC9.ext hb37
        replace hR7 := hR7.ext hb37
        replace hR8 := hR8.ext hb37
        replace s_0 := (hb37.cell (p := ⟨(World.heap w31).size, 0, none⟩) sh).trans s_0
        replace s_1 := (hb37.cell (p := ⟨(World.heap w31).size, 1, none⟩) sh).trans s_1
        replace s_2 := (hb37.cell (p := ⟨(World.heap w31).size, 2, none⟩) sh).trans s_2
        replace sh := Nat.lt_of_lt_of_le sh hb37.size
        replace e_0 := (hb37.cell (p := ⟨(World.heap w33).size, 0, none⟩) eh).trans e_0
        replace e_1 := (hb37.cell (p := ⟨(World.heap w33).size, 1, none⟩) eh).trans e_1
        replace e_2 := (hb37.cell (p := ⟨(World.heap w33).size, 2, none⟩) eh).trans e_2
        replace eh := Nat.lt_of_lt_of_le eh hb37.size
        replace f_0 := (hb37.cell (p := ⟨(World.heap w35).size, 0, none⟩) fh).trans f_0
        replace f_1 := (hb37.cell (p := ⟨(World.heap w35).size, 1, none⟩) fh).trans f_1
        replace f_2 := (hb37.cell (p := ⟨(World.heap w35).size, 2, none⟩) fh).trans f_2
        replace fh := Nat.lt_of_lt_of_le fh hb37.size
        replace hB := ext_trans hB hb37
        have hz37 := hb37.size
        go_wp2
        go_ret
        exact ⟨rfl, hB⟩

set_option maxRecDepth 100000 in
theorem FnPatched_holds : Rows.FnPatchedSaid :=
  OpenClaim.holds_of_wide 3 Try.f3 rfl rfl rfl rfl rfl rfl rfl ⟨rfl, rfl, rfl, rfl, rfl⟩ rfl rfl rfl rfl rfl (by kernel_rfl) Try.func3 (by kernel_rfl)
    (of_decide_eq_true (by kernel_rfl)) (by unfold Func.isWrapper; first | (rw [if_pos (by decide +kernel)]; kernel_rfl) | (rw [if_neg (by decide +kernel)]; exact ⟨rfl, rfl⟩))
    (fun os started H enc _ => by
      refine law_lifted (s := Rows.fnPatchedSpec) (conds := []) os started H enc (by kernel_rfl) Try.func3 (by kernel_rfl) rfl rfl Try.underlying4
        (ChangeSpec.witness6 (enc := enc) (C := Try.checked) false ⟨#[], #[.slice none 0 0], []⟩ 8 (by kernel_rfl) (by kernel_rfl) (by kernel_rfl) (by kernel_rfl)) ?_
      intro W base args ds ps hval hA
      rw [Try.params3] at hA hval
      obtain ⟨v0, vs0, d0, ds0, p0, q0, hargs, rfl, rfl, h0, r0⟩ := trodAll_cons hA
      obtain ⟨rfl, rfl, rfl⟩ := trodAll_nil r0
      obtain rfl : args = #[v0] := by cases args; simp_all
      refine ⟨rfl, ?_⟩
      obtain ⟨A0, n0, c0, rfl, hm0, hb0⟩ := open_bytes Try.underlying22 Try.underlying5 (by kernel_rfl) (hval 0 22 v0 rfl rfl) h0
      exact fnPatched_any A0 n0 c0 W hm0 hb0)
end Go.Proofs.Ytjacadkbkkkgfaa
