/- The program's PatchScan returns what the reference's returns, for all arguments. No condition. -/
import Derived.Test.YtbldoidcjkffdaaLaw
import Derived.Test.YtbldoidcjkffdaaOpen
import Derived.Test.YtbldoidcjkffdaaLst
import Derived.Test.YtbldoidcjkffdaaFamScan
import Derived.Test.YtbldoidcjkffdaaBoxLaw
import Derived.Test.YtbldoidcjkffdaaMarkBox
import Derived.Test.YtbldoidcjkffdaaPatI
import Derived.Test.YtbldoidcjkffdaaPatS
import Derived.Lib.SmallJoins
import Derived.Deep.DeepCutAuto
namespace Go.Proofs.Ytbldoidcjkffdaa
open Go.ChangeShapes Go.WideShapes Go.ChangeAt Go.RowKit Go.Joins
set_option linter.unusedVariables false
set_option linter.unusedSimpArgs false

set_option maxHeartbeats 8000000 in
set_option maxRecDepth 100000 in
theorem fnPatchScan_any (rows0 cols0 : Int) (A0 : Option Addr) (c0 : Nat) (xs0 : List Tile) (rows1 cols1 : Int) (A1 : Option Addr) (c1 : Nat) (xs1 : List Tile) (w : World) (hm0 : xs0.length ≤ 9223372036854775807) (hA0 : Fl Tile.ints 3 w A0 xs0) (hm1 : xs1.length ≤ 9223372036854775807) (hA1 : Fl Tile.ints 3 w A1 xs1) :
    Calls Try.prog 9 #[.agg #[Value.int .i64 rows0, Value.int .i64 cols0, Value.slice A0 xs0.length c0], .agg #[Value.int .i64 rows1, Value.int .i64 cols1, Value.slice A1 xs1.length c1]] w fun e w' => e = .returned (.bool true) ∧ Below w.heap.size w w' := by
  by_cases hbig0 : (1048576 : Int) < (xs0.length : Int)
  · skip
    have hB := Below.refl w.heap.size w
    obtain ⟨U1, hU1, hD1, hs1, hv1, _⟩ := box_world w #[Value.int .i64 rows0, Value.int .i64 cols0, Value.slice A0 xs0.length c0] 24
    replace hB := ext_trans hB hD1
    have hz1 := hD1.size
    have a0_0 : World.cell? U1 ⟨(World.heap w).size, 0, none⟩ = some (Value.int .i64 rows0) := hv1 0
    have a0_1 : World.cell? U1 ⟨(World.heap w).size, 1, none⟩ = some (Value.int .i64 cols0) := hv1 1
    have a0_2 : World.cell? U1 ⟨(World.heap w).size, 2, none⟩ = some (Value.slice A0 xs0.length c0) := hv1 2
    have a0h := hs1
    clear hv1
    obtain ⟨U2, hU2, hD2, hs2, hv2, _⟩ := box_world U1 #[Value.int .i64 rows1, Value.int .i64 cols1, Value.slice A1 xs1.length c1] 24
    replace a0_0 := (hD2.cell (p := ⟨(World.heap w).size, 0, none⟩) a0h).trans a0_0
    replace a0_1 := (hD2.cell (p := ⟨(World.heap w).size, 1, none⟩) a0h).trans a0_1
    replace a0_2 := (hD2.cell (p := ⟨(World.heap w).size, 2, none⟩) a0h).trans a0_2
    replace a0h := Nat.lt_of_lt_of_le a0h hD2.size
    replace hB := ext_trans hB hD2
    have hz2 := hD2.size
    have a1_0 : World.cell? U2 ⟨(World.heap U1).size, 0, none⟩ = some (Value.int .i64 rows1) := hv2 0
    have a1_1 : World.cell? U2 ⟨(World.heap U1).size, 1, none⟩ = some (Value.int .i64 cols1) := hv2 1
    have a1_2 : World.cell? U2 ⟨(World.heap U1).size, 2, none⟩ = some (Value.slice A1 xs1.length c1) := hv2 2
    have a1h := hs2
    clear hv2
    go_enter Try.func9, Try.ntmps9
    go_wp2_with fail
    clear hU1 hU2
    ((with_reducible refine (szScanG_no rows0 cols0 A0 xs0.length c0 _ (1048576) (by omega) (by omega) hm0 (by omega)).mono ?_); rintro e w3 ⟨rfl, hb3⟩)
    replace a0_0 := (hb3.cell (p := ⟨(World.heap w).size, 0, none⟩) a0h).trans a0_0
    replace a0_1 := (hb3.cell (p := ⟨(World.heap w).size, 1, none⟩) a0h).trans a0_1
    replace a0_2 := (hb3.cell (p := ⟨(World.heap w).size, 2, none⟩) a0h).trans a0_2
    replace a0h := Nat.lt_of_lt_of_le a0h hb3.size
    replace a1_0 := (hb3.cell (p := ⟨(World.heap U1).size, 0, none⟩) a1h).trans a1_0
    replace a1_1 := (hb3.cell (p := ⟨(World.heap U1).size, 1, none⟩) a1h).trans a1_1
    replace a1_2 := (hb3.cell (p := ⟨(World.heap U1).size, 2, none⟩) a1h).trans a1_2
    replace a1h := Nat.lt_of_lt_of_le a1h hb3.size
    replace hB := ext_trans hB hb3
    have hz3 := hb3.size
    go_wp2
    go_ret
    exact ⟨rfl, hB⟩
  · have hn0 : xs0.length ≤ 1048576 := by omega
    have hl0 : ¬ (1048576 : Int) - (xs0.length : Int) < 0 := by omega
    by_cases hbig1 : (1048576 - (xs0.length : Int) : Int) < (xs1.length : Int)
    · skip
      have hB := Below.refl w.heap.size w
      obtain ⟨U1, hU1, hD1, hs1, hv1, _⟩ := box_world w #[Value.int .i64 rows0, Value.int .i64 cols0, Value.slice A0 xs0.length c0] 24
      replace hB := ext_trans hB hD1
      have hz1 := hD1.size
      have a0_0 : World.cell? U1 ⟨(World.heap w).size, 0, none⟩ = some (Value.int .i64 rows0) := hv1 0
      have a0_1 : World.cell? U1 ⟨(World.heap w).size, 1, none⟩ = some (Value.int .i64 cols0) := hv1 1
      have a0_2 : World.cell? U1 ⟨(World.heap w).size, 2, none⟩ = some (Value.slice A0 xs0.length c0) := hv1 2
      have a0h := hs1
      clear hv1
      obtain ⟨U2, hU2, hD2, hs2, hv2, _⟩ := box_world U1 #[Value.int .i64 rows1, Value.int .i64 cols1, Value.slice A1 xs1.length c1] 24
      replace a0_0 := (hD2.cell (p := ⟨(World.heap w).size, 0, none⟩) a0h).trans a0_0
      replace a0_1 := (hD2.cell (p := ⟨(World.heap w).size, 1, none⟩) a0h).trans a0_1
      replace a0_2 := (hD2.cell (p := ⟨(World.heap w).size, 2, none⟩) a0h).trans a0_2
      replace a0h := Nat.lt_of_lt_of_le a0h hD2.size
      replace hB := ext_trans hB hD2
      have hz2 := hD2.size
      have a1_0 : World.cell? U2 ⟨(World.heap U1).size, 0, none⟩ = some (Value.int .i64 rows1) := hv2 0
      have a1_1 : World.cell? U2 ⟨(World.heap U1).size, 1, none⟩ = some (Value.int .i64 cols1) := hv2 1
      have a1_2 : World.cell? U2 ⟨(World.heap U1).size, 2, none⟩ = some (Value.slice A1 xs1.length c1) := hv2 2
      have a1h := hs2
      clear hv2
      go_enter Try.func9, Try.ntmps9
      go_wp2_with fail
      clear hU1 hU2
      ((with_reducible refine (szScanG_ok rows0 cols0 A0 xs0.length c0 _ (1048576) (by omega) (by omega) hm0 (by omega)).mono ?_); rintro e w3 ⟨rfl, hb3⟩)
      replace a0_0 := (hb3.cell (p := ⟨(World.heap w).size, 0, none⟩) a0h).trans a0_0
      replace a0_1 := (hb3.cell (p := ⟨(World.heap w).size, 1, none⟩) a0h).trans a0_1
      replace a0_2 := (hb3.cell (p := ⟨(World.heap w).size, 2, none⟩) a0h).trans a0_2
      replace a0h := Nat.lt_of_lt_of_le a0h hb3.size
      replace a1_0 := (hb3.cell (p := ⟨(World.heap U1).size, 0, none⟩) a1h).trans a1_0
      replace a1_1 := (hb3.cell (p := ⟨(World.heap U1).size, 1, none⟩) a1h).trans a1_1
      replace a1_2 := (hb3.cell (p := ⟨(World.heap U1).size, 2, none⟩) a1h).trans a1_2
      replace a1h := Nat.lt_of_lt_of_le a1h hb3.size
      replace hB := ext_trans hB hb3
      have hz3 := hb3.size
      go_wp2_with fail
      ((with_reducible refine (szScanG_no rows1 cols1 A1 xs1.length c1 _ (1048576 - (xs0.length : Int)) (by omega) (by omega) hm1 (by omega)).mono ?_); rintro e w4 ⟨rfl, hb4⟩)
      replace a0_0 := (hb4.cell (p := ⟨(World.heap w).size, 0, none⟩) a0h).trans a0_0
      replace a0_1 := (hb4.cell (p := ⟨(World.heap w).size, 1, none⟩) a0h).trans a0_1
      replace a0_2 := (hb4.cell (p := ⟨(World.heap w).size, 2, none⟩) a0h).trans a0_2
      replace a0h := Nat.lt_of_lt_of_le a0h hb4.size
      replace a1_0 := (hb4.cell (p := ⟨(World.heap U1).size, 0, none⟩) a1h).trans a1_0
      replace a1_1 := (hb4.cell (p := ⟨(World.heap U1).size, 1, none⟩) a1h).trans a1_1
      replace a1_2 := (hb4.cell (p := ⟨(World.heap U1).size, 2, none⟩) a1h).trans a1_2
      replace a1h := Nat.lt_of_lt_of_le a1h hb4.size
      replace hB := ext_trans hB hb4
      have hz4 := hb4.size
      go_wp2
      go_ret
      exact ⟨rfl, hB⟩
    · have hn1 : xs1.length ≤ 1048576 := by omega
      have hl1 : ¬ (1048576 - (xs0.length : Int) : Int) - (xs1.length : Int) < 0 := by omega
      have hspec := fun (D0 : Nat) (D1 : Nat) (W : World) (h0 : Fl Tile.ints 3 W (some ⟨D0, 0, none⟩) xs0) (h1 : Fl Tile.ints 3 W (some ⟨D1, 0, none⟩) xs1) => specPatchScan_any rows0 cols0 rows1 cols1 (some ⟨D0, 0, none⟩) xs0.length xs0 (some ⟨D1, 0, none⟩) xs1.length xs1 W hn0 h0 hn1 h1
      have himpl := fun (D0 : Nat) (D1 : Nat) (W : World) (h0 : Fl Tile.ints 3 W (some ⟨D0, 0, none⟩) xs0) (h1 : Fl Tile.ints 3 W (some ⟨D1, 0, none⟩) xs1) => patchScan_any rows0 cols0 rows1 cols1 (some ⟨D0, 0, none⟩) xs0.length xs0 (some ⟨D1, 0, none⟩) xs1.length xs1 W hn0 h0 hn1 h1
      have hyl0 : (sel (AlikeS rows0 cols0 xs0 rows1 cols1 xs1) (patchL id xs0 xs1)).length ≤ 1048576 := patch_sel (ra := rows0) (ca := cols0) (rb := rows1) (cb := cols1) (fun h => ⟨h.1, h.2.1⟩)
      generalize sel (AlikeS rows0 cols0 xs0 rows1 cols1 xs1) (patchL id xs0 xs1) = ys0 at hspec himpl hyl0
      generalize seli (AlikeS rows0 cols0 xs0 rows1 cols1 xs1) rows0 = ok0 at hspec himpl
      generalize seli (AlikeS rows0 cols0 xs0 rows1 cols1 xs1) cols0 = ok1 at hspec himpl
      generalize tb (AlikeS rows0 cols0 xs0 rows1 cols1 xs1) = ok2 at hspec himpl
      have HSPEC := Lib.hid hspec
      have HIMPL := Lib.hid himpl
      clear hspec himpl
      have hB := Below.refl w.heap.size w
      obtain ⟨U1, hU1, hD1, hs1, hv1, _⟩ := box_world w #[Value.int .i64 rows0, Value.int .i64 cols0, Value.slice A0 xs0.length c0] 24
      replace hB := ext_trans hB hD1
      have hz1 := hD1.size
      have a0_0 : World.cell? U1 ⟨(World.heap w).size, 0, none⟩ = some (Value.int .i64 rows0) := hv1 0
      have a0_1 : World.cell? U1 ⟨(World.heap w).size, 1, none⟩ = some (Value.int .i64 cols0) := hv1 1
      have a0_2 : World.cell? U1 ⟨(World.heap w).size, 2, none⟩ = some (Value.slice A0 xs0.length c0) := hv1 2
      have a0h := hs1
      clear hv1
      obtain ⟨U2, hU2, hD2, hs2, hv2, _⟩ := box_world U1 #[Value.int .i64 rows1, Value.int .i64 cols1, Value.slice A1 xs1.length c1] 24
      replace a0_0 := (hD2.cell (p := ⟨(World.heap w).size, 0, none⟩) a0h).trans a0_0
      replace a0_1 := (hD2.cell (p := ⟨(World.heap w).size, 1, none⟩) a0h).trans a0_1
      replace a0_2 := (hD2.cell (p := ⟨(World.heap w).size, 2, none⟩) a0h).trans a0_2
      replace a0h := Nat.lt_of_lt_of_le a0h hD2.size
      replace hB := ext_trans hB hD2
      have hz2 := hD2.size
      have a1_0 : World.cell? U2 ⟨(World.heap U1).size, 0, none⟩ = some (Value.int .i64 rows1) := hv2 0
      have a1_1 : World.cell? U2 ⟨(World.heap U1).size, 1, none⟩ = some (Value.int .i64 cols1) := hv2 1
      have a1_2 : World.cell? U2 ⟨(World.heap U1).size, 2, none⟩ = some (Value.slice A1 xs1.length c1) := hv2 2
      have a1h := hs2
      clear hv2
      go_enter Try.func9, Try.ntmps9
      go_wp2_with fail
      clear hU1 hU2
      ((with_reducible refine (szScanG_ok rows0 cols0 A0 xs0.length c0 _ (1048576) (by omega) (by omega) hm0 (by omega)).mono ?_); rintro e w3 ⟨rfl, hb3⟩)
      replace a0_0 := (hb3.cell (p := ⟨(World.heap w).size, 0, none⟩) a0h).trans a0_0
      replace a0_1 := (hb3.cell (p := ⟨(World.heap w).size, 1, none⟩) a0h).trans a0_1
      replace a0_2 := (hb3.cell (p := ⟨(World.heap w).size, 2, none⟩) a0h).trans a0_2
      replace a0h := Nat.lt_of_lt_of_le a0h hb3.size
      replace a1_0 := (hb3.cell (p := ⟨(World.heap U1).size, 0, none⟩) a1h).trans a1_0
      replace a1_1 := (hb3.cell (p := ⟨(World.heap U1).size, 1, none⟩) a1h).trans a1_1
      replace a1_2 := (hb3.cell (p := ⟨(World.heap U1).size, 2, none⟩) a1h).trans a1_2
      replace a1h := Nat.lt_of_lt_of_le a1h hb3.size
      replace hB := ext_trans hB hb3
      have hz3 := hb3.size
      go_wp2_with fail
      ((with_reducible refine (szScanG_ok rows1 cols1 A1 xs1.length c1 _ (1048576 - (xs0.length : Int)) (by omega) (by omega) hm1 (by omega)).mono ?_); rintro e w4 ⟨rfl, hb4⟩)
      replace a0_0 := (hb4.cell (p := ⟨(World.heap w).size, 0, none⟩) a0h).trans a0_0
      replace a0_1 := (hb4.cell (p := ⟨(World.heap w).size, 1, none⟩) a0h).trans a0_1
      replace a0_2 := (hb4.cell (p := ⟨(World.heap w).size, 2, none⟩) a0h).trans a0_2
      replace a0h := Nat.lt_of_lt_of_le a0h hb4.size
      replace a1_0 := (hb4.cell (p := ⟨(World.heap U1).size, 0, none⟩) a1h).trans a1_0
      replace a1_1 := (hb4.cell (p := ⟨(World.heap U1).size, 1, none⟩) a1h).trans a1_1
      replace a1_2 := (hb4.cell (p := ⟨(World.heap U1).size, 2, none⟩) a1h).trans a1_2
      replace a1h := Nat.lt_of_lt_of_le a1h hb4.size
      replace hB := ext_trans hB hb4
      have hz4 := hb4.size
      go_upto_region 8 with fail
      go_cut [6, 7] (fun sp so wx => ∃ (g : Nat) (R : Option Addr) (d lo hi : Nat), sp = .pointer (some ⟨g, 0, none⟩) ∧ so = .bool ok2 ∧ Below (World.heap w4).size w4 wx ∧ (World.heap w4).size ≤ g ∧ Var3 wx g (.int .i64 ok0) (.int .i64 ok1) (.slice R ys0.length d) ∧ FlO Tile.ints 3 lo hi wx R ys0 ∧ (World.heap w4).size ≤ lo ∧ hi ≤ wx.heap.size ∧ (g < lo ∨ hi ≤ g))
      case first =>
        go_region_held3 (fun w' => Below (World.heap w4).size w4 w' ∧ ∀ b o, b < (World.heap w4).size → w'.cell? ⟨b, o, none⟩ = World.cell? w4 ⟨b, o, none⟩) (first | exact cls_of (ext_drew _) | exact cls_of (ext_drew _) | exact cls_next (by assumption) hb5 | exact cls_next (by assumption) hb6 | exact cls_next (by assumption) hb7 | exact cls_alloc (by assumption) _ | assumption | exact cls_of (ext_trans (ext_trans (ext_trans (ext_trans (ext_drew w4) hb5) hb6) hb7) (ext_alloc _ _)) | exact cls_set3 (ext_trans (ext_trans (ext_trans (ext_trans (ext_alloc w4 _) (ext_drew _)) hb5) hb6) hb7) (Nat.le_refl _) | exact cls_set3 (ext_trans (ext_trans (ext_trans (ext_trans (ext_drew w4) hb5) (ext_alloc _ _)) hb6) hb7) ((ext_trans (ext_drew w4) hb5).size) | exact cls_set3 (ext_trans (ext_trans (ext_trans (ext_trans (ext_drew w4) hb5) hb6) (ext_alloc _ _)) hb7) ((ext_trans (ext_trans (ext_drew w4) hb5) hb6).size)) ((first | (go_at_call 12; (with_reducible refine (toScan_any rows0 cols0 A0 c0 xs0 _ hn0 (hA0.ext (ext_trans hB (held_below (by assumption))))).mono ?_); rintro e w5 ⟨D2, rfl, fx2, hb5⟩; have hchb5 := bcell hb5; have hfhb5 := fcell hb5; have hzhb5 := hb5.size; (try (have hghb5 := alloc_lt hb5)); (try (have hghb5 := alloc_lt' hb5))) | (go_at_call 12; (with_reducible refine (toScan_any rows1 cols1 A1 c1 xs1 _ hn1 (hA1.ext (ext_trans hB (held_below (by assumption))))).mono ?_); rintro e w6 ⟨D3, rfl, fx3, hb6⟩; have hchb6 := bcell hb6; have hfhb6 := fcell hb6; have hzhb6 := hb6.size; (try (have hghb6 := alloc_lt hb6)); (try (have hghb6 := alloc_lt' hb6)); (try (have hhhb6hb5 := Nat.lt_of_lt_of_le hghb5 hb6.size)); (try (have hihb6hb5 := Nat.lt_of_lt_of_le hhhb5hb5 hb6.size))) | (go_at_call 34; (with_reducible refine (HSPEC.out _ _ _ ?_ ?_).mono ?_); (first | exact ((fx2.ext (ext_alloc _ _)).ext hb6).fl | exact ((fx2.ext hb6).ext (ext_alloc _ _)).fl | exact (fx2.ext hb6).fl); (first | exact (fx3.ext (ext_alloc _ _)).fl | exact fx3.fl); rintro e w7 ⟨R1, d1, rfl, fr1, hb7⟩; have hchb7 := bcell hb7; have hfhb7 := fcell hb7; have hzhb7 := hb7.size; (try (have hghb7 := alloc_lt hb7)); (try (have hghb7 := alloc_lt' hb7)); (try (have hhhb7hb5 := Nat.lt_of_lt_of_le hghb5 hb7.size)); (try (have hihb7hb5 := Nat.lt_of_lt_of_le hhhb6hb5 hb7.size)); (try (have hhhb7hb6 := Nat.lt_of_lt_of_le hghb6 hb7.size)); (try (have hihb7hb6 := Nat.lt_of_lt_of_le hhhb6hb6 hb7.size)))))
        all_goals
          go_wp2_with fail
          go_meet
          try have hp0_0 := (ext_trans (ext_trans (ext_alloc w4 _) (ext_drew _)) hb5).size
          try have hp0_1 := (ext_trans (ext_trans (ext_trans (ext_alloc w4 _) (ext_drew _)) hb5) hb6).size
          try have hp0_2 := (ext_trans (ext_trans (ext_trans (ext_trans (ext_alloc w4 _) (ext_drew _)) hb5) hb6) hb7).size
          try have hp1_0 := (ext_trans (ext_drew w4) hb5).size
          try have hp1_1 := (ext_trans (ext_trans (ext_trans (ext_drew w4) hb5) (ext_alloc _ _)) hb6).size
          try have hp1_2 := (ext_trans (ext_trans (ext_trans (ext_trans (ext_drew w4) hb5) (ext_alloc _ _)) hb6) hb7).size
          try have hp2_0 := (ext_trans (ext_drew w4) hb5).size
          try have hp2_1 := (ext_trans (ext_trans (ext_drew w4) hb5) hb6).size
          try have hp2_2 := (ext_trans (ext_trans (ext_trans (ext_trans (ext_drew w4) hb5) hb6) (ext_alloc _ _)) hb7).size
          try have hp3_0 := (ext_trans (ext_drew w4) hb5).size
          try have hp3_1 := (ext_trans (ext_trans (ext_drew w4) hb5) hb6).size
          try have hp3_2 := (ext_trans (ext_trans (ext_trans (ext_drew w4) hb5) hb6) hb7).size
          first | (refine ⟨_, R1, d1, _, _, rfl, rfl, ext_trans (ext_trans (ext_trans (ext_trans (ext_drew w4) hb5) hb6) hb7) (ext_alloc _ _), (ext_trans (ext_trans (ext_trans (ext_drew w4) hb5) hb6) hb7).size, var3_box w7 _ _ _ _, fr1.ext (ext_alloc _ _), ?_, ?_, .inr (Nat.le_refl _)⟩ <;> (first | omega | (simp; done) | (simp; omega))) | (refine ⟨(World.heap w4).size, R1, d1, _, _, rfl, rfl, (set3_touch w7 (World.heap w4).size _ _ _).below (ext_trans (ext_trans (ext_trans (ext_trans (ext_alloc w4 _) (ext_drew _)) hb5) hb6) hb7) ?_, ?_, Var3.set3 (((((var3_box w4 _ _ _ _).ext (ext_drew _)).ext hb5).ext hb6).ext hb7) _ _ _, fr1.touch (set3_touch w7 (World.heap w4).size _ _ _) (.inr ?_), ?_, ?_, .inl ?_⟩ <;> (first | omega | (simp [setCell_size]; done) | (simp [setCell_size]; omega))) | (refine ⟨(World.heap w5).size, R1, d1, _, _, rfl, rfl, (set3_touch w7 (World.heap w5).size _ _ _).below (ext_trans (ext_trans (ext_trans (ext_trans (ext_drew w4) hb5) (ext_alloc _ _)) hb6) hb7) ?_, ?_, Var3.set3 (((var3_box w5 _ _ _ _).ext hb6).ext hb7) _ _ _, fr1.touch (set3_touch w7 (World.heap w5).size _ _ _) (.inr ?_), ?_, ?_, .inl ?_⟩ <;> (first | omega | (simp [setCell_size]; done) | (simp [setCell_size]; omega))) | (refine ⟨(World.heap w6).size, R1, d1, _, _, rfl, rfl, (set3_touch w7 (World.heap w6).size _ _ _).below (ext_trans (ext_trans (ext_trans (ext_trans (ext_drew w4) hb5) hb6) (ext_alloc _ _)) hb7) ?_, ?_, Var3.set3 ((var3_box w6 _ _ _ _).ext hb7) _ _ _, fr1.touch (set3_touch w7 (World.heap w6).size _ _ _) (.inr ?_), ?_, ?_, .inl ?_⟩ <;> (first | omega | (simp [setCell_size]; done) | (simp [setCell_size]; omega)))
      case rest =>
        obtain ⟨G1, R1_0, d1_0, lo1, hi1, rfl, rfl, hb1c, hG1, V1, fr1_0, hl1q, hh1q, hx1q⟩ := hcut
        obtain ⟨w8, hw8⟩ : ∃ z, z = wc := ⟨_, rfl⟩
        subst hw8
        replace a0_0 := (hb1c.cell (p := ⟨(World.heap w).size, 0, none⟩) a0h).trans a0_0
        replace a0_1 := (hb1c.cell (p := ⟨(World.heap w).size, 1, none⟩) a0h).trans a0_1
        replace a0_2 := (hb1c.cell (p := ⟨(World.heap w).size, 2, none⟩) a0h).trans a0_2
        replace a0h := Nat.lt_of_lt_of_le a0h hb1c.size
        replace a1_0 := (hb1c.cell (p := ⟨(World.heap U1).size, 0, none⟩) a1h).trans a1_0
        replace a1_1 := (hb1c.cell (p := ⟨(World.heap U1).size, 1, none⟩) a1h).trans a1_1
        replace a1_2 := (hb1c.cell (p := ⟨(World.heap U1).size, 2, none⟩) a1h).trans a1_2
        replace a1h := Nat.lt_of_lt_of_le a1h hb1c.size
        replace hB := ext_trans hB hb1c
        have hz8 := hb1c.size
        have y1_0_0 := V1.c0
        have y1_0_1 := V1.c1
        have y1_0_2 := V1.c2
        have y1_0h := V1.lt
        have hsy1_0q := V1.lt
        go_wp2_with fail
        ((with_reducible refine (toScan_any rows0 cols0 A0 c0 xs0 w8 hn0 (hA0.ext hB)).mono ?_); rintro e w9 ⟨D4, rfl, fx4, hb9⟩)
        replace fr1_0 := fr1_0.ext hb9
        replace a0_0 := (hb9.cell (p := ⟨(World.heap w).size, 0, none⟩) a0h).trans a0_0
        replace a0_1 := (hb9.cell (p := ⟨(World.heap w).size, 1, none⟩) a0h).trans a0_1
        replace a0_2 := (hb9.cell (p := ⟨(World.heap w).size, 2, none⟩) a0h).trans a0_2
        replace a0h := Nat.lt_of_lt_of_le a0h hb9.size
        replace a1_0 := (hb9.cell (p := ⟨(World.heap U1).size, 0, none⟩) a1h).trans a1_0
        replace a1_1 := (hb9.cell (p := ⟨(World.heap U1).size, 1, none⟩) a1h).trans a1_1
        replace a1_2 := (hb9.cell (p := ⟨(World.heap U1).size, 2, none⟩) a1h).trans a1_2
        replace a1h := Nat.lt_of_lt_of_le a1h hb9.size
        replace y1_0_0 := (hb9.cell (p := ⟨G1, 0, none⟩) y1_0h).trans y1_0_0
        replace y1_0_1 := (hb9.cell (p := ⟨G1, 1, none⟩) y1_0h).trans y1_0_1
        replace y1_0_2 := (hb9.cell (p := ⟨G1, 2, none⟩) y1_0h).trans y1_0_2
        replace y1_0h := Nat.lt_of_lt_of_le y1_0h hb9.size
        replace hB := ext_trans hB hb9
        have hz9 := hb9.size
        obtain ⟨U3, hU3, hD3, hs3, hv3, _⟩ := box_world w9 #[Value.int .i64 rows0, Value.int .i64 cols0, Value.slice (some ⟨D4, 0, none⟩) xs0.length xs0.length] 28
        replace fr1_0 := fr1_0.ext hD3
        replace fx4 := fx4.ext hD3
        replace a0_0 := (hD3.cell (p := ⟨(World.heap w).size, 0, none⟩) a0h).trans a0_0
        replace a0_1 := (hD3.cell (p := ⟨(World.heap w).size, 1, none⟩) a0h).trans a0_1
        replace a0_2 := (hD3.cell (p := ⟨(World.heap w).size, 2, none⟩) a0h).trans a0_2
        replace a0h := Nat.lt_of_lt_of_le a0h hD3.size
        replace a1_0 := (hD3.cell (p := ⟨(World.heap U1).size, 0, none⟩) a1h).trans a1_0
        replace a1_1 := (hD3.cell (p := ⟨(World.heap U1).size, 1, none⟩) a1h).trans a1_1
        replace a1_2 := (hD3.cell (p := ⟨(World.heap U1).size, 2, none⟩) a1h).trans a1_2
        replace a1h := Nat.lt_of_lt_of_le a1h hD3.size
        replace y1_0_0 := (hD3.cell (p := ⟨G1, 0, none⟩) y1_0h).trans y1_0_0
        replace y1_0_1 := (hD3.cell (p := ⟨G1, 1, none⟩) y1_0h).trans y1_0_1
        replace y1_0_2 := (hD3.cell (p := ⟨G1, 2, none⟩) y1_0h).trans y1_0_2
        replace y1_0h := Nat.lt_of_lt_of_le y1_0h hD3.size
        replace hB := ext_trans hB hD3
        have hz10 := hD3.size
        have x0_0 : World.cell? U3 ⟨(World.heap w9).size, 0, none⟩ = some (Value.int .i64 rows0) := hv3 0
        have x0_1 : World.cell? U3 ⟨(World.heap w9).size, 1, none⟩ = some (Value.int .i64 cols0) := hv3 1
        have x0_2 : World.cell? U3 ⟨(World.heap w9).size, 2, none⟩ = some (Value.slice (some ⟨D4, 0, none⟩) xs0.length xs0.length) := hv3 2
        have x0h := hs3
        clear hv3
        go_wp2_with fail
        clear hU3
        ((with_reducible refine (toScan_any rows1 cols1 A1 c1 xs1 U3 hn1 (hA1.ext hB)).mono ?_); rintro e w11 ⟨D5, rfl, fx5, hb11⟩)
        replace fr1_0 := fr1_0.ext hb11
        replace fx4 := fx4.ext hb11
        replace a0_0 := (hb11.cell (p := ⟨(World.heap w).size, 0, none⟩) a0h).trans a0_0
        replace a0_1 := (hb11.cell (p := ⟨(World.heap w).size, 1, none⟩) a0h).trans a0_1
        replace a0_2 := (hb11.cell (p := ⟨(World.heap w).size, 2, none⟩) a0h).trans a0_2
        replace a0h := Nat.lt_of_lt_of_le a0h hb11.size
        replace a1_0 := (hb11.cell (p := ⟨(World.heap U1).size, 0, none⟩) a1h).trans a1_0
        replace a1_1 := (hb11.cell (p := ⟨(World.heap U1).size, 1, none⟩) a1h).trans a1_1
        replace a1_2 := (hb11.cell (p := ⟨(World.heap U1).size, 2, none⟩) a1h).trans a1_2
        replace a1h := Nat.lt_of_lt_of_le a1h hb11.size
        replace y1_0_0 := (hb11.cell (p := ⟨G1, 0, none⟩) y1_0h).trans y1_0_0
        replace y1_0_1 := (hb11.cell (p := ⟨G1, 1, none⟩) y1_0h).trans y1_0_1
        replace y1_0_2 := (hb11.cell (p := ⟨G1, 2, none⟩) y1_0h).trans y1_0_2
        replace y1_0h := Nat.lt_of_lt_of_le y1_0h hb11.size
        replace x0_0 := (hb11.cell (p := ⟨(World.heap w9).size, 0, none⟩) x0h).trans x0_0
        replace x0_1 := (hb11.cell (p := ⟨(World.heap w9).size, 1, none⟩) x0h).trans x0_1
        replace x0_2 := (hb11.cell (p := ⟨(World.heap w9).size, 2, none⟩) x0h).trans x0_2
        replace x0h := Nat.lt_of_lt_of_le x0h hb11.size
        replace hB := ext_trans hB hb11
        have hz11 := hb11.size
        obtain ⟨U4, hU4, hD4, hs4, hv4, _⟩ := box_world w11 #[Value.int .i64 rows1, Value.int .i64 cols1, Value.slice (some ⟨D5, 0, none⟩) xs1.length xs1.length] 28
        replace fr1_0 := fr1_0.ext hD4
        replace fx4 := fx4.ext hD4
        replace fx5 := fx5.ext hD4
        replace a0_0 := (hD4.cell (p := ⟨(World.heap w).size, 0, none⟩) a0h).trans a0_0
        replace a0_1 := (hD4.cell (p := ⟨(World.heap w).size, 1, none⟩) a0h).trans a0_1
        replace a0_2 := (hD4.cell (p := ⟨(World.heap w).size, 2, none⟩) a0h).trans a0_2
        replace a0h := Nat.lt_of_lt_of_le a0h hD4.size
        replace a1_0 := (hD4.cell (p := ⟨(World.heap U1).size, 0, none⟩) a1h).trans a1_0
        replace a1_1 := (hD4.cell (p := ⟨(World.heap U1).size, 1, none⟩) a1h).trans a1_1
        replace a1_2 := (hD4.cell (p := ⟨(World.heap U1).size, 2, none⟩) a1h).trans a1_2
        replace a1h := Nat.lt_of_lt_of_le a1h hD4.size
        replace y1_0_0 := (hD4.cell (p := ⟨G1, 0, none⟩) y1_0h).trans y1_0_0
        replace y1_0_1 := (hD4.cell (p := ⟨G1, 1, none⟩) y1_0h).trans y1_0_1
        replace y1_0_2 := (hD4.cell (p := ⟨G1, 2, none⟩) y1_0h).trans y1_0_2
        replace y1_0h := Nat.lt_of_lt_of_le y1_0h hD4.size
        replace x0_0 := (hD4.cell (p := ⟨(World.heap w9).size, 0, none⟩) x0h).trans x0_0
        replace x0_1 := (hD4.cell (p := ⟨(World.heap w9).size, 1, none⟩) x0h).trans x0_1
        replace x0_2 := (hD4.cell (p := ⟨(World.heap w9).size, 2, none⟩) x0h).trans x0_2
        replace x0h := Nat.lt_of_lt_of_le x0h hD4.size
        replace hB := ext_trans hB hD4
        have hz12 := hD4.size
        have x1_0 : World.cell? U4 ⟨(World.heap w11).size, 0, none⟩ = some (Value.int .i64 rows1) := hv4 0
        have x1_1 : World.cell? U4 ⟨(World.heap w11).size, 1, none⟩ = some (Value.int .i64 cols1) := hv4 1
        have x1_2 : World.cell? U4 ⟨(World.heap w11).size, 2, none⟩ = some (Value.slice (some ⟨D5, 0, none⟩) xs1.length xs1.length) := hv4 2
        have x1h := hs4
        clear hv4
        go_wp2_with fail
        clear hU4
        ((with_reducible refine (HIMPL.out _ _ U4 fx4.fl fx5.fl).mono ?_); rintro e w13 ⟨R6_0, d6_0, rfl, fr6_0, hb13⟩)
        replace fr1_0 := fr1_0.ext hb13
        replace fx4 := fx4.ext hb13
        replace fx5 := fx5.ext hb13
        replace a0_0 := (hb13.cell (p := ⟨(World.heap w).size, 0, none⟩) a0h).trans a0_0
        replace a0_1 := (hb13.cell (p := ⟨(World.heap w).size, 1, none⟩) a0h).trans a0_1
        replace a0_2 := (hb13.cell (p := ⟨(World.heap w).size, 2, none⟩) a0h).trans a0_2
        replace a0h := Nat.lt_of_lt_of_le a0h hb13.size
        replace a1_0 := (hb13.cell (p := ⟨(World.heap U1).size, 0, none⟩) a1h).trans a1_0
        replace a1_1 := (hb13.cell (p := ⟨(World.heap U1).size, 1, none⟩) a1h).trans a1_1
        replace a1_2 := (hb13.cell (p := ⟨(World.heap U1).size, 2, none⟩) a1h).trans a1_2
        replace a1h := Nat.lt_of_lt_of_le a1h hb13.size
        replace y1_0_0 := (hb13.cell (p := ⟨G1, 0, none⟩) y1_0h).trans y1_0_0
        replace y1_0_1 := (hb13.cell (p := ⟨G1, 1, none⟩) y1_0h).trans y1_0_1
        replace y1_0_2 := (hb13.cell (p := ⟨G1, 2, none⟩) y1_0h).trans y1_0_2
        replace y1_0h := Nat.lt_of_lt_of_le y1_0h hb13.size
        replace x0_0 := (hb13.cell (p := ⟨(World.heap w9).size, 0, none⟩) x0h).trans x0_0
        replace x0_1 := (hb13.cell (p := ⟨(World.heap w9).size, 1, none⟩) x0h).trans x0_1
        replace x0_2 := (hb13.cell (p := ⟨(World.heap w9).size, 2, none⟩) x0h).trans x0_2
        replace x0h := Nat.lt_of_lt_of_le x0h hb13.size
        replace x1_0 := (hb13.cell (p := ⟨(World.heap w11).size, 0, none⟩) x1h).trans x1_0
        replace x1_1 := (hb13.cell (p := ⟨(World.heap w11).size, 1, none⟩) x1h).trans x1_1
        replace x1_2 := (hb13.cell (p := ⟨(World.heap w11).size, 2, none⟩) x1h).trans x1_2
        replace x1h := Nat.lt_of_lt_of_le x1h hb13.size
        replace hB := ext_trans hB hb13
        have hz13 := hb13.size
        obtain ⟨U5, hU5, hD5, hs5, hv5, _⟩ := box_world w13 #[Value.int .i64 ok0, Value.int .i64 ok1, Value.slice R6_0 ys0.length d6_0] 28
        replace fr1_0 := fr1_0.ext hD5
        replace fx4 := fx4.ext hD5
        replace fx5 := fx5.ext hD5
        replace fr6_0 := fr6_0.ext hD5
        replace a0_0 := (hD5.cell (p := ⟨(World.heap w).size, 0, none⟩) a0h).trans a0_0
        replace a0_1 := (hD5.cell (p := ⟨(World.heap w).size, 1, none⟩) a0h).trans a0_1
        replace a0_2 := (hD5.cell (p := ⟨(World.heap w).size, 2, none⟩) a0h).trans a0_2
        replace a0h := Nat.lt_of_lt_of_le a0h hD5.size
        replace a1_0 := (hD5.cell (p := ⟨(World.heap U1).size, 0, none⟩) a1h).trans a1_0
        replace a1_1 := (hD5.cell (p := ⟨(World.heap U1).size, 1, none⟩) a1h).trans a1_1
        replace a1_2 := (hD5.cell (p := ⟨(World.heap U1).size, 2, none⟩) a1h).trans a1_2
        replace a1h := Nat.lt_of_lt_of_le a1h hD5.size
        replace y1_0_0 := (hD5.cell (p := ⟨G1, 0, none⟩) y1_0h).trans y1_0_0
        replace y1_0_1 := (hD5.cell (p := ⟨G1, 1, none⟩) y1_0h).trans y1_0_1
        replace y1_0_2 := (hD5.cell (p := ⟨G1, 2, none⟩) y1_0h).trans y1_0_2
        replace y1_0h := Nat.lt_of_lt_of_le y1_0h hD5.size
        replace x0_0 := (hD5.cell (p := ⟨(World.heap w9).size, 0, none⟩) x0h).trans x0_0
        replace x0_1 := (hD5.cell (p := ⟨(World.heap w9).size, 1, none⟩) x0h).trans x0_1
        replace x0_2 := (hD5.cell (p := ⟨(World.heap w9).size, 2, none⟩) x0h).trans x0_2
        replace x0h := Nat.lt_of_lt_of_le x0h hD5.size
        replace x1_0 := (hD5.cell (p := ⟨(World.heap w11).size, 0, none⟩) x1h).trans x1_0
        replace x1_1 := (hD5.cell (p := ⟨(World.heap w11).size, 1, none⟩) x1h).trans x1_1
        replace x1_2 := (hD5.cell (p := ⟨(World.heap w11).size, 2, none⟩) x1h).trans x1_2
        replace x1h := Nat.lt_of_lt_of_le x1h hD5.size
        replace hB := ext_trans hB hD5
        have hz14 := hD5.size
        have y6_0_0 : World.cell? U5 ⟨(World.heap w13).size, 0, none⟩ = some (Value.int .i64 ok0) := hv5 0
        have y6_0_1 : World.cell? U5 ⟨(World.heap w13).size, 1, none⟩ = some (Value.int .i64 ok1) := hv5 1
        have y6_0_2 : World.cell? U5 ⟨(World.heap w13).size, 2, none⟩ = some (Value.slice R6_0 ys0.length d6_0) := hv5 2
        have y6_0h := hs5
        clear hv5
        go_wp2_with fail
        clear hU5
        ((with_reducible refine (eqScan_same _ _ _ _ _ _ ys0 _ (by omega) fr6_0.fl fr1_0.fl).mono ?_); rintro e w15 ⟨rfl, hb15⟩)
        replace fr1_0 := fr1_0.ext hb15
        replace fx4 := fx4.ext hb15
        replace fx5 := fx5.ext hb15
        replace fr6_0 := fr6_0.ext hb15
        replace a0_0 := (hb15.cell (p := ⟨(World.heap w).size, 0, none⟩) a0h).trans a0_0
        replace a0_1 := (hb15.cell (p := ⟨(World.heap w).size, 1, none⟩) a0h).trans a0_1
        replace a0_2 := (hb15.cell (p := ⟨(World.heap w).size, 2, none⟩) a0h).trans a0_2
        replace a0h := Nat.lt_of_lt_of_le a0h hb15.size
        replace a1_0 := (hb15.cell (p := ⟨(World.heap U1).size, 0, none⟩) a1h).trans a1_0
        replace a1_1 := (hb15.cell (p := ⟨(World.heap U1).size, 1, none⟩) a1h).trans a1_1
        replace a1_2 := (hb15.cell (p := ⟨(World.heap U1).size, 2, none⟩) a1h).trans a1_2
        replace a1h := Nat.lt_of_lt_of_le a1h hb15.size
        replace y1_0_0 := (hb15.cell (p := ⟨G1, 0, none⟩) y1_0h).trans y1_0_0
        replace y1_0_1 := (hb15.cell (p := ⟨G1, 1, none⟩) y1_0h).trans y1_0_1
        replace y1_0_2 := (hb15.cell (p := ⟨G1, 2, none⟩) y1_0h).trans y1_0_2
        replace y1_0h := Nat.lt_of_lt_of_le y1_0h hb15.size
        replace x0_0 := (hb15.cell (p := ⟨(World.heap w9).size, 0, none⟩) x0h).trans x0_0
        replace x0_1 := (hb15.cell (p := ⟨(World.heap w9).size, 1, none⟩) x0h).trans x0_1
        replace x0_2 := (hb15.cell (p := ⟨(World.heap w9).size, 2, none⟩) x0h).trans x0_2
        replace x0h := Nat.lt_of_lt_of_le x0h hb15.size
        replace x1_0 := (hb15.cell (p := ⟨(World.heap w11).size, 0, none⟩) x1h).trans x1_0
        replace x1_1 := (hb15.cell (p := ⟨(World.heap w11).size, 1, none⟩) x1h).trans x1_1
        replace x1_2 := (hb15.cell (p := ⟨(World.heap w11).size, 2, none⟩) x1h).trans x1_2
        replace x1h := Nat.lt_of_lt_of_le x1h hb15.size
        replace y6_0_0 := (hb15.cell (p := ⟨(World.heap w13).size, 0, none⟩) y6_0h).trans y6_0_0
        replace y6_0_1 := (hb15.cell (p := ⟨(World.heap w13).size, 1, none⟩) y6_0h).trans y6_0_1
        replace y6_0_2 := (hb15.cell (p := ⟨(World.heap w13).size, 2, none⟩) y6_0h).trans y6_0_2
        replace y6_0h := Nat.lt_of_lt_of_le y6_0h hb15.size
        replace hB := ext_trans hB hb15
        have hz15 := hb15.size
        go_wp2_with fail
        go_region_held3 (fun w' => Below (World.heap w15).size w15 w' ∧ ∀ b o, b < (World.heap w15).size → w'.cell? ⟨b, o, none⟩ = World.cell? w15 ⟨b, o, none⟩) (first | exact cls_of (ext_drew _) | exact cls_of (ext_trans (ext_drew _) hb16) | exact cls_of (ext_trans (ext_trans (ext_drew _) hb16) hb17)) ((first | (go_at_call 12; refine (toScan_any rows0 cols0 A0 c0 xs0 _ hn0 (hA0.ext (ext_trans hB (ext_drew _)))).mono ?_; rintro e w16 ⟨D7, rfl, fx7, hb16⟩) | (go_at_call 14; refine (eqScan_same rows0 cols0 _ _ _ _ xs0 _ (by omega) (fx4.ext (ext_trans (ext_drew _) hb16)).fl fx7.fl).mono ?_; rintro e w17 ⟨rfl, hb17⟩)))
        have hb17q := ext_trans (ext_trans (ext_drew w15) hb16) hb17
        replace fr1_0 := fr1_0.ext hb17q
        replace fx4 := fx4.ext hb17q
        replace fx5 := fx5.ext hb17q
        replace fr6_0 := fr6_0.ext hb17q
        replace a0_0 := (hb17q.cell (p := ⟨(World.heap w).size, 0, none⟩) a0h).trans a0_0
        replace a0_1 := (hb17q.cell (p := ⟨(World.heap w).size, 1, none⟩) a0h).trans a0_1
        replace a0_2 := (hb17q.cell (p := ⟨(World.heap w).size, 2, none⟩) a0h).trans a0_2
        replace a0h := Nat.lt_of_lt_of_le a0h hb17q.size
        replace a1_0 := (hb17q.cell (p := ⟨(World.heap U1).size, 0, none⟩) a1h).trans a1_0
        replace a1_1 := (hb17q.cell (p := ⟨(World.heap U1).size, 1, none⟩) a1h).trans a1_1
        replace a1_2 := (hb17q.cell (p := ⟨(World.heap U1).size, 2, none⟩) a1h).trans a1_2
        replace a1h := Nat.lt_of_lt_of_le a1h hb17q.size
        replace y1_0_0 := (hb17q.cell (p := ⟨G1, 0, none⟩) y1_0h).trans y1_0_0
        replace y1_0_1 := (hb17q.cell (p := ⟨G1, 1, none⟩) y1_0h).trans y1_0_1
        replace y1_0_2 := (hb17q.cell (p := ⟨G1, 2, none⟩) y1_0h).trans y1_0_2
        replace y1_0h := Nat.lt_of_lt_of_le y1_0h hb17q.size
        replace x0_0 := (hb17q.cell (p := ⟨(World.heap w9).size, 0, none⟩) x0h).trans x0_0
        replace x0_1 := (hb17q.cell (p := ⟨(World.heap w9).size, 1, none⟩) x0h).trans x0_1
        replace x0_2 := (hb17q.cell (p := ⟨(World.heap w9).size, 2, none⟩) x0h).trans x0_2
        replace x0h := Nat.lt_of_lt_of_le x0h hb17q.size
        replace x1_0 := (hb17q.cell (p := ⟨(World.heap w11).size, 0, none⟩) x1h).trans x1_0
        replace x1_1 := (hb17q.cell (p := ⟨(World.heap w11).size, 1, none⟩) x1h).trans x1_1
        replace x1_2 := (hb17q.cell (p := ⟨(World.heap w11).size, 2, none⟩) x1h).trans x1_2
        replace x1h := Nat.lt_of_lt_of_le x1h hb17q.size
        replace y6_0_0 := (hb17q.cell (p := ⟨(World.heap w13).size, 0, none⟩) y6_0h).trans y6_0_0
        replace y6_0_1 := (hb17q.cell (p := ⟨(World.heap w13).size, 1, none⟩) y6_0h).trans y6_0_1
        replace y6_0_2 := (hb17q.cell (p := ⟨(World.heap w13).size, 2, none⟩) y6_0h).trans y6_0_2
        replace y6_0h := Nat.lt_of_lt_of_le y6_0h hb17q.size
        replace hB := ext_trans hB hb17q
        have hz17 := hb17q.size
        go_wp2_with fail
        go_region_held3 (fun w' => Below (World.heap w17).size w17 w' ∧ ∀ b o, b < (World.heap w17).size → w'.cell? ⟨b, o, none⟩ = World.cell? w17 ⟨b, o, none⟩) (first | exact cls_of (ext_drew _) | exact cls_of (ext_trans (ext_drew _) hb18) | exact cls_of (ext_trans (ext_trans (ext_drew _) hb18) hb19)) ((first | (go_at_call 12; refine (toScan_any rows1 cols1 A1 c1 xs1 _ hn1 (hA1.ext (ext_trans hB (ext_drew _)))).mono ?_; rintro e w18 ⟨D8, rfl, fx8, hb18⟩) | (go_at_call 14; refine (eqScan_same rows1 cols1 _ _ _ _ xs1 _ (by omega) (fx5.ext (ext_trans (ext_drew _) hb18)).fl fx8.fl).mono ?_; rintro e w19 ⟨rfl, hb19⟩)))
        have hb19q := ext_trans (ext_trans (ext_drew w17) hb18) hb19
        replace fr1_0 := fr1_0.ext hb19q
        replace fx4 := fx4.ext hb19q
        replace fx5 := fx5.ext hb19q
        replace fr6_0 := fr6_0.ext hb19q
        replace a0_0 := (hb19q.cell (p := ⟨(World.heap w).size, 0, none⟩) a0h).trans a0_0
        replace a0_1 := (hb19q.cell (p := ⟨(World.heap w).size, 1, none⟩) a0h).trans a0_1
        replace a0_2 := (hb19q.cell (p := ⟨(World.heap w).size, 2, none⟩) a0h).trans a0_2
        replace a0h := Nat.lt_of_lt_of_le a0h hb19q.size
        replace a1_0 := (hb19q.cell (p := ⟨(World.heap U1).size, 0, none⟩) a1h).trans a1_0
        replace a1_1 := (hb19q.cell (p := ⟨(World.heap U1).size, 1, none⟩) a1h).trans a1_1
        replace a1_2 := (hb19q.cell (p := ⟨(World.heap U1).size, 2, none⟩) a1h).trans a1_2
        replace a1h := Nat.lt_of_lt_of_le a1h hb19q.size
        replace y1_0_0 := (hb19q.cell (p := ⟨G1, 0, none⟩) y1_0h).trans y1_0_0
        replace y1_0_1 := (hb19q.cell (p := ⟨G1, 1, none⟩) y1_0h).trans y1_0_1
        replace y1_0_2 := (hb19q.cell (p := ⟨G1, 2, none⟩) y1_0h).trans y1_0_2
        replace y1_0h := Nat.lt_of_lt_of_le y1_0h hb19q.size
        replace x0_0 := (hb19q.cell (p := ⟨(World.heap w9).size, 0, none⟩) x0h).trans x0_0
        replace x0_1 := (hb19q.cell (p := ⟨(World.heap w9).size, 1, none⟩) x0h).trans x0_1
        replace x0_2 := (hb19q.cell (p := ⟨(World.heap w9).size, 2, none⟩) x0h).trans x0_2
        replace x0h := Nat.lt_of_lt_of_le x0h hb19q.size
        replace x1_0 := (hb19q.cell (p := ⟨(World.heap w11).size, 0, none⟩) x1h).trans x1_0
        replace x1_1 := (hb19q.cell (p := ⟨(World.heap w11).size, 1, none⟩) x1h).trans x1_1
        replace x1_2 := (hb19q.cell (p := ⟨(World.heap w11).size, 2, none⟩) x1h).trans x1_2
        replace x1h := Nat.lt_of_lt_of_le x1h hb19q.size
        replace y6_0_0 := (hb19q.cell (p := ⟨(World.heap w13).size, 0, none⟩) y6_0h).trans y6_0_0
        replace y6_0_1 := (hb19q.cell (p := ⟨(World.heap w13).size, 1, none⟩) y6_0h).trans y6_0_1
        replace y6_0_2 := (hb19q.cell (p := ⟨(World.heap w13).size, 2, none⟩) y6_0h).trans y6_0_2
        replace y6_0h := Nat.lt_of_lt_of_le y6_0h hb19q.size
        replace hB := ext_trans hB hb19q
        have hz19 := hb19q.size
        go_wp2_with fail
        ((with_reducible refine (markScan_any rows0 cols0 _ _ _ _ (1) xs0 w19 (by omega) (by omega) (by omega) fx4).mono ?_); rintro e w20 ⟨rfl, nx20, ht20⟩)
        replace fr1_0 := fr1_0.touch ht20 (by omega)
        replace fx5 := fx5.touch ht20 (by omega)
        replace fr6_0 := fr6_0.touch ht20 (by omega)
        replace a0_0 := (ht20.cell (b := (World.heap w).size) (o := 0) a0h (by omega)).trans a0_0
        replace a0_1 := (ht20.cell (b := (World.heap w).size) (o := 1) a0h (by omega)).trans a0_1
        replace a0_2 := (ht20.cell (b := (World.heap w).size) (o := 2) a0h (by omega)).trans a0_2
        replace a0h := Nat.lt_of_lt_of_le a0h ht20.size
        replace a1_0 := (ht20.cell (b := (World.heap U1).size) (o := 0) a1h (by omega)).trans a1_0
        replace a1_1 := (ht20.cell (b := (World.heap U1).size) (o := 1) a1h (by omega)).trans a1_1
        replace a1_2 := (ht20.cell (b := (World.heap U1).size) (o := 2) a1h (by omega)).trans a1_2
        replace a1h := Nat.lt_of_lt_of_le a1h ht20.size
        replace y1_0_0 := (ht20.cell (b := G1) (o := 0) y1_0h (by omega)).trans y1_0_0
        replace y1_0_1 := (ht20.cell (b := G1) (o := 1) y1_0h (by omega)).trans y1_0_1
        replace y1_0_2 := (ht20.cell (b := G1) (o := 2) y1_0h (by omega)).trans y1_0_2
        replace y1_0h := Nat.lt_of_lt_of_le y1_0h ht20.size
        replace x0_0 := (ht20.cell (b := (World.heap w9).size) (o := 0) x0h (by omega)).trans x0_0
        replace x0_1 := (ht20.cell (b := (World.heap w9).size) (o := 1) x0h (by omega)).trans x0_1
        replace x0_2 := (ht20.cell (b := (World.heap w9).size) (o := 2) x0h (by omega)).trans x0_2
        replace x0h := Nat.lt_of_lt_of_le x0h ht20.size
        replace x1_0 := (ht20.cell (b := (World.heap w11).size) (o := 0) x1h (by omega)).trans x1_0
        replace x1_1 := (ht20.cell (b := (World.heap w11).size) (o := 1) x1h (by omega)).trans x1_1
        replace x1_2 := (ht20.cell (b := (World.heap w11).size) (o := 2) x1h (by omega)).trans x1_2
        replace x1h := Nat.lt_of_lt_of_le x1h ht20.size
        replace y6_0_0 := (ht20.cell (b := (World.heap w13).size) (o := 0) y6_0h (by omega)).trans y6_0_0
        replace y6_0_1 := (ht20.cell (b := (World.heap w13).size) (o := 1) y6_0h (by omega)).trans y6_0_1
        replace y6_0_2 := (ht20.cell (b := (World.heap w13).size) (o := 2) y6_0h (by omega)).trans y6_0_2
        replace y6_0h := Nat.lt_of_lt_of_le y6_0h ht20.size
        replace hB := ht20.below hB (by omega)
        have hz20 := ht20.size
        go_wp2_with fail
        ((with_reducible refine (markScan_any rows1 cols1 _ _ _ _ (1 + (xs0.length : Int) * 3) xs1 w20 (by omega) (by omega) (by omega) fx5).mono ?_); rintro e w21 ⟨rfl, nx21, ht21⟩)
        replace fr1_0 := fr1_0.touch ht21 (by omega)
        replace fr6_0 := fr6_0.touch ht21 (by omega)
        replace a0_0 := (ht21.cell (b := (World.heap w).size) (o := 0) a0h (by omega)).trans a0_0
        replace a0_1 := (ht21.cell (b := (World.heap w).size) (o := 1) a0h (by omega)).trans a0_1
        replace a0_2 := (ht21.cell (b := (World.heap w).size) (o := 2) a0h (by omega)).trans a0_2
        replace a0h := Nat.lt_of_lt_of_le a0h ht21.size
        replace a1_0 := (ht21.cell (b := (World.heap U1).size) (o := 0) a1h (by omega)).trans a1_0
        replace a1_1 := (ht21.cell (b := (World.heap U1).size) (o := 1) a1h (by omega)).trans a1_1
        replace a1_2 := (ht21.cell (b := (World.heap U1).size) (o := 2) a1h (by omega)).trans a1_2
        replace a1h := Nat.lt_of_lt_of_le a1h ht21.size
        replace y1_0_0 := (ht21.cell (b := G1) (o := 0) y1_0h (by omega)).trans y1_0_0
        replace y1_0_1 := (ht21.cell (b := G1) (o := 1) y1_0h (by omega)).trans y1_0_1
        replace y1_0_2 := (ht21.cell (b := G1) (o := 2) y1_0h (by omega)).trans y1_0_2
        replace y1_0h := Nat.lt_of_lt_of_le y1_0h ht21.size
        replace x0_0 := (ht21.cell (b := (World.heap w9).size) (o := 0) x0h (by omega)).trans x0_0
        replace x0_1 := (ht21.cell (b := (World.heap w9).size) (o := 1) x0h (by omega)).trans x0_1
        replace x0_2 := (ht21.cell (b := (World.heap w9).size) (o := 2) x0h (by omega)).trans x0_2
        replace x0h := Nat.lt_of_lt_of_le x0h ht21.size
        replace x1_0 := (ht21.cell (b := (World.heap w11).size) (o := 0) x1h (by omega)).trans x1_0
        replace x1_1 := (ht21.cell (b := (World.heap w11).size) (o := 1) x1h (by omega)).trans x1_1
        replace x1_2 := (ht21.cell (b := (World.heap w11).size) (o := 2) x1h (by omega)).trans x1_2
        replace x1h := Nat.lt_of_lt_of_le x1h ht21.size
        replace y6_0_0 := (ht21.cell (b := (World.heap w13).size) (o := 0) y6_0h (by omega)).trans y6_0_0
        replace y6_0_1 := (ht21.cell (b := (World.heap w13).size) (o := 1) y6_0h (by omega)).trans y6_0_1
        replace y6_0_2 := (ht21.cell (b := (World.heap w13).size) (o := 2) y6_0h (by omega)).trans y6_0_2
        replace y6_0h := Nat.lt_of_lt_of_le y6_0h ht21.size
        replace hB := ht21.below hB (by omega)
        have hz21 := ht21.size
        have hk0 : ¬ (1 + (xs0.length : Int) * 3 + (xs1.length : Int) * 3 : Int) < 0 := by omega
        go_wp2_with fail
        ((with_reducible refine (eqScan_same _ _ _ _ _ _ ys0 _ (by omega) fr6_0.fl fr1_0.fl).mono ?_); rintro e w22 ⟨rfl, hb22⟩)
        replace fr1_0 := fr1_0.ext hb22
        replace fr6_0 := fr6_0.ext hb22
        replace a0_0 := (hb22.cell (p := ⟨(World.heap w).size, 0, none⟩) a0h).trans a0_0
        replace a0_1 := (hb22.cell (p := ⟨(World.heap w).size, 1, none⟩) a0h).trans a0_1
        replace a0_2 := (hb22.cell (p := ⟨(World.heap w).size, 2, none⟩) a0h).trans a0_2
        replace a0h := Nat.lt_of_lt_of_le a0h hb22.size
        replace a1_0 := (hb22.cell (p := ⟨(World.heap U1).size, 0, none⟩) a1h).trans a1_0
        replace a1_1 := (hb22.cell (p := ⟨(World.heap U1).size, 1, none⟩) a1h).trans a1_1
        replace a1_2 := (hb22.cell (p := ⟨(World.heap U1).size, 2, none⟩) a1h).trans a1_2
        replace a1h := Nat.lt_of_lt_of_le a1h hb22.size
        replace y1_0_0 := (hb22.cell (p := ⟨G1, 0, none⟩) y1_0h).trans y1_0_0
        replace y1_0_1 := (hb22.cell (p := ⟨G1, 1, none⟩) y1_0h).trans y1_0_1
        replace y1_0_2 := (hb22.cell (p := ⟨G1, 2, none⟩) y1_0h).trans y1_0_2
        replace y1_0h := Nat.lt_of_lt_of_le y1_0h hb22.size
        replace x0_0 := (hb22.cell (p := ⟨(World.heap w9).size, 0, none⟩) x0h).trans x0_0
        replace x0_1 := (hb22.cell (p := ⟨(World.heap w9).size, 1, none⟩) x0h).trans x0_1
        replace x0_2 := (hb22.cell (p := ⟨(World.heap w9).size, 2, none⟩) x0h).trans x0_2
        replace x0h := Nat.lt_of_lt_of_le x0h hb22.size
        replace x1_0 := (hb22.cell (p := ⟨(World.heap w11).size, 0, none⟩) x1h).trans x1_0
        replace x1_1 := (hb22.cell (p := ⟨(World.heap w11).size, 1, none⟩) x1h).trans x1_1
        replace x1_2 := (hb22.cell (p := ⟨(World.heap w11).size, 2, none⟩) x1h).trans x1_2
        replace x1h := Nat.lt_of_lt_of_le x1h hb22.size
        replace y6_0_0 := (hb22.cell (p := ⟨(World.heap w13).size, 0, none⟩) y6_0h).trans y6_0_0
        replace y6_0_1 := (hb22.cell (p := ⟨(World.heap w13).size, 1, none⟩) y6_0h).trans y6_0_1
        replace y6_0_2 := (hb22.cell (p := ⟨(World.heap w13).size, 2, none⟩) y6_0h).trans y6_0_2
        replace y6_0h := Nat.lt_of_lt_of_le y6_0h hb22.size
        replace hB := ext_trans hB hb22
        have hz22 := hb22.size
        go_wp2_with fail
        ((with_reducible refine (markScan_any _ _ _ _ _ _ (1) ys0 w22 (by omega) (by omega) (by omega) fr6_0).mono ?_); rintro e w23 ⟨rfl, nr0, ht23⟩)
        replace fr1_0 := fr1_0.touch ht23 (by omega)
        replace a0_0 := (ht23.cell (b := (World.heap w).size) (o := 0) a0h (by omega)).trans a0_0
        replace a0_1 := (ht23.cell (b := (World.heap w).size) (o := 1) a0h (by omega)).trans a0_1
        replace a0_2 := (ht23.cell (b := (World.heap w).size) (o := 2) a0h (by omega)).trans a0_2
        replace a0h := Nat.lt_of_lt_of_le a0h ht23.size
        replace a1_0 := (ht23.cell (b := (World.heap U1).size) (o := 0) a1h (by omega)).trans a1_0
        replace a1_1 := (ht23.cell (b := (World.heap U1).size) (o := 1) a1h (by omega)).trans a1_1
        replace a1_2 := (ht23.cell (b := (World.heap U1).size) (o := 2) a1h (by omega)).trans a1_2
        replace a1h := Nat.lt_of_lt_of_le a1h ht23.size
        replace y1_0_0 := (ht23.cell (b := G1) (o := 0) y1_0h (by omega)).trans y1_0_0
        replace y1_0_1 := (ht23.cell (b := G1) (o := 1) y1_0h (by omega)).trans y1_0_1
        replace y1_0_2 := (ht23.cell (b := G1) (o := 2) y1_0h (by omega)).trans y1_0_2
        replace y1_0h := Nat.lt_of_lt_of_le y1_0h ht23.size
        replace x0_0 := (ht23.cell (b := (World.heap w9).size) (o := 0) x0h (by omega)).trans x0_0
        replace x0_1 := (ht23.cell (b := (World.heap w9).size) (o := 1) x0h (by omega)).trans x0_1
        replace x0_2 := (ht23.cell (b := (World.heap w9).size) (o := 2) x0h (by omega)).trans x0_2
        replace x0h := Nat.lt_of_lt_of_le x0h ht23.size
        replace x1_0 := (ht23.cell (b := (World.heap w11).size) (o := 0) x1h (by omega)).trans x1_0
        replace x1_1 := (ht23.cell (b := (World.heap w11).size) (o := 1) x1h (by omega)).trans x1_1
        replace x1_2 := (ht23.cell (b := (World.heap w11).size) (o := 2) x1h (by omega)).trans x1_2
        replace x1h := Nat.lt_of_lt_of_le x1h ht23.size
        replace y6_0_0 := (ht23.cell (b := (World.heap w13).size) (o := 0) y6_0h (by omega)).trans y6_0_0
        replace y6_0_1 := (ht23.cell (b := (World.heap w13).size) (o := 1) y6_0h (by omega)).trans y6_0_1
        replace y6_0_2 := (ht23.cell (b := (World.heap w13).size) (o := 2) y6_0h (by omega)).trans y6_0_2
        replace y6_0h := Nat.lt_of_lt_of_le y6_0h ht23.size
        replace hB := ht23.below hB (by omega)
        have hz23 := ht23.size
        have hq0 : ¬ (1 + (ys0.length : Int) * 3 : Int) < 0 := by omega
        go_wp2_with fail
        ((with_reducible refine (heldScan_any _ _ _ ys0.length _ _ _ (1) w23 (by omega) (by omega) (by omega) nr0).mono ?_); rintro e w24 ⟨rfl, hb24⟩)
        replace fr1_0 := fr1_0.ext hb24
        replace nr0 := nr0.ext hb24
        replace a0_0 := (hb24.cell (p := ⟨(World.heap w).size, 0, none⟩) a0h).trans a0_0
        replace a0_1 := (hb24.cell (p := ⟨(World.heap w).size, 1, none⟩) a0h).trans a0_1
        replace a0_2 := (hb24.cell (p := ⟨(World.heap w).size, 2, none⟩) a0h).trans a0_2
        replace a0h := Nat.lt_of_lt_of_le a0h hb24.size
        replace a1_0 := (hb24.cell (p := ⟨(World.heap U1).size, 0, none⟩) a1h).trans a1_0
        replace a1_1 := (hb24.cell (p := ⟨(World.heap U1).size, 1, none⟩) a1h).trans a1_1
        replace a1_2 := (hb24.cell (p := ⟨(World.heap U1).size, 2, none⟩) a1h).trans a1_2
        replace a1h := Nat.lt_of_lt_of_le a1h hb24.size
        replace y1_0_0 := (hb24.cell (p := ⟨G1, 0, none⟩) y1_0h).trans y1_0_0
        replace y1_0_1 := (hb24.cell (p := ⟨G1, 1, none⟩) y1_0h).trans y1_0_1
        replace y1_0_2 := (hb24.cell (p := ⟨G1, 2, none⟩) y1_0h).trans y1_0_2
        replace y1_0h := Nat.lt_of_lt_of_le y1_0h hb24.size
        replace x0_0 := (hb24.cell (p := ⟨(World.heap w9).size, 0, none⟩) x0h).trans x0_0
        replace x0_1 := (hb24.cell (p := ⟨(World.heap w9).size, 1, none⟩) x0h).trans x0_1
        replace x0_2 := (hb24.cell (p := ⟨(World.heap w9).size, 2, none⟩) x0h).trans x0_2
        replace x0h := Nat.lt_of_lt_of_le x0h hb24.size
        replace x1_0 := (hb24.cell (p := ⟨(World.heap w11).size, 0, none⟩) x1h).trans x1_0
        replace x1_1 := (hb24.cell (p := ⟨(World.heap w11).size, 1, none⟩) x1h).trans x1_1
        replace x1_2 := (hb24.cell (p := ⟨(World.heap w11).size, 2, none⟩) x1h).trans x1_2
        replace x1h := Nat.lt_of_lt_of_le x1h hb24.size
        replace y6_0_0 := (hb24.cell (p := ⟨(World.heap w13).size, 0, none⟩) y6_0h).trans y6_0_0
        replace y6_0_1 := (hb24.cell (p := ⟨(World.heap w13).size, 1, none⟩) y6_0h).trans y6_0_1
        replace y6_0_2 := (hb24.cell (p := ⟨(World.heap w13).size, 2, none⟩) y6_0h).trans y6_0_2
        replace y6_0h := Nat.lt_of_lt_of_le y6_0h hb24.size
        replace hB := ext_trans hB hb24
        have hz24 := hb24.size
        go_upto_region 31 with fail
        go_cut [15, 16] (fun sp so wx => ∃ (g : Nat) (R : Option Addr) (d lo hi : Nat), sp = .pointer (some ⟨g, 0, none⟩) ∧ so = .bool ok2 ∧ Below (World.heap w24).size w24 wx ∧ (World.heap w24).size ≤ g ∧ Var3 wx g (.int .i64 ok0) (.int .i64 ok1) (.slice R ys0.length d) ∧ FlO Tile.ints 3 lo hi wx R ys0 ∧ (World.heap w24).size ≤ lo ∧ hi ≤ wx.heap.size ∧ (g < lo ∨ hi ≤ g))
        case first =>
          go_region_held3 (fun w' => Below (World.heap w24).size w24 w' ∧ ∀ b o, b < (World.heap w24).size → w'.cell? ⟨b, o, none⟩ = World.cell? w24 ⟨b, o, none⟩) (first | exact cls_of (ext_drew _) | exact cls_of (ext_drew _) | exact cls_next (by assumption) hb25 | exact cls_next (by assumption) hb26 | exact cls_next (by assumption) hb27 | exact cls_alloc (by assumption) _ | assumption | exact cls_of (ext_trans (ext_trans (ext_trans (ext_trans (ext_drew w24) hb25) hb26) hb27) (ext_alloc _ _)) | exact cls_set3 (ext_trans (ext_trans (ext_trans (ext_trans (ext_alloc w24 _) (ext_drew _)) hb25) hb26) hb27) (Nat.le_refl _) | exact cls_set3 (ext_trans (ext_trans (ext_trans (ext_trans (ext_drew w24) hb25) (ext_alloc _ _)) hb26) hb27) ((ext_trans (ext_drew w24) hb25).size) | exact cls_set3 (ext_trans (ext_trans (ext_trans (ext_trans (ext_drew w24) hb25) hb26) (ext_alloc _ _)) hb27) ((ext_trans (ext_trans (ext_drew w24) hb25) hb26).size)) ((first | (go_at_call 12; (with_reducible refine (toScan_any rows0 cols0 A0 c0 xs0 _ hn0 (hA0.ext (ext_trans hB (held_below (by assumption))))).mono ?_); rintro e w25 ⟨D10, rfl, fx10, hb25⟩; have hchb25 := bcell hb25; have hfhb25 := fcell hb25; have hzhb25 := hb25.size; (try (have hghb25 := alloc_lt hb25)); (try (have hghb25 := alloc_lt' hb25))) | (go_at_call 12; (with_reducible refine (toScan_any rows1 cols1 A1 c1 xs1 _ hn1 (hA1.ext (ext_trans hB (held_below (by assumption))))).mono ?_); rintro e w26 ⟨D11, rfl, fx11, hb26⟩; have hchb26 := bcell hb26; have hfhb26 := fcell hb26; have hzhb26 := hb26.size; (try (have hghb26 := alloc_lt hb26)); (try (have hghb26 := alloc_lt' hb26)); (try (have hhhb26hb25 := Nat.lt_of_lt_of_le hghb25 hb26.size)); (try (have hihb26hb25 := Nat.lt_of_lt_of_le hhhb25hb25 hb26.size))) | (go_at_call 35; (with_reducible refine (HIMPL.out _ _ _ ?_ ?_).mono ?_); (first | exact ((fx10.ext (ext_alloc _ _)).ext hb26).fl | exact ((fx10.ext hb26).ext (ext_alloc _ _)).fl | exact (fx10.ext hb26).fl); (first | exact (fx11.ext (ext_alloc _ _)).fl | exact fx11.fl); rintro e w27 ⟨R9, d9, rfl, fr9, hb27⟩; have hchb27 := bcell hb27; have hfhb27 := fcell hb27; have hzhb27 := hb27.size; (try (have hghb27 := alloc_lt hb27)); (try (have hghb27 := alloc_lt' hb27)); (try (have hhhb27hb25 := Nat.lt_of_lt_of_le hghb25 hb27.size)); (try (have hihb27hb25 := Nat.lt_of_lt_of_le hhhb26hb25 hb27.size)); (try (have hhhb27hb26 := Nat.lt_of_lt_of_le hghb26 hb27.size)); (try (have hihb27hb26 := Nat.lt_of_lt_of_le hhhb26hb26 hb27.size)))))
          all_goals
            go_wp2_with fail
            go_meet
            try have hp0_0 := (ext_trans (ext_trans (ext_alloc w24 _) (ext_drew _)) hb25).size
            try have hp0_1 := (ext_trans (ext_trans (ext_trans (ext_alloc w24 _) (ext_drew _)) hb25) hb26).size
            try have hp0_2 := (ext_trans (ext_trans (ext_trans (ext_trans (ext_alloc w24 _) (ext_drew _)) hb25) hb26) hb27).size
            try have hp1_0 := (ext_trans (ext_drew w24) hb25).size
            try have hp1_1 := (ext_trans (ext_trans (ext_trans (ext_drew w24) hb25) (ext_alloc _ _)) hb26).size
            try have hp1_2 := (ext_trans (ext_trans (ext_trans (ext_trans (ext_drew w24) hb25) (ext_alloc _ _)) hb26) hb27).size
            try have hp2_0 := (ext_trans (ext_drew w24) hb25).size
            try have hp2_1 := (ext_trans (ext_trans (ext_drew w24) hb25) hb26).size
            try have hp2_2 := (ext_trans (ext_trans (ext_trans (ext_trans (ext_drew w24) hb25) hb26) (ext_alloc _ _)) hb27).size
            try have hp3_0 := (ext_trans (ext_drew w24) hb25).size
            try have hp3_1 := (ext_trans (ext_trans (ext_drew w24) hb25) hb26).size
            try have hp3_2 := (ext_trans (ext_trans (ext_trans (ext_drew w24) hb25) hb26) hb27).size
            first | (refine ⟨_, R9, d9, _, _, rfl, rfl, ext_trans (ext_trans (ext_trans (ext_trans (ext_drew w24) hb25) hb26) hb27) (ext_alloc _ _), (ext_trans (ext_trans (ext_trans (ext_drew w24) hb25) hb26) hb27).size, var3_box w27 _ _ _ _, fr9.ext (ext_alloc _ _), ?_, ?_, .inr (Nat.le_refl _)⟩ <;> (first | omega | (simp; done) | (simp; omega))) | (refine ⟨(World.heap w24).size, R9, d9, _, _, rfl, rfl, (set3_touch w27 (World.heap w24).size _ _ _).below (ext_trans (ext_trans (ext_trans (ext_trans (ext_alloc w24 _) (ext_drew _)) hb25) hb26) hb27) ?_, ?_, Var3.set3 (((((var3_box w24 _ _ _ _).ext (ext_drew _)).ext hb25).ext hb26).ext hb27) _ _ _, fr9.touch (set3_touch w27 (World.heap w24).size _ _ _) (.inr ?_), ?_, ?_, .inl ?_⟩ <;> (first | omega | (simp [setCell_size]; done) | (simp [setCell_size]; omega))) | (refine ⟨(World.heap w25).size, R9, d9, _, _, rfl, rfl, (set3_touch w27 (World.heap w25).size _ _ _).below (ext_trans (ext_trans (ext_trans (ext_trans (ext_drew w24) hb25) (ext_alloc _ _)) hb26) hb27) ?_, ?_, Var3.set3 (((var3_box w25 _ _ _ _).ext hb26).ext hb27) _ _ _, fr9.touch (set3_touch w27 (World.heap w25).size _ _ _) (.inr ?_), ?_, ?_, .inl ?_⟩ <;> (first | omega | (simp [setCell_size]; done) | (simp [setCell_size]; omega))) | (refine ⟨(World.heap w26).size, R9, d9, _, _, rfl, rfl, (set3_touch w27 (World.heap w26).size _ _ _).below (ext_trans (ext_trans (ext_trans (ext_trans (ext_drew w24) hb25) hb26) (ext_alloc _ _)) hb27) ?_, ?_, Var3.set3 ((var3_box w26 _ _ _ _).ext hb27) _ _ _, fr9.touch (set3_touch w27 (World.heap w26).size _ _ _) (.inr ?_), ?_, ?_, .inl ?_⟩ <;> (first | omega | (simp [setCell_size]; done) | (simp [setCell_size]; omega)))
        case rest =>
          obtain ⟨G9, R9_0, d9_0, lo9, hi9, rfl, rfl, hb9c, hG9, V9, fr9_0, hl9q, hh9q, hx9q⟩ := hcut
          obtain ⟨w28, hw28⟩ : ∃ z, z = wc := ⟨_, rfl⟩
          subst hw28
          replace fr1_0 := fr1_0.ext hb9c
          replace nr0 := nr0.ext hb9c
          replace a0_0 := (hb9c.cell (p := ⟨(World.heap w).size, 0, none⟩) a0h).trans a0_0
          replace a0_1 := (hb9c.cell (p := ⟨(World.heap w).size, 1, none⟩) a0h).trans a0_1
          replace a0_2 := (hb9c.cell (p := ⟨(World.heap w).size, 2, none⟩) a0h).trans a0_2
          replace a0h := Nat.lt_of_lt_of_le a0h hb9c.size
          replace a1_0 := (hb9c.cell (p := ⟨(World.heap U1).size, 0, none⟩) a1h).trans a1_0
          replace a1_1 := (hb9c.cell (p := ⟨(World.heap U1).size, 1, none⟩) a1h).trans a1_1
          replace a1_2 := (hb9c.cell (p := ⟨(World.heap U1).size, 2, none⟩) a1h).trans a1_2
          replace a1h := Nat.lt_of_lt_of_le a1h hb9c.size
          replace y1_0_0 := (hb9c.cell (p := ⟨G1, 0, none⟩) y1_0h).trans y1_0_0
          replace y1_0_1 := (hb9c.cell (p := ⟨G1, 1, none⟩) y1_0h).trans y1_0_1
          replace y1_0_2 := (hb9c.cell (p := ⟨G1, 2, none⟩) y1_0h).trans y1_0_2
          replace y1_0h := Nat.lt_of_lt_of_le y1_0h hb9c.size
          replace x0_0 := (hb9c.cell (p := ⟨(World.heap w9).size, 0, none⟩) x0h).trans x0_0
          replace x0_1 := (hb9c.cell (p := ⟨(World.heap w9).size, 1, none⟩) x0h).trans x0_1
          replace x0_2 := (hb9c.cell (p := ⟨(World.heap w9).size, 2, none⟩) x0h).trans x0_2
          replace x0h := Nat.lt_of_lt_of_le x0h hb9c.size
          replace x1_0 := (hb9c.cell (p := ⟨(World.heap w11).size, 0, none⟩) x1h).trans x1_0
          replace x1_1 := (hb9c.cell (p := ⟨(World.heap w11).size, 1, none⟩) x1h).trans x1_1
          replace x1_2 := (hb9c.cell (p := ⟨(World.heap w11).size, 2, none⟩) x1h).trans x1_2
          replace x1h := Nat.lt_of_lt_of_le x1h hb9c.size
          replace y6_0_0 := (hb9c.cell (p := ⟨(World.heap w13).size, 0, none⟩) y6_0h).trans y6_0_0
          replace y6_0_1 := (hb9c.cell (p := ⟨(World.heap w13).size, 1, none⟩) y6_0h).trans y6_0_1
          replace y6_0_2 := (hb9c.cell (p := ⟨(World.heap w13).size, 2, none⟩) y6_0h).trans y6_0_2
          replace y6_0h := Nat.lt_of_lt_of_le y6_0h hb9c.size
          replace hB := ext_trans hB hb9c
          have hz28 := hb9c.size
          have y9_0_0 := V9.c0
          have y9_0_1 := V9.c1
          have y9_0_2 := V9.c2
          have y9_0h := V9.lt
          have hsy9_0q := V9.lt
          go_wp2_with fail
          ((with_reducible refine (eqScan_same _ _ _ _ _ _ ys0 _ (by omega) fr9_0.fl fr1_0.fl).mono ?_); rintro e w29 ⟨rfl, hb29⟩)
          replace fr1_0 := fr1_0.ext hb29
          replace nr0 := nr0.ext hb29
          replace fr9_0 := fr9_0.ext hb29
          replace a0_0 := (hb29.cell (p := ⟨(World.heap w).size, 0, none⟩) a0h).trans a0_0
          replace a0_1 := (hb29.cell (p := ⟨(World.heap w).size, 1, none⟩) a0h).trans a0_1
          replace a0_2 := (hb29.cell (p := ⟨(World.heap w).size, 2, none⟩) a0h).trans a0_2
          replace a0h := Nat.lt_of_lt_of_le a0h hb29.size
          replace a1_0 := (hb29.cell (p := ⟨(World.heap U1).size, 0, none⟩) a1h).trans a1_0
          replace a1_1 := (hb29.cell (p := ⟨(World.heap U1).size, 1, none⟩) a1h).trans a1_1
          replace a1_2 := (hb29.cell (p := ⟨(World.heap U1).size, 2, none⟩) a1h).trans a1_2
          replace a1h := Nat.lt_of_lt_of_le a1h hb29.size
          replace y1_0_0 := (hb29.cell (p := ⟨G1, 0, none⟩) y1_0h).trans y1_0_0
          replace y1_0_1 := (hb29.cell (p := ⟨G1, 1, none⟩) y1_0h).trans y1_0_1
          replace y1_0_2 := (hb29.cell (p := ⟨G1, 2, none⟩) y1_0h).trans y1_0_2
          replace y1_0h := Nat.lt_of_lt_of_le y1_0h hb29.size
          replace x0_0 := (hb29.cell (p := ⟨(World.heap w9).size, 0, none⟩) x0h).trans x0_0
          replace x0_1 := (hb29.cell (p := ⟨(World.heap w9).size, 1, none⟩) x0h).trans x0_1
          replace x0_2 := (hb29.cell (p := ⟨(World.heap w9).size, 2, none⟩) x0h).trans x0_2
          replace x0h := Nat.lt_of_lt_of_le x0h hb29.size
          replace x1_0 := (hb29.cell (p := ⟨(World.heap w11).size, 0, none⟩) x1h).trans x1_0
          replace x1_1 := (hb29.cell (p := ⟨(World.heap w11).size, 1, none⟩) x1h).trans x1_1
          replace x1_2 := (hb29.cell (p := ⟨(World.heap w11).size, 2, none⟩) x1h).trans x1_2
          replace x1h := Nat.lt_of_lt_of_le x1h hb29.size
          replace y6_0_0 := (hb29.cell (p := ⟨(World.heap w13).size, 0, none⟩) y6_0h).trans y6_0_0
          replace y6_0_1 := (hb29.cell (p := ⟨(World.heap w13).size, 1, none⟩) y6_0h).trans y6_0_1
          replace y6_0_2 := (hb29.cell (p := ⟨(World.heap w13).size, 2, none⟩) y6_0h).trans y6_0_2
          replace y6_0h := Nat.lt_of_lt_of_le y6_0h hb29.size
          replace y9_0_0 := (hb29.cell (p := ⟨G9, 0, none⟩) y9_0h).trans y9_0_0
          replace y9_0_1 := (hb29.cell (p := ⟨G9, 1, none⟩) y9_0h).trans y9_0_1
          replace y9_0_2 := (hb29.cell (p := ⟨G9, 2, none⟩) y9_0h).trans y9_0_2
          replace y9_0h := Nat.lt_of_lt_of_le y9_0h hb29.size
          replace hB := ext_trans hB hb29
          have hz29 := hb29.size
          go_wp2_with fail
          ((with_reducible refine (heldScan_any _ _ _ ys0.length _ _ _ (1) w29 (by omega) (by omega) (by omega) nr0).mono ?_); rintro e w30 ⟨rfl, hb30⟩)
          replace fr1_0 := fr1_0.ext hb30
          replace nr0 := nr0.ext hb30
          replace fr9_0 := fr9_0.ext hb30
          replace a0_0 := (hb30.cell (p := ⟨(World.heap w).size, 0, none⟩) a0h).trans a0_0
          replace a0_1 := (hb30.cell (p := ⟨(World.heap w).size, 1, none⟩) a0h).trans a0_1
          replace a0_2 := (hb30.cell (p := ⟨(World.heap w).size, 2, none⟩) a0h).trans a0_2
          replace a0h := Nat.lt_of_lt_of_le a0h hb30.size
          replace a1_0 := (hb30.cell (p := ⟨(World.heap U1).size, 0, none⟩) a1h).trans a1_0
          replace a1_1 := (hb30.cell (p := ⟨(World.heap U1).size, 1, none⟩) a1h).trans a1_1
          replace a1_2 := (hb30.cell (p := ⟨(World.heap U1).size, 2, none⟩) a1h).trans a1_2
          replace a1h := Nat.lt_of_lt_of_le a1h hb30.size
          replace y1_0_0 := (hb30.cell (p := ⟨G1, 0, none⟩) y1_0h).trans y1_0_0
          replace y1_0_1 := (hb30.cell (p := ⟨G1, 1, none⟩) y1_0h).trans y1_0_1
          replace y1_0_2 := (hb30.cell (p := ⟨G1, 2, none⟩) y1_0h).trans y1_0_2
          replace y1_0h := Nat.lt_of_lt_of_le y1_0h hb30.size
          replace x0_0 := (hb30.cell (p := ⟨(World.heap w9).size, 0, none⟩) x0h).trans x0_0
          replace x0_1 := (hb30.cell (p := ⟨(World.heap w9).size, 1, none⟩) x0h).trans x0_1
          replace x0_2 := (hb30.cell (p := ⟨(World.heap w9).size, 2, none⟩) x0h).trans x0_2
          replace x0h := Nat.lt_of_lt_of_le x0h hb30.size
          replace x1_0 := (hb30.cell (p := ⟨(World.heap w11).size, 0, none⟩) x1h).trans x1_0
          replace x1_1 := (hb30.cell (p := ⟨(World.heap w11).size, 1, none⟩) x1h).trans x1_1
          replace x1_2 := (hb30.cell (p := ⟨(World.heap w11).size, 2, none⟩) x1h).trans x1_2
          replace x1h := Nat.lt_of_lt_of_le x1h hb30.size
          replace y6_0_0 := (hb30.cell (p := ⟨(World.heap w13).size, 0, none⟩) y6_0h).trans y6_0_0
          replace y6_0_1 := (hb30.cell (p := ⟨(World.heap w13).size, 1, none⟩) y6_0h).trans y6_0_1
          replace y6_0_2 := (hb30.cell (p := ⟨(World.heap w13).size, 2, none⟩) y6_0h).trans y6_0_2
          replace y6_0h := Nat.lt_of_lt_of_le y6_0h hb30.size
          replace y9_0_0 := (hb30.cell (p := ⟨G9, 0, none⟩) y9_0h).trans y9_0_0
          replace y9_0_1 := (hb30.cell (p := ⟨G9, 1, none⟩) y9_0h).trans y9_0_1
          replace y9_0_2 := (hb30.cell (p := ⟨G9, 2, none⟩) y9_0h).trans y9_0_2
          replace y9_0h := Nat.lt_of_lt_of_le y9_0h hb30.size
          replace hB := ext_trans hB hb30
          have hz30 := hb30.size
          go_wp2
          go_ret
          exact ⟨rfl, hB⟩

set_option maxRecDepth 100000 in
theorem FnExactPatchScan_holds : Rows.FnExactPatchScanSaid :=
  OpenClaim.holds_of_wide 9 Try.f9 rfl rfl rfl rfl rfl rfl rfl ⟨rfl, rfl, rfl, rfl, rfl⟩ rfl rfl rfl rfl rfl (by kernel_rfl) Try.func9 (by kernel_rfl)
    (of_decide_eq_true (by kernel_rfl)) (by unfold Func.isWrapper; first | (rw [if_pos (by decide +kernel)]; kernel_rfl) | (rw [if_neg (by decide +kernel)]; exact ⟨rfl, rfl⟩))
    (fun os started H enc _ => by
      refine law_lifted (s := Rows.fnExactPatchScanSpec) (conds := []) os started H enc (by kernel_rfl) Try.func9 (by kernel_rfl) rfl rfl Try.underlying4
        (ChangeSpec.witness6 (enc := enc) (C := Try.checked) false ⟨#[], #[.agg #[.int .i64 0, .int .i64 0, .slice none 0 0], .agg #[.int .i64 0, .int .i64 0, .slice none 0 0]], []⟩ 8 (by kernel_rfl) (by kernel_rfl) (by kernel_rfl) (by kernel_rfl)) ?_
      intro W base args ds ps hval hA
      rw [Try.params9] at hA hval
      obtain ⟨v0, vs0, d0, ds0, p0, q0, hargs, rfl, rfl, h0, r0⟩ := trodAll_cons hA
      obtain ⟨v1, vs1, d1, ds1, p1, q1, rfl, rfl, rfl, h1, r1⟩ := trodAll_cons r0
      obtain ⟨rfl, rfl, rfl⟩ := trodAll_nil r1
      obtain rfl : args = #[v0, v1] := by cases args; simp_all
      refine ⟨rfl, ?_⟩
      obtain ⟨f00, f10, f20, y00, y10, y20, m0, rfl, rfl, rfl, hy00, hy10, hy20⟩ := open_agg3 Try.underlying24 (by kernel_rfl) (by kernel_rfl) (hval 0 24 v0 rfl rfl) h0
      obtain ⟨a00, e00, _, _⟩ := DataW.trod_int Try.underlying3 hy00
      obtain ⟨a10, e10, _, _⟩ := DataW.trod_int Try.underlying3 hy10
      obtain ⟨A0, c0, xs0, rfl, hl0, hf0⟩ := open_core (f := Tile.ints) Try.underlying22 (by kernel_rfl) (by decide) (intElem_struct Try.underlying49 (by kernel_rfl) rfl (intfields_of (by kernel_rfl))) Tile.mk_ints hy20
      simp at e00 e10
      subst e00 e10
      obtain ⟨f01, f11, f21, y01, y11, y21, m1, rfl, rfl, rfl, hy01, hy11, hy21⟩ := open_agg3 Try.underlying24 (by kernel_rfl) (by kernel_rfl) (hval 1 24 v1 rfl rfl) h1
      obtain ⟨a01, e01, _, _⟩ := DataW.trod_int Try.underlying3 hy01
      obtain ⟨a11, e11, _, _⟩ := DataW.trod_int Try.underlying3 hy11
      obtain ⟨A1, c1, xs1, rfl, hl1, hf1⟩ := open_core (f := Tile.ints) Try.underlying22 (by kernel_rfl) (by decide) (intElem_struct Try.underlying49 (by kernel_rfl) rfl (intfields_of (by kernel_rfl))) Tile.mk_ints hy21
      simp at e01 e11
      subst e01 e11
      exact fnPatchScan_any _ _ A0 c0 xs0 _ _ A1 c1 xs1 W hl0 hf0 hl1 hf1)
end Go.Proofs.Ytbldoidcjkffdaa
