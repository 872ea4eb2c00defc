/- The program's PutTile returns what the reference's returns, for all arguments. No condition. -/
import Derived.Test.YtbldoidcjkffdaaLaw
import Derived.Test.YtbldoidcjkffdaaOpen
import Derived.Test.YtbldoidcjkffdaaLst
import Derived.Test.YtbldoidcjkffdaaFamScan
import Derived.Test.YtbldoidcjkffdaaBoxLaw
import Derived.Test.YtbldoidcjkffdaaMarkBox
import Derived.Test.YtbldoidcjkffdaaPtI
import Derived.Test.YtbldoidcjkffdaaPtS
import Derived.Lib.SmallJoins
import Derived.Deep.DeepCutAuto
namespace Go.Proofs.Ytbldoidcjkffdaa
open Go.ChangeShapes Go.WideShapes Go.ChangeAt Go.RowKit Go.Joins
set_option linter.unusedVariables false
set_option linter.unusedSimpArgs false

set_option maxHeartbeats 8000000 in
set_option maxRecDepth 100000 in
theorem fnPutTile_any (rows0 cols0 : Int) (A0 : Option Addr) (c0 : Nat) (xs0 : List Tile) (t : Tile) (w : World) (hm0 : xs0.length ≤ 9223372036854775807) (hA0 : Fl Tile.ints 3 w A0 xs0) :
    Calls Try.prog 7 #[.agg #[Value.int .i64 rows0, Value.int .i64 cols0, Value.slice A0 xs0.length c0], .agg #[.int .i64 t.row, .int .i64 t.col, .int .i64 t.sum]] w fun e w' => e = .returned (.bool true) ∧ Below w.heap.size w w' := by
  by_cases hbig0 : (1048576 : Int) < (xs0.length : Int)
  · skip
    have hB := Below.refl w.heap.size w
    obtain ⟨U1, hU1, hD1, hs1, hv1, _⟩ := box_world w #[Value.int .i64 rows0, Value.int .i64 cols0, Value.slice A0 xs0.length c0] 24
    replace hB := ext_trans hB hD1
    have hz1 := hD1.size
    have a0_0 : World.cell? U1 ⟨(World.heap w).size, 0, none⟩ = some (Value.int .i64 rows0) := hv1 0
    have a0_1 : World.cell? U1 ⟨(World.heap w).size, 1, none⟩ = some (Value.int .i64 cols0) := hv1 1
    have a0_2 : World.cell? U1 ⟨(World.heap w).size, 2, none⟩ = some (Value.slice A0 xs0.length c0) := hv1 2
    have a0h := hs1
    clear hv1
    obtain ⟨U2, hU2, hD2, hs2, hv2, _⟩ := box_world U1 #[Value.int .i64 t.row, Value.int .i64 t.col, Value.int .i64 t.sum] 49
    replace a0_0 := (hD2.cell (p := ⟨(World.heap w).size, 0, none⟩) a0h).trans a0_0
    replace a0_1 := (hD2.cell (p := ⟨(World.heap w).size, 1, none⟩) a0h).trans a0_1
    replace a0_2 := (hD2.cell (p := ⟨(World.heap w).size, 2, none⟩) a0h).trans a0_2
    replace a0h := Nat.lt_of_lt_of_le a0h hD2.size
    replace hB := ext_trans hB hD2
    have hz2 := hD2.size
    have a1_0 : World.cell? U2 ⟨(World.heap U1).size, 0, none⟩ = some (Value.int .i64 t.row) := hv2 0
    have a1_1 : World.cell? U2 ⟨(World.heap U1).size, 1, none⟩ = some (Value.int .i64 t.col) := hv2 1
    have a1_2 : World.cell? U2 ⟨(World.heap U1).size, 2, none⟩ = some (Value.int .i64 t.sum) := hv2 2
    have a1h := hs2
    clear hv2
    go_enter Try.func7, Try.ntmps7
    go_wp2_with fail
    clear hU1 hU2
    ((with_reducible refine (szScanG_no rows0 cols0 A0 xs0.length c0 _ (1048576) (by omega) (by omega) hm0 (by omega)).mono ?_); rintro e w3 ⟨rfl, hb3⟩)
    replace a0_0 := (hb3.cell (p := ⟨(World.heap w).size, 0, none⟩) a0h).trans a0_0
    replace a0_1 := (hb3.cell (p := ⟨(World.heap w).size, 1, none⟩) a0h).trans a0_1
    replace a0_2 := (hb3.cell (p := ⟨(World.heap w).size, 2, none⟩) a0h).trans a0_2
    replace a0h := Nat.lt_of_lt_of_le a0h hb3.size
    replace a1_0 := (hb3.cell (p := ⟨(World.heap U1).size, 0, none⟩) a1h).trans a1_0
    replace a1_1 := (hb3.cell (p := ⟨(World.heap U1).size, 1, none⟩) a1h).trans a1_1
    replace a1_2 := (hb3.cell (p := ⟨(World.heap U1).size, 2, none⟩) a1h).trans a1_2
    replace a1h := Nat.lt_of_lt_of_le a1h hb3.size
    replace hB := ext_trans hB hb3
    have hz3 := hb3.size
    go_wp2
    go_ret
    exact ⟨rfl, hB⟩
  · have hn0 : xs0.length ≤ 1048576 := by omega
    have hl0 : ¬ (1048576 : Int) - (xs0.length : Int) < 0 := by omega
    have hspec := fun (D0 : Nat) (W : World) (h0 : Fl Tile.ints 3 W (some ⟨D0, 0, none⟩) xs0) => specPutTile_any rows0 cols0 (some ⟨D0, 0, none⟩) xs0.length xs0 t W hn0 h0
    have himpl := fun (D0 : Nat) (W : World) (h0 : Fl Tile.ints 3 W (some ⟨D0, 0, none⟩) xs0) => putTile_any rows0 cols0 (some ⟨D0, 0, none⟩) xs0.length xs0 t W hn0 h0
    have hyl0 : (sel (PutOk rows0 cols0 xs0 t) (insT t xs0)).length ≤ 1048576 := insT_sel
    generalize sel (PutOk rows0 cols0 xs0 t) (insT t xs0) = ys0 at hspec himpl hyl0
    generalize seli (PutOk rows0 cols0 xs0 t) rows0 = ok0 at hspec himpl
    generalize seli (PutOk rows0 cols0 xs0 t) cols0 = ok1 at hspec himpl
    generalize tb (PutOk rows0 cols0 xs0 t) = ok2 at hspec himpl
    have HSPEC := Lib.hid hspec
    have HIMPL := Lib.hid himpl
    clear hspec himpl
    have hB := Below.refl w.heap.size w
    obtain ⟨U1, hU1, hD1, hs1, hv1, _⟩ := box_world w #[Value.int .i64 rows0, Value.int .i64 cols0, Value.slice A0 xs0.length c0] 24
    replace hB := ext_trans hB hD1
    have hz1 := hD1.size
    have a0_0 : World.cell? U1 ⟨(World.heap w).size, 0, none⟩ = some (Value.int .i64 rows0) := hv1 0
    have a0_1 : World.cell? U1 ⟨(World.heap w).size, 1, none⟩ = some (Value.int .i64 cols0) := hv1 1
    have a0_2 : World.cell? U1 ⟨(World.heap w).size, 2, none⟩ = some (Value.slice A0 xs0.length c0) := hv1 2
    have a0h := hs1
    clear hv1
    obtain ⟨U2, hU2, hD2, hs2, hv2, _⟩ := box_world U1 #[Value.int .i64 t.row, Value.int .i64 t.col, Value.int .i64 t.sum] 49
    replace a0_0 := (hD2.cell (p := ⟨(World.heap w).size, 0, none⟩) a0h).trans a0_0
    replace a0_1 := (hD2.cell (p := ⟨(World.heap w).size, 1, none⟩) a0h).trans a0_1
    replace a0_2 := (hD2.cell (p := ⟨(World.heap w).size, 2, none⟩) a0h).trans a0_2
    replace a0h := Nat.lt_of_lt_of_le a0h hD2.size
    replace hB := ext_trans hB hD2
    have hz2 := hD2.size
    have a1_0 : World.cell? U2 ⟨(World.heap U1).size, 0, none⟩ = some (Value.int .i64 t.row) := hv2 0
    have a1_1 : World.cell? U2 ⟨(World.heap U1).size, 1, none⟩ = some (Value.int .i64 t.col) := hv2 1
    have a1_2 : World.cell? U2 ⟨(World.heap U1).size, 2, none⟩ = some (Value.int .i64 t.sum) := hv2 2
    have a1h := hs2
    clear hv2
    go_enter Try.func7, Try.ntmps7
    go_wp2_with fail
    clear hU1 hU2
    ((with_reducible refine (szScanG_ok rows0 cols0 A0 xs0.length c0 _ (1048576) (by omega) (by omega) hm0 (by omega)).mono ?_); rintro e w3 ⟨rfl, hb3⟩)
    replace a0_0 := (hb3.cell (p := ⟨(World.heap w).size, 0, none⟩) a0h).trans a0_0
    replace a0_1 := (hb3.cell (p := ⟨(World.heap w).size, 1, none⟩) a0h).trans a0_1
    replace a0_2 := (hb3.cell (p := ⟨(World.heap w).size, 2, none⟩) a0h).trans a0_2
    replace a0h := Nat.lt_of_lt_of_le a0h hb3.size
    replace a1_0 := (hb3.cell (p := ⟨(World.heap U1).size, 0, none⟩) a1h).trans a1_0
    replace a1_1 := (hb3.cell (p := ⟨(World.heap U1).size, 1, none⟩) a1h).trans a1_1
    replace a1_2 := (hb3.cell (p := ⟨(World.heap U1).size, 2, none⟩) a1h).trans a1_2
    replace a1h := Nat.lt_of_lt_of_le a1h hb3.size
    replace hB := ext_trans hB hb3
    have hz3 := hb3.size
    go_upto_region 5 with fail
    go_cut [6, 7] (fun sp so wx => ∃ (g : Nat) (R : Option Addr) (d lo hi : Nat), sp = .pointer (some ⟨g, 0, none⟩) ∧ so = .bool ok2 ∧ Below (World.heap w3).size w3 wx ∧ (World.heap w3).size ≤ g ∧ Var3 wx g (.int .i64 ok0) (.int .i64 ok1) (.slice R ys0.length d) ∧ FlO Tile.ints 3 lo hi wx R ys0 ∧ (World.heap w3).size ≤ lo ∧ hi ≤ wx.heap.size ∧ (g < lo ∨ hi ≤ g))
    case first =>
      go_region_held3 (fun w' => Below (World.heap w3).size w3 w' ∧ ∀ b o, b < (World.heap w3).size → w'.cell? ⟨b, o, none⟩ = World.cell? w3 ⟨b, o, none⟩) (first | exact cls_of (ext_drew _) | exact cls_of (ext_drew _) | exact cls_next (by assumption) hb4 | exact cls_next (by assumption) hb5 | exact cls_next (by assumption) hb6 | exact cls_alloc (by assumption) _ | assumption | exact cls_of (ext_trans (ext_trans (ext_trans (ext_trans (ext_drew w3) hb4) hb5) hb6) (ext_alloc _ _)) | exact cls_set3 (ext_trans (ext_trans (ext_trans (ext_trans (ext_alloc w3 _) (ext_drew _)) hb4) hb5) hb6) (Nat.le_refl _) | exact cls_set3 (ext_trans (ext_trans (ext_trans (ext_trans (ext_drew w3) hb4) (ext_alloc _ _)) hb5) hb6) ((ext_trans (ext_drew w3) hb4).size) | exact cls_set3 (ext_trans (ext_trans (ext_trans (ext_trans (ext_drew w3) hb4) hb5) (ext_alloc _ _)) hb6) ((ext_trans (ext_trans (ext_drew w3) hb4) hb5).size)) ((first | (go_at_call 12; (with_reducible refine (toScan_any rows0 cols0 A0 c0 xs0 _ hn0 (hA0.ext (ext_trans hB (held_below (by assumption))))).mono ?_); rintro e w4 ⟨D2, rfl, fx2, hb4⟩; have hchb4 := bcell hb4; have hfhb4 := fcell hb4; have hzhb4 := hb4.size; (try (have hghb4 := alloc_lt hb4)); (try (have hghb4 := alloc_lt' hb4))) | (go_at_call 30; (with_reducible refine (toTile_any t _).mono ?_); rintro e w5 ⟨rfl, hb5⟩; have hchb5 := bcell hb5; have hfhb5 := fcell hb5; have hzhb5 := hb5.size; (try (have hghb5 := alloc_lt hb5)); (try (have hghb5 := alloc_lt' hb5)); (try (have hhhb5hb4 := Nat.lt_of_lt_of_le hghb4 hb5.size)); (try (have hihb5hb4 := Nat.lt_of_lt_of_le hhhb4hb4 hb5.size))) | (go_at_call 29; (with_reducible refine (HSPEC.out _ _ ?_).mono ?_); (first | exact ((fx2.ext (ext_alloc _ _)).ext hb5).fl | exact ((fx2.ext hb5).ext (ext_alloc _ _)).fl | exact (fx2.ext hb5).fl); rintro e w6 ⟨R1, d1, rfl, fr1, hb6⟩; have hchb6 := bcell hb6; have hfhb6 := fcell hb6; have hzhb6 := hb6.size; (try (have hghb6 := alloc_lt hb6)); (try (have hghb6 := alloc_lt' hb6)); (try (have hhhb6hb4 := Nat.lt_of_lt_of_le hghb4 hb6.size)); (try (have hihb6hb4 := Nat.lt_of_lt_of_le hhhb5hb4 hb6.size)); (try (have hhhb6hb5 := Nat.lt_of_lt_of_le hghb5 hb6.size)); (try (have hihb6hb5 := Nat.lt_of_lt_of_le hhhb5hb5 hb6.size)))))
      all_goals
        go_wp2_with fail
        go_meet
        try have hp0_0 := (ext_trans (ext_trans (ext_alloc w3 _) (ext_drew _)) hb4).size
        try have hp0_1 := (ext_trans (ext_trans (ext_trans (ext_alloc w3 _) (ext_drew _)) hb4) hb5).size
        try have hp0_2 := (ext_trans (ext_trans (ext_trans (ext_trans (ext_alloc w3 _) (ext_drew _)) hb4) hb5) hb6).size
        try have hp1_0 := (ext_trans (ext_drew w3) hb4).size
        try have hp1_1 := (ext_trans (ext_trans (ext_trans (ext_drew w3) hb4) (ext_alloc _ _)) hb5).size
        try have hp1_2 := (ext_trans (ext_trans (ext_trans (ext_trans (ext_drew w3) hb4) (ext_alloc _ _)) hb5) hb6).size
        try have hp2_0 := (ext_trans (ext_drew w3) hb4).size
        try have hp2_1 := (ext_trans (ext_trans (ext_drew w3) hb4) hb5).size
        try have hp2_2 := (ext_trans (ext_trans (ext_trans (ext_trans (ext_drew w3) hb4) hb5) (ext_alloc _ _)) hb6).size
        try have hp3_0 := (ext_trans (ext_drew w3) hb4).size
        try have hp3_1 := (ext_trans (ext_trans (ext_drew w3) hb4) hb5).size
        try have hp3_2 := (ext_trans (ext_trans (ext_trans (ext_drew w3) hb4) hb5) hb6).size
        first | (refine ⟨_, R1, d1, _, _, rfl, rfl, ext_trans (ext_trans (ext_trans (ext_trans (ext_drew w3) hb4) hb5) hb6) (ext_alloc _ _), (ext_trans (ext_trans (ext_trans (ext_drew w3) hb4) hb5) hb6).size, var3_box w6 _ _ _ _, fr1.ext (ext_alloc _ _), ?_, ?_, .inr (Nat.le_refl _)⟩ <;> (first | omega | (simp; done) | (simp; omega))) | (refine ⟨(World.heap w3).size, R1, d1, _, _, rfl, rfl, (set3_touch w6 (World.heap w3).size _ _ _).below (ext_trans (ext_trans (ext_trans (ext_trans (ext_alloc w3 _) (ext_drew _)) hb4) hb5) hb6) ?_, ?_, Var3.set3 (((((var3_box w3 _ _ _ _).ext (ext_drew _)).ext hb4).ext hb5).ext hb6) _ _ _, fr1.touch (set3_touch w6 (World.heap w3).size _ _ _) (.inr ?_), ?_, ?_, .inl ?_⟩ <;> (first | omega | (simp [setCell_size]; done) | (simp [setCell_size]; omega))) | (refine ⟨(World.heap w4).size, R1, d1, _, _, rfl, rfl, (set3_touch w6 (World.heap w4).size _ _ _).below (ext_trans (ext_trans (ext_trans (ext_trans (ext_drew w3) hb4) (ext_alloc _ _)) hb5) hb6) ?_, ?_, Var3.set3 (((var3_box w4 _ _ _ _).ext hb5).ext hb6) _ _ _, fr1.touch (set3_touch w6 (World.heap w4).size _ _ _) (.inr ?_), ?_, ?_, .inl ?_⟩ <;> (first | omega | (simp [setCell_size]; done) | (simp [setCell_size]; omega))) | (refine ⟨(World.heap w5).size, R1, d1, _, _, rfl, rfl, (set3_touch w6 (World.heap w5).size _ _ _).below (ext_trans (ext_trans (ext_trans (ext_trans (ext_drew w3) hb4) hb5) (ext_alloc _ _)) hb6) ?_, ?_, Var3.set3 ((var3_box w5 _ _ _ _).ext hb6) _ _ _, fr1.touch (set3_touch w6 (World.heap w5).size _ _ _) (.inr ?_), ?_, ?_, .inl ?_⟩ <;> (first | omega | (simp [setCell_size]; done) | (simp [setCell_size]; omega)))
    case rest =>
      obtain ⟨G1, R1_0, d1_0, lo1, hi1, rfl, rfl, hb1c, hG1, V1, fr1_0, hl1q, hh1q, hx1q⟩ := hcut
      obtain ⟨w7, hw7⟩ : ∃ z, z = wc := ⟨_, rfl⟩
      subst hw7
      replace a0_0 := (hb1c.cell (p := ⟨(World.heap w).size, 0, none⟩) a0h).trans a0_0
      replace a0_1 := (hb1c.cell (p := ⟨(World.heap w).size, 1, none⟩) a0h).trans a0_1
      replace a0_2 := (hb1c.cell (p := ⟨(World.heap w).size, 2, none⟩) a0h).trans a0_2
      replace a0h := Nat.lt_of_lt_of_le a0h hb1c.size
      replace a1_0 := (hb1c.cell (p := ⟨(World.heap U1).size, 0, none⟩) a1h).trans a1_0
      replace a1_1 := (hb1c.cell (p := ⟨(World.heap U1).size, 1, none⟩) a1h).trans a1_1
      replace a1_2 := (hb1c.cell (p := ⟨(World.heap U1).size, 2, none⟩) a1h).trans a1_2
      replace a1h := Nat.lt_of_lt_of_le a1h hb1c.size
      replace hB := ext_trans hB hb1c
      have hz7 := hb1c.size
      have y1_0_0 := V1.c0
      have y1_0_1 := V1.c1
      have y1_0_2 := V1.c2
      have y1_0h := V1.lt
      have hsy1_0q := V1.lt
      go_wp2_with fail
      ((with_reducible refine (toScan_any rows0 cols0 A0 c0 xs0 w7 hn0 (hA0.ext hB)).mono ?_); rintro e w8 ⟨D3, rfl, fx3, hb8⟩)
      replace fr1_0 := fr1_0.ext hb8
      replace a0_0 := (hb8.cell (p := ⟨(World.heap w).size, 0, none⟩) a0h).trans a0_0
      replace a0_1 := (hb8.cell (p := ⟨(World.heap w).size, 1, none⟩) a0h).trans a0_1
      replace a0_2 := (hb8.cell (p := ⟨(World.heap w).size, 2, none⟩) a0h).trans a0_2
      replace a0h := Nat.lt_of_lt_of_le a0h hb8.size
      replace a1_0 := (hb8.cell (p := ⟨(World.heap U1).size, 0, none⟩) a1h).trans a1_0
      replace a1_1 := (hb8.cell (p := ⟨(World.heap U1).size, 1, none⟩) a1h).trans a1_1
      replace a1_2 := (hb8.cell (p := ⟨(World.heap U1).size, 2, none⟩) a1h).trans a1_2
      replace a1h := Nat.lt_of_lt_of_le a1h hb8.size
      replace y1_0_0 := (hb8.cell (p := ⟨G1, 0, none⟩) y1_0h).trans y1_0_0
      replace y1_0_1 := (hb8.cell (p := ⟨G1, 1, none⟩) y1_0h).trans y1_0_1
      replace y1_0_2 := (hb8.cell (p := ⟨G1, 2, none⟩) y1_0h).trans y1_0_2
      replace y1_0h := Nat.lt_of_lt_of_le y1_0h hb8.size
      replace hB := ext_trans hB hb8
      have hz8 := hb8.size
      obtain ⟨U3, hU3, hD3, hs3, hv3, _⟩ := box_world w8 #[Value.int .i64 rows0, Value.int .i64 cols0, Value.slice (some ⟨D3, 0, none⟩) xs0.length xs0.length] 28
      replace fr1_0 := fr1_0.ext hD3
      replace fx3 := fx3.ext hD3
      replace a0_0 := (hD3.cell (p := ⟨(World.heap w).size, 0, none⟩) a0h).trans a0_0
      replace a0_1 := (hD3.cell (p := ⟨(World.heap w).size, 1, none⟩) a0h).trans a0_1
      replace a0_2 := (hD3.cell (p := ⟨(World.heap w).size, 2, none⟩) a0h).trans a0_2
      replace a0h := Nat.lt_of_lt_of_le a0h hD3.size
      replace a1_0 := (hD3.cell (p := ⟨(World.heap U1).size, 0, none⟩) a1h).trans a1_0
      replace a1_1 := (hD3.cell (p := ⟨(World.heap U1).size, 1, none⟩) a1h).trans a1_1
      replace a1_2 := (hD3.cell (p := ⟨(World.heap U1).size, 2, none⟩) a1h).trans a1_2
      replace a1h := Nat.lt_of_lt_of_le a1h hD3.size
      replace y1_0_0 := (hD3.cell (p := ⟨G1, 0, none⟩) y1_0h).trans y1_0_0
      replace y1_0_1 := (hD3.cell (p := ⟨G1, 1, none⟩) y1_0h).trans y1_0_1
      replace y1_0_2 := (hD3.cell (p := ⟨G1, 2, none⟩) y1_0h).trans y1_0_2
      replace y1_0h := Nat.lt_of_lt_of_le y1_0h hD3.size
      replace hB := ext_trans hB hD3
      have hz9 := hD3.size
      have x0_0 : World.cell? U3 ⟨(World.heap w8).size, 0, none⟩ = some (Value.int .i64 rows0) := hv3 0
      have x0_1 : World.cell? U3 ⟨(World.heap w8).size, 1, none⟩ = some (Value.int .i64 cols0) := hv3 1
      have x0_2 : World.cell? U3 ⟨(World.heap w8).size, 2, none⟩ = some (Value.slice (some ⟨D3, 0, none⟩) xs0.length xs0.length) := hv3 2
      have x0h := hs3
      clear hv3
      go_upto_region 7 with fail
      clear hU3
      go_cut [9, 10] (fun sp so wx => ∃ (g : Nat) (R : Option Addr) (d lo hi : Nat), sp = .pointer (some ⟨g, 0, none⟩) ∧ so = .bool ok2 ∧ Below (World.heap U3).size U3 wx ∧ (World.heap U3).size ≤ g ∧ Var3 wx g (.int .i64 ok0) (.int .i64 ok1) (.slice R ys0.length d) ∧ FlO Tile.ints 3 lo hi wx R ys0 ∧ (World.heap U3).size ≤ lo ∧ hi ≤ wx.heap.size ∧ (g < lo ∨ hi ≤ g))
      case first =>
        go_region_held3 (fun w' => Below (World.heap U3).size U3 w' ∧ ∀ b o, b < (World.heap U3).size → w'.cell? ⟨b, o, none⟩ = World.cell? U3 ⟨b, o, none⟩) (first | exact cls_of (ext_drew _) | exact cls_of (ext_drew _) | exact cls_next (by assumption) hb10 | exact cls_next (by assumption) hb11 | exact cls_alloc (by assumption) _ | assumption | exact cls_of (ext_trans (ext_trans (ext_trans (ext_drew U3) hb10) hb11) (ext_alloc _ _)) | exact cls_set3 (ext_trans (ext_trans (ext_trans (ext_alloc U3 _) (ext_drew _)) hb10) hb11) (Nat.le_refl _) | exact cls_set3 (ext_trans (ext_trans (ext_trans (ext_drew U3) hb10) (ext_alloc _ _)) hb11) ((ext_trans (ext_drew U3) hb10).size)) ((first | (go_at_call 30; (with_reducible refine (toTile_any t _).mono ?_); rintro e w10 ⟨rfl, hb10⟩; have hchb10 := bcell hb10; have hfhb10 := fcell hb10; have hzhb10 := hb10.size; (try (have hghb10 := alloc_lt hb10)); (try (have hghb10 := alloc_lt' hb10))) | (go_at_call 31; (with_reducible refine (HIMPL.out _ _ ?_).mono ?_); (first | exact (((fx3.ext (ext_alloc _ _)).ext (ext_drew _)).ext hb10).fl | exact (((fx3.ext (ext_drew _)).ext hb10).ext (ext_alloc _ _)).fl | exact ((fx3.ext (ext_drew _)).ext hb10).fl); rintro e w11 ⟨R4, d4, rfl, fr4, hb11⟩; have hchb11 := bcell hb11; have hfhb11 := fcell hb11; have hzhb11 := hb11.size; (try (have hghb11 := alloc_lt hb11)); (try (have hghb11 := alloc_lt' hb11)); (try (have hhhb11hb10 := Nat.lt_of_lt_of_le hghb10 hb11.size)); (try (have hihb11hb10 := Nat.lt_of_lt_of_le hhhb10hb10 hb11.size)))))
        all_goals
          go_wp2_with fail
          go_meet
          try have hp0_0 := (ext_trans (ext_trans (ext_alloc U3 _) (ext_drew _)) hb10).size
          try have hp0_1 := (ext_trans (ext_trans (ext_trans (ext_alloc U3 _) (ext_drew _)) hb10) hb11).size
          try have hp1_0 := (ext_trans (ext_drew U3) hb10).size
          try have hp1_1 := (ext_trans (ext_trans (ext_trans (ext_drew U3) hb10) (ext_alloc _ _)) hb11).size
          try have hp2_0 := (ext_trans (ext_drew U3) hb10).size
          try have hp2_1 := (ext_trans (ext_trans (ext_drew U3) hb10) hb11).size
          first | (refine ⟨_, R4, d4, _, _, rfl, rfl, ext_trans (ext_trans (ext_trans (ext_drew U3) hb10) hb11) (ext_alloc _ _), (ext_trans (ext_trans (ext_drew U3) hb10) hb11).size, var3_box w11 _ _ _ _, fr4.ext (ext_alloc _ _), ?_, ?_, .inr (Nat.le_refl _)⟩ <;> (first | omega | (simp; done) | (simp; omega))) | (refine ⟨(World.heap U3).size, R4, d4, _, _, rfl, rfl, (set3_touch w11 (World.heap U3).size _ _ _).below (ext_trans (ext_trans (ext_trans (ext_alloc U3 _) (ext_drew _)) hb10) hb11) ?_, ?_, Var3.set3 ((((var3_box U3 _ _ _ _).ext (ext_drew _)).ext hb10).ext hb11) _ _ _, fr4.touch (set3_touch w11 (World.heap U3).size _ _ _) (.inr ?_), ?_, ?_, .inl ?_⟩ <;> (first | omega | (simp [setCell_size]; done) | (simp [setCell_size]; omega))) | (refine ⟨(World.heap w10).size, R4, d4, _, _, rfl, rfl, (set3_touch w11 (World.heap w10).size _ _ _).below (ext_trans (ext_trans (ext_trans (ext_drew U3) hb10) (ext_alloc _ _)) hb11) ?_, ?_, Var3.set3 ((var3_box w10 _ _ _ _).ext hb11) _ _ _, fr4.touch (set3_touch w11 (World.heap w10).size _ _ _) (.inr ?_), ?_, ?_, .inl ?_⟩ <;> (first | omega | (simp [setCell_size]; done) | (simp [setCell_size]; omega)))
      case rest =>
        obtain ⟨G4, R4_0, d4_0, lo4, hi4, rfl, rfl, hb4c, hG4, V4, fr4_0, hl4q, hh4q, hx4q⟩ := hcut
        obtain ⟨w12, hw12⟩ : ∃ z, z = wc := ⟨_, rfl⟩
        subst hw12
        replace fr1_0 := fr1_0.ext hb4c
        replace fx3 := fx3.ext hb4c
        replace a0_0 := (hb4c.cell (p := ⟨(World.heap w).size, 0, none⟩) a0h).trans a0_0
        replace a0_1 := (hb4c.cell (p := ⟨(World.heap w).size, 1, none⟩) a0h).trans a0_1
        replace a0_2 := (hb4c.cell (p := ⟨(World.heap w).size, 2, none⟩) a0h).trans a0_2
        replace a0h := Nat.lt_of_lt_of_le a0h hb4c.size
        replace a1_0 := (hb4c.cell (p := ⟨(World.heap U1).size, 0, none⟩) a1h).trans a1_0
        replace a1_1 := (hb4c.cell (p := ⟨(World.heap U1).size, 1, none⟩) a1h).trans a1_1
        replace a1_2 := (hb4c.cell (p := ⟨(World.heap U1).size, 2, none⟩) a1h).trans a1_2
        replace a1h := Nat.lt_of_lt_of_le a1h hb4c.size
        replace y1_0_0 := (hb4c.cell (p := ⟨G1, 0, none⟩) y1_0h).trans y1_0_0
        replace y1_0_1 := (hb4c.cell (p := ⟨G1, 1, none⟩) y1_0h).trans y1_0_1
        replace y1_0_2 := (hb4c.cell (p := ⟨G1, 2, none⟩) y1_0h).trans y1_0_2
        replace y1_0h := Nat.lt_of_lt_of_le y1_0h hb4c.size
        replace x0_0 := (hb4c.cell (p := ⟨(World.heap w8).size, 0, none⟩) x0h).trans x0_0
        replace x0_1 := (hb4c.cell (p := ⟨(World.heap w8).size, 1, none⟩) x0h).trans x0_1
        replace x0_2 := (hb4c.cell (p := ⟨(World.heap w8).size, 2, none⟩) x0h).trans x0_2
        replace x0h := Nat.lt_of_lt_of_le x0h hb4c.size
        replace hB := ext_trans hB hb4c
        have hz12 := hb4c.size
        have y4_0_0 := V4.c0
        have y4_0_1 := V4.c1
        have y4_0_2 := V4.c2
        have y4_0h := V4.lt
        have hsy4_0q := V4.lt
        go_wp2_with fail
        ((with_reducible refine (eqScan_same _ _ _ _ _ _ ys0 _ (by omega) fr4_0.fl fr1_0.fl).mono ?_); rintro e w13 ⟨rfl, hb13⟩)
        replace fr1_0 := fr1_0.ext hb13
        replace fx3 := fx3.ext hb13
        replace fr4_0 := fr4_0.ext hb13
        replace a0_0 := (hb13.cell (p := ⟨(World.heap w).size, 0, none⟩) a0h).trans a0_0
        replace a0_1 := (hb13.cell (p := ⟨(World.heap w).size, 1, none⟩) a0h).trans a0_1
        replace a0_2 := (hb13.cell (p := ⟨(World.heap w).size, 2, none⟩) a0h).trans a0_2
        replace a0h := Nat.lt_of_lt_of_le a0h hb13.size
        replace a1_0 := (hb13.cell (p := ⟨(World.heap U1).size, 0, none⟩) a1h).trans a1_0
        replace a1_1 := (hb13.cell (p := ⟨(World.heap U1).size, 1, none⟩) a1h).trans a1_1
        replace a1_2 := (hb13.cell (p := ⟨(World.heap U1).size, 2, none⟩) a1h).trans a1_2
        replace a1h := Nat.lt_of_lt_of_le a1h hb13.size
        replace y1_0_0 := (hb13.cell (p := ⟨G1, 0, none⟩) y1_0h).trans y1_0_0
        replace y1_0_1 := (hb13.cell (p := ⟨G1, 1, none⟩) y1_0h).trans y1_0_1
        replace y1_0_2 := (hb13.cell (p := ⟨G1, 2, none⟩) y1_0h).trans y1_0_2
        replace y1_0h := Nat.lt_of_lt_of_le y1_0h hb13.size
        replace x0_0 := (hb13.cell (p := ⟨(World.heap w8).size, 0, none⟩) x0h).trans x0_0
        replace x0_1 := (hb13.cell (p := ⟨(World.heap w8).size, 1, none⟩) x0h).trans x0_1
        replace x0_2 := (hb13.cell (p := ⟨(World.heap w8).size, 2, none⟩) x0h).trans x0_2
        replace x0h := Nat.lt_of_lt_of_le x0h hb13.size
        replace y4_0_0 := (hb13.cell (p := ⟨G4, 0, none⟩) y4_0h).trans y4_0_0
        replace y4_0_1 := (hb13.cell (p := ⟨G4, 1, none⟩) y4_0h).trans y4_0_1
        replace y4_0_2 := (hb13.cell (p := ⟨G4, 2, none⟩) y4_0h).trans y4_0_2
        replace y4_0h := Nat.lt_of_lt_of_le y4_0h hb13.size
        replace hB := ext_trans hB hb13
        have hz13 := hb13.size
        go_wp2_with fail
        go_region_held3 (fun w' => Below (World.heap w13).size w13 w' ∧ ∀ b o, b < (World.heap w13).size → w'.cell? ⟨b, o, none⟩ = World.cell? w13 ⟨b, o, none⟩) (first | exact cls_of (ext_drew _) | exact cls_of (ext_trans (ext_drew _) hb14) | exact cls_of (ext_trans (ext_trans (ext_drew _) hb14) hb15)) ((first | (go_at_call 12; refine (toScan_any rows0 cols0 A0 c0 xs0 _ hn0 (hA0.ext (ext_trans hB (ext_drew _)))).mono ?_; rintro e w14 ⟨D5, rfl, fx5, hb14⟩) | (go_at_call 14; refine (eqScan_same rows0 cols0 _ _ _ _ xs0 _ (by omega) (fx3.ext (ext_trans (ext_drew _) hb14)).fl fx5.fl).mono ?_; rintro e w15 ⟨rfl, hb15⟩)))
        have hb15q := ext_trans (ext_trans (ext_drew w13) hb14) hb15
        replace fr1_0 := fr1_0.ext hb15q
        replace fx3 := fx3.ext hb15q
        replace fr4_0 := fr4_0.ext hb15q
        replace a0_0 := (hb15q.cell (p := ⟨(World.heap w).size, 0, none⟩) a0h).trans a0_0
        replace a0_1 := (hb15q.cell (p := ⟨(World.heap w).size, 1, none⟩) a0h).trans a0_1
        replace a0_2 := (hb15q.cell (p := ⟨(World.heap w).size, 2, none⟩) a0h).trans a0_2
        replace a0h := Nat.lt_of_lt_of_le a0h hb15q.size
        replace a1_0 := (hb15q.cell (p := ⟨(World.heap U1).size, 0, none⟩) a1h).trans a1_0
        replace a1_1 := (hb15q.cell (p := ⟨(World.heap U1).size, 1, none⟩) a1h).trans a1_1
        replace a1_2 := (hb15q.cell (p := ⟨(World.heap U1).size, 2, none⟩) a1h).trans a1_2
        replace a1h := Nat.lt_of_lt_of_le a1h hb15q.size
        replace y1_0_0 := (hb15q.cell (p := ⟨G1, 0, none⟩) y1_0h).trans y1_0_0
        replace y1_0_1 := (hb15q.cell (p := ⟨G1, 1, none⟩) y1_0h).trans y1_0_1
        replace y1_0_2 := (hb15q.cell (p := ⟨G1, 2, none⟩) y1_0h).trans y1_0_2
        replace y1_0h := Nat.lt_of_lt_of_le y1_0h hb15q.size
        replace x0_0 := (hb15q.cell (p := ⟨(World.heap w8).size, 0, none⟩) x0h).trans x0_0
        replace x0_1 := (hb15q.cell (p := ⟨(World.heap w8).size, 1, none⟩) x0h).trans x0_1
        replace x0_2 := (hb15q.cell (p := ⟨(World.heap w8).size, 2, none⟩) x0h).trans x0_2
        replace x0h := Nat.lt_of_lt_of_le x0h hb15q.size
        replace y4_0_0 := (hb15q.cell (p := ⟨G4, 0, none⟩) y4_0h).trans y4_0_0
        replace y4_0_1 := (hb15q.cell (p := ⟨G4, 1, none⟩) y4_0h).trans y4_0_1
        replace y4_0_2 := (hb15q.cell (p := ⟨G4, 2, none⟩) y4_0h).trans y4_0_2
        replace y4_0h := Nat.lt_of_lt_of_le y4_0h hb15q.size
        replace hB := ext_trans hB hb15q
        have hz15 := hb15q.size
        go_wp2_with fail
        ((with_reducible refine (markScan_any rows0 cols0 _ _ _ _ (1) xs0 w15 (by omega) (by omega) (by omega) fx3).mono ?_); rintro e w16 ⟨rfl, nx16, ht16⟩)
        replace fr1_0 := fr1_0.touch ht16 (by omega)
        replace fr4_0 := fr4_0.touch ht16 (by omega)
        replace a0_0 := (ht16.cell (b := (World.heap w).size) (o := 0) a0h (by omega)).trans a0_0
        replace a0_1 := (ht16.cell (b := (World.heap w).size) (o := 1) a0h (by omega)).trans a0_1
        replace a0_2 := (ht16.cell (b := (World.heap w).size) (o := 2) a0h (by omega)).trans a0_2
        replace a0h := Nat.lt_of_lt_of_le a0h ht16.size
        replace a1_0 := (ht16.cell (b := (World.heap U1).size) (o := 0) a1h (by omega)).trans a1_0
        replace a1_1 := (ht16.cell (b := (World.heap U1).size) (o := 1) a1h (by omega)).trans a1_1
        replace a1_2 := (ht16.cell (b := (World.heap U1).size) (o := 2) a1h (by omega)).trans a1_2
        replace a1h := Nat.lt_of_lt_of_le a1h ht16.size
        replace y1_0_0 := (ht16.cell (b := G1) (o := 0) y1_0h (by omega)).trans y1_0_0
        replace y1_0_1 := (ht16.cell (b := G1) (o := 1) y1_0h (by omega)).trans y1_0_1
        replace y1_0_2 := (ht16.cell (b := G1) (o := 2) y1_0h (by omega)).trans y1_0_2
        replace y1_0h := Nat.lt_of_lt_of_le y1_0h ht16.size
        replace x0_0 := (ht16.cell (b := (World.heap w8).size) (o := 0) x0h (by omega)).trans x0_0
        replace x0_1 := (ht16.cell (b := (World.heap w8).size) (o := 1) x0h (by omega)).trans x0_1
        replace x0_2 := (ht16.cell (b := (World.heap w8).size) (o := 2) x0h (by omega)).trans x0_2
        replace x0h := Nat.lt_of_lt_of_le x0h ht16.size
        replace y4_0_0 := (ht16.cell (b := G4) (o := 0) y4_0h (by omega)).trans y4_0_0
        replace y4_0_1 := (ht16.cell (b := G4) (o := 1) y4_0h (by omega)).trans y4_0_1
        replace y4_0_2 := (ht16.cell (b := G4) (o := 2) y4_0h (by omega)).trans y4_0_2
        replace y4_0h := Nat.lt_of_lt_of_le y4_0h ht16.size
        replace hB := ht16.below hB (by omega)
        have hz16 := ht16.size
        have hk0 : ¬ (1 + (xs0.length : Int) * 3 : Int) < 0 := by omega
        go_wp2_with fail
        ((with_reducible refine (eqScan_same _ _ _ _ _ _ ys0 _ (by omega) fr4_0.fl fr1_0.fl).mono ?_); rintro e w17 ⟨rfl, hb17⟩)
        replace fr1_0 := fr1_0.ext hb17
        replace fr4_0 := fr4_0.ext hb17
        replace a0_0 := (hb17.cell (p := ⟨(World.heap w).size, 0, none⟩) a0h).trans a0_0
        replace a0_1 := (hb17.cell (p := ⟨(World.heap w).size, 1, none⟩) a0h).trans a0_1
        replace a0_2 := (hb17.cell (p := ⟨(World.heap w).size, 2, none⟩) a0h).trans a0_2
        replace a0h := Nat.lt_of_lt_of_le a0h hb17.size
        replace a1_0 := (hb17.cell (p := ⟨(World.heap U1).size, 0, none⟩) a1h).trans a1_0
        replace a1_1 := (hb17.cell (p := ⟨(World.heap U1).size, 1, none⟩) a1h).trans a1_1
        replace a1_2 := (hb17.cell (p := ⟨(World.heap U1).size, 2, none⟩) a1h).trans a1_2
        replace a1h := Nat.lt_of_lt_of_le a1h hb17.size
        replace y1_0_0 := (hb17.cell (p := ⟨G1, 0, none⟩) y1_0h).trans y1_0_0
        replace y1_0_1 := (hb17.cell (p := ⟨G1, 1, none⟩) y1_0h).trans y1_0_1
        replace y1_0_2 := (hb17.cell (p := ⟨G1, 2, none⟩) y1_0h).trans y1_0_2
        replace y1_0h := Nat.lt_of_lt_of_le y1_0h hb17.size
        replace x0_0 := (hb17.cell (p := ⟨(World.heap w8).size, 0, none⟩) x0h).trans x0_0
        replace x0_1 := (hb17.cell (p := ⟨(World.heap w8).size, 1, none⟩) x0h).trans x0_1
        replace x0_2 := (hb17.cell (p := ⟨(World.heap w8).size, 2, none⟩) x0h).trans x0_2
        replace x0h := Nat.lt_of_lt_of_le x0h hb17.size
        replace y4_0_0 := (hb17.cell (p := ⟨G4, 0, none⟩) y4_0h).trans y4_0_0
        replace y4_0_1 := (hb17.cell (p := ⟨G4, 1, none⟩) y4_0h).trans y4_0_1
        replace y4_0_2 := (hb17.cell (p := ⟨G4, 2, none⟩) y4_0h).trans y4_0_2
        replace y4_0h := Nat.lt_of_lt_of_le y4_0h hb17.size
        replace hB := ext_trans hB hb17
        have hz17 := hb17.size
        go_wp2_with fail
        ((with_reducible refine (markScan_any _ _ _ _ _ _ (1) ys0 w17 (by omega) (by omega) (by omega) fr4_0).mono ?_); rintro e w18 ⟨rfl, nr0, ht18⟩)
        replace fr1_0 := fr1_0.touch ht18 (by omega)
        replace a0_0 := (ht18.cell (b := (World.heap w).size) (o := 0) a0h (by omega)).trans a0_0
        replace a0_1 := (ht18.cell (b := (World.heap w).size) (o := 1) a0h (by omega)).trans a0_1
        replace a0_2 := (ht18.cell (b := (World.heap w).size) (o := 2) a0h (by omega)).trans a0_2
        replace a0h := Nat.lt_of_lt_of_le a0h ht18.size
        replace a1_0 := (ht18.cell (b := (World.heap U1).size) (o := 0) a1h (by omega)).trans a1_0
        replace a1_1 := (ht18.cell (b := (World.heap U1).size) (o := 1) a1h (by omega)).trans a1_1
        replace a1_2 := (ht18.cell (b := (World.heap U1).size) (o := 2) a1h (by omega)).trans a1_2
        replace a1h := Nat.lt_of_lt_of_le a1h ht18.size
        replace y1_0_0 := (ht18.cell (b := G1) (o := 0) y1_0h (by omega)).trans y1_0_0
        replace y1_0_1 := (ht18.cell (b := G1) (o := 1) y1_0h (by omega)).trans y1_0_1
        replace y1_0_2 := (ht18.cell (b := G1) (o := 2) y1_0h (by omega)).trans y1_0_2
        replace y1_0h := Nat.lt_of_lt_of_le y1_0h ht18.size
        replace x0_0 := (ht18.cell (b := (World.heap w8).size) (o := 0) x0h (by omega)).trans x0_0
        replace x0_1 := (ht18.cell (b := (World.heap w8).size) (o := 1) x0h (by omega)).trans x0_1
        replace x0_2 := (ht18.cell (b := (World.heap w8).size) (o := 2) x0h (by omega)).trans x0_2
        replace x0h := Nat.lt_of_lt_of_le x0h ht18.size
        replace y4_0_0 := (ht18.cell (b := G4) (o := 0) y4_0h (by omega)).trans y4_0_0
        replace y4_0_1 := (ht18.cell (b := G4) (o := 1) y4_0h (by omega)).trans y4_0_1
        replace y4_0_2 := (ht18.cell (b := G4) (o := 2) y4_0h (by omega)).trans y4_0_2
        replace y4_0h := Nat.lt_of_lt_of_le y4_0h ht18.size
        replace hB := ht18.below hB (by omega)
        have hz18 := ht18.size
        have hq0 : ¬ (1 + (ys0.length : Int) * 3 : Int) < 0 := by omega
        go_wp2_with fail
        ((with_reducible refine (heldScan_any _ _ _ ys0.length _ _ _ (1) w18 (by omega) (by omega) (by omega) nr0).mono ?_); rintro e w19 ⟨rfl, hb19⟩)
        replace fr1_0 := fr1_0.ext hb19
        replace nr0 := nr0.ext hb19
        replace a0_0 := (hb19.cell (p := ⟨(World.heap w).size, 0, none⟩) a0h).trans a0_0
        replace a0_1 := (hb19.cell (p := ⟨(World.heap w).size, 1, none⟩) a0h).trans a0_1
        replace a0_2 := (hb19.cell (p := ⟨(World.heap w).size, 2, none⟩) a0h).trans a0_2
        replace a0h := Nat.lt_of_lt_of_le a0h hb19.size
        replace a1_0 := (hb19.cell (p := ⟨(World.heap U1).size, 0, none⟩) a1h).trans a1_0
        replace a1_1 := (hb19.cell (p := ⟨(World.heap U1).size, 1, none⟩) a1h).trans a1_1
        replace a1_2 := (hb19.cell (p := ⟨(World.heap U1).size, 2, none⟩) a1h).trans a1_2
        replace a1h := Nat.lt_of_lt_of_le a1h hb19.size
        replace y1_0_0 := (hb19.cell (p := ⟨G1, 0, none⟩) y1_0h).trans y1_0_0
        replace y1_0_1 := (hb19.cell (p := ⟨G1, 1, none⟩) y1_0h).trans y1_0_1
        replace y1_0_2 := (hb19.cell (p := ⟨G1, 2, none⟩) y1_0h).trans y1_0_2
        replace y1_0h := Nat.lt_of_lt_of_le y1_0h hb19.size
        replace x0_0 := (hb19.cell (p := ⟨(World.heap w8).size, 0, none⟩) x0h).trans x0_0
        replace x0_1 := (hb19.cell (p := ⟨(World.heap w8).size, 1, none⟩) x0h).trans x0_1
        replace x0_2 := (hb19.cell (p := ⟨(World.heap w8).size, 2, none⟩) x0h).trans x0_2
        replace x0h := Nat.lt_of_lt_of_le x0h hb19.size
        replace y4_0_0 := (hb19.cell (p := ⟨G4, 0, none⟩) y4_0h).trans y4_0_0
        replace y4_0_1 := (hb19.cell (p := ⟨G4, 1, none⟩) y4_0h).trans y4_0_1
        replace y4_0_2 := (hb19.cell (p := ⟨G4, 2, none⟩) y4_0h).trans y4_0_2
        replace y4_0h := Nat.lt_of_lt_of_le y4_0h hb19.size
        replace hB := ext_trans hB hb19
        have hz19 := hb19.size
        go_upto_region 24 with fail
        go_cut [14, 15] (fun sp so wx => ∃ (g : Nat) (R : Option Addr) (d lo hi : Nat), sp = .pointer (some ⟨g, 0, none⟩) ∧ so = .bool ok2 ∧ Below (World.heap w19).size w19 wx ∧ (World.heap w19).size ≤ g ∧ Var3 wx g (.int .i64 ok0) (.int .i64 ok1) (.slice R ys0.length d) ∧ FlO Tile.ints 3 lo hi wx R ys0 ∧ (World.heap w19).size ≤ lo ∧ hi ≤ wx.heap.size ∧ (g < lo ∨ hi ≤ g))
        case first =>
          go_region_held3 (fun w' => Below (World.heap w19).size w19 w' ∧ ∀ b o, b < (World.heap w19).size → w'.cell? ⟨b, o, none⟩ = World.cell? w19 ⟨b, o, none⟩) (first | exact cls_of (ext_drew _) | exact cls_of (ext_drew _) | exact cls_next (by assumption) hb20 | exact cls_next (by assumption) hb21 | exact cls_next (by assumption) hb22 | exact cls_alloc (by assumption) _ | assumption | exact cls_of (ext_trans (ext_trans (ext_trans (ext_trans (ext_drew w19) hb20) hb21) hb22) (ext_alloc _ _)) | exact cls_set3 (ext_trans (ext_trans (ext_trans (ext_trans (ext_alloc w19 _) (ext_drew _)) hb20) hb21) hb22) (Nat.le_refl _) | exact cls_set3 (ext_trans (ext_trans (ext_trans (ext_trans (ext_drew w19) hb20) (ext_alloc _ _)) hb21) hb22) ((ext_trans (ext_drew w19) hb20).size) | exact cls_set3 (ext_trans (ext_trans (ext_trans (ext_trans (ext_drew w19) hb20) hb21) (ext_alloc _ _)) hb22) ((ext_trans (ext_trans (ext_drew w19) hb20) hb21).size)) ((first | (go_at_call 12; (with_reducible refine (toScan_any rows0 cols0 A0 c0 xs0 _ hn0 (hA0.ext (ext_trans hB (held_below (by assumption))))).mono ?_); rintro e w20 ⟨D7, rfl, fx7, hb20⟩; have hchb20 := bcell hb20; have hfhb20 := fcell hb20; have hzhb20 := hb20.size; (try (have hghb20 := alloc_lt hb20)); (try (have hghb20 := alloc_lt' hb20))) | (go_at_call 30; (with_reducible refine (toTile_any t _).mono ?_); rintro e w21 ⟨rfl, hb21⟩; have hchb21 := bcell hb21; have hfhb21 := fcell hb21; have hzhb21 := hb21.size; (try (have hghb21 := alloc_lt hb21)); (try (have hghb21 := alloc_lt' hb21)); (try (have hhhb21hb20 := Nat.lt_of_lt_of_le hghb20 hb21.size)); (try (have hihb21hb20 := Nat.lt_of_lt_of_le hhhb20hb20 hb21.size))) | (go_at_call 31; (with_reducible refine (HIMPL.out _ _ ?_).mono ?_); (first | exact ((fx7.ext (ext_alloc _ _)).ext hb21).fl | exact ((fx7.ext hb21).ext (ext_alloc _ _)).fl | exact (fx7.ext hb21).fl); rintro e w22 ⟨R6, d6, rfl, fr6, hb22⟩; have hchb22 := bcell hb22; have hfhb22 := fcell hb22; have hzhb22 := hb22.size; (try (have hghb22 := alloc_lt hb22)); (try (have hghb22 := alloc_lt' hb22)); (try (have hhhb22hb20 := Nat.lt_of_lt_of_le hghb20 hb22.size)); (try (have hihb22hb20 := Nat.lt_of_lt_of_le hhhb21hb20 hb22.size)); (try (have hhhb22hb21 := Nat.lt_of_lt_of_le hghb21 hb22.size)); (try (have hihb22hb21 := Nat.lt_of_lt_of_le hhhb21hb21 hb22.size)))))
          all_goals
            go_wp2_with fail
            go_meet
            try have hp0_0 := (ext_trans (ext_trans (ext_alloc w19 _) (ext_drew _)) hb20).size
            try have hp0_1 := (ext_trans (ext_trans (ext_trans (ext_alloc w19 _) (ext_drew _)) hb20) hb21).size
            try have hp0_2 := (ext_trans (ext_trans (ext_trans (ext_trans (ext_alloc w19 _) (ext_drew _)) hb20) hb21) hb22).size
            try have hp1_0 := (ext_trans (ext_drew w19) hb20).size
            try have hp1_1 := (ext_trans (ext_trans (ext_trans (ext_drew w19) hb20) (ext_alloc _ _)) hb21).size
            try have hp1_2 := (ext_trans (ext_trans (ext_trans (ext_trans (ext_drew w19) hb20) (ext_alloc _ _)) hb21) hb22).size
            try have hp2_0 := (ext_trans (ext_drew w19) hb20).size
            try have hp2_1 := (ext_trans (ext_trans (ext_drew w19) hb20) hb21).size
            try have hp2_2 := (ext_trans (ext_trans (ext_trans (ext_trans (ext_drew w19) hb20) hb21) (ext_alloc _ _)) hb22).size
            try have hp3_0 := (ext_trans (ext_drew w19) hb20).size
            try have hp3_1 := (ext_trans (ext_trans (ext_drew w19) hb20) hb21).size
            try have hp3_2 := (ext_trans (ext_trans (ext_trans (ext_drew w19) hb20) hb21) hb22).size
            first | (refine ⟨_, R6, d6, _, _, rfl, rfl, ext_trans (ext_trans (ext_trans (ext_trans (ext_drew w19) hb20) hb21) hb22) (ext_alloc _ _), (ext_trans (ext_trans (ext_trans (ext_drew w19) hb20) hb21) hb22).size, var3_box w22 _ _ _ _, fr6.ext (ext_alloc _ _), ?_, ?_, .inr (Nat.le_refl _)⟩ <;> (first | omega | (simp; done) | (simp; omega))) | (refine ⟨(World.heap w19).size, R6, d6, _, _, rfl, rfl, (set3_touch w22 (World.heap w19).size _ _ _).below (ext_trans (ext_trans (ext_trans (ext_trans (ext_alloc w19 _) (ext_drew _)) hb20) hb21) hb22) ?_, ?_, Var3.set3 (((((var3_box w19 _ _ _ _).ext (ext_drew _)).ext hb20).ext hb21).ext hb22) _ _ _, fr6.touch (set3_touch w22 (World.heap w19).size _ _ _) (.inr ?_), ?_, ?_, .inl ?_⟩ <;> (first | omega | (simp [setCell_size]; done) | (simp [setCell_size]; omega))) | (refine ⟨(World.heap w20).size, R6, d6, _, _, rfl, rfl, (set3_touch w22 (World.heap w20).size _ _ _).below (ext_trans (ext_trans (ext_trans (ext_trans (ext_drew w19) hb20) (ext_alloc _ _)) hb21) hb22) ?_, ?_, Var3.set3 (((var3_box w20 _ _ _ _).ext hb21).ext hb22) _ _ _, fr6.touch (set3_touch w22 (World.heap w20).size _ _ _) (.inr ?_), ?_, ?_, .inl ?_⟩ <;> (first | omega | (simp [setCell_size]; done) | (simp [setCell_size]; omega))) | (refine ⟨(World.heap w21).size, R6, d6, _, _, rfl, rfl, (set3_touch w22 (World.heap w21).size _ _ _).below (ext_trans (ext_trans (ext_trans (ext_trans (ext_drew w19) hb20) hb21) (ext_alloc _ _)) hb22) ?_, ?_, Var3.set3 ((var3_box w21 _ _ _ _).ext hb22) _ _ _, fr6.touch (set3_touch w22 (World.heap w21).size _ _ _) (.inr ?_), ?_, ?_, .inl ?_⟩ <;> (first | omega | (simp [setCell_size]; done) | (simp [setCell_size]; omega)))
        case rest =>
          obtain ⟨G6, R6_0, d6_0, lo6, hi6, rfl, rfl, hb6c, hG6, V6, fr6_0, hl6q, hh6q, hx6q⟩ := hcut
          obtain ⟨w23, hw23⟩ : ∃ z, z = wc := ⟨_, rfl⟩
          subst hw23
          replace fr1_0 := fr1_0.ext hb6c
          replace nr0 := nr0.ext hb6c
          replace a0_0 := (hb6c.cell (p := ⟨(World.heap w).size, 0, none⟩) a0h).trans a0_0
          replace a0_1 := (hb6c.cell (p := ⟨(World.heap w).size, 1, none⟩) a0h).trans a0_1
          replace a0_2 := (hb6c.cell (p := ⟨(World.heap w).size, 2, none⟩) a0h).trans a0_2
          replace a0h := Nat.lt_of_lt_of_le a0h hb6c.size
          replace a1_0 := (hb6c.cell (p := ⟨(World.heap U1).size, 0, none⟩) a1h).trans a1_0
          replace a1_1 := (hb6c.cell (p := ⟨(World.heap U1).size, 1, none⟩) a1h).trans a1_1
          replace a1_2 := (hb6c.cell (p := ⟨(World.heap U1).size, 2, none⟩) a1h).trans a1_2
          replace a1h := Nat.lt_of_lt_of_le a1h hb6c.size
          replace y1_0_0 := (hb6c.cell (p := ⟨G1, 0, none⟩) y1_0h).trans y1_0_0
          replace y1_0_1 := (hb6c.cell (p := ⟨G1, 1, none⟩) y1_0h).trans y1_0_1
          replace y1_0_2 := (hb6c.cell (p := ⟨G1, 2, none⟩) y1_0h).trans y1_0_2
          replace y1_0h := Nat.lt_of_lt_of_le y1_0h hb6c.size
          replace x0_0 := (hb6c.cell (p := ⟨(World.heap w8).size, 0, none⟩) x0h).trans x0_0
          replace x0_1 := (hb6c.cell (p := ⟨(World.heap w8).size, 1, none⟩) x0h).trans x0_1
          replace x0_2 := (hb6c.cell (p := ⟨(World.heap w8).size, 2, none⟩) x0h).trans x0_2
          replace x0h := Nat.lt_of_lt_of_le x0h hb6c.size
          replace y4_0_0 := (hb6c.cell (p := ⟨G4, 0, none⟩) y4_0h).trans y4_0_0
          replace y4_0_1 := (hb6c.cell (p := ⟨G4, 1, none⟩) y4_0h).trans y4_0_1
          replace y4_0_2 := (hb6c.cell (p := ⟨G4, 2, none⟩) y4_0h).trans y4_0_2
          replace y4_0h := Nat.lt_of_lt_of_le y4_0h hb6c.size
          replace hB := ext_trans hB hb6c
          have hz23 := hb6c.size
          have y6_0_0 := V6.c0
          have y6_0_1 := V6.c1
          have y6_0_2 := V6.c2
          have y6_0h := V6.lt
          have hsy6_0q := V6.lt
          go_wp2_with fail
          ((with_reducible refine (eqScan_same _ _ _ _ _ _ ys0 _ (by omega) fr6_0.fl fr1_0.fl).mono ?_); rintro e w24 ⟨rfl, hb24⟩)
          replace fr1_0 := fr1_0.ext hb24
          replace nr0 := nr0.ext hb24
          replace fr6_0 := fr6_0.ext hb24
          replace a0_0 := (hb24.cell (p := ⟨(World.heap w).size, 0, none⟩) a0h).trans a0_0
          replace a0_1 := (hb24.cell (p := ⟨(World.heap w).size, 1, none⟩) a0h).trans a0_1
          replace a0_2 := (hb24.cell (p := ⟨(World.heap w).size, 2, none⟩) a0h).trans a0_2
          replace a0h := Nat.lt_of_lt_of_le a0h hb24.size
          replace a1_0 := (hb24.cell (p := ⟨(World.heap U1).size, 0, none⟩) a1h).trans a1_0
          replace a1_1 := (hb24.cell (p := ⟨(World.heap U1).size, 1, none⟩) a1h).trans a1_1
          replace a1_2 := (hb24.cell (p := ⟨(World.heap U1).size, 2, none⟩) a1h).trans a1_2
          replace a1h := Nat.lt_of_lt_of_le a1h hb24.size
          replace y1_0_0 := (hb24.cell (p := ⟨G1, 0, none⟩) y1_0h).trans y1_0_0
          replace y1_0_1 := (hb24.cell (p := ⟨G1, 1, none⟩) y1_0h).trans y1_0_1
          replace y1_0_2 := (hb24.cell (p := ⟨G1, 2, none⟩) y1_0h).trans y1_0_2
          replace y1_0h := Nat.lt_of_lt_of_le y1_0h hb24.size
          replace x0_0 := (hb24.cell (p := ⟨(World.heap w8).size, 0, none⟩) x0h).trans x0_0
          replace x0_1 := (hb24.cell (p := ⟨(World.heap w8).size, 1, none⟩) x0h).trans x0_1
          replace x0_2 := (hb24.cell (p := ⟨(World.heap w8).size, 2, none⟩) x0h).trans x0_2
          replace x0h := Nat.lt_of_lt_of_le x0h hb24.size
          replace y4_0_0 := (hb24.cell (p := ⟨G4, 0, none⟩) y4_0h).trans y4_0_0
          replace y4_0_1 := (hb24.cell (p := ⟨G4, 1, none⟩) y4_0h).trans y4_0_1
          replace y4_0_2 := (hb24.cell (p := ⟨G4, 2, none⟩) y4_0h).trans y4_0_2
          replace y4_0h := Nat.lt_of_lt_of_le y4_0h hb24.size
          replace y6_0_0 := (hb24.cell (p := ⟨G6, 0, none⟩) y6_0h).trans y6_0_0
          replace y6_0_1 := (hb24.cell (p := ⟨G6, 1, none⟩) y6_0h).trans y6_0_1
          replace y6_0_2 := (hb24.cell (p := ⟨G6, 2, none⟩) y6_0h).trans y6_0_2
          replace y6_0h := Nat.lt_of_lt_of_le y6_0h hb24.size
          replace hB := ext_trans hB hb24
          have hz24 := hb24.size
          go_wp2_with fail
          ((with_reducible refine (heldScan_any _ _ _ ys0.length _ _ _ (1) w24 (by omega) (by omega) (by omega) nr0).mono ?_); rintro e w25 ⟨rfl, hb25⟩)
          replace fr1_0 := fr1_0.ext hb25
          replace nr0 := nr0.ext hb25
          replace fr6_0 := fr6_0.ext hb25
          replace a0_0 := (hb25.cell (p := ⟨(World.heap w).size, 0, none⟩) a0h).trans a0_0
          replace a0_1 := (hb25.cell (p := ⟨(World.heap w).size, 1, none⟩) a0h).trans a0_1
          replace a0_2 := (hb25.cell (p := ⟨(World.heap w).size, 2, none⟩) a0h).trans a0_2
          replace a0h := Nat.lt_of_lt_of_le a0h hb25.size
          replace a1_0 := (hb25.cell (p := ⟨(World.heap U1).size, 0, none⟩) a1h).trans a1_0
          replace a1_1 := (hb25.cell (p := ⟨(World.heap U1).size, 1, none⟩) a1h).trans a1_1
          replace a1_2 := (hb25.cell (p := ⟨(World.heap U1).size, 2, none⟩) a1h).trans a1_2
          replace a1h := Nat.lt_of_lt_of_le a1h hb25.size
          replace y1_0_0 := (hb25.cell (p := ⟨G1, 0, none⟩) y1_0h).trans y1_0_0
          replace y1_0_1 := (hb25.cell (p := ⟨G1, 1, none⟩) y1_0h).trans y1_0_1
          replace y1_0_2 := (hb25.cell (p := ⟨G1, 2, none⟩) y1_0h).trans y1_0_2
          replace y1_0h := Nat.lt_of_lt_of_le y1_0h hb25.size
          replace x0_0 := (hb25.cell (p := ⟨(World.heap w8).size, 0, none⟩) x0h).trans x0_0
          replace x0_1 := (hb25.cell (p := ⟨(World.heap w8).size, 1, none⟩) x0h).trans x0_1
          replace x0_2 := (hb25.cell (p := ⟨(World.heap w8).size, 2, none⟩) x0h).trans x0_2
          replace x0h := Nat.lt_of_lt_of_le x0h hb25.size
          replace y4_0_0 := (hb25.cell (p := ⟨G4, 0, none⟩) y4_0h).trans y4_0_0
          replace y4_0_1 := (hb25.cell (p := ⟨G4, 1, none⟩) y4_0h).trans y4_0_1
          replace y4_0_2 := (hb25.cell (p := ⟨G4, 2, none⟩) y4_0h).trans y4_0_2
          replace y4_0h := Nat.lt_of_lt_of_le y4_0h hb25.size
          replace y6_0_0 := (hb25.cell (p := ⟨G6, 0, none⟩) y6_0h).trans y6_0_0
          replace y6_0_1 := (hb25.cell (p := ⟨G6, 1, none⟩) y6_0h).trans y6_0_1
          replace y6_0_2 := (hb25.cell (p := ⟨G6, 2, none⟩) y6_0h).trans y6_0_2
          replace y6_0h := Nat.lt_of_lt_of_le y6_0h hb25.size
          replace hB := ext_trans hB hb25
          have hz25 := hb25.size
          go_wp2
          go_ret
          exact ⟨rfl, hB⟩

set_option maxRecDepth 100000 in
theorem FnExactPutTile_holds : Rows.FnExactPutTileSaid :=
  OpenClaim.holds_of_wide 7 Try.f7 rfl rfl rfl rfl rfl rfl rfl ⟨rfl, rfl, rfl, rfl, rfl⟩ rfl rfl rfl rfl rfl (by kernel_rfl) Try.func7 (by kernel_rfl)
    (of_decide_eq_true (by kernel_rfl)) (by unfold Func.isWrapper; first | (rw [if_pos (by decide +kernel)]; kernel_rfl) | (rw [if_neg (by decide +kernel)]; exact ⟨rfl, rfl⟩))
    (fun os started H enc _ => by
      refine law_lifted (s := Rows.fnExactPutTileSpec) (conds := []) os started H enc (by kernel_rfl) Try.func7 (by kernel_rfl) rfl rfl Try.underlying4
        (ChangeSpec.witness6 (enc := enc) (C := Try.checked) false ⟨#[], #[.agg #[.int .i64 0, .int .i64 0, .slice none 0 0], .agg #[.int .i64 0, .int .i64 0, .int .i64 0]], []⟩ 8 (by kernel_rfl) (by kernel_rfl) (by kernel_rfl) (by kernel_rfl)) ?_
      intro W base args ds ps hval hA
      rw [Try.params7] at hA hval
      obtain ⟨v0, vs0, d0, ds0, p0, q0, hargs, rfl, rfl, h0, r0⟩ := trodAll_cons hA
      obtain ⟨v1, vs1, d1, ds1, p1, q1, rfl, rfl, rfl, h1, r1⟩ := trodAll_cons r0
      obtain ⟨rfl, rfl, rfl⟩ := trodAll_nil r1
      obtain rfl : args = #[v0, v1] := by cases args; simp_all
      refine ⟨rfl, ?_⟩
      obtain ⟨f00, f10, f20, y00, y10, y20, m0, rfl, rfl, rfl, hy00, hy10, hy20⟩ := open_agg3 Try.underlying24 (by kernel_rfl) (by kernel_rfl) (hval 0 24 v0 rfl rfl) h0
      obtain ⟨a00, e00, _, _⟩ := DataW.trod_int Try.underlying3 hy00
      obtain ⟨a10, e10, _, _⟩ := DataW.trod_int Try.underlying3 hy10
      obtain ⟨A0, c0, xs0, rfl, hl0, hf0⟩ := open_core (f := Tile.ints) Try.underlying22 (by kernel_rfl) (by decide) (intElem_struct Try.underlying49 (by kernel_rfl) rfl (intfields_of (by kernel_rfl))) Tile.mk_ints hy20
      simp at e00 e10
      subst e00 e10
      obtain ⟨f01, f11, f21, y01, y11, y21, m1, rfl, rfl, rfl, hy01, hy11, hy21⟩ := open_agg3 Try.underlying49 (by kernel_rfl) (by kernel_rfl) (hval 1 49 v1 rfl rfl) h1
      obtain ⟨a01, e01, _, _⟩ := DataW.trod_int Try.underlying3 hy01
      obtain ⟨a11, e11, _, _⟩ := DataW.trod_int Try.underlying3 hy11
      obtain ⟨a21, e21, _, _⟩ := DataW.trod_int Try.underlying3 hy21
      simp at e01 e11 e21
      subst e01 e11 e21
      exact fnPutTile_any _ _ A0 c0 xs0 ⟨_, _, _⟩ W hl0 hf0)
end Go.Proofs.Ytbldoidcjkffdaa
