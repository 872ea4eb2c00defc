/- The program's CropScan returns what the reference's returns, for all arguments. No condition. -/
import Derived.Test.YtbldoidcjkffdaaLaw
import Derived.Test.YtbldoidcjkffdaaOpen
import Derived.Test.YtbldoidcjkffdaaLst
import Derived.Test.YtbldoidcjkffdaaFamScan
import Derived.Test.YtbldoidcjkffdaaBoxLaw
import Derived.Test.YtbldoidcjkffdaaMarkBox
import Derived.Test.YtbldoidcjkffdaaCropI
import Derived.Test.YtbldoidcjkffdaaCropS
import Derived.Lib.SmallJoins
namespace Go.Proofs.Ytbldoidcjkffdaa
open Go.ChangeShapes Go.WideShapes Go.ChangeAt Go.RowKit Go.Joins
set_option linter.unusedVariables false
set_option linter.unusedSimpArgs false

set_option maxHeartbeats 8000000 in
set_option maxRecDepth 100000 in
theorem fnCropScan_any (rows0 cols0 : Int) (A0 : Option Addr) (c0 : Nat) (xs0 : List Tile) (row : Int) (col : Int) (rows : Int) (cols : Int) (w : World) (hm0 : xs0.length ≤ 9223372036854775807) (hA0 : Fl Tile.ints 3 w A0 xs0) :
    Calls Try.prog 3 #[.agg #[Value.int .i64 rows0, Value.int .i64 cols0, Value.slice A0 xs0.length c0], .int .i64 row, .int .i64 col, .int .i64 rows, .int .i64 cols] w fun e w' => e = .returned (.bool true) ∧ Below w.heap.size w w' := by
  by_cases hbig0 : (1048576 : Int) < (xs0.length : Int)
  · skip
    have hB := Below.refl w.heap.size w
    obtain ⟨U1, hU1, hD1, hs1, hv1, _⟩ := box_world w #[Value.int .i64 rows0, Value.int .i64 cols0, Value.slice A0 xs0.length c0] 24
    replace hB := ext_trans hB hD1
    have hz1 := hD1.size
    have a0_0 : World.cell? U1 ⟨(World.heap w).size, 0, none⟩ = some (Value.int .i64 rows0) := hv1 0
    have a0_1 : World.cell? U1 ⟨(World.heap w).size, 1, none⟩ = some (Value.int .i64 cols0) := hv1 1
    have a0_2 : World.cell? U1 ⟨(World.heap w).size, 2, none⟩ = some (Value.slice A0 xs0.length c0) := hv1 2
    have a0h := hs1
    clear hv1
    go_enter Try.func3, Try.ntmps3
    go_wp2_with fail
    clear hU1
    ((with_reducible refine (szScanG_no rows0 cols0 A0 xs0.length c0 _ (1048576) (by omega) (by omega) hm0 (by omega)).mono ?_); rintro e w2 ⟨rfl, hb2⟩)
    replace a0_0 := (hb2.cell (p := ⟨(World.heap w).size, 0, none⟩) a0h).trans a0_0
    replace a0_1 := (hb2.cell (p := ⟨(World.heap w).size, 1, none⟩) a0h).trans a0_1
    replace a0_2 := (hb2.cell (p := ⟨(World.heap w).size, 2, none⟩) a0h).trans a0_2
    replace a0h := Nat.lt_of_lt_of_le a0h hb2.size
    replace hB := ext_trans hB hb2
    have hz2 := hb2.size
    go_wp2
    go_ret
    exact ⟨rfl, hB⟩
  · have hn0 : xs0.length ≤ 1048576 := by omega
    have hl0 : ¬ (1048576 : Int) - (xs0.length : Int) < 0 := by omega
    have hspec := fun (D0 : Nat) (W : World) (h0 : Fl Tile.ints 3 W (some ⟨D0, 0, none⟩) xs0) => specCropScan_any rows0 cols0 (some ⟨D0, 0, none⟩) xs0.length xs0 row col rows cols W hn0 h0
    have himpl := fun (D0 : Nat) (W : World) (h0 : Fl Tile.ints 3 W (some ⟨D0, 0, none⟩) xs0) => cropScan_any rows0 cols0 (some ⟨D0, 0, none⟩) xs0.length xs0 row col rows cols W hn0 h0
    have hyl0 : (sel (CropOk rows0 cols0 xs0 row col rows cols) (cropL row col rows cols xs0)).length ≤ 1048576 := Nat.le_trans (sel_len _ _) (Nat.le_trans (cropL_len _ _ _ _ _) hn0)
    generalize sel (CropOk rows0 cols0 xs0 row col rows cols) (cropL row col rows cols xs0) = ys0 at hspec himpl hyl0
    generalize seli (CropOk rows0 cols0 xs0 row col rows cols) rows = ok0 at hspec himpl
    generalize seli (CropOk rows0 cols0 xs0 row col rows cols) cols = ok1 at hspec himpl
    generalize tb (CropOk rows0 cols0 xs0 row col rows cols) = ok2 at hspec himpl
    have HSPEC := Lib.hid hspec
    have HIMPL := Lib.hid himpl
    clear hspec himpl
    have hB := Below.refl w.heap.size w
    obtain ⟨U1, hU1, hD1, hs1, hv1, _⟩ := box_world w #[Value.int .i64 rows0, Value.int .i64 cols0, Value.slice A0 xs0.length c0] 24
    replace hB := ext_trans hB hD1
    have hz1 := hD1.size
    have a0_0 : World.cell? U1 ⟨(World.heap w).size, 0, none⟩ = some (Value.int .i64 rows0) := hv1 0
    have a0_1 : World.cell? U1 ⟨(World.heap w).size, 1, none⟩ = some (Value.int .i64 cols0) := hv1 1
    have a0_2 : World.cell? U1 ⟨(World.heap w).size, 2, none⟩ = some (Value.slice A0 xs0.length c0) := hv1 2
    have a0h := hs1
    clear hv1
    go_enter Try.func3, Try.ntmps3
    go_wp2_with fail
    clear hU1
    ((with_reducible refine (szScanG_ok rows0 cols0 A0 xs0.length c0 _ (1048576) (by omega) (by omega) hm0 (by omega)).mono ?_); rintro e w2 ⟨rfl, hb2⟩)
    replace a0_0 := (hb2.cell (p := ⟨(World.heap w).size, 0, none⟩) a0h).trans a0_0
    replace a0_1 := (hb2.cell (p := ⟨(World.heap w).size, 1, none⟩) a0h).trans a0_1
    replace a0_2 := (hb2.cell (p := ⟨(World.heap w).size, 2, none⟩) a0h).trans a0_2
    replace a0h := Nat.lt_of_lt_of_le a0h hb2.size
    replace hB := ext_trans hB hb2
    have hz2 := hb2.size
    go_wp2_with fail
    ((with_reducible refine (toScan_any rows0 cols0 A0 c0 xs0 w2 hn0 (hA0.ext hB)).mono ?_); rintro e w3 ⟨D1, rfl, fx1, hb3⟩)
    replace a0_0 := (hb3.cell (p := ⟨(World.heap w).size, 0, none⟩) a0h).trans a0_0
    replace a0_1 := (hb3.cell (p := ⟨(World.heap w).size, 1, none⟩) a0h).trans a0_1
    replace a0_2 := (hb3.cell (p := ⟨(World.heap w).size, 2, none⟩) a0h).trans a0_2
    replace a0h := Nat.lt_of_lt_of_le a0h hb3.size
    replace hB := ext_trans hB hb3
    have hz3 := hb3.size
    go_wp2_with fail
    ((with_reducible refine (HSPEC.out _ w3 fx1.fl).mono ?_); rintro e w4 ⟨R2_0, d2_0, rfl, fr2_0, hb4⟩)
    replace fx1 := fx1.ext hb4
    replace a0_0 := (hb4.cell (p := ⟨(World.heap w).size, 0, none⟩) a0h).trans a0_0
    replace a0_1 := (hb4.cell (p := ⟨(World.heap w).size, 1, none⟩) a0h).trans a0_1
    replace a0_2 := (hb4.cell (p := ⟨(World.heap w).size, 2, none⟩) a0h).trans a0_2
    replace a0h := Nat.lt_of_lt_of_le a0h hb4.size
    replace hB := ext_trans hB hb4
    have hz4 := hb4.size
    obtain ⟨U2, hU2, hD2, hs2, hv2, _⟩ := box_world w4 #[Value.int .i64 ok0, Value.int .i64 ok1, Value.slice R2_0 ys0.length d2_0] 28
    replace fx1 := fx1.ext hD2
    replace fr2_0 := fr2_0.ext hD2
    replace a0_0 := (hD2.cell (p := ⟨(World.heap w).size, 0, none⟩) a0h).trans a0_0
    replace a0_1 := (hD2.cell (p := ⟨(World.heap w).size, 1, none⟩) a0h).trans a0_1
    replace a0_2 := (hD2.cell (p := ⟨(World.heap w).size, 2, none⟩) a0h).trans a0_2
    replace a0h := Nat.lt_of_lt_of_le a0h hD2.size
    replace hB := ext_trans hB hD2
    have hz5 := hD2.size
    have y2_0_0 : World.cell? U2 ⟨(World.heap w4).size, 0, none⟩ = some (Value.int .i64 ok0) := hv2 0
    have y2_0_1 : World.cell? U2 ⟨(World.heap w4).size, 1, none⟩ = some (Value.int .i64 ok1) := hv2 1
    have y2_0_2 : World.cell? U2 ⟨(World.heap w4).size, 2, none⟩ = some (Value.slice R2_0 ys0.length d2_0) := hv2 2
    have y2_0h := hs2
    clear hv2
    go_wp2_with fail
    clear hU2
    ((with_reducible refine (toScan_any rows0 cols0 A0 c0 xs0 U2 hn0 (hA0.ext hB)).mono ?_); rintro e w6 ⟨D3, rfl, fx3, hb6⟩)
    replace fx1 := fx1.ext hb6
    replace fr2_0 := fr2_0.ext hb6
    replace a0_0 := (hb6.cell (p := ⟨(World.heap w).size, 0, none⟩) a0h).trans a0_0
    replace a0_1 := (hb6.cell (p := ⟨(World.heap w).size, 1, none⟩) a0h).trans a0_1
    replace a0_2 := (hb6.cell (p := ⟨(World.heap w).size, 2, none⟩) a0h).trans a0_2
    replace a0h := Nat.lt_of_lt_of_le a0h hb6.size
    replace y2_0_0 := (hb6.cell (p := ⟨(World.heap w4).size, 0, none⟩) y2_0h).trans y2_0_0
    replace y2_0_1 := (hb6.cell (p := ⟨(World.heap w4).size, 1, none⟩) y2_0h).trans y2_0_1
    replace y2_0_2 := (hb6.cell (p := ⟨(World.heap w4).size, 2, none⟩) y2_0h).trans y2_0_2
    replace y2_0h := Nat.lt_of_lt_of_le y2_0h hb6.size
    replace hB := ext_trans hB hb6
    have hz6 := hb6.size
    obtain ⟨U3, hU3, hD3, hs3, hv3, _⟩ := box_world w6 #[Value.int .i64 rows0, Value.int .i64 cols0, Value.slice (some ⟨D3, 0, none⟩) xs0.length xs0.length] 28
    replace fx1 := fx1.ext hD3
    replace fr2_0 := fr2_0.ext hD3
    replace fx3 := fx3.ext hD3
    replace a0_0 := (hD3.cell (p := ⟨(World.heap w).size, 0, none⟩) a0h).trans a0_0
    replace a0_1 := (hD3.cell (p := ⟨(World.heap w).size, 1, none⟩) a0h).trans a0_1
    replace a0_2 := (hD3.cell (p := ⟨(World.heap w).size, 2, none⟩) a0h).trans a0_2
    replace a0h := Nat.lt_of_lt_of_le a0h hD3.size
    replace y2_0_0 := (hD3.cell (p := ⟨(World.heap w4).size, 0, none⟩) y2_0h).trans y2_0_0
    replace y2_0_1 := (hD3.cell (p := ⟨(World.heap w4).size, 1, none⟩) y2_0h).trans y2_0_1
    replace y2_0_2 := (hD3.cell (p := ⟨(World.heap w4).size, 2, none⟩) y2_0h).trans y2_0_2
    replace y2_0h := Nat.lt_of_lt_of_le y2_0h hD3.size
    replace hB := ext_trans hB hD3
    have hz7 := hD3.size
    have x0_0 : World.cell? U3 ⟨(World.heap w6).size, 0, none⟩ = some (Value.int .i64 rows0) := hv3 0
    have x0_1 : World.cell? U3 ⟨(World.heap w6).size, 1, none⟩ = some (Value.int .i64 cols0) := hv3 1
    have x0_2 : World.cell? U3 ⟨(World.heap w6).size, 2, none⟩ = some (Value.slice (some ⟨D3, 0, none⟩) xs0.length xs0.length) := hv3 2
    have x0h := hs3
    clear hv3
    go_wp2_with fail
    clear hU3
    ((with_reducible refine (HIMPL.out _ U3 fx3.fl).mono ?_); rintro e w8 ⟨R4_0, d4_0, rfl, fr4_0, hb8⟩)
    replace fx1 := fx1.ext hb8
    replace fr2_0 := fr2_0.ext hb8
    replace fx3 := fx3.ext hb8
    replace a0_0 := (hb8.cell (p := ⟨(World.heap w).size, 0, none⟩) a0h).trans a0_0
    replace a0_1 := (hb8.cell (p := ⟨(World.heap w).size, 1, none⟩) a0h).trans a0_1
    replace a0_2 := (hb8.cell (p := ⟨(World.heap w).size, 2, none⟩) a0h).trans a0_2
    replace a0h := Nat.lt_of_lt_of_le a0h hb8.size
    replace y2_0_0 := (hb8.cell (p := ⟨(World.heap w4).size, 0, none⟩) y2_0h).trans y2_0_0
    replace y2_0_1 := (hb8.cell (p := ⟨(World.heap w4).size, 1, none⟩) y2_0h).trans y2_0_1
    replace y2_0_2 := (hb8.cell (p := ⟨(World.heap w4).size, 2, none⟩) y2_0h).trans y2_0_2
    replace y2_0h := Nat.lt_of_lt_of_le y2_0h hb8.size
    replace x0_0 := (hb8.cell (p := ⟨(World.heap w6).size, 0, none⟩) x0h).trans x0_0
    replace x0_1 := (hb8.cell (p := ⟨(World.heap w6).size, 1, none⟩) x0h).trans x0_1
    replace x0_2 := (hb8.cell (p := ⟨(World.heap w6).size, 2, none⟩) x0h).trans x0_2
    replace x0h := Nat.lt_of_lt_of_le x0h hb8.size
    replace hB := ext_trans hB hb8
    have hz8 := hb8.size
    obtain ⟨U4, hU4, hD4, hs4, hv4, _⟩ := box_world w8 #[Value.int .i64 ok0, Value.int .i64 ok1, Value.slice R4_0 ys0.length d4_0] 28
    replace fx1 := fx1.ext hD4
    replace fr2_0 := fr2_0.ext hD4
    replace fx3 := fx3.ext hD4
    replace fr4_0 := fr4_0.ext hD4
    replace a0_0 := (hD4.cell (p := ⟨(World.heap w).size, 0, none⟩) a0h).trans a0_0
    replace a0_1 := (hD4.cell (p := ⟨(World.heap w).size, 1, none⟩) a0h).trans a0_1
    replace a0_2 := (hD4.cell (p := ⟨(World.heap w).size, 2, none⟩) a0h).trans a0_2
    replace a0h := Nat.lt_of_lt_of_le a0h hD4.size
    replace y2_0_0 := (hD4.cell (p := ⟨(World.heap w4).size, 0, none⟩) y2_0h).trans y2_0_0
    replace y2_0_1 := (hD4.cell (p := ⟨(World.heap w4).size, 1, none⟩) y2_0h).trans y2_0_1
    replace y2_0_2 := (hD4.cell (p := ⟨(World.heap w4).size, 2, none⟩) y2_0h).trans y2_0_2
    replace y2_0h := Nat.lt_of_lt_of_le y2_0h hD4.size
    replace x0_0 := (hD4.cell (p := ⟨(World.heap w6).size, 0, none⟩) x0h).trans x0_0
    replace x0_1 := (hD4.cell (p := ⟨(World.heap w6).size, 1, none⟩) x0h).trans x0_1
    replace x0_2 := (hD4.cell (p := ⟨(World.heap w6).size, 2, none⟩) x0h).trans x0_2
    replace x0h := Nat.lt_of_lt_of_le x0h hD4.size
    replace hB := ext_trans hB hD4
    have hz9 := hD4.size
    have y4_0_0 : World.cell? U4 ⟨(World.heap w8).size, 0, none⟩ = some (Value.int .i64 ok0) := hv4 0
    have y4_0_1 : World.cell? U4 ⟨(World.heap w8).size, 1, none⟩ = some (Value.int .i64 ok1) := hv4 1
    have y4_0_2 : World.cell? U4 ⟨(World.heap w8).size, 2, none⟩ = some (Value.slice R4_0 ys0.length d4_0) := hv4 2
    have y4_0h := hs4
    clear hv4
    go_wp2_with fail
    clear hU4
    ((with_reducible refine (eqScan_same _ _ _ _ _ _ ys0 _ (by omega) fr4_0.fl fr2_0.fl).mono ?_); rintro e w10 ⟨rfl, hb10⟩)
    replace fx1 := fx1.ext hb10
    replace fr2_0 := fr2_0.ext hb10
    replace fx3 := fx3.ext hb10
    replace fr4_0 := fr4_0.ext hb10
    replace a0_0 := (hb10.cell (p := ⟨(World.heap w).size, 0, none⟩) a0h).trans a0_0
    replace a0_1 := (hb10.cell (p := ⟨(World.heap w).size, 1, none⟩) a0h).trans a0_1
    replace a0_2 := (hb10.cell (p := ⟨(World.heap w).size, 2, none⟩) a0h).trans a0_2
    replace a0h := Nat.lt_of_lt_of_le a0h hb10.size
    replace y2_0_0 := (hb10.cell (p := ⟨(World.heap w4).size, 0, none⟩) y2_0h).trans y2_0_0
    replace y2_0_1 := (hb10.cell (p := ⟨(World.heap w4).size, 1, none⟩) y2_0h).trans y2_0_1
    replace y2_0_2 := (hb10.cell (p := ⟨(World.heap w4).size, 2, none⟩) y2_0h).trans y2_0_2
    replace y2_0h := Nat.lt_of_lt_of_le y2_0h hb10.size
    replace x0_0 := (hb10.cell (p := ⟨(World.heap w6).size, 0, none⟩) x0h).trans x0_0
    replace x0_1 := (hb10.cell (p := ⟨(World.heap w6).size, 1, none⟩) x0h).trans x0_1
    replace x0_2 := (hb10.cell (p := ⟨(World.heap w6).size, 2, none⟩) x0h).trans x0_2
    replace x0h := Nat.lt_of_lt_of_le x0h hb10.size
    replace y4_0_0 := (hb10.cell (p := ⟨(World.heap w8).size, 0, none⟩) y4_0h).trans y4_0_0
    replace y4_0_1 := (hb10.cell (p := ⟨(World.heap w8).size, 1, none⟩) y4_0h).trans y4_0_1
    replace y4_0_2 := (hb10.cell (p := ⟨(World.heap w8).size, 2, none⟩) y4_0h).trans y4_0_2
    replace y4_0h := Nat.lt_of_lt_of_le y4_0h hb10.size
    replace hB := ext_trans hB hb10
    have hz10 := hb10.size
    go_wp2_with fail
    go_region_held3 (fun w' => Below (World.heap w10).size w10 w' ∧ ∀ b o, b < (World.heap w10).size → w'.cell? ⟨b, o, none⟩ = World.cell? w10 ⟨b, o, none⟩) (first | exact cls_of (ext_drew _) | exact cls_of (ext_trans (ext_drew _) hb11) | exact cls_of (ext_trans (ext_trans (ext_drew _) hb11) hb12)) ((first | (go_at_call 12; refine (toScan_any rows0 cols0 A0 c0 xs0 _ hn0 (hA0.ext (ext_trans hB (ext_drew _)))).mono ?_; rintro e w11 ⟨D5, rfl, fx5, hb11⟩) | (go_at_call 14; refine (eqScan_same rows0 cols0 _ _ _ _ xs0 _ (by omega) (fx3.ext (ext_trans (ext_drew _) hb11)).fl fx5.fl).mono ?_; rintro e w12 ⟨rfl, hb12⟩)))
    have hb12q := ext_trans (ext_trans (ext_drew w10) hb11) hb12
    replace fx1 := fx1.ext hb12q
    replace fr2_0 := fr2_0.ext hb12q
    replace fx3 := fx3.ext hb12q
    replace fr4_0 := fr4_0.ext hb12q
    replace a0_0 := (hb12q.cell (p := ⟨(World.heap w).size, 0, none⟩) a0h).trans a0_0
    replace a0_1 := (hb12q.cell (p := ⟨(World.heap w).size, 1, none⟩) a0h).trans a0_1
    replace a0_2 := (hb12q.cell (p := ⟨(World.heap w).size, 2, none⟩) a0h).trans a0_2
    replace a0h := Nat.lt_of_lt_of_le a0h hb12q.size
    replace y2_0_0 := (hb12q.cell (p := ⟨(World.heap w4).size, 0, none⟩) y2_0h).trans y2_0_0
    replace y2_0_1 := (hb12q.cell (p := ⟨(World.heap w4).size, 1, none⟩) y2_0h).trans y2_0_1
    replace y2_0_2 := (hb12q.cell (p := ⟨(World.heap w4).size, 2, none⟩) y2_0h).trans y2_0_2
    replace y2_0h := Nat.lt_of_lt_of_le y2_0h hb12q.size
    replace x0_0 := (hb12q.cell (p := ⟨(World.heap w6).size, 0, none⟩) x0h).trans x0_0
    replace x0_1 := (hb12q.cell (p := ⟨(World.heap w6).size, 1, none⟩) x0h).trans x0_1
    replace x0_2 := (hb12q.cell (p := ⟨(World.heap w6).size, 2, none⟩) x0h).trans x0_2
    replace x0h := Nat.lt_of_lt_of_le x0h hb12q.size
    replace y4_0_0 := (hb12q.cell (p := ⟨(World.heap w8).size, 0, none⟩) y4_0h).trans y4_0_0
    replace y4_0_1 := (hb12q.cell (p := ⟨(World.heap w8).size, 1, none⟩) y4_0h).trans y4_0_1
    replace y4_0_2 := (hb12q.cell (p := ⟨(World.heap w8).size, 2, none⟩) y4_0h).trans y4_0_2
    replace y4_0h := Nat.lt_of_lt_of_le y4_0h hb12q.size
    replace hB := ext_trans hB hb12q
    have hz12 := hb12q.size
    go_wp2_with fail
    ((with_reducible refine (markScan_any rows0 cols0 _ _ _ _ (1) xs0 w12 (by omega) (by omega) (by omega) fx3).mono ?_); rintro e w13 ⟨rfl, nx13, ht13⟩)
    replace fr2_0 := fr2_0.touch ht13 (by omega)
    replace fr4_0 := fr4_0.touch ht13 (by omega)
    replace a0_0 := (ht13.cell (b := (World.heap w).size) (o := 0) a0h (by omega)).trans a0_0
    replace a0_1 := (ht13.cell (b := (World.heap w).size) (o := 1) a0h (by omega)).trans a0_1
    replace a0_2 := (ht13.cell (b := (World.heap w).size) (o := 2) a0h (by omega)).trans a0_2
    replace a0h := Nat.lt_of_lt_of_le a0h ht13.size
    replace y2_0_0 := (ht13.cell (b := (World.heap w4).size) (o := 0) y2_0h (by omega)).trans y2_0_0
    replace y2_0_1 := (ht13.cell (b := (World.heap w4).size) (o := 1) y2_0h (by omega)).trans y2_0_1
    replace y2_0_2 := (ht13.cell (b := (World.heap w4).size) (o := 2) y2_0h (by omega)).trans y2_0_2
    replace y2_0h := Nat.lt_of_lt_of_le y2_0h ht13.size
    replace x0_0 := (ht13.cell (b := (World.heap w6).size) (o := 0) x0h (by omega)).trans x0_0
    replace x0_1 := (ht13.cell (b := (World.heap w6).size) (o := 1) x0h (by omega)).trans x0_1
    replace x0_2 := (ht13.cell (b := (World.heap w6).size) (o := 2) x0h (by omega)).trans x0_2
    replace x0h := Nat.lt_of_lt_of_le x0h ht13.size
    replace y4_0_0 := (ht13.cell (b := (World.heap w8).size) (o := 0) y4_0h (by omega)).trans y4_0_0
    replace y4_0_1 := (ht13.cell (b := (World.heap w8).size) (o := 1) y4_0h (by omega)).trans y4_0_1
    replace y4_0_2 := (ht13.cell (b := (World.heap w8).size) (o := 2) y4_0h (by omega)).trans y4_0_2
    replace y4_0h := Nat.lt_of_lt_of_le y4_0h ht13.size
    replace hB := ht13.below hB (by omega)
    have hz13 := ht13.size
    have hk0 : ¬ (1 + (xs0.length : Int) * 3 : Int) < 0 := by omega
    go_wp2_with fail
    ((with_reducible refine (eqScan_same _ _ _ _ _ _ ys0 _ (by omega) fr4_0.fl fr2_0.fl).mono ?_); rintro e w14 ⟨rfl, hb14⟩)
    replace fr2_0 := fr2_0.ext hb14
    replace fr4_0 := fr4_0.ext hb14
    replace a0_0 := (hb14.cell (p := ⟨(World.heap w).size, 0, none⟩) a0h).trans a0_0
    replace a0_1 := (hb14.cell (p := ⟨(World.heap w).size, 1, none⟩) a0h).trans a0_1
    replace a0_2 := (hb14.cell (p := ⟨(World.heap w).size, 2, none⟩) a0h).trans a0_2
    replace a0h := Nat.lt_of_lt_of_le a0h hb14.size
    replace y2_0_0 := (hb14.cell (p := ⟨(World.heap w4).size, 0, none⟩) y2_0h).trans y2_0_0
    replace y2_0_1 := (hb14.cell (p := ⟨(World.heap w4).size, 1, none⟩) y2_0h).trans y2_0_1
    replace y2_0_2 := (hb14.cell (p := ⟨(World.heap w4).size, 2, none⟩) y2_0h).trans y2_0_2
    replace y2_0h := Nat.lt_of_lt_of_le y2_0h hb14.size
    replace x0_0 := (hb14.cell (p := ⟨(World.heap w6).size, 0, none⟩) x0h).trans x0_0
    replace x0_1 := (hb14.cell (p := ⟨(World.heap w6).size, 1, none⟩) x0h).trans x0_1
    replace x0_2 := (hb14.cell (p := ⟨(World.heap w6).size, 2, none⟩) x0h).trans x0_2
    replace x0h := Nat.lt_of_lt_of_le x0h hb14.size
    replace y4_0_0 := (hb14.cell (p := ⟨(World.heap w8).size, 0, none⟩) y4_0h).trans y4_0_0
    replace y4_0_1 := (hb14.cell (p := ⟨(World.heap w8).size, 1, none⟩) y4_0h).trans y4_0_1
    replace y4_0_2 := (hb14.cell (p := ⟨(World.heap w8).size, 2, none⟩) y4_0h).trans y4_0_2
    replace y4_0h := Nat.lt_of_lt_of_le y4_0h hb14.size
    replace hB := ext_trans hB hb14
    have hz14 := hb14.size
    go_wp2_with fail
    ((with_reducible refine (markScan_any _ _ _ _ _ _ (1) ys0 w14 (by omega) (by omega) (by omega) fr4_0).mono ?_); rintro e w15 ⟨rfl, nr0, ht15⟩)
    replace fr2_0 := fr2_0.touch ht15 (by omega)
    replace a0_0 := (ht15.cell (b := (World.heap w).size) (o := 0) a0h (by omega)).trans a0_0
    replace a0_1 := (ht15.cell (b := (World.heap w).size) (o := 1) a0h (by omega)).trans a0_1
    replace a0_2 := (ht15.cell (b := (World.heap w).size) (o := 2) a0h (by omega)).trans a0_2
    replace a0h := Nat.lt_of_lt_of_le a0h ht15.size
    replace y2_0_0 := (ht15.cell (b := (World.heap w4).size) (o := 0) y2_0h (by omega)).trans y2_0_0
    replace y2_0_1 := (ht15.cell (b := (World.heap w4).size) (o := 1) y2_0h (by omega)).trans y2_0_1
    replace y2_0_2 := (ht15.cell (b := (World.heap w4).size) (o := 2) y2_0h (by omega)).trans y2_0_2
    replace y2_0h := Nat.lt_of_lt_of_le y2_0h ht15.size
    replace x0_0 := (ht15.cell (b := (World.heap w6).size) (o := 0) x0h (by omega)).trans x0_0
    replace x0_1 := (ht15.cell (b := (World.heap w6).size) (o := 1) x0h (by omega)).trans x0_1
    replace x0_2 := (ht15.cell (b := (World.heap w6).size) (o := 2) x0h (by omega)).trans x0_2
    replace x0h := Nat.lt_of_lt_of_le x0h ht15.size
    replace y4_0_0 := (ht15.cell (b := (World.heap w8).size) (o := 0) y4_0h (by omega)).trans y4_0_0
    replace y4_0_1 := (ht15.cell (b := (World.heap w8).size) (o := 1) y4_0h (by omega)).trans y4_0_1
    replace y4_0_2 := (ht15.cell (b := (World.heap w8).size) (o := 2) y4_0h (by omega)).trans y4_0_2
    replace y4_0h := Nat.lt_of_lt_of_le y4_0h ht15.size
    replace hB := ht15.below hB (by omega)
    have hz15 := ht15.size
    have hq0 : ¬ (1 + (ys0.length : Int) * 3 : Int) < 0 := by omega
    go_wp2_with fail
    ((with_reducible refine (heldScan_any _ _ _ ys0.length _ _ _ (1) w15 (by omega) (by omega) (by omega) nr0).mono ?_); rintro e w16 ⟨rfl, hb16⟩)
    replace fr2_0 := fr2_0.ext hb16
    replace nr0 := nr0.ext hb16
    replace a0_0 := (hb16.cell (p := ⟨(World.heap w).size, 0, none⟩) a0h).trans a0_0
    replace a0_1 := (hb16.cell (p := ⟨(World.heap w).size, 1, none⟩) a0h).trans a0_1
    replace a0_2 := (hb16.cell (p := ⟨(World.heap w).size, 2, none⟩) a0h).trans a0_2
    replace a0h := Nat.lt_of_lt_of_le a0h hb16.size
    replace y2_0_0 := (hb16.cell (p := ⟨(World.heap w4).size, 0, none⟩) y2_0h).trans y2_0_0
    replace y2_0_1 := (hb16.cell (p := ⟨(World.heap w4).size, 1, none⟩) y2_0h).trans y2_0_1
    replace y2_0_2 := (hb16.cell (p := ⟨(World.heap w4).size, 2, none⟩) y2_0h).trans y2_0_2
    replace y2_0h := Nat.lt_of_lt_of_le y2_0h hb16.size
    replace x0_0 := (hb16.cell (p := ⟨(World.heap w6).size, 0, none⟩) x0h).trans x0_0
    replace x0_1 := (hb16.cell (p := ⟨(World.heap w6).size, 1, none⟩) x0h).trans x0_1
    replace x0_2 := (hb16.cell (p := ⟨(World.heap w6).size, 2, none⟩) x0h).trans x0_2
    replace x0h := Nat.lt_of_lt_of_le x0h hb16.size
    replace y4_0_0 := (hb16.cell (p := ⟨(World.heap w8).size, 0, none⟩) y4_0h).trans y4_0_0
    replace y4_0_1 := (hb16.cell (p := ⟨(World.heap w8).size, 1, none⟩) y4_0h).trans y4_0_1
    replace y4_0_2 := (hb16.cell (p := ⟨(World.heap w8).size, 2, none⟩) y4_0h).trans y4_0_2
    replace y4_0h := Nat.lt_of_lt_of_le y4_0h hb16.size
    replace hB := ext_trans hB hb16
    have hz16 := hb16.size
    go_wp2_with fail
    ((with_reducible refine (toScan_any rows0 cols0 A0 c0 xs0 w16 hn0 (hA0.ext hB)).mono ?_); rintro e w17 ⟨D6, rfl, fx6, hb17⟩)
    replace fr2_0 := fr2_0.ext hb17
    replace nr0 := nr0.ext hb17
    replace a0_0 := (hb17.cell (p := ⟨(World.heap w).size, 0, none⟩) a0h).trans a0_0
    replace a0_1 := (hb17.cell (p := ⟨(World.heap w).size, 1, none⟩) a0h).trans a0_1
    replace a0_2 := (hb17.cell (p := ⟨(World.heap w).size, 2, none⟩) a0h).trans a0_2
    replace a0h := Nat.lt_of_lt_of_le a0h hb17.size
    replace y2_0_0 := (hb17.cell (p := ⟨(World.heap w4).size, 0, none⟩) y2_0h).trans y2_0_0
    replace y2_0_1 := (hb17.cell (p := ⟨(World.heap w4).size, 1, none⟩) y2_0h).trans y2_0_1
    replace y2_0_2 := (hb17.cell (p := ⟨(World.heap w4).size, 2, none⟩) y2_0h).trans y2_0_2
    replace y2_0h := Nat.lt_of_lt_of_le y2_0h hb17.size
    replace x0_0 := (hb17.cell (p := ⟨(World.heap w6).size, 0, none⟩) x0h).trans x0_0
    replace x0_1 := (hb17.cell (p := ⟨(World.heap w6).size, 1, none⟩) x0h).trans x0_1
    replace x0_2 := (hb17.cell (p := ⟨(World.heap w6).size, 2, none⟩) x0h).trans x0_2
    replace x0h := Nat.lt_of_lt_of_le x0h hb17.size
    replace y4_0_0 := (hb17.cell (p := ⟨(World.heap w8).size, 0, none⟩) y4_0h).trans y4_0_0
    replace y4_0_1 := (hb17.cell (p := ⟨(World.heap w8).size, 1, none⟩) y4_0h).trans y4_0_1
    replace y4_0_2 := (hb17.cell (p := ⟨(World.heap w8).size, 2, none⟩) y4_0h).trans y4_0_2
    replace y4_0h := Nat.lt_of_lt_of_le y4_0h hb17.size
    replace hB := ext_trans hB hb17
    have hz17 := hb17.size
    go_wp2_with fail
    ((with_reducible refine (HIMPL.out _ w17 fx6.fl).mono ?_); rintro e w18 ⟨R7_0, d7_0, rfl, fr7_0, hb18⟩)
    replace fr2_0 := fr2_0.ext hb18
    replace nr0 := nr0.ext hb18
    replace fx6 := fx6.ext hb18
    replace a0_0 := (hb18.cell (p := ⟨(World.heap w).size, 0, none⟩) a0h).trans a0_0
    replace a0_1 := (hb18.cell (p := ⟨(World.heap w).size, 1, none⟩) a0h).trans a0_1
    replace a0_2 := (hb18.cell (p := ⟨(World.heap w).size, 2, none⟩) a0h).trans a0_2
    replace a0h := Nat.lt_of_lt_of_le a0h hb18.size
    replace y2_0_0 := (hb18.cell (p := ⟨(World.heap w4).size, 0, none⟩) y2_0h).trans y2_0_0
    replace y2_0_1 := (hb18.cell (p := ⟨(World.heap w4).size, 1, none⟩) y2_0h).trans y2_0_1
    replace y2_0_2 := (hb18.cell (p := ⟨(World.heap w4).size, 2, none⟩) y2_0h).trans y2_0_2
    replace y2_0h := Nat.lt_of_lt_of_le y2_0h hb18.size
    replace x0_0 := (hb18.cell (p := ⟨(World.heap w6).size, 0, none⟩) x0h).trans x0_0
    replace x0_1 := (hb18.cell (p := ⟨(World.heap w6).size, 1, none⟩) x0h).trans x0_1
    replace x0_2 := (hb18.cell (p := ⟨(World.heap w6).size, 2, none⟩) x0h).trans x0_2
    replace x0h := Nat.lt_of_lt_of_le x0h hb18.size
    replace y4_0_0 := (hb18.cell (p := ⟨(World.heap w8).size, 0, none⟩) y4_0h).trans y4_0_0
    replace y4_0_1 := (hb18.cell (p := ⟨(World.heap w8).size, 1, none⟩) y4_0h).trans y4_0_1
    replace y4_0_2 := (hb18.cell (p := ⟨(World.heap w8).size, 2, none⟩) y4_0h).trans y4_0_2
    replace y4_0h := Nat.lt_of_lt_of_le y4_0h hb18.size
    replace hB := ext_trans hB hb18
    have hz18 := hb18.size
    obtain ⟨U5, hU5, hD5, hs5, hv5, _⟩ := box_world w18 #[Value.int .i64 ok0, Value.int .i64 ok1, Value.slice R7_0 ys0.length d7_0] 28
    replace fr2_0 := fr2_0.ext hD5
    replace nr0 := nr0.ext hD5
    replace fx6 := fx6.ext hD5
    replace fr7_0 := fr7_0.ext hD5
    replace a0_0 := (hD5.cell (p := ⟨(World.heap w).size, 0, none⟩) a0h).trans a0_0
    replace a0_1 := (hD5.cell (p := ⟨(World.heap w).size, 1, none⟩) a0h).trans a0_1
    replace a0_2 := (hD5.cell (p := ⟨(World.heap w).size, 2, none⟩) a0h).trans a0_2
    replace a0h := Nat.lt_of_lt_of_le a0h hD5.size
    replace y2_0_0 := (hD5.cell (p := ⟨(World.heap w4).size, 0, none⟩) y2_0h).trans y2_0_0
    replace y2_0_1 := (hD5.cell (p := ⟨(World.heap w4).size, 1, none⟩) y2_0h).trans y2_0_1
    replace y2_0_2 := (hD5.cell (p := ⟨(World.heap w4).size, 2, none⟩) y2_0h).trans y2_0_2
    replace y2_0h := Nat.lt_of_lt_of_le y2_0h hD5.size
    replace x0_0 := (hD5.cell (p := ⟨(World.heap w6).size, 0, none⟩) x0h).trans x0_0
    replace x0_1 := (hD5.cell (p := ⟨(World.heap w6).size, 1, none⟩) x0h).trans x0_1
    replace x0_2 := (hD5.cell (p := ⟨(World.heap w6).size, 2, none⟩) x0h).trans x0_2
    replace x0h := Nat.lt_of_lt_of_le x0h hD5.size
    replace y4_0_0 := (hD5.cell (p := ⟨(World.heap w8).size, 0, none⟩) y4_0h).trans y4_0_0
    replace y4_0_1 := (hD5.cell (p := ⟨(World.heap w8).size, 1, none⟩) y4_0h).trans y4_0_1
    replace y4_0_2 := (hD5.cell (p := ⟨(World.heap w8).size, 2, none⟩) y4_0h).trans y4_0_2
    replace y4_0h := Nat.lt_of_lt_of_le y4_0h hD5.size
    replace hB := ext_trans hB hD5
    have hz19 := hD5.size
    have y7_0_0 : World.cell? U5 ⟨(World.heap w18).size, 0, none⟩ = some (Value.int .i64 ok0) := hv5 0
    have y7_0_1 : World.cell? U5 ⟨(World.heap w18).size, 1, none⟩ = some (Value.int .i64 ok1) := hv5 1
    have y7_0_2 : World.cell? U5 ⟨(World.heap w18).size, 2, none⟩ = some (Value.slice R7_0 ys0.length d7_0) := hv5 2
    have y7_0h := hs5
    clear hv5
    go_wp2_with fail
    clear hU5
    ((with_reducible refine (eqScan_same _ _ _ _ _ _ ys0 _ (by omega) fr7_0.fl fr2_0.fl).mono ?_); rintro e w20 ⟨rfl, hb20⟩)
    replace fr2_0 := fr2_0.ext hb20
    replace nr0 := nr0.ext hb20
    replace fx6 := fx6.ext hb20
    replace fr7_0 := fr7_0.ext hb20
    replace a0_0 := (hb20.cell (p := ⟨(World.heap w).size, 0, none⟩) a0h).trans a0_0
    replace a0_1 := (hb20.cell (p := ⟨(World.heap w).size, 1, none⟩) a0h).trans a0_1
    replace a0_2 := (hb20.cell (p := ⟨(World.heap w).size, 2, none⟩) a0h).trans a0_2
    replace a0h := Nat.lt_of_lt_of_le a0h hb20.size
    replace y2_0_0 := (hb20.cell (p := ⟨(World.heap w4).size, 0, none⟩) y2_0h).trans y2_0_0
    replace y2_0_1 := (hb20.cell (p := ⟨(World.heap w4).size, 1, none⟩) y2_0h).trans y2_0_1
    replace y2_0_2 := (hb20.cell (p := ⟨(World.heap w4).size, 2, none⟩) y2_0h).trans y2_0_2
    replace y2_0h := Nat.lt_of_lt_of_le y2_0h hb20.size
    replace x0_0 := (hb20.cell (p := ⟨(World.heap w6).size, 0, none⟩) x0h).trans x0_0
    replace x0_1 := (hb20.cell (p := ⟨(World.heap w6).size, 1, none⟩) x0h).trans x0_1
    replace x0_2 := (hb20.cell (p := ⟨(World.heap w6).size, 2, none⟩) x0h).trans x0_2
    replace x0h := Nat.lt_of_lt_of_le x0h hb20.size
    replace y4_0_0 := (hb20.cell (p := ⟨(World.heap w8).size, 0, none⟩) y4_0h).trans y4_0_0
    replace y4_0_1 := (hb20.cell (p := ⟨(World.heap w8).size, 1, none⟩) y4_0h).trans y4_0_1
    replace y4_0_2 := (hb20.cell (p := ⟨(World.heap w8).size, 2, none⟩) y4_0h).trans y4_0_2
    replace y4_0h := Nat.lt_of_lt_of_le y4_0h hb20.size
    replace y7_0_0 := (hb20.cell (p := ⟨(World.heap w18).size, 0, none⟩) y7_0h).trans y7_0_0
    replace y7_0_1 := (hb20.cell (p := ⟨(World.heap w18).size, 1, none⟩) y7_0h).trans y7_0_1
    replace y7_0_2 := (hb20.cell (p := ⟨(World.heap w18).size, 2, none⟩) y7_0h).trans y7_0_2
    replace y7_0h := Nat.lt_of_lt_of_le y7_0h hb20.size
    replace hB := ext_trans hB hb20
    have hz20 := hb20.size
    go_wp2_with fail
    ((with_reducible refine (heldScan_any _ _ _ ys0.length _ _ _ (1) w20 (by omega) (by omega) (by omega) nr0).mono ?_); rintro e w21 ⟨rfl, hb21⟩)
    replace fr2_0 := fr2_0.ext hb21
    replace nr0 := nr0.ext hb21
    replace fx6 := fx6.ext hb21
    replace fr7_0 := fr7_0.ext hb21
    replace a0_0 := (hb21.cell (p := ⟨(World.heap w).size, 0, none⟩) a0h).trans a0_0
    replace a0_1 := (hb21.cell (p := ⟨(World.heap w).size, 1, none⟩) a0h).trans a0_1
    replace a0_2 := (hb21.cell (p := ⟨(World.heap w).size, 2, none⟩) a0h).trans a0_2
    replace a0h := Nat.lt_of_lt_of_le a0h hb21.size
    replace y2_0_0 := (hb21.cell (p := ⟨(World.heap w4).size, 0, none⟩) y2_0h).trans y2_0_0
    replace y2_0_1 := (hb21.cell (p := ⟨(World.heap w4).size, 1, none⟩) y2_0h).trans y2_0_1
    replace y2_0_2 := (hb21.cell (p := ⟨(World.heap w4).size, 2, none⟩) y2_0h).trans y2_0_2
    replace y2_0h := Nat.lt_of_lt_of_le y2_0h hb21.size
    replace x0_0 := (hb21.cell (p := ⟨(World.heap w6).size, 0, none⟩) x0h).trans x0_0
    replace x0_1 := (hb21.cell (p := ⟨(World.heap w6).size, 1, none⟩) x0h).trans x0_1
    replace x0_2 := (hb21.cell (p := ⟨(World.heap w6).size, 2, none⟩) x0h).trans x0_2
    replace x0h := Nat.lt_of_lt_of_le x0h hb21.size
    replace y4_0_0 := (hb21.cell (p := ⟨(World.heap w8).size, 0, none⟩) y4_0h).trans y4_0_0
    replace y4_0_1 := (hb21.cell (p := ⟨(World.heap w8).size, 1, none⟩) y4_0h).trans y4_0_1
    replace y4_0_2 := (hb21.cell (p := ⟨(World.heap w8).size, 2, none⟩) y4_0h).trans y4_0_2
    replace y4_0h := Nat.lt_of_lt_of_le y4_0h hb21.size
    replace y7_0_0 := (hb21.cell (p := ⟨(World.heap w18).size, 0, none⟩) y7_0h).trans y7_0_0
    replace y7_0_1 := (hb21.cell (p := ⟨(World.heap w18).size, 1, none⟩) y7_0h).trans y7_0_1
    replace y7_0_2 := (hb21.cell (p := ⟨(World.heap w18).size, 2, none⟩) y7_0h).trans y7_0_2
    replace y7_0h := Nat.lt_of_lt_of_le y7_0h hb21.size
    replace hB := ext_trans hB hb21
    have hz21 := hb21.size
    go_wp2
    go_ret
    exact ⟨rfl, hB⟩

set_option maxRecDepth 100000 in
theorem FnExactCropScan_holds : Rows.FnExactCropScanSaid :=
  OpenClaim.holds_of_wide 3 Try.f3 rfl rfl rfl rfl rfl rfl rfl ⟨rfl, rfl, rfl, rfl, rfl⟩ rfl rfl rfl rfl rfl (by kernel_rfl) Try.func3 (by kernel_rfl)
    (of_decide_eq_true (by kernel_rfl)) (by unfold Func.isWrapper; first | (rw [if_pos (by decide +kernel)]; kernel_rfl) | (rw [if_neg (by decide +kernel)]; exact ⟨rfl, rfl⟩))
    (fun os started H enc _ => by
      refine law_lifted (s := Rows.fnExactCropScanSpec) (conds := []) os started H enc (by kernel_rfl) Try.func3 (by kernel_rfl) rfl rfl Try.underlying4
        (ChangeSpec.witness6 (enc := enc) (C := Try.checked) false ⟨#[], #[.agg #[.int .i64 0, .int .i64 0, .slice none 0 0], .int .i64 0, .int .i64 0, .int .i64 0, .int .i64 0], []⟩ 8 (by kernel_rfl) (by kernel_rfl) (by kernel_rfl) (by kernel_rfl)) ?_
      intro W base args ds ps hval hA
      rw [Try.params3] at hA hval
      obtain ⟨v0, vs0, d0, ds0, p0, q0, hargs, rfl, rfl, h0, r0⟩ := trodAll_cons hA
      obtain ⟨v1, vs1, d1, ds1, p1, q1, rfl, rfl, rfl, h1, r1⟩ := trodAll_cons r0
      obtain ⟨v2, vs2, d2, ds2, p2, q2, rfl, rfl, rfl, h2, r2⟩ := trodAll_cons r1
      obtain ⟨v3, vs3, d3, ds3, p3, q3, rfl, rfl, rfl, h3, r3⟩ := trodAll_cons r2
      obtain ⟨v4, vs4, d4, ds4, p4, q4, rfl, rfl, rfl, h4, r4⟩ := trodAll_cons r3
      obtain ⟨rfl, rfl, rfl⟩ := trodAll_nil r4
      obtain rfl : args = #[v0, v1, v2, v3, v4] := by cases args; simp_all
      refine ⟨rfl, ?_⟩
      obtain ⟨f00, f10, f20, y00, y10, y20, m0, rfl, rfl, rfl, hy00, hy10, hy20⟩ := open_agg3 Try.underlying24 (by kernel_rfl) (by kernel_rfl) (hval 0 24 v0 rfl rfl) h0
      obtain ⟨a00, e00, _, _⟩ := DataW.trod_int Try.underlying3 hy00
      obtain ⟨a10, e10, _, _⟩ := DataW.trod_int Try.underlying3 hy10
      obtain ⟨A0, c0, xs0, rfl, hl0, hf0⟩ := open_core (f := Tile.ints) Try.underlying22 (by kernel_rfl) (by decide) (intElem_struct Try.underlying49 (by kernel_rfl) rfl (intfields_of (by kernel_rfl))) Tile.mk_ints hy20
      simp at e00 e10
      subst e00 e10
      obtain ⟨z1, rfl, _, _, wf1⟩ := open_int Try.underlying3 (hval 1 3 v1 rfl rfl) h1
      obtain ⟨z2, rfl, _, _, wf2⟩ := open_int Try.underlying3 (hval 2 3 v2 rfl rfl) h2
      obtain ⟨z3, rfl, _, _, wf3⟩ := open_int Try.underlying3 (hval 3 3 v3 rfl rfl) h3
      obtain ⟨z4, rfl, _, _, wf4⟩ := open_int Try.underlying3 (hval 4 3 v4 rfl rfl) h4
      exact fnCropScan_any _ _ A0 c0 xs0 _ _ _ _ W hl0 hf0)
end Go.Proofs.Ytbldoidcjkffdaa
