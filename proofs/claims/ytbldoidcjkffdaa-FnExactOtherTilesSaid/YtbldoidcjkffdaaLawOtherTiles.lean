/- The program's OtherTiles returns what the reference's returns, for all arguments. No condition. -/
import Derived.Test.YtbldoidcjkffdaaLaw
import Derived.Test.YtbldoidcjkffdaaOpen
import Derived.Test.YtbldoidcjkffdaaLst
import Derived.Test.YtbldoidcjkffdaaFamScan
import Derived.Test.YtbldoidcjkffdaaBoxLaw
import Derived.Test.YtbldoidcjkffdaaMarkBox
import Derived.Test.YtbldoidcjkffdaaFamRows
import Derived.Test.YtbldoidcjkffdaaOthI
import Derived.Test.YtbldoidcjkffdaaOthS
import Derived.Lib.SmallJoins
namespace Go.Proofs.Ytbldoidcjkffdaa
open Go.ChangeShapes Go.WideShapes Go.ChangeAt Go.RowKit Go.Joins
set_option linter.unusedVariables false
set_option linter.unusedSimpArgs false

set_option maxHeartbeats 8000000 in
set_option maxRecDepth 100000 in
theorem fnOtherTiles_any (rows0 cols0 : Int) (A0 : Option Addr) (c0 : Nat) (xs0 : List Tile) (rows1 cols1 : Int) (A1 : Option Addr) (c1 : Nat) (xs1 : List Tile) (w : World) (hm0 : xs0.length ≤ 9223372036854775807) (hA0 : Fl Tile.ints 3 w A0 xs0) (hm1 : xs1.length ≤ 9223372036854775807) (hA1 : Fl Tile.ints 3 w A1 xs1) :
    Calls Try.prog 6 #[.agg #[Value.int .i64 rows0, Value.int .i64 cols0, Value.slice A0 xs0.length c0], .agg #[Value.int .i64 rows1, Value.int .i64 cols1, Value.slice A1 xs1.length c1]] w fun e w' => e = .returned (.bool true) ∧ Below w.heap.size w w' := by
  by_cases hbig0 : (1048576 : Int) < (xs0.length : Int)
  · skip
    have hB := Below.refl w.heap.size w
    obtain ⟨U1, hU1, hD1, hs1, hv1, _⟩ := box_world w #[Value.int .i64 rows0, Value.int .i64 cols0, Value.slice A0 xs0.length c0] 24
    replace hB := ext_trans hB hD1
    have hz1 := hD1.size
    have a0_0 : World.cell? U1 ⟨(World.heap w).size, 0, none⟩ = some (Value.int .i64 rows0) := hv1 0
    have a0_1 : World.cell? U1 ⟨(World.heap w).size, 1, none⟩ = some (Value.int .i64 cols0) := hv1 1
    have a0_2 : World.cell? U1 ⟨(World.heap w).size, 2, none⟩ = some (Value.slice A0 xs0.length c0) := hv1 2
    have a0h := hs1
    clear hv1
    obtain ⟨U2, hU2, hD2, hs2, hv2, _⟩ := box_world U1 #[Value.int .i64 rows1, Value.int .i64 cols1, Value.slice A1 xs1.length c1] 24
    replace a0_0 := (hD2.cell (p := ⟨(World.heap w).size, 0, none⟩) a0h).trans a0_0
    replace a0_1 := (hD2.cell (p := ⟨(World.heap w).size, 1, none⟩) a0h).trans a0_1
    replace a0_2 := (hD2.cell (p := ⟨(World.heap w).size, 2, none⟩) a0h).trans a0_2
    replace a0h := Nat.lt_of_lt_of_le a0h hD2.size
    replace hB := ext_trans hB hD2
    have hz2 := hD2.size
    have a1_0 : World.cell? U2 ⟨(World.heap U1).size, 0, none⟩ = some (Value.int .i64 rows1) := hv2 0
    have a1_1 : World.cell? U2 ⟨(World.heap U1).size, 1, none⟩ = some (Value.int .i64 cols1) := hv2 1
    have a1_2 : World.cell? U2 ⟨(World.heap U1).size, 2, none⟩ = some (Value.slice A1 xs1.length c1) := hv2 2
    have a1h := hs2
    clear hv2
    go_enter Try.func6, Try.ntmps6
    go_wp2_with fail
    clear hU1 hU2
    ((with_reducible refine (szScanG_no rows0 cols0 A0 xs0.length c0 _ (1048576) (by omega) (by omega) hm0 (by omega)).mono ?_); rintro e w3 ⟨rfl, hb3⟩)
    replace a0_0 := (hb3.cell (p := ⟨(World.heap w).size, 0, none⟩) a0h).trans a0_0
    replace a0_1 := (hb3.cell (p := ⟨(World.heap w).size, 1, none⟩) a0h).trans a0_1
    replace a0_2 := (hb3.cell (p := ⟨(World.heap w).size, 2, none⟩) a0h).trans a0_2
    replace a0h := Nat.lt_of_lt_of_le a0h hb3.size
    replace a1_0 := (hb3.cell (p := ⟨(World.heap U1).size, 0, none⟩) a1h).trans a1_0
    replace a1_1 := (hb3.cell (p := ⟨(World.heap U1).size, 1, none⟩) a1h).trans a1_1
    replace a1_2 := (hb3.cell (p := ⟨(World.heap U1).size, 2, none⟩) a1h).trans a1_2
    replace a1h := Nat.lt_of_lt_of_le a1h hb3.size
    replace hB := ext_trans hB hb3
    have hz3 := hb3.size
    go_wp2
    go_ret
    exact ⟨rfl, hB⟩
  · have hn0 : xs0.length ≤ 1048576 := by omega
    have hl0 : ¬ (1048576 : Int) - (xs0.length : Int) < 0 := by omega
    by_cases hbig1 : (1048576 - (xs0.length : Int) : Int) < (xs1.length : Int)
    · skip
      have hB := Below.refl w.heap.size w
      obtain ⟨U1, hU1, hD1, hs1, hv1, _⟩ := box_world w #[Value.int .i64 rows0, Value.int .i64 cols0, Value.slice A0 xs0.length c0] 24
      replace hB := ext_trans hB hD1
      have hz1 := hD1.size
      have a0_0 : World.cell? U1 ⟨(World.heap w).size, 0, none⟩ = some (Value.int .i64 rows0) := hv1 0
      have a0_1 : World.cell? U1 ⟨(World.heap w).size, 1, none⟩ = some (Value.int .i64 cols0) := hv1 1
      have a0_2 : World.cell? U1 ⟨(World.heap w).size, 2, none⟩ = some (Value.slice A0 xs0.length c0) := hv1 2
      have a0h := hs1
      clear hv1
      obtain ⟨U2, hU2, hD2, hs2, hv2, _⟩ := box_world U1 #[Value.int .i64 rows1, Value.int .i64 cols1, Value.slice A1 xs1.length c1] 24
      replace a0_0 := (hD2.cell (p := ⟨(World.heap w).size, 0, none⟩) a0h).trans a0_0
      replace a0_1 := (hD2.cell (p := ⟨(World.heap w).size, 1, none⟩) a0h).trans a0_1
      replace a0_2 := (hD2.cell (p := ⟨(World.heap w).size, 2, none⟩) a0h).trans a0_2
      replace a0h := Nat.lt_of_lt_of_le a0h hD2.size
      replace hB := ext_trans hB hD2
      have hz2 := hD2.size
      have a1_0 : World.cell? U2 ⟨(World.heap U1).size, 0, none⟩ = some (Value.int .i64 rows1) := hv2 0
      have a1_1 : World.cell? U2 ⟨(World.heap U1).size, 1, none⟩ = some (Value.int .i64 cols1) := hv2 1
      have a1_2 : World.cell? U2 ⟨(World.heap U1).size, 2, none⟩ = some (Value.slice A1 xs1.length c1) := hv2 2
      have a1h := hs2
      clear hv2
      go_enter Try.func6, Try.ntmps6
      go_wp2_with fail
      clear hU1 hU2
      ((with_reducible refine (szScanG_ok rows0 cols0 A0 xs0.length c0 _ (1048576) (by omega) (by omega) hm0 (by omega)).mono ?_); rintro e w3 ⟨rfl, hb3⟩)
      replace a0_0 := (hb3.cell (p := ⟨(World.heap w).size, 0, none⟩) a0h).trans a0_0
      replace a0_1 := (hb3.cell (p := ⟨(World.heap w).size, 1, none⟩) a0h).trans a0_1
      replace a0_2 := (hb3.cell (p := ⟨(World.heap w).size, 2, none⟩) a0h).trans a0_2
      replace a0h := Nat.lt_of_lt_of_le a0h hb3.size
      replace a1_0 := (hb3.cell (p := ⟨(World.heap U1).size, 0, none⟩) a1h).trans a1_0
      replace a1_1 := (hb3.cell (p := ⟨(World.heap U1).size, 1, none⟩) a1h).trans a1_1
      replace a1_2 := (hb3.cell (p := ⟨(World.heap U1).size, 2, none⟩) a1h).trans a1_2
      replace a1h := Nat.lt_of_lt_of_le a1h hb3.size
      replace hB := ext_trans hB hb3
      have hz3 := hb3.size
      go_wp2_with fail
      ((with_reducible refine (szScanG_no rows1 cols1 A1 xs1.length c1 _ (1048576 - (xs0.length : Int)) (by omega) (by omega) hm1 (by omega)).mono ?_); rintro e w4 ⟨rfl, hb4⟩)
      replace a0_0 := (hb4.cell (p := ⟨(World.heap w).size, 0, none⟩) a0h).trans a0_0
      replace a0_1 := (hb4.cell (p := ⟨(World.heap w).size, 1, none⟩) a0h).trans a0_1
      replace a0_2 := (hb4.cell (p := ⟨(World.heap w).size, 2, none⟩) a0h).trans a0_2
      replace a0h := Nat.lt_of_lt_of_le a0h hb4.size
      replace a1_0 := (hb4.cell (p := ⟨(World.heap U1).size, 0, none⟩) a1h).trans a1_0
      replace a1_1 := (hb4.cell (p := ⟨(World.heap U1).size, 1, none⟩) a1h).trans a1_1
      replace a1_2 := (hb4.cell (p := ⟨(World.heap U1).size, 2, none⟩) a1h).trans a1_2
      replace a1h := Nat.lt_of_lt_of_le a1h hb4.size
      replace hB := ext_trans hB hb4
      have hz4 := hb4.size
      go_wp2
      go_ret
      exact ⟨rfl, hB⟩
    · have hn1 : xs1.length ≤ 1048576 := by omega
      have hl1 : ¬ (1048576 - (xs0.length : Int) : Int) - (xs1.length : Int) < 0 := by omega
      have hspec := fun (D0 : Nat) (D1 : Nat) (W : World) (h0 : Fl Tile.ints 3 W (some ⟨D0, 0, none⟩) xs0) (h1 : Fl Tile.ints 3 W (some ⟨D1, 0, none⟩) xs1) => specOtherTiles_any rows0 cols0 rows1 cols1 (some ⟨D0, 0, none⟩) xs0.length xs0 (some ⟨D1, 0, none⟩) xs1.length xs1 W hn0 h0 hn1 h1
      have himpl := fun (D0 : Nat) (D1 : Nat) (W : World) (h0 : Fl Tile.ints 3 W (some ⟨D0, 0, none⟩) xs0) (h1 : Fl Tile.ints 3 W (some ⟨D1, 0, none⟩) xs1) => otherTiles_any rows0 cols0 rows1 cols1 (some ⟨D0, 0, none⟩) xs0.length xs0 (some ⟨D1, 0, none⟩) xs1.length xs1 W hn0 h0 hn1 h1
      have hyl0 : rwt (sel (AlikeS rows0 cols0 xs0 rows1 cols1 xs1) (gridS (otherP xs0 xs1) rows0 cols0)) ≤ 1048576 := grid_sel (fun h => h.1.2)
      generalize sel (AlikeS rows0 cols0 xs0 rows1 cols1 xs1) (gridS (otherP xs0 xs1) rows0 cols0) = ys0 at hspec himpl hyl0
      generalize tb (AlikeS rows0 cols0 xs0 rows1 cols1 xs1) = ok0 at hspec himpl
      have hyo0 := rwt_off ys0
      have hyw0 := rwt_len ys0
      have HSPEC := Lib.hid hspec
      have HIMPL := Lib.hid himpl
      clear hspec himpl
      have hB := Below.refl w.heap.size w
      obtain ⟨U1, hU1, hD1, hs1, hv1, _⟩ := box_world w #[Value.int .i64 rows0, Value.int .i64 cols0, Value.slice A0 xs0.length c0] 24
      replace hB := ext_trans hB hD1
      have hz1 := hD1.size
      have a0_0 : World.cell? U1 ⟨(World.heap w).size, 0, none⟩ = some (Value.int .i64 rows0) := hv1 0
      have a0_1 : World.cell? U1 ⟨(World.heap w).size, 1, none⟩ = some (Value.int .i64 cols0) := hv1 1
      have a0_2 : World.cell? U1 ⟨(World.heap w).size, 2, none⟩ = some (Value.slice A0 xs0.length c0) := hv1 2
      have a0h := hs1
      clear hv1
      obtain ⟨U2, hU2, hD2, hs2, hv2, _⟩ := box_world U1 #[Value.int .i64 rows1, Value.int .i64 cols1, Value.slice A1 xs1.length c1] 24
      replace a0_0 := (hD2.cell (p := ⟨(World.heap w).size, 0, none⟩) a0h).trans a0_0
      replace a0_1 := (hD2.cell (p := ⟨(World.heap w).size, 1, none⟩) a0h).trans a0_1
      replace a0_2 := (hD2.cell (p := ⟨(World.heap w).size, 2, none⟩) a0h).trans a0_2
      replace a0h := Nat.lt_of_lt_of_le a0h hD2.size
      replace hB := ext_trans hB hD2
      have hz2 := hD2.size
      have a1_0 : World.cell? U2 ⟨(World.heap U1).size, 0, none⟩ = some (Value.int .i64 rows1) := hv2 0
      have a1_1 : World.cell? U2 ⟨(World.heap U1).size, 1, none⟩ = some (Value.int .i64 cols1) := hv2 1
      have a1_2 : World.cell? U2 ⟨(World.heap U1).size, 2, none⟩ = some (Value.slice A1 xs1.length c1) := hv2 2
      have a1h := hs2
      clear hv2
      go_enter Try.func6, Try.ntmps6
      go_wp2_with fail
      clear hU1 hU2
      ((with_reducible refine (szScanG_ok rows0 cols0 A0 xs0.length c0 _ (1048576) (by omega) (by omega) hm0 (by omega)).mono ?_); rintro e w3 ⟨rfl, hb3⟩)
      replace a0_0 := (hb3.cell (p := ⟨(World.heap w).size, 0, none⟩) a0h).trans a0_0
      replace a0_1 := (hb3.cell (p := ⟨(World.heap w).size, 1, none⟩) a0h).trans a0_1
      replace a0_2 := (hb3.cell (p := ⟨(World.heap w).size, 2, none⟩) a0h).trans a0_2
      replace a0h := Nat.lt_of_lt_of_le a0h hb3.size
      replace a1_0 := (hb3.cell (p := ⟨(World.heap U1).size, 0, none⟩) a1h).trans a1_0
      replace a1_1 := (hb3.cell (p := ⟨(World.heap U1).size, 1, none⟩) a1h).trans a1_1
      replace a1_2 := (hb3.cell (p := ⟨(World.heap U1).size, 2, none⟩) a1h).trans a1_2
      replace a1h := Nat.lt_of_lt_of_le a1h hb3.size
      replace hB := ext_trans hB hb3
      have hz3 := hb3.size
      go_wp2_with fail
      ((with_reducible refine (szScanG_ok rows1 cols1 A1 xs1.length c1 _ (1048576 - (xs0.length : Int)) (by omega) (by omega) hm1 (by omega)).mono ?_); rintro e w4 ⟨rfl, hb4⟩)
      replace a0_0 := (hb4.cell (p := ⟨(World.heap w).size, 0, none⟩) a0h).trans a0_0
      replace a0_1 := (hb4.cell (p := ⟨(World.heap w).size, 1, none⟩) a0h).trans a0_1
      replace a0_2 := (hb4.cell (p := ⟨(World.heap w).size, 2, none⟩) a0h).trans a0_2
      replace a0h := Nat.lt_of_lt_of_le a0h hb4.size
      replace a1_0 := (hb4.cell (p := ⟨(World.heap U1).size, 0, none⟩) a1h).trans a1_0
      replace a1_1 := (hb4.cell (p := ⟨(World.heap U1).size, 1, none⟩) a1h).trans a1_1
      replace a1_2 := (hb4.cell (p := ⟨(World.heap U1).size, 2, none⟩) a1h).trans a1_2
      replace a1h := Nat.lt_of_lt_of_le a1h hb4.size
      replace hB := ext_trans hB hb4
      have hz4 := hb4.size
      go_wp2_with fail
      go_region_held3 (fun w' => Below (World.heap w4).size w4 w' ∧ ∀ b o, b < (World.heap w4).size → w'.cell? ⟨b, o, none⟩ = World.cell? w4 ⟨b, o, none⟩) (first | exact cls_of (ext_drew _) | exact cls_of (ext_drew _) | exact cls_next (by assumption) hb5 | exact cls_next (by assumption) hb6 | exact cls_next (by assumption) hb7 | exact cls_alloc (by assumption) _ | assumption) ((first | (go_at_call 12; (with_reducible refine (toScan_any rows0 cols0 A0 c0 xs0 _ hn0 (hA0.ext (ext_trans hB (held_below (by assumption))))).mono ?_); rintro e w5 ⟨D1, rfl, fx1, hb5⟩) | (go_at_call 12; (with_reducible refine (toScan_any rows1 cols1 A1 c1 xs1 _ hn1 (hA1.ext (ext_trans hB (held_below (by assumption))))).mono ?_); rintro e w6 ⟨D2, rfl, fx2, hb6⟩) | (go_at_call 27; (with_reducible refine (HSPEC.out _ _ _ (fx1.ext hb6).fl fx2.fl).mono ?_); rintro e w7 ⟨R3_0, d3_0, rfl, fr3_0, hb7⟩)))
      have hb7q := ext_trans (ext_trans (ext_trans (ext_drew w4) hb5) hb6) hb7
      replace a0_0 := (hb7q.cell (p := ⟨(World.heap w).size, 0, none⟩) a0h).trans a0_0
      replace a0_1 := (hb7q.cell (p := ⟨(World.heap w).size, 1, none⟩) a0h).trans a0_1
      replace a0_2 := (hb7q.cell (p := ⟨(World.heap w).size, 2, none⟩) a0h).trans a0_2
      replace a0h := Nat.lt_of_lt_of_le a0h hb7q.size
      replace a1_0 := (hb7q.cell (p := ⟨(World.heap U1).size, 0, none⟩) a1h).trans a1_0
      replace a1_1 := (hb7q.cell (p := ⟨(World.heap U1).size, 1, none⟩) a1h).trans a1_1
      replace a1_2 := (hb7q.cell (p := ⟨(World.heap U1).size, 2, none⟩) a1h).trans a1_2
      replace a1h := Nat.lt_of_lt_of_le a1h hb7q.size
      replace hB := ext_trans hB hb7q
      have hz7 := hb7q.size
      have fx1 := (fx1.ext hb6).ext hb7
      have fx2 := fx2.ext hb7
      go_wp2_with fail
      ((with_reducible refine (toScan_any rows0 cols0 A0 c0 xs0 w7 hn0 (hA0.ext hB)).mono ?_); rintro e w8 ⟨D4, rfl, fx4, hb8⟩)
      replace fx1 := fx1.ext hb8
      replace fx2 := fx2.ext hb8
      replace fr3_0 := fr3_0.ext hb8
      replace a0_0 := (hb8.cell (p := ⟨(World.heap w).size, 0, none⟩) a0h).trans a0_0
      replace a0_1 := (hb8.cell (p := ⟨(World.heap w).size, 1, none⟩) a0h).trans a0_1
      replace a0_2 := (hb8.cell (p := ⟨(World.heap w).size, 2, none⟩) a0h).trans a0_2
      replace a0h := Nat.lt_of_lt_of_le a0h hb8.size
      replace a1_0 := (hb8.cell (p := ⟨(World.heap U1).size, 0, none⟩) a1h).trans a1_0
      replace a1_1 := (hb8.cell (p := ⟨(World.heap U1).size, 1, none⟩) a1h).trans a1_1
      replace a1_2 := (hb8.cell (p := ⟨(World.heap U1).size, 2, none⟩) a1h).trans a1_2
      replace a1h := Nat.lt_of_lt_of_le a1h hb8.size
      replace hB := ext_trans hB hb8
      have hz8 := hb8.size
      obtain ⟨U3, hU3, hD3, hs3, hv3, _⟩ := box_world w8 #[Value.int .i64 rows0, Value.int .i64 cols0, Value.slice (some ⟨D4, 0, none⟩) xs0.length xs0.length] 28
      replace fx1 := fx1.ext hD3
      replace fx2 := fx2.ext hD3
      replace fr3_0 := fr3_0.ext hD3
      replace fx4 := fx4.ext hD3
      replace a0_0 := (hD3.cell (p := ⟨(World.heap w).size, 0, none⟩) a0h).trans a0_0
      replace a0_1 := (hD3.cell (p := ⟨(World.heap w).size, 1, none⟩) a0h).trans a0_1
      replace a0_2 := (hD3.cell (p := ⟨(World.heap w).size, 2, none⟩) a0h).trans a0_2
      replace a0h := Nat.lt_of_lt_of_le a0h hD3.size
      replace a1_0 := (hD3.cell (p := ⟨(World.heap U1).size, 0, none⟩) a1h).trans a1_0
      replace a1_1 := (hD3.cell (p := ⟨(World.heap U1).size, 1, none⟩) a1h).trans a1_1
      replace a1_2 := (hD3.cell (p := ⟨(World.heap U1).size, 2, none⟩) a1h).trans a1_2
      replace a1h := Nat.lt_of_lt_of_le a1h hD3.size
      replace hB := ext_trans hB hD3
      have hz9 := hD3.size
      have x0_0 : World.cell? U3 ⟨(World.heap w8).size, 0, none⟩ = some (Value.int .i64 rows0) := hv3 0
      have x0_1 : World.cell? U3 ⟨(World.heap w8).size, 1, none⟩ = some (Value.int .i64 cols0) := hv3 1
      have x0_2 : World.cell? U3 ⟨(World.heap w8).size, 2, none⟩ = some (Value.slice (some ⟨D4, 0, none⟩) xs0.length xs0.length) := hv3 2
      have x0h := hs3
      clear hv3
      go_wp2_with fail
      clear hU3
      ((with_reducible refine (toScan_any rows1 cols1 A1 c1 xs1 U3 hn1 (hA1.ext hB)).mono ?_); rintro e w10 ⟨D5, rfl, fx5, hb10⟩)
      replace fx1 := fx1.ext hb10
      replace fx2 := fx2.ext hb10
      replace fr3_0 := fr3_0.ext hb10
      replace fx4 := fx4.ext hb10
      replace a0_0 := (hb10.cell (p := ⟨(World.heap w).size, 0, none⟩) a0h).trans a0_0
      replace a0_1 := (hb10.cell (p := ⟨(World.heap w).size, 1, none⟩) a0h).trans a0_1
      replace a0_2 := (hb10.cell (p := ⟨(World.heap w).size, 2, none⟩) a0h).trans a0_2
      replace a0h := Nat.lt_of_lt_of_le a0h hb10.size
      replace a1_0 := (hb10.cell (p := ⟨(World.heap U1).size, 0, none⟩) a1h).trans a1_0
      replace a1_1 := (hb10.cell (p := ⟨(World.heap U1).size, 1, none⟩) a1h).trans a1_1
      replace a1_2 := (hb10.cell (p := ⟨(World.heap U1).size, 2, none⟩) a1h).trans a1_2
      replace a1h := Nat.lt_of_lt_of_le a1h hb10.size
      replace x0_0 := (hb10.cell (p := ⟨(World.heap w8).size, 0, none⟩) x0h).trans x0_0
      replace x0_1 := (hb10.cell (p := ⟨(World.heap w8).size, 1, none⟩) x0h).trans x0_1
      replace x0_2 := (hb10.cell (p := ⟨(World.heap w8).size, 2, none⟩) x0h).trans x0_2
      replace x0h := Nat.lt_of_lt_of_le x0h hb10.size
      replace hB := ext_trans hB hb10
      have hz10 := hb10.size
      obtain ⟨U4, hU4, hD4, hs4, hv4, _⟩ := box_world w10 #[Value.int .i64 rows1, Value.int .i64 cols1, Value.slice (some ⟨D5, 0, none⟩) xs1.length xs1.length] 28
      replace fx1 := fx1.ext hD4
      replace fx2 := fx2.ext hD4
      replace fr3_0 := fr3_0.ext hD4
      replace fx4 := fx4.ext hD4
      replace fx5 := fx5.ext hD4
      replace a0_0 := (hD4.cell (p := ⟨(World.heap w).size, 0, none⟩) a0h).trans a0_0
      replace a0_1 := (hD4.cell (p := ⟨(World.heap w).size, 1, none⟩) a0h).trans a0_1
      replace a0_2 := (hD4.cell (p := ⟨(World.heap w).size, 2, none⟩) a0h).trans a0_2
      replace a0h := Nat.lt_of_lt_of_le a0h hD4.size
      replace a1_0 := (hD4.cell (p := ⟨(World.heap U1).size, 0, none⟩) a1h).trans a1_0
      replace a1_1 := (hD4.cell (p := ⟨(World.heap U1).size, 1, none⟩) a1h).trans a1_1
      replace a1_2 := (hD4.cell (p := ⟨(World.heap U1).size, 2, none⟩) a1h).trans a1_2
      replace a1h := Nat.lt_of_lt_of_le a1h hD4.size
      replace x0_0 := (hD4.cell (p := ⟨(World.heap w8).size, 0, none⟩) x0h).trans x0_0
      replace x0_1 := (hD4.cell (p := ⟨(World.heap w8).size, 1, none⟩) x0h).trans x0_1
      replace x0_2 := (hD4.cell (p := ⟨(World.heap w8).size, 2, none⟩) x0h).trans x0_2
      replace x0h := Nat.lt_of_lt_of_le x0h hD4.size
      replace hB := ext_trans hB hD4
      have hz11 := hD4.size
      have x1_0 : World.cell? U4 ⟨(World.heap w10).size, 0, none⟩ = some (Value.int .i64 rows1) := hv4 0
      have x1_1 : World.cell? U4 ⟨(World.heap w10).size, 1, none⟩ = some (Value.int .i64 cols1) := hv4 1
      have x1_2 : World.cell? U4 ⟨(World.heap w10).size, 2, none⟩ = some (Value.slice (some ⟨D5, 0, none⟩) xs1.length xs1.length) := hv4 2
      have x1h := hs4
      clear hv4
      go_wp2_with fail
      clear hU4
      ((with_reducible refine (HIMPL.out _ _ U4 fx4.fl fx5.fl).mono ?_); rintro e w12 ⟨R6_0, d6_0, rfl, fr6_0, hb12⟩)
      replace fx1 := fx1.ext hb12
      replace fx2 := fx2.ext hb12
      replace fr3_0 := fr3_0.ext hb12
      replace fx4 := fx4.ext hb12
      replace fx5 := fx5.ext hb12
      replace a0_0 := (hb12.cell (p := ⟨(World.heap w).size, 0, none⟩) a0h).trans a0_0
      replace a0_1 := (hb12.cell (p := ⟨(World.heap w).size, 1, none⟩) a0h).trans a0_1
      replace a0_2 := (hb12.cell (p := ⟨(World.heap w).size, 2, none⟩) a0h).trans a0_2
      replace a0h := Nat.lt_of_lt_of_le a0h hb12.size
      replace a1_0 := (hb12.cell (p := ⟨(World.heap U1).size, 0, none⟩) a1h).trans a1_0
      replace a1_1 := (hb12.cell (p := ⟨(World.heap U1).size, 1, none⟩) a1h).trans a1_1
      replace a1_2 := (hb12.cell (p := ⟨(World.heap U1).size, 2, none⟩) a1h).trans a1_2
      replace a1h := Nat.lt_of_lt_of_le a1h hb12.size
      replace x0_0 := (hb12.cell (p := ⟨(World.heap w8).size, 0, none⟩) x0h).trans x0_0
      replace x0_1 := (hb12.cell (p := ⟨(World.heap w8).size, 1, none⟩) x0h).trans x0_1
      replace x0_2 := (hb12.cell (p := ⟨(World.heap w8).size, 2, none⟩) x0h).trans x0_2
      replace x0h := Nat.lt_of_lt_of_le x0h hb12.size
      replace x1_0 := (hb12.cell (p := ⟨(World.heap w10).size, 0, none⟩) x1h).trans x1_0
      replace x1_1 := (hb12.cell (p := ⟨(World.heap w10).size, 1, none⟩) x1h).trans x1_1
      replace x1_2 := (hb12.cell (p := ⟨(World.heap w10).size, 2, none⟩) x1h).trans x1_2
      replace x1h := Nat.lt_of_lt_of_le x1h hb12.size
      replace hB := ext_trans hB hb12
      have hz12 := hb12.size
      go_wp2_with fail
      ((with_reducible refine (eqIntSS_same _ _ _ _ ys0 _ (by omega) fr6_0.gl fr3_0.gl).mono ?_); rintro e w13 ⟨rfl, hb13⟩)
      replace fx1 := fx1.ext hb13
      replace fx2 := fx2.ext hb13
      replace fr3_0 := fr3_0.ext hb13
      replace fx4 := fx4.ext hb13
      replace fx5 := fx5.ext hb13
      replace fr6_0 := fr6_0.ext hb13
      replace a0_0 := (hb13.cell (p := ⟨(World.heap w).size, 0, none⟩) a0h).trans a0_0
      replace a0_1 := (hb13.cell (p := ⟨(World.heap w).size, 1, none⟩) a0h).trans a0_1
      replace a0_2 := (hb13.cell (p := ⟨(World.heap w).size, 2, none⟩) a0h).trans a0_2
      replace a0h := Nat.lt_of_lt_of_le a0h hb13.size
      replace a1_0 := (hb13.cell (p := ⟨(World.heap U1).size, 0, none⟩) a1h).trans a1_0
      replace a1_1 := (hb13.cell (p := ⟨(World.heap U1).size, 1, none⟩) a1h).trans a1_1
      replace a1_2 := (hb13.cell (p := ⟨(World.heap U1).size, 2, none⟩) a1h).trans a1_2
      replace a1h := Nat.lt_of_lt_of_le a1h hb13.size
      replace x0_0 := (hb13.cell (p := ⟨(World.heap w8).size, 0, none⟩) x0h).trans x0_0
      replace x0_1 := (hb13.cell (p := ⟨(World.heap w8).size, 1, none⟩) x0h).trans x0_1
      replace x0_2 := (hb13.cell (p := ⟨(World.heap w8).size, 2, none⟩) x0h).trans x0_2
      replace x0h := Nat.lt_of_lt_of_le x0h hb13.size
      replace x1_0 := (hb13.cell (p := ⟨(World.heap w10).size, 0, none⟩) x1h).trans x1_0
      replace x1_1 := (hb13.cell (p := ⟨(World.heap w10).size, 1, none⟩) x1h).trans x1_1
      replace x1_2 := (hb13.cell (p := ⟨(World.heap w10).size, 2, none⟩) x1h).trans x1_2
      replace x1h := Nat.lt_of_lt_of_le x1h hb13.size
      replace hB := ext_trans hB hb13
      have hz13 := hb13.size
      go_wp2_with fail
      go_region_held3 (fun w' => Below (World.heap w13).size w13 w' ∧ ∀ b o, b < (World.heap w13).size → w'.cell? ⟨b, o, none⟩ = World.cell? w13 ⟨b, o, none⟩) (first | exact cls_of (ext_drew _) | exact cls_of (ext_trans (ext_drew _) hb14) | exact cls_of (ext_trans (ext_trans (ext_drew _) hb14) hb15)) ((first | (go_at_call 12; refine (toScan_any rows0 cols0 A0 c0 xs0 _ hn0 (hA0.ext (ext_trans hB (ext_drew _)))).mono ?_; rintro e w14 ⟨D7, rfl, fx7, hb14⟩) | (go_at_call 14; refine (eqScan_same rows0 cols0 _ _ _ _ xs0 _ (by omega) (fx4.ext (ext_trans (ext_drew _) hb14)).fl fx7.fl).mono ?_; rintro e w15 ⟨rfl, hb15⟩)))
      have hb15q := ext_trans (ext_trans (ext_drew w13) hb14) hb15
      replace fx1 := fx1.ext hb15q
      replace fx2 := fx2.ext hb15q
      replace fr3_0 := fr3_0.ext hb15q
      replace fx4 := fx4.ext hb15q
      replace fx5 := fx5.ext hb15q
      replace fr6_0 := fr6_0.ext hb15q
      replace a0_0 := (hb15q.cell (p := ⟨(World.heap w).size, 0, none⟩) a0h).trans a0_0
      replace a0_1 := (hb15q.cell (p := ⟨(World.heap w).size, 1, none⟩) a0h).trans a0_1
      replace a0_2 := (hb15q.cell (p := ⟨(World.heap w).size, 2, none⟩) a0h).trans a0_2
      replace a0h := Nat.lt_of_lt_of_le a0h hb15q.size
      replace a1_0 := (hb15q.cell (p := ⟨(World.heap U1).size, 0, none⟩) a1h).trans a1_0
      replace a1_1 := (hb15q.cell (p := ⟨(World.heap U1).size, 1, none⟩) a1h).trans a1_1
      replace a1_2 := (hb15q.cell (p := ⟨(World.heap U1).size, 2, none⟩) a1h).trans a1_2
      replace a1h := Nat.lt_of_lt_of_le a1h hb15q.size
      replace x0_0 := (hb15q.cell (p := ⟨(World.heap w8).size, 0, none⟩) x0h).trans x0_0
      replace x0_1 := (hb15q.cell (p := ⟨(World.heap w8).size, 1, none⟩) x0h).trans x0_1
      replace x0_2 := (hb15q.cell (p := ⟨(World.heap w8).size, 2, none⟩) x0h).trans x0_2
      replace x0h := Nat.lt_of_lt_of_le x0h hb15q.size
      replace x1_0 := (hb15q.cell (p := ⟨(World.heap w10).size, 0, none⟩) x1h).trans x1_0
      replace x1_1 := (hb15q.cell (p := ⟨(World.heap w10).size, 1, none⟩) x1h).trans x1_1
      replace x1_2 := (hb15q.cell (p := ⟨(World.heap w10).size, 2, none⟩) x1h).trans x1_2
      replace x1h := Nat.lt_of_lt_of_le x1h hb15q.size
      replace hB := ext_trans hB hb15q
      have hz15 := hb15q.size
      go_wp2_with fail
      go_region_held3 (fun w' => Below (World.heap w15).size w15 w' ∧ ∀ b o, b < (World.heap w15).size → w'.cell? ⟨b, o, none⟩ = World.cell? w15 ⟨b, o, none⟩) (first | exact cls_of (ext_drew _) | exact cls_of (ext_trans (ext_drew _) hb16) | exact cls_of (ext_trans (ext_trans (ext_drew _) hb16) hb17)) ((first | (go_at_call 12; refine (toScan_any rows1 cols1 A1 c1 xs1 _ hn1 (hA1.ext (ext_trans hB (ext_drew _)))).mono ?_; rintro e w16 ⟨D8, rfl, fx8, hb16⟩) | (go_at_call 14; refine (eqScan_same rows1 cols1 _ _ _ _ xs1 _ (by omega) (fx5.ext (ext_trans (ext_drew _) hb16)).fl fx8.fl).mono ?_; rintro e w17 ⟨rfl, hb17⟩)))
      have hb17q := ext_trans (ext_trans (ext_drew w15) hb16) hb17
      replace fx1 := fx1.ext hb17q
      replace fx2 := fx2.ext hb17q
      replace fr3_0 := fr3_0.ext hb17q
      replace fx4 := fx4.ext hb17q
      replace fx5 := fx5.ext hb17q
      replace fr6_0 := fr6_0.ext hb17q
      replace a0_0 := (hb17q.cell (p := ⟨(World.heap w).size, 0, none⟩) a0h).trans a0_0
      replace a0_1 := (hb17q.cell (p := ⟨(World.heap w).size, 1, none⟩) a0h).trans a0_1
      replace a0_2 := (hb17q.cell (p := ⟨(World.heap w).size, 2, none⟩) a0h).trans a0_2
      replace a0h := Nat.lt_of_lt_of_le a0h hb17q.size
      replace a1_0 := (hb17q.cell (p := ⟨(World.heap U1).size, 0, none⟩) a1h).trans a1_0
      replace a1_1 := (hb17q.cell (p := ⟨(World.heap U1).size, 1, none⟩) a1h).trans a1_1
      replace a1_2 := (hb17q.cell (p := ⟨(World.heap U1).size, 2, none⟩) a1h).trans a1_2
      replace a1h := Nat.lt_of_lt_of_le a1h hb17q.size
      replace x0_0 := (hb17q.cell (p := ⟨(World.heap w8).size, 0, none⟩) x0h).trans x0_0
      replace x0_1 := (hb17q.cell (p := ⟨(World.heap w8).size, 1, none⟩) x0h).trans x0_1
      replace x0_2 := (hb17q.cell (p := ⟨(World.heap w8).size, 2, none⟩) x0h).trans x0_2
      replace x0h := Nat.lt_of_lt_of_le x0h hb17q.size
      replace x1_0 := (hb17q.cell (p := ⟨(World.heap w10).size, 0, none⟩) x1h).trans x1_0
      replace x1_1 := (hb17q.cell (p := ⟨(World.heap w10).size, 1, none⟩) x1h).trans x1_1
      replace x1_2 := (hb17q.cell (p := ⟨(World.heap w10).size, 2, none⟩) x1h).trans x1_2
      replace x1h := Nat.lt_of_lt_of_le x1h hb17q.size
      replace hB := ext_trans hB hb17q
      have hz17 := hb17q.size
      go_wp2_with fail
      ((with_reducible refine (markScan_any rows0 cols0 _ _ _ _ (1) xs0 w17 (by omega) (by omega) (by omega) fx4).mono ?_); rintro e w18 ⟨rfl, nx18, ht18⟩)
      replace fr3_0 := fr3_0.touch ht18 (by omega)
      replace fx5 := fx5.touch ht18 (by omega)
      replace fr6_0 := fr6_0.touch ht18 (by omega)
      replace a0_0 := (ht18.cell (b := (World.heap w).size) (o := 0) a0h (by omega)).trans a0_0
      replace a0_1 := (ht18.cell (b := (World.heap w).size) (o := 1) a0h (by omega)).trans a0_1
      replace a0_2 := (ht18.cell (b := (World.heap w).size) (o := 2) a0h (by omega)).trans a0_2
      replace a0h := Nat.lt_of_lt_of_le a0h ht18.size
      replace a1_0 := (ht18.cell (b := (World.heap U1).size) (o := 0) a1h (by omega)).trans a1_0
      replace a1_1 := (ht18.cell (b := (World.heap U1).size) (o := 1) a1h (by omega)).trans a1_1
      replace a1_2 := (ht18.cell (b := (World.heap U1).size) (o := 2) a1h (by omega)).trans a1_2
      replace a1h := Nat.lt_of_lt_of_le a1h ht18.size
      replace x0_0 := (ht18.cell (b := (World.heap w8).size) (o := 0) x0h (by omega)).trans x0_0
      replace x0_1 := (ht18.cell (b := (World.heap w8).size) (o := 1) x0h (by omega)).trans x0_1
      replace x0_2 := (ht18.cell (b := (World.heap w8).size) (o := 2) x0h (by omega)).trans x0_2
      replace x0h := Nat.lt_of_lt_of_le x0h ht18.size
      replace x1_0 := (ht18.cell (b := (World.heap w10).size) (o := 0) x1h (by omega)).trans x1_0
      replace x1_1 := (ht18.cell (b := (World.heap w10).size) (o := 1) x1h (by omega)).trans x1_1
      replace x1_2 := (ht18.cell (b := (World.heap w10).size) (o := 2) x1h (by omega)).trans x1_2
      replace x1h := Nat.lt_of_lt_of_le x1h ht18.size
      replace hB := ht18.below hB (by omega)
      have hz18 := ht18.size
      go_wp2_with fail
      ((with_reducible refine (markScan_any rows1 cols1 _ _ _ _ (1 + (xs0.length : Int) * 3) xs1 w18 (by omega) (by omega) (by omega) fx5).mono ?_); rintro e w19 ⟨rfl, nx19, ht19⟩)
      replace fr3_0 := fr3_0.touch ht19 (by omega)
      replace fr6_0 := fr6_0.touch ht19 (by omega)
      replace a0_0 := (ht19.cell (b := (World.heap w).size) (o := 0) a0h (by omega)).trans a0_0
      replace a0_1 := (ht19.cell (b := (World.heap w).size) (o := 1) a0h (by omega)).trans a0_1
      replace a0_2 := (ht19.cell (b := (World.heap w).size) (o := 2) a0h (by omega)).trans a0_2
      replace a0h := Nat.lt_of_lt_of_le a0h ht19.size
      replace a1_0 := (ht19.cell (b := (World.heap U1).size) (o := 0) a1h (by omega)).trans a1_0
      replace a1_1 := (ht19.cell (b := (World.heap U1).size) (o := 1) a1h (by omega)).trans a1_1
      replace a1_2 := (ht19.cell (b := (World.heap U1).size) (o := 2) a1h (by omega)).trans a1_2
      replace a1h := Nat.lt_of_lt_of_le a1h ht19.size
      replace x0_0 := (ht19.cell (b := (World.heap w8).size) (o := 0) x0h (by omega)).trans x0_0
      replace x0_1 := (ht19.cell (b := (World.heap w8).size) (o := 1) x0h (by omega)).trans x0_1
      replace x0_2 := (ht19.cell (b := (World.heap w8).size) (o := 2) x0h (by omega)).trans x0_2
      replace x0h := Nat.lt_of_lt_of_le x0h ht19.size
      replace x1_0 := (ht19.cell (b := (World.heap w10).size) (o := 0) x1h (by omega)).trans x1_0
      replace x1_1 := (ht19.cell (b := (World.heap w10).size) (o := 1) x1h (by omega)).trans x1_1
      replace x1_2 := (ht19.cell (b := (World.heap w10).size) (o := 2) x1h (by omega)).trans x1_2
      replace x1h := Nat.lt_of_lt_of_le x1h ht19.size
      replace hB := ht19.below hB (by omega)
      have hz19 := ht19.size
      have hk0 : ¬ (1 + (xs0.length : Int) * 3 + (xs1.length : Int) * 3 : Int) < 0 := by omega
      go_wp2_with fail
      ((with_reducible refine (eqIntSS_same _ _ _ _ ys0 _ (by omega) fr6_0.gl fr3_0.gl).mono ?_); rintro e w20 ⟨rfl, hb20⟩)
      replace fr3_0 := fr3_0.ext hb20
      replace fr6_0 := fr6_0.ext hb20
      replace a0_0 := (hb20.cell (p := ⟨(World.heap w).size, 0, none⟩) a0h).trans a0_0
      replace a0_1 := (hb20.cell (p := ⟨(World.heap w).size, 1, none⟩) a0h).trans a0_1
      replace a0_2 := (hb20.cell (p := ⟨(World.heap w).size, 2, none⟩) a0h).trans a0_2
      replace a0h := Nat.lt_of_lt_of_le a0h hb20.size
      replace a1_0 := (hb20.cell (p := ⟨(World.heap U1).size, 0, none⟩) a1h).trans a1_0
      replace a1_1 := (hb20.cell (p := ⟨(World.heap U1).size, 1, none⟩) a1h).trans a1_1
      replace a1_2 := (hb20.cell (p := ⟨(World.heap U1).size, 2, none⟩) a1h).trans a1_2
      replace a1h := Nat.lt_of_lt_of_le a1h hb20.size
      replace x0_0 := (hb20.cell (p := ⟨(World.heap w8).size, 0, none⟩) x0h).trans x0_0
      replace x0_1 := (hb20.cell (p := ⟨(World.heap w8).size, 1, none⟩) x0h).trans x0_1
      replace x0_2 := (hb20.cell (p := ⟨(World.heap w8).size, 2, none⟩) x0h).trans x0_2
      replace x0h := Nat.lt_of_lt_of_le x0h hb20.size
      replace x1_0 := (hb20.cell (p := ⟨(World.heap w10).size, 0, none⟩) x1h).trans x1_0
      replace x1_1 := (hb20.cell (p := ⟨(World.heap w10).size, 1, none⟩) x1h).trans x1_1
      replace x1_2 := (hb20.cell (p := ⟨(World.heap w10).size, 2, none⟩) x1h).trans x1_2
      replace x1h := Nat.lt_of_lt_of_le x1h hb20.size
      replace hB := ext_trans hB hb20
      have hz20 := hb20.size
      go_wp2_with fail
      ((with_reducible refine (markIntSS_any _ _ _ _ (1) ys0 w20 (by omega) (by omega) (by omega) (by omega) fr6_0).mono ?_); rintro e w21 ⟨rfl, nr0, ht21⟩)
      replace fr3_0 := fr3_0.touch ht21 (by omega)
      replace a0_0 := (ht21.cell (b := (World.heap w).size) (o := 0) a0h (by omega)).trans a0_0
      replace a0_1 := (ht21.cell (b := (World.heap w).size) (o := 1) a0h (by omega)).trans a0_1
      replace a0_2 := (ht21.cell (b := (World.heap w).size) (o := 2) a0h (by omega)).trans a0_2
      replace a0h := Nat.lt_of_lt_of_le a0h ht21.size
      replace a1_0 := (ht21.cell (b := (World.heap U1).size) (o := 0) a1h (by omega)).trans a1_0
      replace a1_1 := (ht21.cell (b := (World.heap U1).size) (o := 1) a1h (by omega)).trans a1_1
      replace a1_2 := (ht21.cell (b := (World.heap U1).size) (o := 2) a1h (by omega)).trans a1_2
      replace a1h := Nat.lt_of_lt_of_le a1h ht21.size
      replace x0_0 := (ht21.cell (b := (World.heap w8).size) (o := 0) x0h (by omega)).trans x0_0
      replace x0_1 := (ht21.cell (b := (World.heap w8).size) (o := 1) x0h (by omega)).trans x0_1
      replace x0_2 := (ht21.cell (b := (World.heap w8).size) (o := 2) x0h (by omega)).trans x0_2
      replace x0h := Nat.lt_of_lt_of_le x0h ht21.size
      replace x1_0 := (ht21.cell (b := (World.heap w10).size) (o := 0) x1h (by omega)).trans x1_0
      replace x1_1 := (ht21.cell (b := (World.heap w10).size) (o := 1) x1h (by omega)).trans x1_1
      replace x1_2 := (ht21.cell (b := (World.heap w10).size) (o := 2) x1h (by omega)).trans x1_2
      replace x1h := Nat.lt_of_lt_of_le x1h ht21.size
      replace hB := ht21.below hB (by omega)
      have hz21 := ht21.size
      have hq0 : ¬ (1 + (offG slf 0 ys0 ys0.length : Int) : Int) < 0 := by omega
      go_wp2_with fail
      ((with_reducible refine (heldIntSS_any _ _ _ _ (1) ys0 w21 (by omega) (by omega) (by omega) (by omega) nr0).mono ?_); rintro e w9 ⟨rfl, rfl⟩)
      go_wp2_with fail
      go_region_held3 (fun w' => Below (World.heap w21).size w21 w' ∧ ∀ b o, b < (World.heap w21).size → w'.cell? ⟨b, o, none⟩ = World.cell? w21 ⟨b, o, none⟩) (first | exact cls_of (ext_drew _) | exact cls_of (ext_drew _) | exact cls_next (by assumption) hb22 | exact cls_next (by assumption) hb23 | exact cls_next (by assumption) hb24 | exact cls_alloc (by assumption) _ | assumption) ((first | (go_at_call 12; (with_reducible refine (toScan_any rows0 cols0 A0 c0 xs0 _ hn0 (hA0.ext (ext_trans hB (held_below (by assumption))))).mono ?_); rintro e w22 ⟨D9, rfl, fx9, hb22⟩) | (go_at_call 12; (with_reducible refine (toScan_any rows1 cols1 A1 c1 xs1 _ hn1 (hA1.ext (ext_trans hB (held_below (by assumption))))).mono ?_); rintro e w23 ⟨D10, rfl, fx10, hb23⟩) | (go_at_call 28; (with_reducible refine (HIMPL.out _ _ _ (fx9.ext hb23).fl fx10.fl).mono ?_); rintro e w24 ⟨R11_0, d11_0, rfl, fr11_0, hb24⟩)))
      have hb24q := ext_trans (ext_trans (ext_trans (ext_drew w21) hb22) hb23) hb24
      replace fr3_0 := fr3_0.ext hb24q
      replace nr0 := nr0.ext hb24q
      replace a0_0 := (hb24q.cell (p := ⟨(World.heap w).size, 0, none⟩) a0h).trans a0_0
      replace a0_1 := (hb24q.cell (p := ⟨(World.heap w).size, 1, none⟩) a0h).trans a0_1
      replace a0_2 := (hb24q.cell (p := ⟨(World.heap w).size, 2, none⟩) a0h).trans a0_2
      replace a0h := Nat.lt_of_lt_of_le a0h hb24q.size
      replace a1_0 := (hb24q.cell (p := ⟨(World.heap U1).size, 0, none⟩) a1h).trans a1_0
      replace a1_1 := (hb24q.cell (p := ⟨(World.heap U1).size, 1, none⟩) a1h).trans a1_1
      replace a1_2 := (hb24q.cell (p := ⟨(World.heap U1).size, 2, none⟩) a1h).trans a1_2
      replace a1h := Nat.lt_of_lt_of_le a1h hb24q.size
      replace x0_0 := (hb24q.cell (p := ⟨(World.heap w8).size, 0, none⟩) x0h).trans x0_0
      replace x0_1 := (hb24q.cell (p := ⟨(World.heap w8).size, 1, none⟩) x0h).trans x0_1
      replace x0_2 := (hb24q.cell (p := ⟨(World.heap w8).size, 2, none⟩) x0h).trans x0_2
      replace x0h := Nat.lt_of_lt_of_le x0h hb24q.size
      replace x1_0 := (hb24q.cell (p := ⟨(World.heap w10).size, 0, none⟩) x1h).trans x1_0
      replace x1_1 := (hb24q.cell (p := ⟨(World.heap w10).size, 1, none⟩) x1h).trans x1_1
      replace x1_2 := (hb24q.cell (p := ⟨(World.heap w10).size, 2, none⟩) x1h).trans x1_2
      replace x1h := Nat.lt_of_lt_of_le x1h hb24q.size
      replace hB := ext_trans hB hb24q
      have hz24 := hb24q.size
      have fx9 := (fx9.ext hb23).ext hb24
      have fx10 := fx10.ext hb24
      go_wp2_with fail
      ((with_reducible refine (eqIntSS_same _ _ _ _ ys0 _ (by omega) fr11_0.gl fr3_0.gl).mono ?_); rintro e w25 ⟨rfl, hb25⟩)
      replace fr3_0 := fr3_0.ext hb25
      replace nr0 := nr0.ext hb25
      replace fx9 := fx9.ext hb25
      replace fx10 := fx10.ext hb25
      replace fr11_0 := fr11_0.ext hb25
      replace a0_0 := (hb25.cell (p := ⟨(World.heap w).size, 0, none⟩) a0h).trans a0_0
      replace a0_1 := (hb25.cell (p := ⟨(World.heap w).size, 1, none⟩) a0h).trans a0_1
      replace a0_2 := (hb25.cell (p := ⟨(World.heap w).size, 2, none⟩) a0h).trans a0_2
      replace a0h := Nat.lt_of_lt_of_le a0h hb25.size
      replace a1_0 := (hb25.cell (p := ⟨(World.heap U1).size, 0, none⟩) a1h).trans a1_0
      replace a1_1 := (hb25.cell (p := ⟨(World.heap U1).size, 1, none⟩) a1h).trans a1_1
      replace a1_2 := (hb25.cell (p := ⟨(World.heap U1).size, 2, none⟩) a1h).trans a1_2
      replace a1h := Nat.lt_of_lt_of_le a1h hb25.size
      replace x0_0 := (hb25.cell (p := ⟨(World.heap w8).size, 0, none⟩) x0h).trans x0_0
      replace x0_1 := (hb25.cell (p := ⟨(World.heap w8).size, 1, none⟩) x0h).trans x0_1
      replace x0_2 := (hb25.cell (p := ⟨(World.heap w8).size, 2, none⟩) x0h).trans x0_2
      replace x0h := Nat.lt_of_lt_of_le x0h hb25.size
      replace x1_0 := (hb25.cell (p := ⟨(World.heap w10).size, 0, none⟩) x1h).trans x1_0
      replace x1_1 := (hb25.cell (p := ⟨(World.heap w10).size, 1, none⟩) x1h).trans x1_1
      replace x1_2 := (hb25.cell (p := ⟨(World.heap w10).size, 2, none⟩) x1h).trans x1_2
      replace x1h := Nat.lt_of_lt_of_le x1h hb25.size
      replace hB := ext_trans hB hb25
      have hz25 := hb25.size
      go_wp2_with fail
      ((with_reducible refine (heldIntSS_any _ _ _ _ (1) ys0 w25 (by omega) (by omega) (by omega) (by omega) nr0).mono ?_); rintro e w9 ⟨rfl, rfl⟩)
      go_wp2
      go_ret
      exact ⟨rfl, hB⟩

set_option maxRecDepth 100000 in
theorem FnExactOtherTiles_holds : Rows.FnExactOtherTilesSaid :=
  OpenClaim.holds_of_wide 6 Try.f6 rfl rfl rfl rfl rfl rfl rfl ⟨rfl, rfl, rfl, rfl, rfl⟩ rfl rfl rfl rfl rfl (by kernel_rfl) Try.func6 (by kernel_rfl)
    (of_decide_eq_true (by kernel_rfl)) (by unfold Func.isWrapper; first | (rw [if_pos (by decide +kernel)]; kernel_rfl) | (rw [if_neg (by decide +kernel)]; exact ⟨rfl, rfl⟩))
    (fun os started H enc _ => by
      refine law_lifted (s := Rows.fnExactOtherTilesSpec) (conds := []) os started H enc (by kernel_rfl) Try.func6 (by kernel_rfl) rfl rfl Try.underlying4
        (ChangeSpec.witness6 (enc := enc) (C := Try.checked) false ⟨#[], #[.agg #[.int .i64 0, .int .i64 0, .slice none 0 0], .agg #[.int .i64 0, .int .i64 0, .slice none 0 0]], []⟩ 8 (by kernel_rfl) (by kernel_rfl) (by kernel_rfl) (by kernel_rfl)) ?_
      intro W base args ds ps hval hA
      rw [Try.params6] at hA hval
      obtain ⟨v0, vs0, d0, ds0, p0, q0, hargs, rfl, rfl, h0, r0⟩ := trodAll_cons hA
      obtain ⟨v1, vs1, d1, ds1, p1, q1, rfl, rfl, rfl, h1, r1⟩ := trodAll_cons r0
      obtain ⟨rfl, rfl, rfl⟩ := trodAll_nil r1
      obtain rfl : args = #[v0, v1] := by cases args; simp_all
      refine ⟨rfl, ?_⟩
      obtain ⟨f00, f10, f20, y00, y10, y20, m0, rfl, rfl, rfl, hy00, hy10, hy20⟩ := open_agg3 Try.underlying24 (by kernel_rfl) (by kernel_rfl) (hval 0 24 v0 rfl rfl) h0
      obtain ⟨a00, e00, _, _⟩ := DataW.trod_int Try.underlying3 hy00
      obtain ⟨a10, e10, _, _⟩ := DataW.trod_int Try.underlying3 hy10
      obtain ⟨A0, c0, xs0, rfl, hl0, hf0⟩ := open_core (f := Tile.ints) Try.underlying22 (by kernel_rfl) (by decide) (intElem_struct Try.underlying49 (by kernel_rfl) rfl (intfields_of (by kernel_rfl))) Tile.mk_ints hy20
      simp at e00 e10
      subst e00 e10
      obtain ⟨f01, f11, f21, y01, y11, y21, m1, rfl, rfl, rfl, hy01, hy11, hy21⟩ := open_agg3 Try.underlying24 (by kernel_rfl) (by kernel_rfl) (hval 1 24 v1 rfl rfl) h1
      obtain ⟨a01, e01, _, _⟩ := DataW.trod_int Try.underlying3 hy01
      obtain ⟨a11, e11, _, _⟩ := DataW.trod_int Try.underlying3 hy11
      obtain ⟨A1, c1, xs1, rfl, hl1, hf1⟩ := open_core (f := Tile.ints) Try.underlying22 (by kernel_rfl) (by decide) (intElem_struct Try.underlying49 (by kernel_rfl) rfl (intfields_of (by kernel_rfl))) Tile.mk_ints hy21
      simp at e01 e11
      subst e01 e11
      exact fnOtherTiles_any _ _ A0 c0 xs0 _ _ A1 c1 xs1 W hl0 hf0 hl1 hf1)
end Go.Proofs.Ytbldoidcjkffdaa
