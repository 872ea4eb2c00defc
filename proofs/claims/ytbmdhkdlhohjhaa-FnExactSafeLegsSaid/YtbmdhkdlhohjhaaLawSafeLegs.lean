/- The program's SafeLegs returns what the reference's returns, for all arguments. No condition. -/
import Derived.Test.YtbmdhkdlhohjhaaLaw
import Derived.Test.YtbmdhkdlhohjhaaOpen
import Derived.Test.YtbmdhkdlhohjhaaLst
import Derived.Test.YtbmdhkdlhohjhaaFamLand
import Derived.Test.YtbmdhkdlhohjhaaFamLeg
import Derived.Test.YtbmdhkdlhohjhaaBoxLaw
import Derived.Test.YtbmdhkdlhohjhaaMarkBox
import Derived.Test.YtbmdhkdlhohjhaaSafeL
import Derived.Lib.SmallJoins
namespace Go.Proofs.Ytbmdhkdlhohjhaa
open Go.ChangeShapes Go.WideShapes Go.ChangeAt Go.RowKit Go.Joins
set_option linter.unusedVariables false
set_option linter.unusedSimpArgs false

set_option maxHeartbeats 8000000 in
set_option maxRecDepth 100000 in
theorem fnSafeLegs_any (wide0 high0 steep0 : Int) (A0 : Option Addr) (c0 : Nat) (xs0 : List Four) (east : Int) (north : Int) (A3 : Option Addr) (c3 : Nat) (xs3 : List Leg) (minutes : Int) (w : World) (hm0 : xs0.length ≤ 9223372036854775807) (hA0 : Fl Four.ints 4 w A0 xs0) (hm3 : xs3.length ≤ 9223372036854775807) (hA3 : Fl Leg.ints 3 w A3 xs3) :
    Calls Try.prog 5 #[.agg #[Value.int .i64 wide0, Value.int .i64 high0, Value.slice A0 xs0.length c0, Value.int .i64 steep0], .int .i64 east, .int .i64 north, .slice A3 xs3.length c3, .int .i64 minutes] w fun e w' => e = .returned (.bool true) ∧ Below w.heap.size w w' := by
  by_cases hbig0 : (1048576 : Int) < (xs0.length : Int)
  · skip
    have hB := Below.refl w.heap.size w
    obtain ⟨U1, hU1, hD1, hs1, hv1, _⟩ := box_world w #[Value.int .i64 wide0, Value.int .i64 high0, Value.slice A0 xs0.length c0, Value.int .i64 steep0] 24
    replace hB := ext_trans hB hD1
    have hz1 := hD1.size
    have a0_0 : World.cell? U1 ⟨(World.heap w).size, 0, none⟩ = some (Value.int .i64 wide0) := hv1 0
    have a0_1 : World.cell? U1 ⟨(World.heap w).size, 1, none⟩ = some (Value.int .i64 high0) := hv1 1
    have a0_2 : World.cell? U1 ⟨(World.heap w).size, 2, none⟩ = some (Value.slice A0 xs0.length c0) := hv1 2
    have a0_3 : World.cell? U1 ⟨(World.heap w).size, 3, none⟩ = some (Value.int .i64 steep0) := hv1 3
    have a0h := hs1
    clear hv1
    go_enter Try.func5, Try.ntmps5
    go_wp2_with fail
    clear hU1
    ((with_reducible refine (szLandG_no wide0 high0 steep0 A0 xs0.length c0 _ (1048576) (by omega) (by omega) hm0 (by omega)).mono ?_); rintro e w2 ⟨rfl, hb2⟩)
    replace a0_0 := (hb2.cell (p := ⟨(World.heap w).size, 0, none⟩) a0h).trans a0_0
    replace a0_1 := (hb2.cell (p := ⟨(World.heap w).size, 1, none⟩) a0h).trans a0_1
    replace a0_2 := (hb2.cell (p := ⟨(World.heap w).size, 2, none⟩) a0h).trans a0_2
    replace a0_3 := (hb2.cell (p := ⟨(World.heap w).size, 3, none⟩) a0h).trans a0_3
    replace a0h := Nat.lt_of_lt_of_le a0h hb2.size
    replace hB := ext_trans hB hb2
    have hz2 := hb2.size
    go_wp2
    go_ret
    exact ⟨rfl, hB⟩
  · have hn0 : xs0.length ≤ 1048576 := by omega
    have hl0 : ¬ (1048576 : Int) - (xs0.length : Int) < 0 := by omega
    by_cases hbig3 : (1048576 - (xs0.length : Int) : Int) < (xs3.length : Int)
    · skip
      have hB := Below.refl w.heap.size w
      obtain ⟨U1, hU1, hD1, hs1, hv1, _⟩ := box_world w #[Value.int .i64 wide0, Value.int .i64 high0, Value.slice A0 xs0.length c0, Value.int .i64 steep0] 24
      replace hB := ext_trans hB hD1
      have hz1 := hD1.size
      have a0_0 : World.cell? U1 ⟨(World.heap w).size, 0, none⟩ = some (Value.int .i64 wide0) := hv1 0
      have a0_1 : World.cell? U1 ⟨(World.heap w).size, 1, none⟩ = some (Value.int .i64 high0) := hv1 1
      have a0_2 : World.cell? U1 ⟨(World.heap w).size, 2, none⟩ = some (Value.slice A0 xs0.length c0) := hv1 2
      have a0_3 : World.cell? U1 ⟨(World.heap w).size, 3, none⟩ = some (Value.int .i64 steep0) := hv1 3
      have a0h := hs1
      clear hv1
      go_enter Try.func5, Try.ntmps5
      go_wp2_with fail
      clear hU1
      ((with_reducible refine (szLandG_ok wide0 high0 steep0 A0 xs0.length c0 _ (1048576) (by omega) (by omega) hm0 (by omega)).mono ?_); rintro e w2 ⟨rfl, hb2⟩)
      replace a0_0 := (hb2.cell (p := ⟨(World.heap w).size, 0, none⟩) a0h).trans a0_0
      replace a0_1 := (hb2.cell (p := ⟨(World.heap w).size, 1, none⟩) a0h).trans a0_1
      replace a0_2 := (hb2.cell (p := ⟨(World.heap w).size, 2, none⟩) a0h).trans a0_2
      replace a0_3 := (hb2.cell (p := ⟨(World.heap w).size, 3, none⟩) a0h).trans a0_3
      replace a0h := Nat.lt_of_lt_of_le a0h hb2.size
      replace hB := ext_trans hB hb2
      have hz2 := hb2.size
      go_wp2_with fail
      ((with_reducible refine (szLegS_no A3 xs3.length c3 _ (1048576 - (xs0.length : Int)) (by omega) (by omega) hm3 (by omega)).mono ?_); rintro e w9 ⟨rfl, rfl⟩)
      go_wp2
      go_ret
      exact ⟨rfl, hB⟩
    · have hn3 : xs3.length ≤ 1048576 := by omega
      have hl3 : ¬ (1048576 - (xs0.length : Int) : Int) - (xs3.length : Int) < 0 := by omega
      have hspec := fun (D0 : Nat) (D3 : Nat) (W : World) (h0 : Fl Four.ints 4 W (some ⟨D0, 0, none⟩) xs0) (h3 : Fl Leg.ints 3 W (some ⟨D3, 0, none⟩) xs3) => specSafeLegs_any wide0 high0 steep0 east north minutes (some ⟨D0, 0, none⟩) xs0.length xs0 D3 0 xs3.length xs3 W hn0 h0 hn3 h3 (Nat.le_refl _) hm3
      have himpl := fun (D0 : Nat) (D3 : Nat) (W : World) (h0 : Fl Four.ints 4 W (some ⟨D0, 0, none⟩) xs0) (h3 : Fl Leg.ints 3 W (some ⟨D3, 0, none⟩) xs3) => safeLegs_any wide0 high0 steep0 east north minutes (some ⟨D0, 0, none⟩) xs0.length xs0 D3 0 xs3.length xs3 W hn0 h0 hn3 h3 (Nat.le_refl _) hm3
      have hyl0 : (sel (Asked wide0 high0 steep0 east north xs0 xs3 minutes) (xs3.take (faultL wide0 high0 steep0 minutes xs0 xs3 0 east north 0).2.toNat)).length ≤ 1048576 := Nat.le_trans (sel_len _ _) (Nat.le_trans (List.length_take_le' _ _) hn3)
      generalize sel (Asked wide0 high0 steep0 east north xs0 xs3 minutes) (xs3.take (faultL wide0 high0 steep0 minutes xs0 xs3 0 east north 0).2.toNat) = ys0 at hspec himpl hyl0
      generalize tb (Asked wide0 high0 steep0 east north xs0 xs3 minutes) = ok0 at hspec himpl
      have HSPEC := Lib.hid hspec
      have HIMPL := Lib.hid himpl
      clear hspec himpl
      have hB := Below.refl w.heap.size w
      obtain ⟨U1, hU1, hD1, hs1, hv1, _⟩ := box_world w #[Value.int .i64 wide0, Value.int .i64 high0, Value.slice A0 xs0.length c0, Value.int .i64 steep0] 24
      replace hB := ext_trans hB hD1
      have hz1 := hD1.size
      have a0_0 : World.cell? U1 ⟨(World.heap w).size, 0, none⟩ = some (Value.int .i64 wide0) := hv1 0
      have a0_1 : World.cell? U1 ⟨(World.heap w).size, 1, none⟩ = some (Value.int .i64 high0) := hv1 1
      have a0_2 : World.cell? U1 ⟨(World.heap w).size, 2, none⟩ = some (Value.slice A0 xs0.length c0) := hv1 2
      have a0_3 : World.cell? U1 ⟨(World.heap w).size, 3, none⟩ = some (Value.int .i64 steep0) := hv1 3
      have a0h := hs1
      clear hv1
      go_enter Try.func5, Try.ntmps5
      go_wp2_with fail
      clear hU1
      ((with_reducible refine (szLandG_ok wide0 high0 steep0 A0 xs0.length c0 _ (1048576) (by omega) (by omega) hm0 (by omega)).mono ?_); rintro e w2 ⟨rfl, hb2⟩)
      replace a0_0 := (hb2.cell (p := ⟨(World.heap w).size, 0, none⟩) a0h).trans a0_0
      replace a0_1 := (hb2.cell (p := ⟨(World.heap w).size, 1, none⟩) a0h).trans a0_1
      replace a0_2 := (hb2.cell (p := ⟨(World.heap w).size, 2, none⟩) a0h).trans a0_2
      replace a0_3 := (hb2.cell (p := ⟨(World.heap w).size, 3, none⟩) a0h).trans a0_3
      replace a0h := Nat.lt_of_lt_of_le a0h hb2.size
      replace hB := ext_trans hB hb2
      have hz2 := hb2.size
      go_wp2_with fail
      ((with_reducible refine (szLegS_ok A3 xs3.length c3 _ (1048576 - (xs0.length : Int)) (by omega) (by omega) hm3 (by omega)).mono ?_); rintro e w9 ⟨rfl, rfl⟩)
      go_wp2_with fail
      ((with_reducible refine (toLand_any wide0 high0 steep0 A0 c0 xs0 w2 hn0 (hA0.ext hB)).mono ?_); rintro e w3 ⟨D1, rfl, fx1, hb3⟩)
      replace a0_0 := (hb3.cell (p := ⟨(World.heap w).size, 0, none⟩) a0h).trans a0_0
      replace a0_1 := (hb3.cell (p := ⟨(World.heap w).size, 1, none⟩) a0h).trans a0_1
      replace a0_2 := (hb3.cell (p := ⟨(World.heap w).size, 2, none⟩) a0h).trans a0_2
      replace a0_3 := (hb3.cell (p := ⟨(World.heap w).size, 3, none⟩) a0h).trans a0_3
      replace a0h := Nat.lt_of_lt_of_le a0h hb3.size
      replace hB := ext_trans hB hb3
      have hz3 := hb3.size
      go_wp2_with fail
      ((with_reducible refine (toLegS_any A3 c3 xs3 w3 hn3 (hA3.ext hB)).mono ?_); rintro e w4 ⟨D2, rfl, fx2, hb4⟩)
      replace fx1 := fx1.ext hb4
      replace a0_0 := (hb4.cell (p := ⟨(World.heap w).size, 0, none⟩) a0h).trans a0_0
      replace a0_1 := (hb4.cell (p := ⟨(World.heap w).size, 1, none⟩) a0h).trans a0_1
      replace a0_2 := (hb4.cell (p := ⟨(World.heap w).size, 2, none⟩) a0h).trans a0_2
      replace a0_3 := (hb4.cell (p := ⟨(World.heap w).size, 3, none⟩) a0h).trans a0_3
      replace a0h := Nat.lt_of_lt_of_le a0h hb4.size
      replace hB := ext_trans hB hb4
      have hz4 := hb4.size
      go_wp2_with fail
      ((with_reducible refine (HSPEC.out _ _ w4 fx1.fl fx2.fl).mono ?_); rintro e w5 ⟨R3_0, d3_0, rfl, fr3_0, hb5⟩)
      replace fx1 := fx1.ext hb5
      replace fx2 := fx2.ext hb5
      replace a0_0 := (hb5.cell (p := ⟨(World.heap w).size, 0, none⟩) a0h).trans a0_0
      replace a0_1 := (hb5.cell (p := ⟨(World.heap w).size, 1, none⟩) a0h).trans a0_1
      replace a0_2 := (hb5.cell (p := ⟨(World.heap w).size, 2, none⟩) a0h).trans a0_2
      replace a0_3 := (hb5.cell (p := ⟨(World.heap w).size, 3, none⟩) a0h).trans a0_3
      replace a0h := Nat.lt_of_lt_of_le a0h hb5.size
      replace hB := ext_trans hB hb5
      have hz5 := hb5.size
      go_wp2_with fail
      ((with_reducible refine (toLand_any wide0 high0 steep0 A0 c0 xs0 w5 hn0 (hA0.ext hB)).mono ?_); rintro e w6 ⟨D4, rfl, fx4, hb6⟩)
      replace fx1 := fx1.ext hb6
      replace fx2 := fx2.ext hb6
      replace fr3_0 := fr3_0.ext hb6
      replace a0_0 := (hb6.cell (p := ⟨(World.heap w).size, 0, none⟩) a0h).trans a0_0
      replace a0_1 := (hb6.cell (p := ⟨(World.heap w).size, 1, none⟩) a0h).trans a0_1
      replace a0_2 := (hb6.cell (p := ⟨(World.heap w).size, 2, none⟩) a0h).trans a0_2
      replace a0_3 := (hb6.cell (p := ⟨(World.heap w).size, 3, none⟩) a0h).trans a0_3
      replace a0h := Nat.lt_of_lt_of_le a0h hb6.size
      replace hB := ext_trans hB hb6
      have hz6 := hb6.size
      obtain ⟨U2, hU2, hD2, hs2, hv2, _⟩ := box_world w6 #[Value.int .i64 wide0, Value.int .i64 high0, Value.slice (some ⟨D4, 0, none⟩) xs0.length xs0.length, Value.int .i64 steep0] 30
      replace fx1 := fx1.ext hD2
      replace fx2 := fx2.ext hD2
      replace fr3_0 := fr3_0.ext hD2
      replace fx4 := fx4.ext hD2
      replace a0_0 := (hD2.cell (p := ⟨(World.heap w).size, 0, none⟩) a0h).trans a0_0
      replace a0_1 := (hD2.cell (p := ⟨(World.heap w).size, 1, none⟩) a0h).trans a0_1
      replace a0_2 := (hD2.cell (p := ⟨(World.heap w).size, 2, none⟩) a0h).trans a0_2
      replace a0_3 := (hD2.cell (p := ⟨(World.heap w).size, 3, none⟩) a0h).trans a0_3
      replace a0h := Nat.lt_of_lt_of_le a0h hD2.size
      replace hB := ext_trans hB hD2
      have hz7 := hD2.size
      have x0_0 : World.cell? U2 ⟨(World.heap w6).size, 0, none⟩ = some (Value.int .i64 wide0) := hv2 0
      have x0_1 : World.cell? U2 ⟨(World.heap w6).size, 1, none⟩ = some (Value.int .i64 high0) := hv2 1
      have x0_2 : World.cell? U2 ⟨(World.heap w6).size, 2, none⟩ = some (Value.slice (some ⟨D4, 0, none⟩) xs0.length xs0.length) := hv2 2
      have x0_3 : World.cell? U2 ⟨(World.heap w6).size, 3, none⟩ = some (Value.int .i64 steep0) := hv2 3
      have x0h := hs2
      clear hv2
      go_wp2_with fail
      clear hU2
      ((with_reducible refine (toLegS_any A3 c3 xs3 U2 hn3 (hA3.ext hB)).mono ?_); rintro e w8 ⟨D5, rfl, fx5, hb8⟩)
      replace fx1 := fx1.ext hb8
      replace fx2 := fx2.ext hb8
      replace fr3_0 := fr3_0.ext hb8
      replace fx4 := fx4.ext hb8
      replace a0_0 := (hb8.cell (p := ⟨(World.heap w).size, 0, none⟩) a0h).trans a0_0
      replace a0_1 := (hb8.cell (p := ⟨(World.heap w).size, 1, none⟩) a0h).trans a0_1
      replace a0_2 := (hb8.cell (p := ⟨(World.heap w).size, 2, none⟩) a0h).trans a0_2
      replace a0_3 := (hb8.cell (p := ⟨(World.heap w).size, 3, none⟩) a0h).trans a0_3
      replace a0h := Nat.lt_of_lt_of_le a0h hb8.size
      replace x0_0 := (hb8.cell (p := ⟨(World.heap w6).size, 0, none⟩) x0h).trans x0_0
      replace x0_1 := (hb8.cell (p := ⟨(World.heap w6).size, 1, none⟩) x0h).trans x0_1
      replace x0_2 := (hb8.cell (p := ⟨(World.heap w6).size, 2, none⟩) x0h).trans x0_2
      replace x0_3 := (hb8.cell (p := ⟨(World.heap w6).size, 3, none⟩) x0h).trans x0_3
      replace x0h := Nat.lt_of_lt_of_le x0h hb8.size
      replace hB := ext_trans hB hb8
      have hz8 := hb8.size
      go_wp2_with fail
      ((with_reducible refine (HIMPL.out _ _ w8 fx4.fl fx5.fl).mono ?_); rintro e w9 ⟨R6_0, d6_0, rfl, fr6_0, hb9⟩)
      replace fx1 := fx1.ext hb9
      replace fx2 := fx2.ext hb9
      replace fr3_0 := fr3_0.ext hb9
      replace fx4 := fx4.ext hb9
      replace fx5 := fx5.ext hb9
      replace a0_0 := (hb9.cell (p := ⟨(World.heap w).size, 0, none⟩) a0h).trans a0_0
      replace a0_1 := (hb9.cell (p := ⟨(World.heap w).size, 1, none⟩) a0h).trans a0_1
      replace a0_2 := (hb9.cell (p := ⟨(World.heap w).size, 2, none⟩) a0h).trans a0_2
      replace a0_3 := (hb9.cell (p := ⟨(World.heap w).size, 3, none⟩) a0h).trans a0_3
      replace a0h := Nat.lt_of_lt_of_le a0h hb9.size
      replace x0_0 := (hb9.cell (p := ⟨(World.heap w6).size, 0, none⟩) x0h).trans x0_0
      replace x0_1 := (hb9.cell (p := ⟨(World.heap w6).size, 1, none⟩) x0h).trans x0_1
      replace x0_2 := (hb9.cell (p := ⟨(World.heap w6).size, 2, none⟩) x0h).trans x0_2
      replace x0_3 := (hb9.cell (p := ⟨(World.heap w6).size, 3, none⟩) x0h).trans x0_3
      replace x0h := Nat.lt_of_lt_of_le x0h hb9.size
      replace hB := ext_trans hB hb9
      have hz9 := hb9.size
      go_wp2_with fail
      ((with_reducible refine (eqLegS_same _ _ _ _ ys0 _ (by omega) fr6_0.fl fr3_0.fl).mono ?_); rintro e w10 ⟨rfl, hb10⟩)
      replace fx1 := fx1.ext hb10
      replace fx2 := fx2.ext hb10
      replace fr3_0 := fr3_0.ext hb10
      replace fx4 := fx4.ext hb10
      replace fx5 := fx5.ext hb10
      replace fr6_0 := fr6_0.ext hb10
      replace a0_0 := (hb10.cell (p := ⟨(World.heap w).size, 0, none⟩) a0h).trans a0_0
      replace a0_1 := (hb10.cell (p := ⟨(World.heap w).size, 1, none⟩) a0h).trans a0_1
      replace a0_2 := (hb10.cell (p := ⟨(World.heap w).size, 2, none⟩) a0h).trans a0_2
      replace a0_3 := (hb10.cell (p := ⟨(World.heap w).size, 3, none⟩) a0h).trans a0_3
      replace a0h := Nat.lt_of_lt_of_le a0h hb10.size
      replace x0_0 := (hb10.cell (p := ⟨(World.heap w6).size, 0, none⟩) x0h).trans x0_0
      replace x0_1 := (hb10.cell (p := ⟨(World.heap w6).size, 1, none⟩) x0h).trans x0_1
      replace x0_2 := (hb10.cell (p := ⟨(World.heap w6).size, 2, none⟩) x0h).trans x0_2
      replace x0_3 := (hb10.cell (p := ⟨(World.heap w6).size, 3, none⟩) x0h).trans x0_3
      replace x0h := Nat.lt_of_lt_of_le x0h hb10.size
      replace hB := ext_trans hB hb10
      have hz10 := hb10.size
      go_wp2_with fail
      go_region_held3 (fun w' => Below (World.heap w10).size w10 w' ∧ ∀ b o, b < (World.heap w10).size → w'.cell? ⟨b, o, none⟩ = World.cell? w10 ⟨b, o, none⟩) (first | exact cls_of (ext_drew _) | exact cls_of (ext_trans (ext_drew _) hb11) | exact cls_of (ext_trans (ext_trans (ext_drew _) hb11) hb12)) ((first | (go_at_call 15; refine (toLand_any wide0 high0 steep0 A0 c0 xs0 _ hn0 (hA0.ext (ext_trans hB (ext_drew _)))).mono ?_; rintro e w11 ⟨D7, rfl, fx7, hb11⟩) | (go_at_call 18; refine (eqLand_same wide0 high0 steep0 _ _ _ _ xs0 _ (by omega) (fx4.ext (ext_trans (ext_drew _) hb11)).fl fx7.fl).mono ?_; rintro e w12 ⟨rfl, hb12⟩)))
      have hb12q := ext_trans (ext_trans (ext_drew w10) hb11) hb12
      replace fx1 := fx1.ext hb12q
      replace fx2 := fx2.ext hb12q
      replace fr3_0 := fr3_0.ext hb12q
      replace fx4 := fx4.ext hb12q
      replace fx5 := fx5.ext hb12q
      replace fr6_0 := fr6_0.ext hb12q
      replace a0_0 := (hb12q.cell (p := ⟨(World.heap w).size, 0, none⟩) a0h).trans a0_0
      replace a0_1 := (hb12q.cell (p := ⟨(World.heap w).size, 1, none⟩) a0h).trans a0_1
      replace a0_2 := (hb12q.cell (p := ⟨(World.heap w).size, 2, none⟩) a0h).trans a0_2
      replace a0_3 := (hb12q.cell (p := ⟨(World.heap w).size, 3, none⟩) a0h).trans a0_3
      replace a0h := Nat.lt_of_lt_of_le a0h hb12q.size
      replace x0_0 := (hb12q.cell (p := ⟨(World.heap w6).size, 0, none⟩) x0h).trans x0_0
      replace x0_1 := (hb12q.cell (p := ⟨(World.heap w6).size, 1, none⟩) x0h).trans x0_1
      replace x0_2 := (hb12q.cell (p := ⟨(World.heap w6).size, 2, none⟩) x0h).trans x0_2
      replace x0_3 := (hb12q.cell (p := ⟨(World.heap w6).size, 3, none⟩) x0h).trans x0_3
      replace x0h := Nat.lt_of_lt_of_le x0h hb12q.size
      replace hB := ext_trans hB hb12q
      have hz12 := hb12q.size
      go_wp2_with fail
      ((with_reducible refine (toLegS_any A3 c3 xs3 w12 hn3 (hA3.ext hB)).mono ?_); rintro e w13 ⟨D8, rfl, fx8, hb13⟩)
      replace fx1 := fx1.ext hb13
      replace fx2 := fx2.ext hb13
      replace fr3_0 := fr3_0.ext hb13
      replace fx4 := fx4.ext hb13
      replace fx5 := fx5.ext hb13
      replace fr6_0 := fr6_0.ext hb13
      replace a0_0 := (hb13.cell (p := ⟨(World.heap w).size, 0, none⟩) a0h).trans a0_0
      replace a0_1 := (hb13.cell (p := ⟨(World.heap w).size, 1, none⟩) a0h).trans a0_1
      replace a0_2 := (hb13.cell (p := ⟨(World.heap w).size, 2, none⟩) a0h).trans a0_2
      replace a0_3 := (hb13.cell (p := ⟨(World.heap w).size, 3, none⟩) a0h).trans a0_3
      replace a0h := Nat.lt_of_lt_of_le a0h hb13.size
      replace x0_0 := (hb13.cell (p := ⟨(World.heap w6).size, 0, none⟩) x0h).trans x0_0
      replace x0_1 := (hb13.cell (p := ⟨(World.heap w6).size, 1, none⟩) x0h).trans x0_1
      replace x0_2 := (hb13.cell (p := ⟨(World.heap w6).size, 2, none⟩) x0h).trans x0_2
      replace x0_3 := (hb13.cell (p := ⟨(World.heap w6).size, 3, none⟩) x0h).trans x0_3
      replace x0h := Nat.lt_of_lt_of_le x0h hb13.size
      replace hB := ext_trans hB hb13
      have hz13 := hb13.size
      go_wp2_with fail
      ((with_reducible refine (eqLegS_same _ _ _ _ xs3 _ (by omega) fx5.fl fx8.fl).mono ?_); rintro e w14 ⟨rfl, hb14⟩)
      replace fx1 := fx1.ext hb14
      replace fx2 := fx2.ext hb14
      replace fr3_0 := fr3_0.ext hb14
      replace fx4 := fx4.ext hb14
      replace fx5 := fx5.ext hb14
      replace fr6_0 := fr6_0.ext hb14
      replace fx8 := fx8.ext hb14
      replace a0_0 := (hb14.cell (p := ⟨(World.heap w).size, 0, none⟩) a0h).trans a0_0
      replace a0_1 := (hb14.cell (p := ⟨(World.heap w).size, 1, none⟩) a0h).trans a0_1
      replace a0_2 := (hb14.cell (p := ⟨(World.heap w).size, 2, none⟩) a0h).trans a0_2
      replace a0_3 := (hb14.cell (p := ⟨(World.heap w).size, 3, none⟩) a0h).trans a0_3
      replace a0h := Nat.lt_of_lt_of_le a0h hb14.size
      replace x0_0 := (hb14.cell (p := ⟨(World.heap w6).size, 0, none⟩) x0h).trans x0_0
      replace x0_1 := (hb14.cell (p := ⟨(World.heap w6).size, 1, none⟩) x0h).trans x0_1
      replace x0_2 := (hb14.cell (p := ⟨(World.heap w6).size, 2, none⟩) x0h).trans x0_2
      replace x0_3 := (hb14.cell (p := ⟨(World.heap w6).size, 3, none⟩) x0h).trans x0_3
      replace x0h := Nat.lt_of_lt_of_le x0h hb14.size
      replace hB := ext_trans hB hb14
      have hz14 := hb14.size
      go_wp2_with fail
      ((with_reducible refine (markLand_any wide0 high0 steep0 _ _ _ _ (1) xs0 w14 (by omega) (by omega) (by omega) fx4).mono ?_); rintro e w15 ⟨rfl, nx15, ht15⟩)
      replace fr3_0 := fr3_0.touch ht15 (by omega)
      replace fx5 := fx5.touch ht15 (by omega)
      replace fr6_0 := fr6_0.touch ht15 (by omega)
      replace a0_0 := (ht15.cell (b := (World.heap w).size) (o := 0) a0h (by omega)).trans a0_0
      replace a0_1 := (ht15.cell (b := (World.heap w).size) (o := 1) a0h (by omega)).trans a0_1
      replace a0_2 := (ht15.cell (b := (World.heap w).size) (o := 2) a0h (by omega)).trans a0_2
      replace a0_3 := (ht15.cell (b := (World.heap w).size) (o := 3) a0h (by omega)).trans a0_3
      replace a0h := Nat.lt_of_lt_of_le a0h ht15.size
      replace x0_0 := (ht15.cell (b := (World.heap w6).size) (o := 0) x0h (by omega)).trans x0_0
      replace x0_1 := (ht15.cell (b := (World.heap w6).size) (o := 1) x0h (by omega)).trans x0_1
      replace x0_2 := (ht15.cell (b := (World.heap w6).size) (o := 2) x0h (by omega)).trans x0_2
      replace x0_3 := (ht15.cell (b := (World.heap w6).size) (o := 3) x0h (by omega)).trans x0_3
      replace x0h := Nat.lt_of_lt_of_le x0h ht15.size
      replace hB := ht15.below hB (by omega)
      have hz15 := ht15.size
      go_wp2_with fail
      ((with_reducible refine (markLegS_any _ _ _ _ (1 + (xs0.length : Int) * 4) xs3 w15 (by omega) (by omega) (by omega) fx5).mono ?_); rintro e w16 ⟨rfl, nx16, ht16⟩)
      replace fr3_0 := fr3_0.touch ht16 (by omega)
      replace fr6_0 := fr6_0.touch ht16 (by omega)
      replace a0_0 := (ht16.cell (b := (World.heap w).size) (o := 0) a0h (by omega)).trans a0_0
      replace a0_1 := (ht16.cell (b := (World.heap w).size) (o := 1) a0h (by omega)).trans a0_1
      replace a0_2 := (ht16.cell (b := (World.heap w).size) (o := 2) a0h (by omega)).trans a0_2
      replace a0_3 := (ht16.cell (b := (World.heap w).size) (o := 3) a0h (by omega)).trans a0_3
      replace a0h := Nat.lt_of_lt_of_le a0h ht16.size
      replace x0_0 := (ht16.cell (b := (World.heap w6).size) (o := 0) x0h (by omega)).trans x0_0
      replace x0_1 := (ht16.cell (b := (World.heap w6).size) (o := 1) x0h (by omega)).trans x0_1
      replace x0_2 := (ht16.cell (b := (World.heap w6).size) (o := 2) x0h (by omega)).trans x0_2
      replace x0_3 := (ht16.cell (b := (World.heap w6).size) (o := 3) x0h (by omega)).trans x0_3
      replace x0h := Nat.lt_of_lt_of_le x0h ht16.size
      replace hB := ht16.below hB (by omega)
      have hz16 := ht16.size
      have hk0 : ¬ (1 + (xs0.length : Int) * 4 + (xs3.length : Int) * 3 : Int) < 0 := by omega
      go_wp2_with fail
      ((with_reducible refine (eqLegS_same _ _ _ _ ys0 _ (by omega) fr6_0.fl fr3_0.fl).mono ?_); rintro e w17 ⟨rfl, hb17⟩)
      replace fr3_0 := fr3_0.ext hb17
      replace fr6_0 := fr6_0.ext hb17
      replace a0_0 := (hb17.cell (p := ⟨(World.heap w).size, 0, none⟩) a0h).trans a0_0
      replace a0_1 := (hb17.cell (p := ⟨(World.heap w).size, 1, none⟩) a0h).trans a0_1
      replace a0_2 := (hb17.cell (p := ⟨(World.heap w).size, 2, none⟩) a0h).trans a0_2
      replace a0_3 := (hb17.cell (p := ⟨(World.heap w).size, 3, none⟩) a0h).trans a0_3
      replace a0h := Nat.lt_of_lt_of_le a0h hb17.size
      replace x0_0 := (hb17.cell (p := ⟨(World.heap w6).size, 0, none⟩) x0h).trans x0_0
      replace x0_1 := (hb17.cell (p := ⟨(World.heap w6).size, 1, none⟩) x0h).trans x0_1
      replace x0_2 := (hb17.cell (p := ⟨(World.heap w6).size, 2, none⟩) x0h).trans x0_2
      replace x0_3 := (hb17.cell (p := ⟨(World.heap w6).size, 3, none⟩) x0h).trans x0_3
      replace x0h := Nat.lt_of_lt_of_le x0h hb17.size
      replace hB := ext_trans hB hb17
      have hz17 := hb17.size
      go_wp2_with fail
      ((with_reducible refine (markLegS_any _ _ _ _ (1) ys0 w17 (by omega) (by omega) (by omega) fr6_0).mono ?_); rintro e w18 ⟨rfl, nr0, ht18⟩)
      replace fr3_0 := fr3_0.touch ht18 (by omega)
      replace a0_0 := (ht18.cell (b := (World.heap w).size) (o := 0) a0h (by omega)).trans a0_0
      replace a0_1 := (ht18.cell (b := (World.heap w).size) (o := 1) a0h (by omega)).trans a0_1
      replace a0_2 := (ht18.cell (b := (World.heap w).size) (o := 2) a0h (by omega)).trans a0_2
      replace a0_3 := (ht18.cell (b := (World.heap w).size) (o := 3) a0h (by omega)).trans a0_3
      replace a0h := Nat.lt_of_lt_of_le a0h ht18.size
      replace x0_0 := (ht18.cell (b := (World.heap w6).size) (o := 0) x0h (by omega)).trans x0_0
      replace x0_1 := (ht18.cell (b := (World.heap w6).size) (o := 1) x0h (by omega)).trans x0_1
      replace x0_2 := (ht18.cell (b := (World.heap w6).size) (o := 2) x0h (by omega)).trans x0_2
      replace x0_3 := (ht18.cell (b := (World.heap w6).size) (o := 3) x0h (by omega)).trans x0_3
      replace x0h := Nat.lt_of_lt_of_le x0h ht18.size
      replace hB := ht18.below hB (by omega)
      have hz18 := ht18.size
      have hq0 : ¬ (1 + (ys0.length : Int) * 3 : Int) < 0 := by omega
      go_wp2_with fail
      ((with_reducible refine (heldLegS_any _ ys0.length _ _ _ (1) w18 (by omega) (by omega) (by omega) nr0).mono ?_); rintro e w9 ⟨rfl, rfl⟩)
      go_wp2_with fail
      ((with_reducible refine (toLand_any wide0 high0 steep0 A0 c0 xs0 w18 hn0 (hA0.ext hB)).mono ?_); rintro e w19 ⟨D9, rfl, fx9, hb19⟩)
      replace fr3_0 := fr3_0.ext hb19
      replace nr0 := nr0.ext hb19
      replace a0_0 := (hb19.cell (p := ⟨(World.heap w).size, 0, none⟩) a0h).trans a0_0
      replace a0_1 := (hb19.cell (p := ⟨(World.heap w).size, 1, none⟩) a0h).trans a0_1
      replace a0_2 := (hb19.cell (p := ⟨(World.heap w).size, 2, none⟩) a0h).trans a0_2
      replace a0_3 := (hb19.cell (p := ⟨(World.heap w).size, 3, none⟩) a0h).trans a0_3
      replace a0h := Nat.lt_of_lt_of_le a0h hb19.size
      replace x0_0 := (hb19.cell (p := ⟨(World.heap w6).size, 0, none⟩) x0h).trans x0_0
      replace x0_1 := (hb19.cell (p := ⟨(World.heap w6).size, 1, none⟩) x0h).trans x0_1
      replace x0_2 := (hb19.cell (p := ⟨(World.heap w6).size, 2, none⟩) x0h).trans x0_2
      replace x0_3 := (hb19.cell (p := ⟨(World.heap w6).size, 3, none⟩) x0h).trans x0_3
      replace x0h := Nat.lt_of_lt_of_le x0h hb19.size
      replace hB := ext_trans hB hb19
      have hz19 := hb19.size
      go_wp2_with fail
      ((with_reducible refine (toLegS_any A3 c3 xs3 w19 hn3 (hA3.ext hB)).mono ?_); rintro e w20 ⟨D10, rfl, fx10, hb20⟩)
      replace fr3_0 := fr3_0.ext hb20
      replace nr0 := nr0.ext hb20
      replace fx9 := fx9.ext hb20
      replace a0_0 := (hb20.cell (p := ⟨(World.heap w).size, 0, none⟩) a0h).trans a0_0
      replace a0_1 := (hb20.cell (p := ⟨(World.heap w).size, 1, none⟩) a0h).trans a0_1
      replace a0_2 := (hb20.cell (p := ⟨(World.heap w).size, 2, none⟩) a0h).trans a0_2
      replace a0_3 := (hb20.cell (p := ⟨(World.heap w).size, 3, none⟩) a0h).trans a0_3
      replace a0h := Nat.lt_of_lt_of_le a0h hb20.size
      replace x0_0 := (hb20.cell (p := ⟨(World.heap w6).size, 0, none⟩) x0h).trans x0_0
      replace x0_1 := (hb20.cell (p := ⟨(World.heap w6).size, 1, none⟩) x0h).trans x0_1
      replace x0_2 := (hb20.cell (p := ⟨(World.heap w6).size, 2, none⟩) x0h).trans x0_2
      replace x0_3 := (hb20.cell (p := ⟨(World.heap w6).size, 3, none⟩) x0h).trans x0_3
      replace x0h := Nat.lt_of_lt_of_le x0h hb20.size
      replace hB := ext_trans hB hb20
      have hz20 := hb20.size
      go_wp2_with fail
      ((with_reducible refine (HIMPL.out _ _ w20 fx9.fl fx10.fl).mono ?_); rintro e w21 ⟨R11_0, d11_0, rfl, fr11_0, hb21⟩)
      replace fr3_0 := fr3_0.ext hb21
      replace nr0 := nr0.ext hb21
      replace fx9 := fx9.ext hb21
      replace fx10 := fx10.ext hb21
      replace a0_0 := (hb21.cell (p := ⟨(World.heap w).size, 0, none⟩) a0h).trans a0_0
      replace a0_1 := (hb21.cell (p := ⟨(World.heap w).size, 1, none⟩) a0h).trans a0_1
      replace a0_2 := (hb21.cell (p := ⟨(World.heap w).size, 2, none⟩) a0h).trans a0_2
      replace a0_3 := (hb21.cell (p := ⟨(World.heap w).size, 3, none⟩) a0h).trans a0_3
      replace a0h := Nat.lt_of_lt_of_le a0h hb21.size
      replace x0_0 := (hb21.cell (p := ⟨(World.heap w6).size, 0, none⟩) x0h).trans x0_0
      replace x0_1 := (hb21.cell (p := ⟨(World.heap w6).size, 1, none⟩) x0h).trans x0_1
      replace x0_2 := (hb21.cell (p := ⟨(World.heap w6).size, 2, none⟩) x0h).trans x0_2
      replace x0_3 := (hb21.cell (p := ⟨(World.heap w6).size, 3, none⟩) x0h).trans x0_3
      replace x0h := Nat.lt_of_lt_of_le x0h hb21.size
      replace hB := ext_trans hB hb21
      have hz21 := hb21.size
      go_wp2_with fail
      ((with_reducible refine (eqLegS_same _ _ _ _ ys0 _ (by omega) fr11_0.fl fr3_0.fl).mono ?_); rintro e w22 ⟨rfl, hb22⟩)
      replace fr3_0 := fr3_0.ext hb22
      replace nr0 := nr0.ext hb22
      replace fx9 := fx9.ext hb22
      replace fx10 := fx10.ext hb22
      replace fr11_0 := fr11_0.ext hb22
      replace a0_0 := (hb22.cell (p := ⟨(World.heap w).size, 0, none⟩) a0h).trans a0_0
      replace a0_1 := (hb22.cell (p := ⟨(World.heap w).size, 1, none⟩) a0h).trans a0_1
      replace a0_2 := (hb22.cell (p := ⟨(World.heap w).size, 2, none⟩) a0h).trans a0_2
      replace a0_3 := (hb22.cell (p := ⟨(World.heap w).size, 3, none⟩) a0h).trans a0_3
      replace a0h := Nat.lt_of_lt_of_le a0h hb22.size
      replace x0_0 := (hb22.cell (p := ⟨(World.heap w6).size, 0, none⟩) x0h).trans x0_0
      replace x0_1 := (hb22.cell (p := ⟨(World.heap w6).size, 1, none⟩) x0h).trans x0_1
      replace x0_2 := (hb22.cell (p := ⟨(World.heap w6).size, 2, none⟩) x0h).trans x0_2
      replace x0_3 := (hb22.cell (p := ⟨(World.heap w6).size, 3, none⟩) x0h).trans x0_3
      replace x0h := Nat.lt_of_lt_of_le x0h hb22.size
      replace hB := ext_trans hB hb22
      have hz22 := hb22.size
      go_wp2_with fail
      ((with_reducible refine (heldLegS_any _ ys0.length _ _ _ (1) w22 (by omega) (by omega) (by omega) nr0).mono ?_); rintro e w9 ⟨rfl, rfl⟩)
      go_wp2
      go_ret
      exact ⟨rfl, hB⟩

set_option maxRecDepth 100000 in
theorem FnExactSafeLegs_holds : Rows.FnExactSafeLegsSaid :=
  OpenClaim.holds_of_wide 5 Try.f5 rfl rfl rfl rfl rfl rfl rfl ⟨rfl, rfl, rfl, rfl, rfl⟩ rfl rfl rfl rfl rfl (by kernel_rfl) Try.func5 (by kernel_rfl)
    (of_decide_eq_true (by kernel_rfl)) (by unfold Func.isWrapper; first | (rw [if_pos (by decide +kernel)]; kernel_rfl) | (rw [if_neg (by decide +kernel)]; exact ⟨rfl, rfl⟩))
    (fun os started H enc _ => by
      refine law_lifted (s := Rows.fnExactSafeLegsSpec) (conds := []) os started H enc (by kernel_rfl) Try.func5 (by kernel_rfl) rfl rfl Try.underlying4
        (ChangeSpec.witness6 (enc := enc) (C := Try.checked) false ⟨#[], #[.agg #[.int .i64 0, .int .i64 0, .slice none 0 0, .int .i64 0], .int .i64 0, .int .i64 0, .slice none 0 0, .int .i64 0], []⟩ 8 (by kernel_rfl) (by kernel_rfl) (by kernel_rfl) (by kernel_rfl)) ?_
      intro W base args ds ps hval hA
      rw [Try.params5] at hA hval
      obtain ⟨v0, vs0, d0, ds0, p0, q0, hargs, rfl, rfl, h0, r0⟩ := trodAll_cons hA
      obtain ⟨v1, vs1, d1, ds1, p1, q1, rfl, rfl, rfl, h1, r1⟩ := trodAll_cons r0
      obtain ⟨v2, vs2, d2, ds2, p2, q2, rfl, rfl, rfl, h2, r2⟩ := trodAll_cons r1
      obtain ⟨v3, vs3, d3, ds3, p3, q3, rfl, rfl, rfl, h3, r3⟩ := trodAll_cons r2
      obtain ⟨v4, vs4, d4, ds4, p4, q4, rfl, rfl, rfl, h4, r4⟩ := trodAll_cons r3
      obtain ⟨rfl, rfl, rfl⟩ := trodAll_nil r4
      obtain rfl : args = #[v0, v1, v2, v3, v4] := by cases args; simp_all
      refine ⟨rfl, ?_⟩
      obtain ⟨f00, f10, f20, f30, y00, y10, y20, y30, m0, rfl, rfl, rfl, hy00, hy10, hy20, hy30⟩ := open_agg4 Try.underlying24 (by kernel_rfl) (by kernel_rfl) (hval 0 24 v0 rfl rfl) h0
      obtain ⟨a00, e00, _, _⟩ := DataW.trod_int Try.underlying3 hy00
      obtain ⟨a10, e10, _, _⟩ := DataW.trod_int Try.underlying3 hy10
      obtain ⟨a30, e30, _, _⟩ := DataW.trod_int Try.underlying3 hy30
      obtain ⟨A0, c0, xs0, rfl, hl0, hf0⟩ := open_core (f := Four.ints) Try.underlying22 (by kernel_rfl) (by decide) (intElem_array Try.underlying106 Try.underlying3 (by kernel_rfl)) Four.mk_ints hy20
      simp at e00 e10 e30
      subst e00 e10 e30
      obtain ⟨z1, rfl, _, _, wf1⟩ := open_int Try.underlying3 (hval 1 3 v1 rfl rfl) h1
      obtain ⟨z2, rfl, _, _, wf2⟩ := open_int Try.underlying3 (hval 2 3 v2 rfl rfl) h2
      obtain ⟨A3, c3, xs3, rfl, hl3, hf3⟩ := open_flat (f := Leg.ints) Try.underlying25 (by kernel_rfl) (by decide) (intElem_struct Try.underlying79 (by kernel_rfl) rfl (intfields_of (by kernel_rfl))) Leg.mk_ints (hval 3 25 v3 rfl rfl) h3
      obtain ⟨z4, rfl, _, _, wf4⟩ := open_int Try.underlying3 (hval 4 3 v4 rfl rfl) h4
      exact fnSafeLegs_any _ _ _ A0 c0 xs0 _ _ A3 c3 xs3 _ W hl0 hf0 hl3 hf3)
end Go.Proofs.Ytbmdhkdlhohjhaa
