/- The program's RowsDone returns what the reference's returns, for all arguments. No condition. -/
import Derived.Test.YtbldoidcjkffdaaLaw
import Derived.Test.YtbldoidcjkffdaaOpen
import Derived.Test.YtbldoidcjkffdaaLst
import Derived.Test.YtbldoidcjkffdaaFamScan
import Derived.Test.YtbldoidcjkffdaaBoxLaw
import Derived.Test.YtbldoidcjkffdaaMarkBox
import Derived.Test.YtbldoidcjkffdaaFamInt
import Derived.Test.YtbldoidcjkffdaaDoneI
import Derived.Test.YtbldoidcjkffdaaDoneS
import Derived.Lib.SmallJoins
namespace Go.Proofs.Ytbldoidcjkffdaa
open Go.ChangeShapes Go.WideShapes Go.ChangeAt Go.RowKit Go.Joins
set_option linter.unusedVariables false
set_option linter.unusedSimpArgs false

set_option maxHeartbeats 8000000 in
set_option maxRecDepth 100000 in
theorem fnRowsDone_any (rows0 cols0 : Int) (A0 : Option Addr) (c0 : Nat) (xs0 : List Tile) (w : World) (hm0 : xs0.length ≤ 9223372036854775807) (hA0 : Fl Tile.ints 3 w A0 xs0) :
    Calls Try.prog 4 #[.agg #[Value.int .i64 rows0, Value.int .i64 cols0, Value.slice A0 xs0.length c0]] w fun e w' => e = .returned (.bool true) ∧ Below w.heap.size w w' := by
  by_cases hbig0 : (1048576 : Int) < (xs0.length : Int)
  · skip
    have hB := Below.refl w.heap.size w
    obtain ⟨U1, hU1, hD1, hs1, hv1, _⟩ := box_world w #[Value.int .i64 rows0, Value.int .i64 cols0, Value.slice A0 xs0.length c0] 24
    replace hB := ext_trans hB hD1
    have hz1 := hD1.size
    have a0_0 : World.cell? U1 ⟨(World.heap w).size, 0, none⟩ = some (Value.int .i64 rows0) := hv1 0
    have a0_1 : World.cell? U1 ⟨(World.heap w).size, 1, none⟩ = some (Value.int .i64 cols0) := hv1 1
    have a0_2 : World.cell? U1 ⟨(World.heap w).size, 2, none⟩ = some (Value.slice A0 xs0.length c0) := hv1 2
    have a0h := hs1
    clear hv1
    go_enter Try.func4, Try.ntmps4
    go_wp2_with fail
    clear hU1
    ((with_reducible refine (szScanG_no rows0 cols0 A0 xs0.length c0 _ (1048576) (by omega) (by omega) hm0 (by omega)).mono ?_); rintro e w2 ⟨rfl, hb2⟩)
    replace a0_0 := (hb2.cell (p := ⟨(World.heap w).size, 0, none⟩) a0h).trans a0_0
    replace a0_1 := (hb2.cell (p := ⟨(World.heap w).size, 1, none⟩) a0h).trans a0_1
    replace a0_2 := (hb2.cell (p := ⟨(World.heap w).size, 2, none⟩) a0h).trans a0_2
    replace a0h := Nat.lt_of_lt_of_le a0h hb2.size
    replace hB := ext_trans hB hb2
    have hz2 := hb2.size
    go_wp2
    go_ret
    exact ⟨rfl, hB⟩
  · have hn0 : xs0.length ≤ 1048576 := by omega
    have hl0 : ¬ (1048576 : Int) - (xs0.length : Int) < 0 := by omega
    have hspec := fun (D0 : Nat) (W : World) (h0 : Fl Tile.ints 3 W (some ⟨D0, 0, none⟩) xs0) => specRowsDone_any rows0 cols0 (some ⟨D0, 0, none⟩) xs0.length xs0 W hn0 h0
    have himpl := fun (D0 : Nat) (W : World) (h0 : Fl Tile.ints 3 W (some ⟨D0, 0, none⟩) xs0) => rowsDone_any rows0 cols0 (some ⟨D0, 0, none⟩) xs0.length xs0 W hn0 h0
    have hyl0 : (sel (Scn rows0 cols0 xs0) (doneTo xs0 cols0 rows0.toNat)).length ≤ 1048576 := done_len rows0 cols0 xs0 _ (fun h => h.2)
    generalize sel (Scn rows0 cols0 xs0) (doneTo xs0 cols0 rows0.toNat) = ys0 at hspec himpl hyl0
    generalize tb (Scn rows0 cols0 xs0) = ok0 at hspec himpl
    have HSPEC := Lib.hid hspec
    have HIMPL := Lib.hid himpl
    clear hspec himpl
    have hB := Below.refl w.heap.size w
    obtain ⟨U1, hU1, hD1, hs1, hv1, _⟩ := box_world w #[Value.int .i64 rows0, Value.int .i64 cols0, Value.slice A0 xs0.length c0] 24
    replace hB := ext_trans hB hD1
    have hz1 := hD1.size
    have a0_0 : World.cell? U1 ⟨(World.heap w).size, 0, none⟩ = some (Value.int .i64 rows0) := hv1 0
    have a0_1 : World.cell? U1 ⟨(World.heap w).size, 1, none⟩ = some (Value.int .i64 cols0) := hv1 1
    have a0_2 : World.cell? U1 ⟨(World.heap w).size, 2, none⟩ = some (Value.slice A0 xs0.length c0) := hv1 2
    have a0h := hs1
    clear hv1
    go_enter Try.func4, Try.ntmps4
    go_wp2_with fail
    clear hU1
    ((with_reducible refine (szScanG_ok rows0 cols0 A0 xs0.length c0 _ (1048576) (by omega) (by omega) hm0 (by omega)).mono ?_); rintro e w2 ⟨rfl, hb2⟩)
    replace a0_0 := (hb2.cell (p := ⟨(World.heap w).size, 0, none⟩) a0h).trans a0_0
    replace a0_1 := (hb2.cell (p := ⟨(World.heap w).size, 1, none⟩) a0h).trans a0_1
    replace a0_2 := (hb2.cell (p := ⟨(World.heap w).size, 2, none⟩) a0h).trans a0_2
    replace a0h := Nat.lt_of_lt_of_le a0h hb2.size
    replace hB := ext_trans hB hb2
    have hz2 := hb2.size
    go_wp2_with fail
    ((with_reducible refine (toScan_any rows0 cols0 A0 c0 xs0 w2 hn0 (hA0.ext hB)).mono ?_); rintro e w3 ⟨D1, rfl, fx1, hb3⟩)
    replace a0_0 := (hb3.cell (p := ⟨(World.heap w).size, 0, none⟩) a0h).trans a0_0
    replace a0_1 := (hb3.cell (p := ⟨(World.heap w).size, 1, none⟩) a0h).trans a0_1
    replace a0_2 := (hb3.cell (p := ⟨(World.heap w).size, 2, none⟩) a0h).trans a0_2
    replace a0h := Nat.lt_of_lt_of_le a0h hb3.size
    replace hB := ext_trans hB hb3
    have hz3 := hb3.size
    go_wp2_with fail
    ((with_reducible refine (HSPEC.out _ w3 fx1.fl).mono ?_); rintro e w4 ⟨R2_0, d2_0, rfl, fr2_0, hb4⟩)
    replace fx1 := fx1.ext hb4
    replace a0_0 := (hb4.cell (p := ⟨(World.heap w).size, 0, none⟩) a0h).trans a0_0
    replace a0_1 := (hb4.cell (p := ⟨(World.heap w).size, 1, none⟩) a0h).trans a0_1
    replace a0_2 := (hb4.cell (p := ⟨(World.heap w).size, 2, none⟩) a0h).trans a0_2
    replace a0h := Nat.lt_of_lt_of_le a0h hb4.size
    replace hB := ext_trans hB hb4
    have hz4 := hb4.size
    go_wp2_with fail
    ((with_reducible refine (toScan_any rows0 cols0 A0 c0 xs0 w4 hn0 (hA0.ext hB)).mono ?_); rintro e w5 ⟨D3, rfl, fx3, hb5⟩)
    replace fx1 := fx1.ext hb5
    replace fr2_0 := fr2_0.ext hb5
    replace a0_0 := (hb5.cell (p := ⟨(World.heap w).size, 0, none⟩) a0h).trans a0_0
    replace a0_1 := (hb5.cell (p := ⟨(World.heap w).size, 1, none⟩) a0h).trans a0_1
    replace a0_2 := (hb5.cell (p := ⟨(World.heap w).size, 2, none⟩) a0h).trans a0_2
    replace a0h := Nat.lt_of_lt_of_le a0h hb5.size
    replace hB := ext_trans hB hb5
    have hz5 := hb5.size
    obtain ⟨U2, hU2, hD2, hs2, hv2, _⟩ := box_world w5 #[Value.int .i64 rows0, Value.int .i64 cols0, Value.slice (some ⟨D3, 0, none⟩) xs0.length xs0.length] 28
    replace fx1 := fx1.ext hD2
    replace fr2_0 := fr2_0.ext hD2
    replace fx3 := fx3.ext hD2
    replace a0_0 := (hD2.cell (p := ⟨(World.heap w).size, 0, none⟩) a0h).trans a0_0
    replace a0_1 := (hD2.cell (p := ⟨(World.heap w).size, 1, none⟩) a0h).trans a0_1
    replace a0_2 := (hD2.cell (p := ⟨(World.heap w).size, 2, none⟩) a0h).trans a0_2
    replace a0h := Nat.lt_of_lt_of_le a0h hD2.size
    replace hB := ext_trans hB hD2
    have hz6 := hD2.size
    have x0_0 : World.cell? U2 ⟨(World.heap w5).size, 0, none⟩ = some (Value.int .i64 rows0) := hv2 0
    have x0_1 : World.cell? U2 ⟨(World.heap w5).size, 1, none⟩ = some (Value.int .i64 cols0) := hv2 1
    have x0_2 : World.cell? U2 ⟨(World.heap w5).size, 2, none⟩ = some (Value.slice (some ⟨D3, 0, none⟩) xs0.length xs0.length) := hv2 2
    have x0h := hs2
    clear hv2
    go_wp2_with fail
    clear hU2
    ((with_reducible refine (HIMPL.out _ U2 fx3.fl).mono ?_); rintro e w7 ⟨R4_0, d4_0, rfl, fr4_0, hb7⟩)
    replace fx1 := fx1.ext hb7
    replace fr2_0 := fr2_0.ext hb7
    replace fx3 := fx3.ext hb7
    replace a0_0 := (hb7.cell (p := ⟨(World.heap w).size, 0, none⟩) a0h).trans a0_0
    replace a0_1 := (hb7.cell (p := ⟨(World.heap w).size, 1, none⟩) a0h).trans a0_1
    replace a0_2 := (hb7.cell (p := ⟨(World.heap w).size, 2, none⟩) a0h).trans a0_2
    replace a0h := Nat.lt_of_lt_of_le a0h hb7.size
    replace x0_0 := (hb7.cell (p := ⟨(World.heap w5).size, 0, none⟩) x0h).trans x0_0
    replace x0_1 := (hb7.cell (p := ⟨(World.heap w5).size, 1, none⟩) x0h).trans x0_1
    replace x0_2 := (hb7.cell (p := ⟨(World.heap w5).size, 2, none⟩) x0h).trans x0_2
    replace x0h := Nat.lt_of_lt_of_le x0h hb7.size
    replace hB := ext_trans hB hb7
    have hz7 := hb7.size
    go_wp2_with fail
    ((with_reducible refine (eqIntS_same _ _ _ _ ys0 _ (by omega) fr4_0.fl fr2_0.fl).mono ?_); rintro e w8 ⟨rfl, hb8⟩)
    replace fx1 := fx1.ext hb8
    replace fr2_0 := fr2_0.ext hb8
    replace fx3 := fx3.ext hb8
    replace fr4_0 := fr4_0.ext hb8
    replace a0_0 := (hb8.cell (p := ⟨(World.heap w).size, 0, none⟩) a0h).trans a0_0
    replace a0_1 := (hb8.cell (p := ⟨(World.heap w).size, 1, none⟩) a0h).trans a0_1
    replace a0_2 := (hb8.cell (p := ⟨(World.heap w).size, 2, none⟩) a0h).trans a0_2
    replace a0h := Nat.lt_of_lt_of_le a0h hb8.size
    replace x0_0 := (hb8.cell (p := ⟨(World.heap w5).size, 0, none⟩) x0h).trans x0_0
    replace x0_1 := (hb8.cell (p := ⟨(World.heap w5).size, 1, none⟩) x0h).trans x0_1
    replace x0_2 := (hb8.cell (p := ⟨(World.heap w5).size, 2, none⟩) x0h).trans x0_2
    replace x0h := Nat.lt_of_lt_of_le x0h hb8.size
    replace hB := ext_trans hB hb8
    have hz8 := hb8.size
    go_wp2_with fail
    go_region_held3 (fun w' => Below (World.heap w8).size w8 w' ∧ ∀ b o, b < (World.heap w8).size → w'.cell? ⟨b, o, none⟩ = World.cell? w8 ⟨b, o, none⟩) (first | exact cls_of (ext_drew _) | exact cls_of (ext_trans (ext_drew _) hb9) | exact cls_of (ext_trans (ext_trans (ext_drew _) hb9) hb10)) ((first | (go_at_call 12; refine (toScan_any rows0 cols0 A0 c0 xs0 _ hn0 (hA0.ext (ext_trans hB (ext_drew _)))).mono ?_; rintro e w9 ⟨D5, rfl, fx5, hb9⟩) | (go_at_call 14; refine (eqScan_same rows0 cols0 _ _ _ _ xs0 _ (by omega) (fx3.ext (ext_trans (ext_drew _) hb9)).fl fx5.fl).mono ?_; rintro e w10 ⟨rfl, hb10⟩)))
    have hb10q := ext_trans (ext_trans (ext_drew w8) hb9) hb10
    replace fx1 := fx1.ext hb10q
    replace fr2_0 := fr2_0.ext hb10q
    replace fx3 := fx3.ext hb10q
    replace fr4_0 := fr4_0.ext hb10q
    replace a0_0 := (hb10q.cell (p := ⟨(World.heap w).size, 0, none⟩) a0h).trans a0_0
    replace a0_1 := (hb10q.cell (p := ⟨(World.heap w).size, 1, none⟩) a0h).trans a0_1
    replace a0_2 := (hb10q.cell (p := ⟨(World.heap w).size, 2, none⟩) a0h).trans a0_2
    replace a0h := Nat.lt_of_lt_of_le a0h hb10q.size
    replace x0_0 := (hb10q.cell (p := ⟨(World.heap w5).size, 0, none⟩) x0h).trans x0_0
    replace x0_1 := (hb10q.cell (p := ⟨(World.heap w5).size, 1, none⟩) x0h).trans x0_1
    replace x0_2 := (hb10q.cell (p := ⟨(World.heap w5).size, 2, none⟩) x0h).trans x0_2
    replace x0h := Nat.lt_of_lt_of_le x0h hb10q.size
    replace hB := ext_trans hB hb10q
    have hz10 := hb10q.size
    go_wp2_with fail
    ((with_reducible refine (markScan_any rows0 cols0 _ _ _ _ (1) xs0 w10 (by omega) (by omega) (by omega) fx3).mono ?_); rintro e w11 ⟨rfl, nx11, ht11⟩)
    replace fr2_0 := fr2_0.touch ht11 (by omega)
    replace fr4_0 := fr4_0.touch ht11 (by omega)
    replace a0_0 := (ht11.cell (b := (World.heap w).size) (o := 0) a0h (by omega)).trans a0_0
    replace a0_1 := (ht11.cell (b := (World.heap w).size) (o := 1) a0h (by omega)).trans a0_1
    replace a0_2 := (ht11.cell (b := (World.heap w).size) (o := 2) a0h (by omega)).trans a0_2
    replace a0h := Nat.lt_of_lt_of_le a0h ht11.size
    replace x0_0 := (ht11.cell (b := (World.heap w5).size) (o := 0) x0h (by omega)).trans x0_0
    replace x0_1 := (ht11.cell (b := (World.heap w5).size) (o := 1) x0h (by omega)).trans x0_1
    replace x0_2 := (ht11.cell (b := (World.heap w5).size) (o := 2) x0h (by omega)).trans x0_2
    replace x0h := Nat.lt_of_lt_of_le x0h ht11.size
    replace hB := ht11.below hB (by omega)
    have hz11 := ht11.size
    have hk0 : ¬ (1 + (xs0.length : Int) * 3 : Int) < 0 := by omega
    go_wp2_with fail
    ((with_reducible refine (eqIntS_same _ _ _ _ ys0 _ (by omega) fr4_0.fl fr2_0.fl).mono ?_); rintro e w12 ⟨rfl, hb12⟩)
    replace fr2_0 := fr2_0.ext hb12
    replace fr4_0 := fr4_0.ext hb12
    replace a0_0 := (hb12.cell (p := ⟨(World.heap w).size, 0, none⟩) a0h).trans a0_0
    replace a0_1 := (hb12.cell (p := ⟨(World.heap w).size, 1, none⟩) a0h).trans a0_1
    replace a0_2 := (hb12.cell (p := ⟨(World.heap w).size, 2, none⟩) a0h).trans a0_2
    replace a0h := Nat.lt_of_lt_of_le a0h hb12.size
    replace x0_0 := (hb12.cell (p := ⟨(World.heap w5).size, 0, none⟩) x0h).trans x0_0
    replace x0_1 := (hb12.cell (p := ⟨(World.heap w5).size, 1, none⟩) x0h).trans x0_1
    replace x0_2 := (hb12.cell (p := ⟨(World.heap w5).size, 2, none⟩) x0h).trans x0_2
    replace x0h := Nat.lt_of_lt_of_le x0h hb12.size
    replace hB := ext_trans hB hb12
    have hz12 := hb12.size
    go_wp2_with fail
    ((with_reducible refine (markIntS_any _ _ _ _ (1) ys0 w12 (by omega) (by omega) (by omega) fr4_0).mono ?_); rintro e w13 ⟨rfl, nr0, ht13⟩)
    replace fr2_0 := fr2_0.touch ht13 (by omega)
    replace a0_0 := (ht13.cell (b := (World.heap w).size) (o := 0) a0h (by omega)).trans a0_0
    replace a0_1 := (ht13.cell (b := (World.heap w).size) (o := 1) a0h (by omega)).trans a0_1
    replace a0_2 := (ht13.cell (b := (World.heap w).size) (o := 2) a0h (by omega)).trans a0_2
    replace a0h := Nat.lt_of_lt_of_le a0h ht13.size
    replace x0_0 := (ht13.cell (b := (World.heap w5).size) (o := 0) x0h (by omega)).trans x0_0
    replace x0_1 := (ht13.cell (b := (World.heap w5).size) (o := 1) x0h (by omega)).trans x0_1
    replace x0_2 := (ht13.cell (b := (World.heap w5).size) (o := 2) x0h (by omega)).trans x0_2
    replace x0h := Nat.lt_of_lt_of_le x0h ht13.size
    replace hB := ht13.below hB (by omega)
    have hz13 := ht13.size
    have hq0 : ¬ (1 + (ys0.length : Int) : Int) < 0 := by omega
    go_wp2_with fail
    ((with_reducible refine (heldIntS_any _ ys0.length _ _ _ (1) w13 (by omega) (by omega) (by omega) nr0).mono ?_); rintro e w9 ⟨rfl, rfl⟩)
    go_wp2_with fail
    ((with_reducible refine (toScan_any rows0 cols0 A0 c0 xs0 w13 hn0 (hA0.ext hB)).mono ?_); rintro e w14 ⟨D6, rfl, fx6, hb14⟩)
    replace fr2_0 := fr2_0.ext hb14
    replace nr0 := nr0.ext hb14
    replace a0_0 := (hb14.cell (p := ⟨(World.heap w).size, 0, none⟩) a0h).trans a0_0
    replace a0_1 := (hb14.cell (p := ⟨(World.heap w).size, 1, none⟩) a0h).trans a0_1
    replace a0_2 := (hb14.cell (p := ⟨(World.heap w).size, 2, none⟩) a0h).trans a0_2
    replace a0h := Nat.lt_of_lt_of_le a0h hb14.size
    replace x0_0 := (hb14.cell (p := ⟨(World.heap w5).size, 0, none⟩) x0h).trans x0_0
    replace x0_1 := (hb14.cell (p := ⟨(World.heap w5).size, 1, none⟩) x0h).trans x0_1
    replace x0_2 := (hb14.cell (p := ⟨(World.heap w5).size, 2, none⟩) x0h).trans x0_2
    replace x0h := Nat.lt_of_lt_of_le x0h hb14.size
    replace hB := ext_trans hB hb14
    have hz14 := hb14.size
    go_wp2_with fail
    ((with_reducible refine (HIMPL.out _ w14 fx6.fl).mono ?_); rintro e w15 ⟨R7_0, d7_0, rfl, fr7_0, hb15⟩)
    replace fr2_0 := fr2_0.ext hb15
    replace nr0 := nr0.ext hb15
    replace fx6 := fx6.ext hb15
    replace a0_0 := (hb15.cell (p := ⟨(World.heap w).size, 0, none⟩) a0h).trans a0_0
    replace a0_1 := (hb15.cell (p := ⟨(World.heap w).size, 1, none⟩) a0h).trans a0_1
    replace a0_2 := (hb15.cell (p := ⟨(World.heap w).size, 2, none⟩) a0h).trans a0_2
    replace a0h := Nat.lt_of_lt_of_le a0h hb15.size
    replace x0_0 := (hb15.cell (p := ⟨(World.heap w5).size, 0, none⟩) x0h).trans x0_0
    replace x0_1 := (hb15.cell (p := ⟨(World.heap w5).size, 1, none⟩) x0h).trans x0_1
    replace x0_2 := (hb15.cell (p := ⟨(World.heap w5).size, 2, none⟩) x0h).trans x0_2
    replace x0h := Nat.lt_of_lt_of_le x0h hb15.size
    replace hB := ext_trans hB hb15
    have hz15 := hb15.size
    go_wp2_with fail
    ((with_reducible refine (eqIntS_same _ _ _ _ ys0 _ (by omega) fr7_0.fl fr2_0.fl).mono ?_); rintro e w16 ⟨rfl, hb16⟩)
    replace fr2_0 := fr2_0.ext hb16
    replace nr0 := nr0.ext hb16
    replace fx6 := fx6.ext hb16
    replace fr7_0 := fr7_0.ext hb16
    replace a0_0 := (hb16.cell (p := ⟨(World.heap w).size, 0, none⟩) a0h).trans a0_0
    replace a0_1 := (hb16.cell (p := ⟨(World.heap w).size, 1, none⟩) a0h).trans a0_1
    replace a0_2 := (hb16.cell (p := ⟨(World.heap w).size, 2, none⟩) a0h).trans a0_2
    replace a0h := Nat.lt_of_lt_of_le a0h hb16.size
    replace x0_0 := (hb16.cell (p := ⟨(World.heap w5).size, 0, none⟩) x0h).trans x0_0
    replace x0_1 := (hb16.cell (p := ⟨(World.heap w5).size, 1, none⟩) x0h).trans x0_1
    replace x0_2 := (hb16.cell (p := ⟨(World.heap w5).size, 2, none⟩) x0h).trans x0_2
    replace x0h := Nat.lt_of_lt_of_le x0h hb16.size
    replace hB := ext_trans hB hb16
    have hz16 := hb16.size
    go_wp2_with fail
    ((with_reducible refine (heldIntS_any _ ys0.length _ _ _ (1) w16 (by omega) (by omega) (by omega) nr0).mono ?_); rintro e w9 ⟨rfl, rfl⟩)
    go_wp2
    go_ret
    exact ⟨rfl, hB⟩

set_option maxRecDepth 100000 in
theorem FnExactRowsDone_holds : Rows.FnExactRowsDoneSaid :=
  OpenClaim.holds_of_wide 4 Try.f4 rfl rfl rfl rfl rfl rfl rfl ⟨rfl, rfl, rfl, rfl, rfl⟩ rfl rfl rfl rfl rfl (by kernel_rfl) Try.func4 (by kernel_rfl)
    (of_decide_eq_true (by kernel_rfl)) (by unfold Func.isWrapper; first | (rw [if_pos (by decide +kernel)]; kernel_rfl) | (rw [if_neg (by decide +kernel)]; exact ⟨rfl, rfl⟩))
    (fun os started H enc _ => by
      refine law_lifted (s := Rows.fnExactRowsDoneSpec) (conds := []) os started H enc (by kernel_rfl) Try.func4 (by kernel_rfl) rfl rfl Try.underlying4
        (ChangeSpec.witness6 (enc := enc) (C := Try.checked) false ⟨#[], #[.agg #[.int .i64 0, .int .i64 0, .slice none 0 0]], []⟩ 8 (by kernel_rfl) (by kernel_rfl) (by kernel_rfl) (by kernel_rfl)) ?_
      intro W base args ds ps hval hA
      rw [Try.params4] at hA hval
      obtain ⟨v0, vs0, d0, ds0, p0, q0, hargs, rfl, rfl, h0, r0⟩ := trodAll_cons hA
      obtain ⟨rfl, rfl, rfl⟩ := trodAll_nil r0
      obtain rfl : args = #[v0] := by cases args; simp_all
      refine ⟨rfl, ?_⟩
      obtain ⟨f00, f10, f20, y00, y10, y20, m0, rfl, rfl, rfl, hy00, hy10, hy20⟩ := open_agg3 Try.underlying24 (by kernel_rfl) (by kernel_rfl) (hval 0 24 v0 rfl rfl) h0
      obtain ⟨a00, e00, _, _⟩ := DataW.trod_int Try.underlying3 hy00
      obtain ⟨a10, e10, _, _⟩ := DataW.trod_int Try.underlying3 hy10
      obtain ⟨A0, c0, xs0, rfl, hl0, hf0⟩ := open_core (f := Tile.ints) Try.underlying22 (by kernel_rfl) (by decide) (intElem_struct Try.underlying49 (by kernel_rfl) rfl (intfields_of (by kernel_rfl))) Tile.mk_ints hy20
      simp at e00 e10
      subst e00 e10
      exact fnRowsDone_any _ _ A0 c0 xs0 W hl0 hf0)
end Go.Proofs.Ytbldoidcjkffdaa
