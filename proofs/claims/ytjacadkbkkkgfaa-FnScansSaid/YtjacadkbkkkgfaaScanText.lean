/- The text of a scan: the program's and the reference's. -/
import Derived.Test.YtjacadkbkkkgfaaSumAt
namespace Go.Proofs.Ytjacadkbkkkgfaa
open Go.RowKit
set_option linter.unusedVariables false
set_option linter.unusedSimpArgs false
noncomputable def selt (p : Prop) (q : ByteArray) : ByteArray := @ite _ p (Classical.propDecidable p) q ⟨#[]⟩
theorem selt_t {p : Prop} {q : ByteArray} (h : p) : selt p q = q := by simp [selt, h]
theorem selt_f {p : Prop} {q : ByteArray} (h : ¬ p) : selt p q = ⟨#[]⟩ := by simp [selt, h]
theorem ret_tb {a c : ByteArray} {b d : Bool} (h : a = c) (k : b = d) : Ending.returned (.tuple #[.string a, .bool b]) = .returned (.tuple #[.string c, .bool d]) := by rw [h, k]

def mark1 (xs : List Tile) (r c : Nat) : ByteArray := if 0 ≤ atI r c xs then ⟨#[120]⟩ else ⟨#[46]⟩
def colT (xs : List Tile) (r : Nat) (b : ByteArray) : Nat → ByteArray
  | 0 => b
  | c + 1 => colT xs r b c ++ mark1 xs r c
def headT (t : ByteArray) (r : Nat) : ByteArray := if 0 < r then t ++ ⟨#[47]⟩ else t
def rowT (xs : List Tile) (cols : Nat) : Nat → ByteArray
  | 0 => ⟨#[]⟩
  | r + 1 => colT xs r (headT (rowT xs cols r) r) cols
theorem size_one (x : UInt8) : ByteArray.size ⟨#[x]⟩ = 1 := rfl
theorem colT_size (xs : List Tile) (r : Nat) (b : ByteArray) (c : Nat) : (colT xs r b c).size = b.size + c := by
  induction c with
  | zero => rfl
  | succ c ih =>
    rw [colT, ByteArray.size_append, ih, mark1]
    split <;> simp [size_one] <;> omega
theorem rowT_size (xs : List Tile) (cols : Nat) (r : Nat) (h : cols ≤ 6) : (rowT xs cols r).size ≤ r * 7 := by
  induction r with
  | zero => exact Nat.le_refl _
  | succ r ih =>
    rw [rowT, colT_size, headT]
    split
    · rw [ByteArray.size_append, size_one]; omega
    · omega
theorem mark_t {xs : List Tile} {r c : Nat} (h : 0 ≤ atI r c xs) : mark1 xs r c = ⟨#[120]⟩ := by rw [mark1, if_pos h]
theorem mark_f {xs : List Tile} {r c : Nat} (h : ¬ 0 ≤ atI r c xs) : mark1 xs r c = ⟨#[46]⟩ := by rw [mark1, if_neg h]
theorem at_pos {rows cols : Int} {xs : List Tile} (h : Scn rows cols xs) (row col : Int) : (0 ≤ atI row col xs ∧ 0 ≤ sumAt row col xs) ∨ (atI row col xs = -1 ∧ sumAt row col xs = -1) := by
  rcases at_some row col xs with h1 | ⟨k, z, h1, h2, h3⟩
  · exact .inr h1
  · have := (h.1.1 k z h2).2.2.2.2.1
    exact .inl ⟨by omega, by omega⟩
noncomputable def scanT (rows cols : Int) (xs : List Tile) : ByteArray := rowT xs cols.toNat rows.toNat


set_option maxHeartbeats 2000000 in
set_option maxRecDepth 100000 in
theorem scanText_any (rows cols : Int) (A : Option Addr) (c : Nat) (xs : List Tile) (w : World) (hn : xs.length ≤ 1048576) (hA : Fl Tile.ints 3 w A xs) :
    Calls Try.prog 33 #[.agg #[.int .i64 rows, .int .i64 cols, .slice A xs.length c]] w fun e w' => e = .returned (.tuple #[.string (selt (Scn rows cols xs) (scanT rows cols xs)), .bool (tb (Scn rows cols xs))]) ∧ Below w.heap.size w w' := by
  by_cases hs : Scn rows cols xs
  · obtain ⟨R, rfl⟩ : ∃ R : Nat, rows = R := ⟨rows.toNat, by have := hs.2.1; omega⟩
    obtain ⟨C, rfl⟩ : ∃ C : Nat, cols = C := ⟨cols.toNat, by have := hs.2.2.2.1; omega⟩
    obtain ⟨W0, hW0, hB0, hz0, hc0, _⟩ := box_world w #[Value.int .i64 R, Value.int .i64 C, Value.slice A xs.length c] 26
    have e0 : World.cell? W0 ⟨w.heap.size, 0, none⟩ = some (.int .i64 R) := hc0 0
    have e1 : World.cell? W0 ⟨w.heap.size, 1, none⟩ = some (.int .i64 C) := hc0 1
    have e2 : World.cell? W0 ⟨w.heap.size, 2, none⟩ = some (.slice A xs.length c) := hc0 2
    clear hc0
    obtain ⟨s1, s2, s3, s4⟩ := hs.2
    have HS := Lib.hid hs
    clear hs
    rw [tb_t HS.out, selt_t HS.out]
    go_enter Try.func33, Try.ntmps33
    go_wp2_with fail
    refine (isScan_any R C A c xs W0 (by omega) (hA.ext hB0)).mono ?_
    rintro e w1 ⟨rfl, hb1⟩
    rw [tb_t HS.out]
    have hx1 := ext_trans hB0 hb1
    have hr1 := bcell hb1
    have hzz : w.heap.size < w1.heap.size := Nat.lt_of_lt_of_le hz0 hb1.size
    go_wp2_with fail
    go_loopw [4, 12] (fun v i wr => ∃ r : Nat, r ≤ R ∧ i = .int .i64 r ∧ v = .string (rowT xs C r) ∧ Below w1.heap.size w1 wr) (fun _ i _ => R - (intOf i).toNat)
    case atStart => exact ⟨0, by omega, rfl, rfl, Below.refl _ _⟩
    case round =>
      obtain ⟨r, hr, rfl, rfl, hbr1⟩ := hrel
      have hcr := bcell hbr1
      have hzr := hbr1.size
      by_cases hlt : r < R
      · have hr0 : (0 : Int) ≤ (r : Int) := by omega
        have hr1 : (r : Int) < (R : Int) := by omega
        have hsz0 := rowT_size xs C r (by omega)
        by_cases hp : 0 < r
        · have hrp : (0 : Int) < (r : Int) := by omega
          have hh : headT (rowT xs C r) r = rowT xs C r ++ ⟨#[47]⟩ := by rw [headT, if_pos hp]
          have hzh : (headT (rowT xs C r) r).size ≤ 43 := by rw [hh, ByteArray.size_append, size_one]; omega
          have HH := Lib.hid hh
          have HZ := Lib.hid hzh
          clear hh hzh
          go_wp2_with fail
          go_loopw [4, 21] (fun v i w' => ∃ k : Nat, k ≤ C ∧ i = .int .i64 k ∧ v = .string (colT xs r (headT (rowT xs C r) r) k) ∧ Below wr.heap.size wr w') (fun _ i _ => C - (intOf i).toNat)
          case atStart => exact ⟨0, by omega, rfl, by rw [HH.out]; rfl, Below.refl _ _⟩
          case round =>
            rename_i w'
            obtain ⟨k, hk, rfl, rfl, hbw⟩ := hrel
            have hbx := ext_trans hbr1 hbw
            have hcw := bcell hbx
            have hzw := hbx.size
            have hsz := colT_size xs r (headT (rowT xs C r) r) k
            have hsh := HZ.out
            by_cases hlk : k < C
            · have hst : colT xs r (headT (rowT xs C r) r) (k + 1) = colT xs r (headT (rowT xs C r) r) k ++ mark1 xs r k := rfl
              have hmk := at_pos HS.out r k
              have hmt := @mark_t xs r k
              have hmf := @mark_f xs r k
              generalize mark1 xs r k = mk at hst hmt hmf
              generalize colT xs r (headT (rowT xs C r) r) k = T at hst hsz ⊢
              have HST := Lib.hid hst
              have hk0 : (0 : Int) ≤ (k : Int) := by omega
              have hk1 : (k : Int) < (C : Int) := by omega
              clear hst
              go_wp2_with fail
              refine (sumAtM_any R C A c xs r k _ hn (hA.ext (ext_trans (ext_trans hx1 hbr1) hbw))).mono ?_
              rintro e w4 ⟨rfl, hb4⟩
              rcases hmk with ⟨hi0, hv0⟩ | ⟨hi0, hv0⟩
              · have hm := hmt hi0
                clear hmt hmf
                go_wp2
                go_roundw
                case rel => exact ⟨k + 1, by omega, by go_num, by rw [HST.out, hm], ext_trans hbw hb4⟩
                case measure => simp [intOf]; omega
              · have hm := hmf (by omega)
                clear hmt hmf
                first | rw [hv0] | rw [hi0]
                go_wp2
                go_roundw
                case rel => exact ⟨k + 1, by omega, by go_num, by rw [HST.out, hm], ext_trans hbw hb4⟩
                case measure => simp [intOf]; omega
            · have hkn : k = C := by omega
              subst hkn
              clear hlk
              go_wp2
              go_roundw
              case rel => exact ⟨r + 1, by omega, by go_num, rfl, ext_trans hbr1 hbw⟩
              case measure => simp [intOf]; omega
        · have hrp : ¬ (0 : Int) < (r : Int) := by omega
          have hh : headT (rowT xs C r) r = rowT xs C r := by rw [headT, if_neg hp]
          have hzh : (headT (rowT xs C r) r).size ≤ 43 := by rw [hh]; omega
          have HH := Lib.hid hh
          have HZ := Lib.hid hzh
          clear hh hzh
          go_wp2_with fail
          go_loopw [4, 21] (fun v i w' => ∃ k : Nat, k ≤ C ∧ i = .int .i64 k ∧ v = .string (colT xs r (headT (rowT xs C r) r) k) ∧ Below wr.heap.size wr w') (fun _ i _ => C - (intOf i).toNat)
          case atStart => exact ⟨0, by omega, rfl, by rw [HH.out]; rfl, Below.refl _ _⟩
          case round =>
            rename_i w'
            obtain ⟨k, hk, rfl, rfl, hbw⟩ := hrel
            have hbx := ext_trans hbr1 hbw
            have hcw := bcell hbx
            have hzw := hbx.size
            have hsz := colT_size xs r (headT (rowT xs C r) r) k
            have hsh := HZ.out
            by_cases hlk : k < C
            · have hst : colT xs r (headT (rowT xs C r) r) (k + 1) = colT xs r (headT (rowT xs C r) r) k ++ mark1 xs r k := rfl
              have hmk := at_pos HS.out r k
              have hmt := @mark_t xs r k
              have hmf := @mark_f xs r k
              generalize mark1 xs r k = mk at hst hmt hmf
              generalize colT xs r (headT (rowT xs C r) r) k = T at hst hsz ⊢
              have HST := Lib.hid hst
              have hk0 : (0 : Int) ≤ (k : Int) := by omega
              have hk1 : (k : Int) < (C : Int) := by omega
              clear hst
              go_wp2_with fail
              refine (sumAtM_any R C A c xs r k _ hn (hA.ext (ext_trans (ext_trans hx1 hbr1) hbw))).mono ?_
              rintro e w4 ⟨rfl, hb4⟩
              rcases hmk with ⟨hi0, hv0⟩ | ⟨hi0, hv0⟩
              · have hm := hmt hi0
                clear hmt hmf
                go_wp2
                go_roundw
                case rel => exact ⟨k + 1, by omega, by go_num, by rw [HST.out, hm], ext_trans hbw hb4⟩
                case measure => simp [intOf]; omega
              · have hm := hmf (by omega)
                clear hmt hmf
                first | rw [hv0] | rw [hi0]
                go_wp2
                go_roundw
                case rel => exact ⟨k + 1, by omega, by go_num, by rw [HST.out, hm], ext_trans hbw hb4⟩
                case measure => simp [intOf]; omega
            · have hkn : k = C := by omega
              subst hkn
              clear hlk
              go_wp2
              go_roundw
              case rel => exact ⟨r + 1, by omega, by go_num, rfl, ext_trans hbr1 hbw⟩
              case measure => simp [intOf]; omega
      · have hkn : r = R := by omega
        subst hkn
        go_wp2
        go_ret2
        exact ⟨rfl, ext_trans hx1 hbr1⟩
  · obtain ⟨W0, hW0, hB0, hz0, hc0, _⟩ := box_world w #[Value.int .i64 rows, Value.int .i64 cols, Value.slice A xs.length c] 26
    have ea : World.cell? W0 ⟨w.heap.size, 0, none⟩ = some (.int .i64 rows) := hc0 0
    have eb : World.cell? W0 ⟨w.heap.size, 1, none⟩ = some (.int .i64 cols) := hc0 1
    have ec : World.cell? W0 ⟨w.heap.size, 2, none⟩ = some (.slice A xs.length c) := hc0 2
    clear hc0
    go_enter Try.func33, Try.ntmps33
    go_wp2_with fail
    refine (isScan_any rows cols A c xs W0 (by omega) (hA.ext hB0)).mono ?_
    rintro e w1 ⟨rfl, hb1⟩
    rw [tb_f hs]
    go_wp2
    go_ret2
    exact ⟨ret_tb (selt_f hs).symm (tb_f hs).symm, ext_trans hB0 hb1⟩
set_option maxHeartbeats 2000000 in
set_option maxRecDepth 100000 in
theorem specScanText_any (rows cols : Int) (A : Option Addr) (c : Nat) (xs : List Tile) (w : World) (hn : xs.length ≤ 1048576) (hA : Fl Tile.ints 3 w A xs) :
    Calls Try.prog 34 #[.agg #[.int .i64 rows, .int .i64 cols, .slice A xs.length c]] w fun e w' => e = .returned (.tuple #[.string (selt (Scn rows cols xs) (scanT rows cols xs)), .bool (tb (Scn rows cols xs))]) ∧ Below w.heap.size w w' := by
  by_cases hs : Scn rows cols xs
  · obtain ⟨R, rfl⟩ : ∃ R : Nat, rows = R := ⟨rows.toNat, by have := hs.2.1; omega⟩
    obtain ⟨C, rfl⟩ : ∃ C : Nat, cols = C := ⟨cols.toNat, by have := hs.2.2.2.1; omega⟩
    obtain ⟨W0, hW0, hB0, hz0, hc0, _⟩ := box_world w #[Value.int .i64 R, Value.int .i64 C, Value.slice A xs.length c] 26
    have e0 : World.cell? W0 ⟨w.heap.size, 0, none⟩ = some (.int .i64 R) := hc0 0
    have e1 : World.cell? W0 ⟨w.heap.size, 1, none⟩ = some (.int .i64 C) := hc0 1
    have e2 : World.cell? W0 ⟨w.heap.size, 2, none⟩ = some (.slice A xs.length c) := hc0 2
    clear hc0
    obtain ⟨s1, s2, s3, s4⟩ := hs.2
    have HS := Lib.hid hs
    clear hs
    rw [tb_t HS.out, selt_t HS.out]
    go_enter Try.func34, Try.ntmps34
    go_wp2_with fail
    refine (l17Good_any R C A c xs W0 (by omega) (hA.ext hB0)).mono ?_
    rintro e w1 ⟨rfl, hb1⟩
    rw [tb_t HS.out]
    have hx1 := ext_trans hB0 hb1
    have hr1 := bcell hb1
    have hzz : w.heap.size < w1.heap.size := Nat.lt_of_lt_of_le hz0 hb1.size
    go_wp2_with fail
    go_loopw [4, 5] (fun v i wr => ∃ r : Nat, r ≤ R ∧ i = .int .i64 r ∧ v = .string (rowT xs C r) ∧ Below w1.heap.size w1 wr) (fun _ i _ => R - (intOf i).toNat)
    case atStart => exact ⟨0, by omega, rfl, rfl, Below.refl _ _⟩
    case round =>
      obtain ⟨r, hr, rfl, rfl, hbr1⟩ := hrel
      have hcr := bcell hbr1
      have hzr := hbr1.size
      by_cases hlt : r < R
      · have hr0 : (0 : Int) ≤ (r : Int) := by omega
        have hr1 : (r : Int) < (R : Int) := by omega
        have hsz0 := rowT_size xs C r (by omega)
        by_cases hp : 0 < r
        · have hrp : (0 : Int) < (r : Int) := by omega
          have hh : headT (rowT xs C r) r = rowT xs C r ++ ⟨#[47]⟩ := by rw [headT, if_pos hp]
          have hzh : (headT (rowT xs C r) r).size ≤ 43 := by rw [hh, ByteArray.size_append, size_one]; omega
          have HH := Lib.hid hh
          have HZ := Lib.hid hzh
          clear hh hzh
          go_wp2_with fail
          go_loopw [4, 6] (fun v i w' => ∃ k : Nat, k ≤ C ∧ i = .int .i64 k ∧ v = .string (colT xs r (headT (rowT xs C r) r) k) ∧ Below wr.heap.size wr w') (fun _ i _ => C - (intOf i).toNat)
          case atStart => exact ⟨0, by omega, rfl, by rw [HH.out]; rfl, Below.refl _ _⟩
          case round =>
            rename_i w'
            obtain ⟨k, hk, rfl, rfl, hbw⟩ := hrel
            have hbx := ext_trans hbr1 hbw
            have hcw := bcell hbx
            have hzw := hbx.size
            have hsz := colT_size xs r (headT (rowT xs C r) r) k
            have hsh := HZ.out
            by_cases hlk : k < C
            · have hst : colT xs r (headT (rowT xs C r) r) (k + 1) = colT xs r (headT (rowT xs C r) r) k ++ mark1 xs r k := rfl
              have hmk := at_pos HS.out r k
              have hmt := @mark_t xs r k
              have hmf := @mark_f xs r k
              generalize mark1 xs r k = mk at hst hmt hmf
              generalize colT xs r (headT (rowT xs C r) r) k = T at hst hsz ⊢
              have HST := Lib.hid hst
              have hk0 : (0 : Int) ≤ (k : Int) := by omega
              have hk1 : (k : Int) < (C : Int) := by omega
              clear hst
              go_wp2_with fail
              refine (l17At_any R C A c xs r k _ hn (hA.ext (ext_trans (ext_trans hx1 hbr1) hbw))).mono ?_
              rintro e w4 ⟨rfl, hb4⟩
              rcases hmk with ⟨hi0, hv0⟩ | ⟨hi0, hv0⟩
              · have hm := hmt hi0
                clear hmt hmf
                go_wp2
                go_roundw
                case rel => exact ⟨k + 1, by omega, by go_num, by rw [HST.out, hm], ext_trans hbw hb4⟩
                case measure => simp [intOf]; omega
              · have hm := hmf (by omega)
                clear hmt hmf
                first | rw [hv0] | rw [hi0]
                go_wp2
                go_roundw
                case rel => exact ⟨k + 1, by omega, by go_num, by rw [HST.out, hm], ext_trans hbw hb4⟩
                case measure => simp [intOf]; omega
            · have hkn : k = C := by omega
              subst hkn
              clear hlk
              go_wp2
              go_roundw
              case rel => exact ⟨r + 1, by omega, by go_num, rfl, ext_trans hbr1 hbw⟩
              case measure => simp [intOf]; omega
        · have hrp : ¬ (0 : Int) < (r : Int) := by omega
          have hh : headT (rowT xs C r) r = rowT xs C r := by rw [headT, if_neg hp]
          have hzh : (headT (rowT xs C r) r).size ≤ 43 := by rw [hh]; omega
          have HH := Lib.hid hh
          have HZ := Lib.hid hzh
          clear hh hzh
          go_wp2_with fail
          go_loopw [4, 6] (fun v i w' => ∃ k : Nat, k ≤ C ∧ i = .int .i64 k ∧ v = .string (colT xs r (headT (rowT xs C r) r) k) ∧ Below wr.heap.size wr w') (fun _ i _ => C - (intOf i).toNat)
          case atStart => exact ⟨0, by omega, rfl, by rw [HH.out]; rfl, Below.refl _ _⟩
          case round =>
            rename_i w'
            obtain ⟨k, hk, rfl, rfl, hbw⟩ := hrel
            have hbx := ext_trans hbr1 hbw
            have hcw := bcell hbx
            have hzw := hbx.size
            have hsz := colT_size xs r (headT (rowT xs C r) r) k
            have hsh := HZ.out
            by_cases hlk : k < C
            · have hst : colT xs r (headT (rowT xs C r) r) (k + 1) = colT xs r (headT (rowT xs C r) r) k ++ mark1 xs r k := rfl
              have hmk := at_pos HS.out r k
              have hmt := @mark_t xs r k
              have hmf := @mark_f xs r k
              generalize mark1 xs r k = mk at hst hmt hmf
              generalize colT xs r (headT (rowT xs C r) r) k = T at hst hsz ⊢
              have HST := Lib.hid hst
              have hk0 : (0 : Int) ≤ (k : Int) := by omega
              have hk1 : (k : Int) < (C : Int) := by omega
              clear hst
              go_wp2_with fail
              refine (l17At_any R C A c xs r k _ hn (hA.ext (ext_trans (ext_trans hx1 hbr1) hbw))).mono ?_
              rintro e w4 ⟨rfl, hb4⟩
              rcases hmk with ⟨hi0, hv0⟩ | ⟨hi0, hv0⟩
              · have hm := hmt hi0
                clear hmt hmf
                go_wp2
                go_roundw
                case rel => exact ⟨k + 1, by omega, by go_num, by rw [HST.out, hm], ext_trans hbw hb4⟩
                case measure => simp [intOf]; omega
              · have hm := hmf (by omega)
                clear hmt hmf
                first | rw [hv0] | rw [hi0]
                go_wp2
                go_roundw
                case rel => exact ⟨k + 1, by omega, by go_num, by rw [HST.out, hm], ext_trans hbw hb4⟩
                case measure => simp [intOf]; omega
            · have hkn : k = C := by omega
              subst hkn
              clear hlk
              go_wp2
              go_roundw
              case rel => exact ⟨r + 1, by omega, by go_num, rfl, ext_trans hbr1 hbw⟩
              case measure => simp [intOf]; omega
      · have hkn : r = R := by omega
        subst hkn
        go_wp2
        go_ret2
        exact ⟨rfl, ext_trans hx1 hbr1⟩
  · obtain ⟨W0, hW0, hB0, hz0, hc0, _⟩ := box_world w #[Value.int .i64 rows, Value.int .i64 cols, Value.slice A xs.length c] 26
    have ea : World.cell? W0 ⟨w.heap.size, 0, none⟩ = some (.int .i64 rows) := hc0 0
    have eb : World.cell? W0 ⟨w.heap.size, 1, none⟩ = some (.int .i64 cols) := hc0 1
    have ec : World.cell? W0 ⟨w.heap.size, 2, none⟩ = some (.slice A xs.length c) := hc0 2
    clear hc0
    go_enter Try.func34, Try.ntmps34
    go_wp2_with fail
    refine (l17Good_any rows cols A c xs W0 (by omega) (hA.ext hB0)).mono ?_
    rintro e w1 ⟨rfl, hb1⟩
    rw [tb_f hs]
    go_wp2
    go_ret2
    exact ⟨ret_tb (selt_f hs).symm (tb_f hs).symm, ext_trans hB0 hb1⟩
end Go.Proofs.Ytjacadkbkkkgfaa
