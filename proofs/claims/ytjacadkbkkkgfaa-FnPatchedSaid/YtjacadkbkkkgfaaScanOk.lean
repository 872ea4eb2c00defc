/- Which scans are valid: the program's IsScan and the reference's. -/
import Derived.Test.YtjacadkbkkkgfaaProg
import Derived.Test.YtjacadkbkkkgfaaBase
import Derived.Test.YtjacadkbkkkgfaaTypes
import Derived.Test.YtjacadkbkkkgfaaCmp
import Derived.Test.YtjacadkbkkkgfaaWithin
namespace Go.Proofs.Ytjacadkbkkkgfaa
open Go.RowKit
set_option linter.unusedVariables false
set_option linter.unusedSimpArgs false

def TileOk (rows cols : Int) (t : Tile) : Prop := 0 ≤ t.row ∧ t.row < rows ∧ 0 ≤ t.col ∧ t.col < cols ∧ 0 ≤ t.sum ∧ t.sum ≤ 65520
def TileLt (x y : Tile) : Prop := x.row < y.row ∨ x.row = y.row ∧ x.col < y.col
def Side (rows cols : Int) : Prop := 1 ≤ rows ∧ rows ≤ 6 ∧ 1 ≤ cols ∧ cols ≤ 6
def Scn (rows cols : Int) (ts : List Tile) : Prop := Good (TileOk rows cols) TileLt ts ∧ Side rows cols

def cmpTile (x y : Tile) : Int := orI (cmpI x.row y.row) (cmpI x.col y.col)
theorem cmpTile_lt (x y : Tile) : cmpTile x y < 0 ↔ TileLt x y := by
  unfold cmpTile orI cmpI TileLt
  repeat' split
  all_goals omega

set_option maxHeartbeats 1000000 in
theorem compareTiles_any (x y : Tile) (w : World) :
    Calls Try.prog 63 #[.agg #[.int .i64 x.row, .int .i64 x.col, .int .i64 x.sum], .agg #[.int .i64 y.row, .int .i64 y.col, .int .i64 y.sum]] w fun e w' => e = .returned (.int .i64 (cmpTile x y)) ∧ Below w.heap.size w w' := by
  unfold cmpTile
  go_enter Try.func63, Try.ntmps63
  go_wp2_with fail
  refine (slicesCompare_two _ _ _ _ x.row x.col y.row y.col _ ?_ ?_ ?_ ?_).mono ?_
  · go_simp
  · go_simp
  · go_simp
  · go_simp
  rintro e w' ⟨rfl, rfl⟩
  go_wp2
  go_ret
  exact ⟨rfl, by go_grown⟩

/-- a number that came round once, where it does not lie within bounds -/
def dec (n : Int) : Int := wrap64 (n - 1)
theorem dec_eq {n : Int} (h : 1 ≤ n ∧ n ≤ 9223372036854775807) : dec n = n - 1 := by
  unfold dec
  exact IntWalk.wrap64_in _ (by omega)
def hasW (rows cols r c : Int) : Prop := 0 ≤ r ∧ r ≤ dec rows ∧ 0 ≤ c ∧ c ≤ dec cols

set_option maxHeartbeats 1000000 in
theorem hasScan_any (rows cols r c : Int) (v : Value) (w : World) (hv : v.oneCell' = true) :
    Calls Try.prog 54 #[.agg #[.int .i64 rows, .int .i64 cols, v], .int .i64 r, .int .i64 c] w fun e w' => e = .returned (.bool (tb (hasW rows cols r c))) ∧ Below w.heap.size w w' := by
  have h1 : wrap64 (rows - 1) = dec rows := rfl
  have h2 : wrap64 (cols - 1) = dec cols := rfl
  go_enter Try.func54, Try.ntmps54
  go_wp2
  all_goals
    go_ret
    refine ⟨ret_bool ?_, by go_grown⟩
    first | exact (tb_t (by unfold hasW; omega)).symm | exact (tb_f (by unfold hasW; omega)).symm | exact tb_dec (by unfold hasW; omega)

def TileW (rows cols : Int) (t : Tile) : Prop := hasW rows cols t.row t.col ∧ 0 ≤ t.sum ∧ t.sum ≤ 65520
theorem tileW_iff {rows cols : Int} (h : Side rows cols) (t : Tile) : TileW rows cols t ↔ TileOk rows cols t := by
  obtain ⟨h1, h2, h3, h4⟩ := h
  unfold TileW TileOk hasW
  rw [dec_eq (by omega), dec_eq (by omega)]
  omega
theorem good_iff {α : Type} {P Q : α → Prop} {R : α → α → Prop} (h : ∀ x, P x ↔ Q x) (xs : List α) : Good P R xs ↔ Good Q R xs :=
  ⟨fun g => ⟨fun i x hx => (h x).1 (g.1 i x hx), g.2⟩, fun g => ⟨fun i x hx => (h x).2 (g.1 i x hx), g.2⟩⟩
theorem scn_iff (rows cols : Int) (ts : List Tile) : Scn rows cols ts ↔ Good (TileW rows cols) TileLt ts ∧ Side rows cols :=
  ⟨fun h => ⟨(good_iff (tileW_iff h.2) ts).2 h.1, h.2⟩, fun h => ⟨(good_iff (tileW_iff h.2) ts).1 h.1, h.2⟩⟩

set_option maxHeartbeats 1000000 in
theorem isTile_any (rows cols : Int) (v : Value) (t : Tile) (w : World) (hv : v.oneCell' = true) :
    Calls Try.prog 61 #[.agg #[.int .i64 rows, .int .i64 cols, v], .agg #[.int .i64 t.row, .int .i64 t.col, .int .i64 t.sum]] w fun e w' => e = .returned (.bool (tb (TileW rows cols t))) ∧ Below w.heap.size w w' := by
  go_enter Try.func61, Try.ntmps61
  go_wp2_with fail
  refine (hasScan_any rows cols t.row t.col v _ hv).mono ?_
  rintro e w1 ⟨rfl, hb1⟩
  have hx1 : Below w.heap.size w w1 := ext_trans (by go_grown) hb1
  have hc1 := bcell hb1
  by_cases hh : hasW rows cols t.row t.col
  · rw [tb_t hh]
    have HH := Lib.hid hh
    clear hh
    go_wp2
    all_goals
      go_ret
      refine ⟨ret_bool ?_, hx1⟩
      first | exact (tb_t ⟨HH.out, by omega⟩).symm | exact (tb_f (fun h => by have := h.2; omega)).symm | exact tb_dec ⟨fun h => by have := h.2; omega, fun h => ⟨HH.out, by omega⟩⟩
  · rw [tb_f hh]
    have HH := Lib.hid hh
    clear hh
    go_wp2
    go_ret
    exact ⟨ret_bool (tb_f (fun h => HH.out h.1)).symm, hx1⟩
theorem isTile_t (rows cols : Int) (v : Value) (t : Tile) (w : World) (hv : v.oneCell' = true) (h : TileW rows cols t) :
    Calls Try.prog 61 #[.agg #[.int .i64 rows, .int .i64 cols, v], .agg #[.int .i64 t.row, .int .i64 t.col, .int .i64 t.sum]] w fun e w' => e = .returned (.bool true) ∧ Below w.heap.size w w' := by
  have := isTile_any rows cols v t w hv; rwa [tb_t h] at this
theorem isTile_f (rows cols : Int) (v : Value) (t : Tile) (w : World) (hv : v.oneCell' = true) (h : ¬ TileW rows cols t) :
    Calls Try.prog 61 #[.agg #[.int .i64 rows, .int .i64 cols, v], .agg #[.int .i64 t.row, .int .i64 t.col, .int .i64 t.sum]] w fun e w' => e = .returned (.bool false) ∧ Below w.heap.size w w' := by
  have := isTile_any rows cols v t w hv; rwa [tb_f h] at this

set_option maxHeartbeats 2000000 in
set_option maxRecDepth 100000 in
theorem isScan_any (rows cols : Int) (A : Option Addr) (c : Nat) (xs : List Tile) (w : World) (hn : xs.length ≤ 1152921504606846976) (hA : Fl Tile.ints 3 w A xs) :
    Calls Try.prog 35 #[.agg #[.int .i64 rows, .int .i64 cols, .slice A xs.length c]] w fun e w' => e = .returned (.bool (tb (Scn rows cols xs))) ∧ Below w.heap.size w w' := by
  rw [tb_iff (scn_iff rows cols xs)]
  obtain ⟨n, hnn⟩ : ∃ n, n = List.length xs := ⟨_, rfl⟩
  rw [← hnn] at hn ⊢
  have hN := Lib.hid hnn
  clear hnn
  go_enter Try.func35, Try.ntmps35
  go_wp2
  go_loopw [8] (fun i wr => ∃ k : Nat, k ≤ n ∧ i = .int .i64 k ∧ Below (w.heap.size + 1) (w.alloc (.cells #[.int .i64 rows, .int .i64 cols, .slice A n c] 26)) wr ∧ Hid (GoodTo (TileW rows cols) TileLt xs k)) (fun i _ => n - (intOf i).toNat)
  case atStart => exact ⟨0, by omega, rfl, Below.refl _ _, GoodTo.zero⟩
  case round =>
    obtain ⟨k, hk, rfl, hbr0, hall⟩ := hrel
    have hbr : Below w.heap.size w wr := (by go_grown : Below w.heap.size w _).trans (hbr0.mono (by omega))
    have hz : w.heap.size + 1 ≤ wr.heap.size := by have := hbr0.size; simpa using this
    have hbx : ∀ j, wr.cell? ⟨w.heap.size, j, none⟩ = #[Value.int .i64 rows, .int .i64 cols, .slice A n c][j]? := fun j =>
      (hbr0.cell (p := ⟨w.heap.size, j, none⟩) (by simp)).trans (World.cell?_alloc_new _ _ _ _)
    have e0 : World.cell? wr ⟨w.heap.size, 0, none⟩ = some (.int .i64 rows) := hbx 0
    have e1 : World.cell? wr ⟨w.heap.size, 1, none⟩ = some (.int .i64 cols) := hbx 1
    have e2 : World.cell? wr ⟨w.heap.size, 2, none⟩ = some (.slice A n c) := hbx 2
    clear hbx
    have hzz : w.heap.size < wr.heap.size := by omega
    have hzy : w.heap.size < wr.heap.size + 1 := by omega
    by_cases hlt : k < n
    · have hAr := hA.ext hbr
      obtain ⟨x, b, o, hx, rfl, hb, hc⟩ := hAr.at_ (k := k) (by rw [← hN.out]; exact hlt)
      have hX := Lib.hid hx
      clear hx
      have hb2 : b < wr.heap.size + 1 := by omega
      have c0 : World.cell? wr ⟨b, o + k * 3, none⟩ = some (.int .i64 x.row) := hc 0 _ rfl
      have c1 : World.cell? wr ⟨b, o + k * 3 + 1, none⟩ = some (.int .i64 x.col) := hc 1 _ rfl
      have c2 : World.cell? wr ⟨b, o + k * 3 + 2, none⟩ = some (.int .i64 x.sum) := hc 2 _ rfl
      clear hc
      have hpc := plus_cell
      have hk0 : (0 : Int) ≤ (k : Int) := by omega
      have hk1 : (k : Int) < (n : Int) := by omega
      by_cases hP : TileW rows cols x
      · rcases Nat.eq_zero_or_pos k with h0 | hpos
        · have hd : decide ((0 : Int) < (k : Int)) = false := by simp; omega
          have hd2 : decide (0 < k) = false := by simp; omega
          have H0 := Lib.hid h0
          clear hA hAr h0
          go_wp2_with fail
          refine wp_region_grow (by kernel_rfl) (by kernel_rfl) ?_
          repeat (go_big_quiet_step ((first | (go_at_call 61; exact quiet_below (isTile_t rows cols _ x _ rfl hP)))))
          refine wpQuiet_nil ?_
          intro w1 hb1
          have hB1 : Below (w.heap.size + 1) (w.alloc (.cells #[.int .i64 rows, .int .i64 cols, .slice (some ⟨b, o, none⟩) n c] 26)) w1 := hbr0.trans ((by go_grown : Below (w.heap.size + 1) wr _).trans (hb1.mono (by simp <;> omega)))
          go_wp2
          go_roundw
          case rel => exact ⟨k + 1, by omega, by go_num, hB1, hall.out.step hX.out hP (fun m z hm => by have := H0.out; omega)⟩
          case measure => simp [intOf]; omega
        · obtain ⟨m, rfl⟩ : ∃ m, k = m + 1 := ⟨k - 1, by omega⟩
          obtain ⟨y, hy⟩ : ∃ y, xs[m]? = some y := ⟨_, List.getElem?_eq_getElem (by rw [← hN.out]; omega)⟩
          have hdy := hAr.get hy
          have d0 : World.cell? wr ⟨b, o + m * 3, none⟩ = some (.int .i64 y.row) := hdy 0 _ rfl
          have d1 : World.cell? wr ⟨b, o + m * 3 + 1, none⟩ = some (.int .i64 y.col) := hdy 1 _ rfl
          have d2 : World.cell? wr ⟨b, o + m * 3 + 2, none⟩ = some (.int .i64 y.sum) := hdy 2 _ rfl
          have hY := Lib.hid hy
          clear hA hAr hy hdy
          have hm0 : (0 : Int) ≤ (m : Int) := by omega
          have hm1 : (m : Int) < (n : Int) := by omega
          have hm2 : (0 : Int) < (m : Int) + 1 := by omega
          by_cases hR : TileLt y x
          · have hR1 : cmpTile y x < 0 := (cmpTile_lt y x).2 hR
            go_wp2_with fail
            refine wp_region_grow (by kernel_rfl) (by kernel_rfl) ?_
            repeat (go_big_quiet_step ((first | (go_at_call 61; exact quiet_below (isTile_t rows cols _ x _ rfl hP)) | (go_at_call 63; exact quiet_below (compareTiles_any y x _)))))
            refine wpQuiet_nil ?_
            intro w1 hb1
            have hB1 : Below (w.heap.size + 1) (w.alloc (.cells #[.int .i64 rows, .int .i64 cols, .slice (some ⟨b, o, none⟩) n c] 26)) w1 := hbr0.trans ((by go_grown : Below (w.heap.size + 1) wr _).trans (hb1.mono (by simp <;> omega)))
            go_wp2
            go_roundw
            case rel => exact ⟨m + 1 + 1, by omega, by go_num, hB1, hall.out.step hX.out hP (fun m' z hm hz => by
              obtain rfl : m = m' := by omega
              rw [hY.out] at hz; cases hz; exact hR)⟩
            case measure => simp [intOf]; omega
          · have hR1 : 0 ≤ cmpTile y x := Int.not_lt.1 (fun h => hR ((cmpTile_lt y x).1 h))
            go_wp2_with fail
            refine wp_region_grow (by kernel_rfl) (by kernel_rfl) ?_
            repeat (go_big_quiet_step ((first | (go_at_call 61; exact quiet_below (isTile_t rows cols _ x _ rfl hP)) | (go_at_call 63; exact quiet_below (compareTiles_any y x _)))))
            refine wpQuiet_nil ?_
            intro w1 hb1
            have hB1 : Below w.heap.size w w1 := hbr.trans ((by go_grown : Below w.heap.size wr _).trans (hb1.mono (by simp <;> omega)))
            go_wp2
            go_ret
            exact ⟨ret_bool (tb_f (fun h => Good.not_pair hY.out hX.out hR h.1)).symm, hB1⟩
      · clear hA hAr
        go_wp2_with fail
        refine wp_region_grow (by kernel_rfl) (by kernel_rfl) ?_
        repeat (go_big_quiet_step ((first | (go_at_call 61; exact quiet_below (isTile_f rows cols _ x _ rfl hP)))))
        refine wpQuiet_nil ?_
        intro w1 hb1
        have hB1 : Below w.heap.size w w1 := hbr.trans ((by go_grown : Below w.heap.size wr _).trans (hb1.mono (by simp <;> omega)))
        go_wp2
        go_ret
        exact ⟨ret_bool (tb_f (fun h => Good.not_elem hX.out hP h.1)).symm, hB1⟩
    · have hkn : k = n := by omega
      subst hkn
      clear hA
      have hG := Lib.hid (hall.out.all (by rw [← hN.out]; exact Nat.le_refl _))
      go_wp2
      all_goals
        go_ret
        refine ⟨ret_bool ?_, by go_grown⟩
        first
          | exact (tb_t ⟨hG.out, by unfold Side; omega⟩).symm
          | exact (tb_f (fun h => by have := h.2; unfold Side at this; omega)).symm
          | exact tb_dec ⟨fun h => by have := h.2; unfold Side at this; omega, fun h => ⟨hG.out, by unfold Side; omega⟩⟩

set_option maxHeartbeats 1000000 in
theorem l17Tile_any (rows cols : Int) (v : Value) (t : Tile) (w : World) (hv : v.oneCell' = true) (hs : Side rows cols) :
    Calls Try.prog 57 #[.agg #[.int .i64 rows, .int .i64 cols, v], .agg #[.int .i64 t.row, .int .i64 t.col, .int .i64 t.sum]] w fun e w' => e = .returned (.bool (tb (TileOk rows cols t))) ∧ Below w.heap.size w w' := by
  obtain ⟨s1, s2, s3, s4⟩ := hs
  go_enter Try.func57, Try.ntmps57
  go_wp2
  all_goals
    go_ret
    refine ⟨ret_bool ?_, by go_grown⟩
    first | exact (tb_t (by unfold TileOk; omega)).symm | exact (tb_f (by unfold TileOk; omega)).symm | exact tb_dec (by unfold TileOk; omega)
theorem l17Tile_t (rows cols : Int) (v : Value) (t : Tile) (w : World) (hv : v.oneCell' = true) (hs : Side rows cols) (h : TileOk rows cols t) :
    Calls Try.prog 57 #[.agg #[.int .i64 rows, .int .i64 cols, v], .agg #[.int .i64 t.row, .int .i64 t.col, .int .i64 t.sum]] w fun e w' => e = .returned (.bool true) ∧ Below w.heap.size w w' := by
  have := l17Tile_any rows cols v t w hv hs; rwa [tb_t h] at this
theorem l17Tile_f (rows cols : Int) (v : Value) (t : Tile) (w : World) (hv : v.oneCell' = true) (hs : Side rows cols) (h : ¬ TileOk rows cols t) :
    Calls Try.prog 57 #[.agg #[.int .i64 rows, .int .i64 cols, v], .agg #[.int .i64 t.row, .int .i64 t.col, .int .i64 t.sum]] w fun e w' => e = .returned (.bool false) ∧ Below w.heap.size w w' := by
  have := l17Tile_any rows cols v t w hv hs; rwa [tb_f h] at this

def AtLt (t : Tile) (r c : Int) : Prop := t.row < r ∨ t.row = r ∧ t.col < c
set_option maxHeartbeats 1000000 in
theorem l17Before_any (t : Tile) (r c : Int) (w : World) :
    Calls Try.prog 66 #[.agg #[.int .i64 t.row, .int .i64 t.col, .int .i64 t.sum], .int .i64 r, .int .i64 c] w fun e w' => e = .returned (.bool (tb (AtLt t r c))) ∧ Below w.heap.size w w' := by
  rcases Int.lt_trichotomy t.row r with h | h | h
  · go_enter Try.func66, Try.ntmps66
    go_wp2
    all_goals
      go_ret
      exact ⟨ret_bool (tb_t (Or.inl h)).symm, by go_grown⟩
  · have hb : (t.row == r) = true := by simp [h]
    have h1 : ¬ t.row < r := by omega
    have HE := Lib.hid h
    clear h
    by_cases hc : t.col < c
    · go_enter Try.func66, Try.ntmps66
      go_wp2
      all_goals
        go_ret
        exact ⟨ret_bool (tb_t (Or.inr ⟨HE.out, hc⟩)).symm, by go_grown⟩
    · go_enter Try.func66, Try.ntmps66
      go_wp2
      all_goals
        go_ret
        exact ⟨ret_bool (tb_f (fun h => by unfold AtLt at h; omega)).symm, by go_grown⟩
  · have hb : (t.row == r) = false := by rw [beq_eq_false_iff_ne]; omega
    have h1 : ¬ t.row < r := by omega
    go_enter Try.func66, Try.ntmps66
    go_wp2
    all_goals
      go_ret
      exact ⟨ret_bool (tb_f (fun h => by unfold AtLt at h; omega)).symm, by go_grown⟩
theorem l17Before_t (t : Tile) (r c : Int) (w : World) (h : AtLt t r c) :
    Calls Try.prog 66 #[.agg #[.int .i64 t.row, .int .i64 t.col, .int .i64 t.sum], .int .i64 r, .int .i64 c] w fun e w' => e = .returned (.bool true) ∧ Below w.heap.size w w' := by
  have := l17Before_any t r c w; rwa [tb_t h] at this
theorem l17Before_f (t : Tile) (r c : Int) (w : World) (h : ¬ AtLt t r c) :
    Calls Try.prog 66 #[.agg #[.int .i64 t.row, .int .i64 t.col, .int .i64 t.sum], .int .i64 r, .int .i64 c] w fun e w' => e = .returned (.bool false) ∧ Below w.heap.size w w' := by
  have := l17Before_any t r c w; rwa [tb_f h] at this

set_option maxHeartbeats 2000000 in
set_option maxRecDepth 100000 in
theorem l17Good_any (rows cols : Int) (A : Option Addr) (c : Nat) (xs : List Tile) (w : World) (hn : xs.length ≤ 1152921504606846976) (hA : Fl Tile.ints 3 w A xs) :
    Calls Try.prog 52 #[.agg #[.int .i64 rows, .int .i64 cols, .slice A xs.length c]] w fun e w' => e = .returned (.bool (tb (Scn rows cols xs))) ∧ Below w.heap.size w w' := by
  obtain ⟨n, hnn⟩ : ∃ n, n = List.length xs := ⟨_, rfl⟩
  rw [← hnn] at hn ⊢
  have hN := Lib.hid hnn
  clear hnn
  by_cases hsd : Side rows cols
  · have s1 : 1 ≤ rows ∧ rows ≤ 6 := ⟨hsd.1, hsd.2.1⟩
    have s2 : 1 ≤ cols ∧ cols ≤ 6 := hsd.2.2
    have HSD := Lib.hid hsd
    clear hsd
    go_enter Try.func52, Try.ntmps52
    go_wp2_with fail
    refine (l1In_t rows 1 6 _ s1).mono ?_
    rintro e w' ⟨rfl, rfl⟩
    go_wp2_with fail
    refine (l1In_t cols 1 6 _ s2).mono ?_
    rintro e w' ⟨rfl, rfl⟩
    go_wp2
    go_loopw [3] (fun i wr => ∃ k : Nat, k ≤ n ∧ i = .int .i64 k ∧ Below (w.heap.size + 1) (w.alloc (.cells #[.int .i64 rows, .int .i64 cols, .slice A n c] 26)) wr ∧ Hid (GoodTo (TileOk rows cols) TileLt xs k)) (fun i _ => n - (intOf i).toNat)
    case atStart => exact ⟨0, by omega, rfl, Below.refl _ _, GoodTo.zero⟩
    case round =>
      obtain ⟨k, hk, rfl, hbr0, hall⟩ := hrel
      have hbr : Below w.heap.size w wr := (by go_grown : Below w.heap.size w _).trans (hbr0.mono (by omega))
      have hz : w.heap.size + 1 ≤ wr.heap.size := by have := hbr0.size; simpa using this
      have hbx : ∀ j, wr.cell? ⟨w.heap.size, j, none⟩ = #[Value.int .i64 rows, .int .i64 cols, .slice A n c][j]? := fun j =>
        (hbr0.cell (p := ⟨w.heap.size, j, none⟩) (by simp)).trans (World.cell?_alloc_new _ _ _ _)
      have e0 : World.cell? wr ⟨w.heap.size, 0, none⟩ = some (.int .i64 rows) := hbx 0
      have e1 : World.cell? wr ⟨w.heap.size, 1, none⟩ = some (.int .i64 cols) := hbx 1
      have e2 : World.cell? wr ⟨w.heap.size, 2, none⟩ = some (.slice A n c) := hbx 2
      clear hbx
      have hzz : w.heap.size < wr.heap.size := by omega
      have hzy : w.heap.size < wr.heap.size + 1 := by omega
      by_cases hlt : k < n
      · have hAr := hA.ext hbr
        obtain ⟨x, b, o, hx, rfl, hb, hc⟩ := hAr.at_ (k := k) (by rw [← hN.out]; exact hlt)
        have hX := Lib.hid hx
        clear hx
        have hb2 : b < wr.heap.size + 1 := by omega
        have c0 : World.cell? wr ⟨b, o + k * 3, none⟩ = some (.int .i64 x.row) := hc 0 _ rfl
        have c1 : World.cell? wr ⟨b, o + k * 3 + 1, none⟩ = some (.int .i64 x.col) := hc 1 _ rfl
        have c2 : World.cell? wr ⟨b, o + k * 3 + 2, none⟩ = some (.int .i64 x.sum) := hc 2 _ rfl
        clear hc
        have hpc := plus_cell
        have hk0 : (0 : Int) ≤ (k : Int) := by omega
        have hk1 : (k : Int) < (n : Int) := by omega
        by_cases hP : TileOk rows cols x
        · rcases Nat.eq_zero_or_pos k with h0 | hpos
          · have hd : decide ((0 : Int) < (k : Int)) = false := by simp; omega
            have hd2 : decide (0 < k) = false := by simp; omega
            have H0 := Lib.hid h0
            clear hA hAr h0
            go_wp2_with fail
            refine wp_region_grow (by kernel_rfl) (by kernel_rfl) ?_
            repeat (go_big_quiet_step ((first | (go_at_call 57; exact quiet_below (l17Tile_t rows cols _ x _ rfl HSD.out hP)))))
            refine wpQuiet_nil ?_
            intro w1 hb1
            have hB1 : Below (w.heap.size + 1) (w.alloc (.cells #[.int .i64 rows, .int .i64 cols, .slice (some ⟨b, o, none⟩) n c] 26)) w1 := hbr0.trans ((by go_grown : Below (w.heap.size + 1) wr _).trans (hb1.mono (by simp <;> omega)))
            go_wp2
            go_roundw
            case rel => exact ⟨k + 1, by omega, by go_num, hB1, hall.out.step hX.out hP (fun m z hm => by have := H0.out; omega)⟩
            case measure => simp [intOf]; omega
          · obtain ⟨m, rfl⟩ : ∃ m, k = m + 1 := ⟨k - 1, by omega⟩
            obtain ⟨y, hy⟩ : ∃ y, xs[m]? = some y := ⟨_, List.getElem?_eq_getElem (by rw [← hN.out]; omega)⟩
            have hdy := hAr.get hy
            have d0 : World.cell? wr ⟨b, o + m * 3, none⟩ = some (.int .i64 y.row) := hdy 0 _ rfl
            have d1 : World.cell? wr ⟨b, o + m * 3 + 1, none⟩ = some (.int .i64 y.col) := hdy 1 _ rfl
            have d2 : World.cell? wr ⟨b, o + m * 3 + 2, none⟩ = some (.int .i64 y.sum) := hdy 2 _ rfl
            have hY := Lib.hid hy
            clear hA hAr hy hdy
            have hm0 : (0 : Int) ≤ (m : Int) := by omega
            have hm1 : (m : Int) < (n : Int) := by omega
            have hm2 : (0 : Int) < (m : Int) + 1 := by omega
            by_cases hR : TileLt y x
            · have hR1 : cmpTile y x < 0 := (cmpTile_lt y x).2 hR
              go_wp2_with fail
              refine wp_region_grow (by kernel_rfl) (by kernel_rfl) ?_
              repeat (go_big_quiet_step ((first | (go_at_call 57; exact quiet_below (l17Tile_t rows cols _ x _ rfl HSD.out hP)) | (go_at_call 66; exact quiet_below (l17Before_t y x.row x.col _ hR)))))
              refine wpQuiet_nil ?_
              intro w1 hb1
              have hB1 : Below (w.heap.size + 1) (w.alloc (.cells #[.int .i64 rows, .int .i64 cols, .slice (some ⟨b, o, none⟩) n c] 26)) w1 := hbr0.trans ((by go_grown : Below (w.heap.size + 1) wr _).trans (hb1.mono (by simp <;> omega)))
              go_wp2
              go_roundw
              case rel => exact ⟨m + 1 + 1, by omega, by go_num, hB1, hall.out.step hX.out hP (fun m' z hm hz => by
                obtain rfl : m = m' := by omega
                rw [hY.out] at hz; cases hz; exact hR)⟩
              case measure => simp [intOf]; omega
            · have hR1 : 0 ≤ cmpTile y x := Int.not_lt.1 (fun h => hR ((cmpTile_lt y x).1 h))
              go_wp2_with fail
              refine wp_region_grow (by kernel_rfl) (by kernel_rfl) ?_
              repeat (go_big_quiet_step ((first | (go_at_call 57; exact quiet_below (l17Tile_t rows cols _ x _ rfl HSD.out hP)) | (go_at_call 66; exact quiet_below (l17Before_f y x.row x.col _ hR)))))
              refine wpQuiet_nil ?_
              intro w1 hb1
              have hB1 : Below w.heap.size w w1 := hbr.trans ((by go_grown : Below w.heap.size wr _).trans (hb1.mono (by simp <;> omega)))
              go_wp2
              go_ret
              exact ⟨ret_bool (tb_f (fun h => Good.not_pair hY.out hX.out hR h.1)).symm, hB1⟩
        · clear hA hAr
          go_wp2_with fail
          refine wp_region_grow (by kernel_rfl) (by kernel_rfl) ?_
          repeat (go_big_quiet_step ((first | (go_at_call 57; exact quiet_below (l17Tile_f rows cols _ x _ rfl HSD.out hP)))))
          refine wpQuiet_nil ?_
          intro w1 hb1
          have hB1 : Below w.heap.size w w1 := hbr.trans ((by go_grown : Below w.heap.size wr _).trans (hb1.mono (by simp <;> omega)))
          go_wp2
          go_ret
          exact ⟨ret_bool (tb_f (fun h => Good.not_elem hX.out hP h.1)).symm, hB1⟩
      · have hkn : k = n := by omega
        subst hkn
        clear hA
        have hG := Lib.hid (hall.out.all (by rw [← hN.out]; exact Nat.le_refl _))
        go_wp2
        go_ret
        exact ⟨ret_bool (tb_t ⟨hG.out, HSD.out⟩).symm, hbr⟩
  · have hno : ¬ Scn rows cols xs := fun h => hsd h.2
    rw [tb_f hno]
    clear hno hA
    by_cases s1 : 1 ≤ rows ∧ rows ≤ 6
    · have s2 : ¬ (1 ≤ cols ∧ cols ≤ 6) := fun h => hsd ⟨s1.1, s1.2, h⟩
      clear hsd
      go_enter Try.func52, Try.ntmps52
      go_wp2_with fail
      refine (l1In_t rows 1 6 _ s1).mono ?_
      rintro e w' ⟨rfl, rfl⟩
      go_wp2_with fail
      refine (l1In_f cols 1 6 _ s2).mono ?_
      rintro e w' ⟨rfl, rfl⟩
      go_wp2
      go_ret
      exact ⟨rfl, by go_grown⟩
    · clear hsd
      go_enter Try.func52, Try.ntmps52
      go_wp2_with fail
      refine (l1In_f rows 1 6 _ s1).mono ?_
      rintro e w' ⟨rfl, rfl⟩
      go_wp2
      go_ret
      exact ⟨rfl, by go_grown⟩
end Go.Proofs.Ytjacadkbkkkgfaa
