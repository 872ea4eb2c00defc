/- The sum of the tile at a place: the program's and the reference's. -/
import Derived.Test.YtjacadkbkkkgfaaScanOk
import Derived.Test.YtjacadkbkkkgfaaBase2
namespace Go.Proofs.Ytjacadkbkkkgfaa
open Go.RowKit
set_option linter.unusedVariables false
set_option linter.unusedSimpArgs false
def AtP (row col : Int) (t : Tile) : Prop := t.row = row ∧ t.col = col
instance (row col : Int) (t : Tile) : Decidable (AtP row col t) := inferInstanceAs (Decidable (_ ∧ _))
def atI (row col : Int) : List Tile → Int
  | [] => -1
  | t :: ts => if AtP row col t then 0 else if atI row col ts < 0 then -1 else atI row col ts + 1
def sumAt (row col : Int) : List Tile → Int
  | [] => -1
  | t :: ts => if AtP row col t then t.sum else sumAt row col ts
def NoTo (row col : Int) (xs : List Tile) (k : Nat) : Prop := ∀ j t, j < k → xs[j]? = some t → ¬ AtP row col t
theorem at_found {row col : Int} : ∀ {xs : List Tile} {k : Nat} {z : Tile}, xs[k]? = some z → AtP row col z → NoTo row col xs k → atI row col xs = k ∧ sumAt row col xs = z.sum := by
  intro xs
  induction xs with
  | nil => intro k z h; simp at h
  | cons y ys ih =>
    intro k z h hz hno
    rcases k with _ | k
    · simp at h
      subst h
      simp [atI, sumAt, hz]
    · have hy := hno 0 y (by omega) rfl
      obtain ⟨h1, h2⟩ := ih (k := k) (z := z) (by simpa using h) hz (fun j t hj ht => hno (j + 1) t (by omega) (by simpa using ht))
      refine ⟨?_, by simp [sumAt, hy, h2]⟩
      rw [atI, if_neg hy, if_neg (by rw [h1]; omega), h1]
      omega
theorem at_none {row col : Int} : ∀ {xs : List Tile}, NoTo row col xs xs.length → atI row col xs = -1 ∧ sumAt row col xs = -1 := by
  intro xs
  induction xs with
  | nil => intro _; exact ⟨rfl, rfl⟩
  | cons y ys ih =>
    intro hno
    have hy := hno 0 y (by simp) rfl
    obtain ⟨h1, h2⟩ := ih (fun j t hj ht => hno (j + 1) t (by simp; omega) (by simpa using ht))
    exact ⟨by rw [atI, if_neg hy, if_pos (by rw [h1]; decide)], by rw [sumAt, if_neg hy, h2]⟩
theorem at_some (row col : Int) : ∀ xs : List Tile, (atI row col xs = -1 ∧ sumAt row col xs = -1) ∨ ∃ (k : Nat) (z : Tile), atI row col xs = k ∧ xs[k]? = some z ∧ sumAt row col xs = z.sum := by
  intro xs
  induction xs with
  | nil => exact .inl ⟨rfl, rfl⟩
  | cons y ys ih =>
    by_cases hy : AtP row col y
    · exact .inr ⟨0, y, by simp [atI, hy], rfl, by simp [sumAt, hy]⟩
    · rcases ih with ⟨h1, h2⟩ | ⟨k, z, h1, h2, h3⟩
      · exact .inl ⟨by rw [atI, if_neg hy, if_pos (by rw [h1]; decide)], by rw [sumAt, if_neg hy, h2]⟩
      · exact .inr ⟨k + 1, z, by rw [atI, if_neg hy, if_neg (by rw [h1]; omega), h1]; omega, by simpa using h2, by rw [sumAt, if_neg hy, h3]⟩
theorem NoTo.step {row col : Int} {xs : List Tile} {k : Nat} {z : Tile} (h : NoTo row col xs k) (hx : xs[k]? = some z) (hz : ¬ AtP row col z) : NoTo row col xs (k + 1) := fun j t hj ht => by
  by_cases e : j = k
  · subst e
    rw [hx] at ht
    cases ht
    exact hz
  · exact h j t (by omega) ht
def SumOk (rows cols : Int) (xs : List Tile) (row col : Int) : Prop := Scn rows cols xs ∧ 0 ≤ atI row col xs

set_option maxHeartbeats 1000000 in
set_option maxRecDepth 100000 in
theorem sumAtM_any (rows cols : Int) (A : Option Addr) (c : Nat) (xs : List Tile) (row col : Int) (w : World) (hn : xs.length ≤ 1048576) (hA : Fl Tile.ints 3 w A xs) :
    Calls Try.prog 46 #[.agg #[.int .i64 rows, .int .i64 cols, .slice A xs.length c], .int .i64 row, .int .i64 col] w fun e w' => e = .returned (.int .i64 (sumAt row col xs)) ∧ Below w.heap.size w w' := by
  obtain ⟨n, hnn⟩ : ∃ n, n = List.length xs := ⟨_, rfl⟩
  rw [← hnn] at hn ⊢
  have hN := Lib.hid hnn
  clear hnn
  obtain ⟨W0, hW0, hB0, hz0, hc0, _⟩ := box_world w #[Value.int .i64 rows, Value.int .i64 cols, Value.slice A n c] 26
  have ea : World.cell? W0 ⟨w.heap.size, 0, none⟩ = some (.int .i64 rows) := hc0 0
  have eb : World.cell? W0 ⟨w.heap.size, 1, none⟩ = some (.int .i64 cols) := hc0 1
  have ec : World.cell? W0 ⟨w.heap.size, 2, none⟩ = some (.slice A n c) := hc0 2
  clear hc0
  go_enter Try.func46, Try.ntmps46
  go_wp2_with fail
  go_loopw [12] (fun i wr => ∃ k : Nat, k ≤ n ∧ i = .int .i64 k ∧ Below W0.heap.size W0 wr ∧ Hid (NoTo row col xs k)) (fun i _ => n - (intOf i).toNat)
  case atStart => exact ⟨0, by omega, rfl, Below.refl _ _, fun j t hj => absurd hj (by omega)⟩
  case round =>
    obtain ⟨k, hk, rfl, hbr1, hno⟩ := hrel
    have hcr := bcell hbr1
    have hbr := ext_trans hB0 hbr1
    have hzr := hbr1.size
    by_cases hlt : k < n
    · have hAr := hA.ext hbr
      obtain ⟨z, b, o, hx, rfl, hbb, hc⟩ := hAr.at_ (k := k) (by rw [← hN.out]; exact hlt)
      have c0 : World.cell? wr ⟨b, o + k * 3, none⟩ = some (.int .i64 z.row) := hc 0 _ rfl
      have c1 : World.cell? wr ⟨b, o + k * 3 + 1, none⟩ = some (.int .i64 z.col) := hc 1 _ rfl
      have c2 : World.cell? wr ⟨b, o + k * 3 + 2, none⟩ = some (.int .i64 z.sum) := hc 2 _ rfl
      have HX := Lib.hid hx
      clear hx hc hA hAr
      have hk0 : (0 : Int) ≤ (k : Int) := by omega
      have hk1 : (k : Int) < (n : Int) := by omega
      by_cases hP : z.row = row
      · by_cases hQ : z.col = col
        · go_wp2
          go_ret
          have hf := at_found HX.out ⟨hP, hQ⟩ hno.out
          exact ⟨ret_int (by simp [hf]), by first | exact hbr | exact hbr.trans (by go_grown) | exact hbr.alloc (Nat.le_trans (Nat.le_of_lt hz0) hzr) _⟩
        · go_wp2
          go_roundw
          case rel => exact ⟨k + 1, by omega, by go_num, by first | exact hbr1 | exact hbr1.alloc hzr _, hno.out.step HX.out (fun h => hQ h.2)⟩
          case measure => simp [intOf]; omega
      · go_wp2
        go_roundw
        case rel => exact ⟨k + 1, by omega, by go_num, by first | exact hbr1 | exact hbr1.alloc hzr _, hno.out.step HX.out (fun h => hP h.1)⟩
        case measure => simp [intOf]; omega
    · have hkn : k = n := by omega
      subst hkn
      go_wp2
      go_ret
      have hf := at_none (row := row) (col := col) (xs := xs) (by rw [← hN.out]; exact hno.out)
      exact ⟨ret_int (by simp [hf]), hbr⟩
set_option maxHeartbeats 1000000 in
set_option maxRecDepth 100000 in
theorem l17At_any (rows cols : Int) (A : Option Addr) (c : Nat) (xs : List Tile) (row col : Int) (w : World) (hn : xs.length ≤ 1048576) (hA : Fl Tile.ints 3 w A xs) :
    Calls Try.prog 47 #[.agg #[.int .i64 rows, .int .i64 cols, .slice A xs.length c], .int .i64 row, .int .i64 col] w fun e w' => e = .returned (.int .i64 (atI row col xs)) ∧ Below w.heap.size w w' := by
  obtain ⟨n, hnn⟩ : ∃ n, n = List.length xs := ⟨_, rfl⟩
  rw [← hnn] at hn ⊢
  have hN := Lib.hid hnn
  clear hnn
  obtain ⟨W0, hW0, hB0, hz0, hc0, _⟩ := box_world w #[Value.int .i64 rows, Value.int .i64 cols, Value.slice A n c] 26
  have ea : World.cell? W0 ⟨w.heap.size, 0, none⟩ = some (.int .i64 rows) := hc0 0
  have eb : World.cell? W0 ⟨w.heap.size, 1, none⟩ = some (.int .i64 cols) := hc0 1
  have ec : World.cell? W0 ⟨w.heap.size, 2, none⟩ = some (.slice A n c) := hc0 2
  clear hc0
  go_enter Try.func47, Try.ntmps47
  go_wp2_with fail
  go_loopw [7] (fun i wr => ∃ k : Nat, k ≤ n ∧ i = .int .i64 k ∧ Below W0.heap.size W0 wr ∧ Hid (NoTo row col xs k)) (fun i _ => n - (intOf i).toNat)
  case atStart => exact ⟨0, by omega, rfl, Below.refl _ _, fun j t hj => absurd hj (by omega)⟩
  case round =>
    obtain ⟨k, hk, rfl, hbr1, hno⟩ := hrel
    have hcr := bcell hbr1
    have hbr := ext_trans hB0 hbr1
    have hzr := hbr1.size
    by_cases hlt : k < n
    · have hAr := hA.ext hbr
      obtain ⟨z, b, o, hx, rfl, hbb, hc⟩ := hAr.at_ (k := k) (by rw [← hN.out]; exact hlt)
      have c0 : World.cell? wr ⟨b, o + k * 3, none⟩ = some (.int .i64 z.row) := hc 0 _ rfl
      have c1 : World.cell? wr ⟨b, o + k * 3 + 1, none⟩ = some (.int .i64 z.col) := hc 1 _ rfl
      have c2 : World.cell? wr ⟨b, o + k * 3 + 2, none⟩ = some (.int .i64 z.sum) := hc 2 _ rfl
      have HX := Lib.hid hx
      clear hx hc hA hAr
      have hk0 : (0 : Int) ≤ (k : Int) := by omega
      have hk1 : (k : Int) < (n : Int) := by omega
      by_cases hP : z.row = row
      · by_cases hQ : z.col = col
        · go_wp2
          go_ret
          have hf := at_found HX.out ⟨hP, hQ⟩ hno.out
          exact ⟨ret_int (by simp [hf]), by first | exact hbr | exact hbr.trans (by go_grown) | exact hbr.alloc (Nat.le_trans (Nat.le_of_lt hz0) hzr) _⟩
        · go_wp2
          go_roundw
          case rel => exact ⟨k + 1, by omega, by go_num, by first | exact hbr1 | exact hbr1.alloc hzr _, hno.out.step HX.out (fun h => hQ h.2)⟩
          case measure => simp [intOf]; omega
      · go_wp2
        go_roundw
        case rel => exact ⟨k + 1, by omega, by go_num, by first | exact hbr1 | exact hbr1.alloc hzr _, hno.out.step HX.out (fun h => hP h.1)⟩
        case measure => simp [intOf]; omega
    · have hkn : k = n := by omega
      subst hkn
      go_wp2
      go_ret
      have hf := at_none (row := row) (col := col) (xs := xs) (by rw [← hN.out]; exact hno.out)
      exact ⟨ret_int (by simp [hf]), hbr⟩
theorem at_pos' {rows cols : Int} {xs : List Tile} (h : Scn rows cols xs) (row col : Int) : (0 ≤ atI row col xs ∧ 0 ≤ sumAt row col xs) ∨ (atI row col xs = -1 ∧ sumAt row col xs = -1) := by
  rcases at_some row col xs with h1 | ⟨k, z, h1, h2, h3⟩
  · exact .inr h1
  · have := (h.1.1 k z h2).2.2.2.2.1
    exact .inl ⟨by omega, by omega⟩
set_option maxHeartbeats 1000000 in
set_option maxRecDepth 100000 in
theorem sumAt_any (rows cols : Int) (A : Option Addr) (c : Nat) (xs : List Tile) (row col : Int) (w : World) (hn : xs.length ≤ 1048576) (hA : Fl Tile.ints 3 w A xs) :
    Calls Try.prog 13 #[.agg #[.int .i64 rows, .int .i64 cols, .slice A xs.length c], .int .i64 row, .int .i64 col] w fun e w' => e = .returned (.tuple #[.int .i64 (seli (SumOk rows cols xs row col) (sumAt row col xs)), .bool (tb (SumOk rows cols xs row col))]) ∧ Below w.heap.size w w' := by
  obtain ⟨W0, hW0, hB0, hz0, hc0, _⟩ := box_world w #[Value.int .i64 rows, Value.int .i64 cols, Value.slice A xs.length c] 26
  have ea : World.cell? W0 ⟨w.heap.size, 0, none⟩ = some (.int .i64 rows) := hc0 0
  have eb : World.cell? W0 ⟨w.heap.size, 1, none⟩ = some (.int .i64 cols) := hc0 1
  have ec : World.cell? W0 ⟨w.heap.size, 2, none⟩ = some (.slice A xs.length c) := hc0 2
  clear hc0
  have hA0 := hA.ext hB0
  by_cases hs : Scn rows cols xs
  · rcases at_some row col xs with ⟨h1, h2⟩ | ⟨k, z, h1, h2, h3⟩
    · have hok : ¬ SumOk rows cols xs row col := fun h => by have := h.2; omega
      rw [seli_f hok, tb_f hok]
      go_enter Try.func13, Try.ntmps13
      go_wp2_with fail
      refine (isScan_any rows cols A c xs W0 (by omega) hA0).mono ?_
      rintro e w1 ⟨rfl, hb1⟩
      rw [tb_t hs]
      have hx1 := ext_trans hB0 hb1
      have hr1 := bcell hb1
      have hzz : w.heap.size < w1.heap.size := Nat.lt_of_lt_of_le hz0 hb1.size
      go_wp2_with fail
      refine (sumAtM_any rows cols A c xs row col w1 hn (hA.ext hx1)).mono ?_
      rintro e w2 ⟨rfl, hb2⟩
      rw [h2]
      go_wp2
      go_ret2
      exact ⟨rfl, ext_trans hx1 hb2⟩
    · have hok : SumOk rows cols xs row col := ⟨hs, by omega⟩
      have hz5 : 0 ≤ z.sum := (hs.1.1 k z h2).2.2.2.2.1
      rw [seli_t hok, tb_t hok, h3]
      go_enter Try.func13, Try.ntmps13
      go_wp2_with fail
      refine (isScan_any rows cols A c xs W0 (by omega) hA0).mono ?_
      rintro e w1 ⟨rfl, hb1⟩
      rw [tb_t hs]
      have hx1 := ext_trans hB0 hb1
      have hr1 := bcell hb1
      have hzz : w.heap.size < w1.heap.size := Nat.lt_of_lt_of_le hz0 hb1.size
      go_wp2_with fail
      refine (sumAtM_any rows cols A c xs row col w1 hn (hA.ext hx1)).mono ?_
      rintro e w2 ⟨rfl, hb2⟩
      rw [h3]
      have hx2 := ext_trans hx1 hb2
      have hr2 := bcell hb2
      have hzy : w.heap.size < w2.heap.size := Nat.lt_of_lt_of_le hzz hb2.size
      go_wp2_with fail
      refine (sumAtM_any rows cols A c xs row col w2 hn (hA.ext hx2)).mono ?_
      rintro e w3 ⟨rfl, hb3⟩
      rw [h3]
      go_wp2
      go_ret2
      exact ⟨rfl, ext_trans hx2 hb3⟩
  · have hok : ¬ SumOk rows cols xs row col := fun h => hs h.1
    rw [seli_f hok, tb_f hok]
    go_enter Try.func13, Try.ntmps13
    go_wp2_with fail
    refine (isScan_any rows cols A c xs W0 (by omega) hA0).mono ?_
    rintro e w1 ⟨rfl, hb1⟩
    rw [tb_f hs]
    go_wp2
    go_ret2
    exact ⟨rfl, ext_trans hB0 hb1⟩

set_option maxHeartbeats 1000000 in
set_option maxRecDepth 100000 in
theorem specSumAt_any (rows cols : Int) (A : Option Addr) (c : Nat) (xs : List Tile) (row col : Int) (w : World) (hn : xs.length ≤ 1048576) (hA : Fl Tile.ints 3 w A xs) :
    Calls Try.prog 30 #[.agg #[.int .i64 rows, .int .i64 cols, .slice A xs.length c], .int .i64 row, .int .i64 col] w fun e w' => e = .returned (.tuple #[.int .i64 (seli (SumOk rows cols xs row col) (sumAt row col xs)), .bool (tb (SumOk rows cols xs row col))]) ∧ Below w.heap.size w w' := by
  obtain ⟨W0, hW0, hB0, hz0, hc0, _⟩ := box_world w #[Value.int .i64 rows, Value.int .i64 cols, Value.slice A xs.length c] 26
  have ea : World.cell? W0 ⟨w.heap.size, 0, none⟩ = some (.int .i64 rows) := hc0 0
  have eb : World.cell? W0 ⟨w.heap.size, 1, none⟩ = some (.int .i64 cols) := hc0 1
  have ec : World.cell? W0 ⟨w.heap.size, 2, none⟩ = some (.slice A xs.length c) := hc0 2
  clear hc0
  have hA0 := hA.ext hB0
  rcases at_some row col xs with ⟨h1, h2⟩ | ⟨k, z, h1, h2, h3⟩
  · have hok : ¬ SumOk rows cols xs row col := fun h => by have := h.2; omega
    rw [seli_f hok, tb_f hok]
    go_enter Try.func30, Try.ntmps30
    go_wp2_with fail
    refine (l17At_any rows cols A c xs row col W0 hn hA0).mono ?_
    rintro e w1 ⟨rfl, hb1⟩
    rw [h1]
    have hx1 := ext_trans hB0 hb1
    have hr1 := bcell hb1
    have hzz : w.heap.size < w1.heap.size := Nat.lt_of_lt_of_le hz0 hb1.size
    go_wp2_with fail
    refine (l17Good_any rows cols A c xs w1 (by omega) (hA.ext hx1)).mono ?_
    rintro e w2 ⟨rfl, hb2⟩
    by_cases hs : Scn rows cols xs
    · rw [tb_t hs]
      go_wp2
      go_ret2
      exact ⟨rfl, ext_trans hx1 hb2⟩
    · rw [tb_f hs]
      go_wp2
      go_ret2
      exact ⟨rfl, ext_trans hx1 hb2⟩
  · have hkn : k < xs.length := lt_of_get h2
    go_enter Try.func30, Try.ntmps30
    go_wp2_with fail
    refine (l17At_any rows cols A c xs row col W0 hn hA0).mono ?_
    rintro e w1 ⟨rfl, hb1⟩
    rw [h1]
    have hx1 := ext_trans hB0 hb1
    have hr1 := bcell hb1
    have hzz : w.heap.size < w1.heap.size := Nat.lt_of_lt_of_le hz0 hb1.size
    go_wp2_with fail
    refine (l17Good_any rows cols A c xs w1 (by omega) (hA.ext hx1)).mono ?_
    rintro e w2 ⟨rfl, hb2⟩
    have hx2 := ext_trans hx1 hb2
    by_cases hs : Scn rows cols xs
    · have hok : SumOk rows cols xs row col := ⟨hs, by omega⟩
      rw [tb_t hs]
      have hr2 := bcell hb2
      have hzy : w.heap.size < w2.heap.size := Nat.lt_of_lt_of_le hzz hb2.size
      obtain ⟨z', b, o, hx, rfl, hbb, hc⟩ := (hA.ext hx2).at_ (k := k) hkn
      rw [h2] at hx
      cases hx
      have c0 : World.cell? w2 ⟨b, o + k * 3, none⟩ = some (.int .i64 z.row) := hc 0 _ rfl
      have c1 : World.cell? w2 ⟨b, o + k * 3 + 1, none⟩ = some (.int .i64 z.col) := hc 1 _ rfl
      have c2 : World.cell? w2 ⟨b, o + k * 3 + 2, none⟩ = some (.int .i64 z.sum) := hc 2 _ rfl
      have hk0 : (0 : Int) ≤ (k : Int) := by omega
      have hk1 : (k : Int) < (xs.length : Int) := by omega
      clear hc
      go_wp2
      go_ret2
      exact ⟨ret_ib (by rw [seli_t hok, h3]) (tb_t hok).symm, hx2⟩
    · have hok : ¬ SumOk rows cols xs row col := fun h => hs h.1
      rw [tb_f hs]
      go_wp2
      go_ret2
      exact ⟨ret_ib (seli_f hok).symm (tb_f hok).symm, hx2⟩
end Go.Proofs.Ytjacadkbkkkgfaa
