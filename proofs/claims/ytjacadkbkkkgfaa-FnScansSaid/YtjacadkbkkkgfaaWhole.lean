/- Whether a scan is whole: the program's and the reference's. -/
import Derived.Test.YtjacadkbkkkgfaaScanOk
import Derived.Test.YtjacadkbkkkgfaaBase2
namespace Go.Proofs.Ytjacadkbkkkgfaa
open Go.RowKit
set_option linter.unusedVariables false
set_option linter.unusedSimpArgs false
theorem mul_side {rows cols : Int} (h : Side rows cols) : 0 ≤ rows * cols ∧ rows * cols ≤ 36 := by
  obtain ⟨h1, h2, h3, h4⟩ := h
  exact ⟨Int.mul_nonneg (by omega) (by omega), Int.le_trans (Int.mul_le_mul h2 h4 (by omega) (by omega)) (by decide)⟩
def Whole (rows cols : Int) (xs : List Tile) : Prop := Scn rows cols xs ∧ (xs.length : Int) = rows * cols

set_option maxHeartbeats 1000000 in
theorem isWhole_any (rows cols : Int) (A : Option Addr) (c : Nat) (xs : List Tile) (w : World) (hn : xs.length ≤ 1048576) (hA : Fl Tile.ints 3 w A xs) :
    Calls Try.prog 24 #[.agg #[.int .i64 rows, .int .i64 cols, .slice A xs.length c]] w fun e w' => e = .returned (.tuple #[.bool (tb (Whole rows cols xs)), .bool (tb (Scn rows cols xs))]) ∧ Below w.heap.size w w' := by
  obtain ⟨W0, hW0, hB0, hz0, hc0, _⟩ := box_world w #[Value.int .i64 rows, Value.int .i64 cols, Value.slice A xs.length c] 26
  have ea : World.cell? W0 ⟨w.heap.size, 0, none⟩ = some (.int .i64 rows) := hc0 0
  have eb : World.cell? W0 ⟨w.heap.size, 1, none⟩ = some (.int .i64 cols) := hc0 1
  have ec : World.cell? W0 ⟨w.heap.size, 2, none⟩ = some (.slice A xs.length c) := hc0 2
  clear hc0
  by_cases hs : Scn rows cols xs
  · obtain ⟨m0, m1⟩ := mul_side hs.2
    have HS := Lib.hid hs
    clear hs
    go_enter Try.func24, Try.ntmps24
    go_wp2_with fail
    refine (isScan_any rows cols A c xs W0 (by omega) (hA.ext hB0)).mono ?_
    rintro e w1 ⟨rfl, hb1⟩
    rw [tb_t HS.out]
    have hr1 := bcell hb1
    have hzz : w.heap.size < w1.heap.size := Nat.lt_of_lt_of_le hz0 hb1.size
    go_wp2
    go_ret2
    refine ⟨ret_bb ?_ (tb_t HS.out).symm, ext_trans hB0 hb1⟩
    exact eqb_tb ⟨fun h => ⟨HS.out, h⟩, fun h => h.2⟩
  · go_enter Try.func24, Try.ntmps24
    go_wp2_with fail
    refine (isScan_any rows cols A c xs W0 (by omega) (hA.ext hB0)).mono ?_
    rintro e w1 ⟨rfl, hb1⟩
    rw [tb_f hs]
    go_wp2
    go_ret2
    exact ⟨ret_bb (tb_f (fun h => hs h.1)).symm (tb_f hs).symm, ext_trans hB0 hb1⟩
end Go.Proofs.Ytjacadkbkkkgfaa
