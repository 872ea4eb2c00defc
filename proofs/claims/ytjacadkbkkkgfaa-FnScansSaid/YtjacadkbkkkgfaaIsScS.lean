/- IsScan: the reference's side. No condition. -/
import Derived.Test.YtjacadkbkkkgfaaScanOk
import Derived.Test.YtjacadkbkkkgfaaScanV
namespace Go.Proofs.Ytjacadkbkkkgfaa
open Go.RowKit
set_option linter.unusedVariables false
set_option linter.unusedSimpArgs false

set_option maxHeartbeats 400000 in
theorem specIsScan_any (rows cols : Int) (A : Option Addr) (c : Nat) (xs : List Tile) (w : World) (hn : xs.length ≤ 1152921504606846976) (hA : Fl Tile.ints 3 w A xs) :
    Calls Try.prog 36 #[.agg #[.int .i64 rows, .int .i64 cols, .slice A xs.length c]] w fun e w' => e = .returned (.bool (tb (Scn rows cols xs))) ∧ Below w.heap.size w w' := by
  obtain ⟨W0, hW0, hB0, hz0, hc0, _⟩ := box_world w #[Value.int .i64 rows, Value.int .i64 cols, Value.slice A xs.length c] 26
  have hv : Var3 W0 w.heap.size (.int .i64 rows) (.int .i64 cols) (.slice A xs.length c) := hW0 ▸ var3_box w _ _ _ _
  have h0 := hv.c0
  have h1 := hv.c1
  have h2 := hv.c2
  clear hc0 hv
  go_enter Try.func36, Try.ntmps36
  go_wp2_with fail
  refine (l17Good_any rows cols A c xs W0 hn (hA.ext hB0)).mono ?_
  rintro e w1 ⟨rfl, hb1⟩
  go_wp2
  go_ret
  exact ⟨rfl, ext_trans hB0 hb1⟩
end Go.Proofs.Ytjacadkbkkkgfaa
