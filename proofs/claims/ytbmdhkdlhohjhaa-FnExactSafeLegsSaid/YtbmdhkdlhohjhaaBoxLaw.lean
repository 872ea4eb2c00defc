/- The laws' own functions over structs that hold a slice: what is left of the size; the marks. -/
import Derived.Test.YtbmdhkdlhohjhaaFamLand
import Derived.Test.YtbmdhkdlhohjhaaBase2
namespace Go.Proofs.Ytbmdhkdlhohjhaa
open Go.RowKit
set_option linter.unusedVariables false
set_option linter.unusedSimpArgs false
set_option maxHeartbeats 400000 in
theorem szLandG_no (wide high steep : Int) (A : Option Addr) (n c : Nat) (w : World) (left : Int) (h0 : 0 ≤ left) (h1 : left ≤ 1048576) (hn : n ≤ 9223372036854775807) (h : left < (n : Int)) :
    Calls Try.prog 12 #[.agg #[.int .i64 wide, .int .i64 high, .slice A n c, .int .i64 steep], .int .i64 left] w fun e w' => e = .returned (.int .i64 (-1)) ∧ Below w.heap.size w w' := by
  go_enter Try.func12, Try.ntmps12
  go_wp2_with fail
  refine (szIntA4S_no A n c _ left h0 h1 hn h).mono ?_
  rintro e w1 ⟨rfl, rfl⟩
  go_wp2
  go_ret
  exact ⟨rfl, by go_grown⟩
set_option maxHeartbeats 400000 in
theorem szLandG_ok (wide high steep : Int) (A : Option Addr) (n c : Nat) (w : World) (left : Int) (h0 : 0 ≤ left) (h1 : left ≤ 1048576) (hn : n ≤ 9223372036854775807) (h : (n : Int) ≤ left) :
    Calls Try.prog 12 #[.agg #[.int .i64 wide, .int .i64 high, .slice A n c, .int .i64 steep], .int .i64 left] w fun e w' => e = .returned (.int .i64 (left - n)) ∧ Below w.heap.size w w' := by
  have hd : ¬ left - (n : Int) < 0 := by omega
  go_enter Try.func12, Try.ntmps12
  go_wp2_with fail
  refine (szIntA4S_ok A n c _ left h0 h1 hn h).mono ?_
  rintro e w1 ⟨rfl, rfl⟩
  go_wp2
  go_ret
  exact ⟨rfl, by go_grown⟩
end Go.Proofs.Ytbmdhkdlhohjhaa
