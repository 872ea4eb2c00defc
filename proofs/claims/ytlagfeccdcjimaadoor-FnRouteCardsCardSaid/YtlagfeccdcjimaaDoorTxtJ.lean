/- A number's text of either sign: the program's. No condition. -/
import Derived.Test.YtlagfeccdcjimaaDoorTxtD
import Derived.Test.YtlagfeccdcjimaaDoorTextI
namespace Go.Proofs.YtlagfeccdcjimaaDoor
open Go.RowKit
set_option linter.unusedVariables false
set_option linter.unusedSimpArgs false

set_option maxHeartbeats 4000000 in
set_option maxRecDepth 100000 in
theorem textI_any (n : Int) (B : Nat) (w : World) (hn : -999 ≤ n ∧ n ≤ 999) (hB : B ≤ w.heap.size) (hT : Pow B w) : Calls Tryd.prog 41 #[.int .i64 n] w fun e w' => e = .returned (.string (digI n)) ∧ Below w.heap.size w w' := by
  have hc := Lib.hid (Tryd.strconv_Itoa n (by omega) (by omega) w hT.here)
  clear hT
  go_enter Tryd.func41, Tryd.ntmps41
  go_wp2_with fail
  ((with_reducible refine (hc.out).mono ?_); rintro e w1 ⟨rfl, k, os, rfl⟩)
  go_wp2
  refine bodyPost_ret (v := .string (digI n)) (by simp [results, Tryd.results41, go_sem, itoa_int]) rfl ⟨rfl, Lib.below_grow _ w (Nat.le_refl _) k os⟩
end Go.Proofs.YtlagfeccdcjimaaDoor
