/- The text of a number: the program's, by the library's contract. No condition. -/
import Derived.Test.YtlagfeccdcjimaaDoorNum
import Derived.Test.YtlagfeccdcjimaaDoorShelf
import Derived.Lib.AppendIntMem
namespace Go.Proofs.YtlagfeccdcjimaaDoor
open Go.RowKit
set_option linter.unusedVariables false
set_option linter.unusedSimpArgs false

/-- the table of powers reads as laid, whatever is done from block B on -/
def Pow (B : Nat) (w : World) : Prop := Lib.TabBelow Tryd.prog B w "internal/strconv.uint64pow10" .u64 Lib.pow10Tab
theorem Pow.on {B : Nat} {w w1 : World} (h : Pow B w) (hb : Below B w w1) : Pow B w1 := Lib.TabBelow.on h hb
theorem itoa_nat (n : Nat) : (ByteArray.mk (Lib.itoa (n : Int)).toArray) = dig n := by
  unfold dig Lib.itoa
  rw [if_neg (by omega)]
  simp
set_option maxHeartbeats 4000000 in
set_option maxRecDepth 100000 in
theorem text_any (n B : Nat) (w : World) (hn : n ≤ 1048576) (hB : B ≤ w.heap.size) (hT : Pow B w) : Calls Tryd.prog 41 #[.int .i64 (n : Int)] w fun e w' => e = .returned (.string (dig n)) ∧ Below w.heap.size w w' := by
  have hc := Lib.hid (Tryd.strconv_Itoa (n : Int) (by omega) (by omega) w hT.here)
  clear hT
  go_enter Tryd.func41, Tryd.ntmps41
  go_wp2_with fail
  ((with_reducible refine (hc.out).mono ?_); rintro e w1 ⟨rfl, k, os, rfl⟩)
  go_wp2
  refine bodyPost_ret (v := .string (dig n)) (by simp [results, Tryd.results41, go_sem, itoa_nat]) rfl ⟨rfl, Lib.below_grow _ w (Nat.le_refl _) k os⟩
end Go.Proofs.YtlagfeccdcjimaaDoor
