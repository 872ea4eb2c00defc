/- Small facts on lists, and on calls that hand back lists. -/
import Derived.Test.YtlagfeccdcjimaaDoorBase
import Derived.Test.YtlagfeccdcjimaaDoorBase2
namespace Go.Proofs.YtlagfeccdcjimaaDoor
open Go.RowKit
set_option linter.unusedVariables false

theorem drop_get {α : Type} {xs : List α} {k : Nat} {x : α} (hx : xs[k]? = some x) : xs.drop k = x :: xs.drop (k + 1) := by
  have hk := lt_of_get hx
  rw [List.drop_eq_getElem_cons hk]
  rw [List.getElem?_eq_getElem hk] at hx
  injection hx with hx
  rw [hx]
theorem drop_all {α : Type} {xs : List α} {k : Nat} (hk : xs.length ≤ k) : xs.drop k = [] := List.drop_of_length_le hk
/-- a call that hands back a new slice of integers, and leaves what was there -/
def RetI (w : World) (ys : List Int) (e : Ending) (w' : World) : Prop :=
  ∃ B d, e = .returned (.slice B ys.length d) ∧ FlO one 1 w.heap.size w'.heap.size w' B ys ∧ Below w.heap.size w w'
theorem ret_iib {a b c d : Int} {x y : Bool} (h : a = c) (k : b = d) (l : x = y) : Ending.returned (.tuple #[.int .i64 a, .int .i64 b, .bool x]) = .returned (.tuple #[.int .i64 c, .int .i64 d, .bool y]) := by rw [h, k, l]

/-- the first place of a number, counted from i, or -1 -/
def idxF (v : Int) : Nat → List Int → Int
  | _, [] => -1
  | i, x :: r => if x = v then (i : Int) else idxF v (i + 1) r
theorem idxF_t {v x : Int} {xs : List Int} {k : Nat} (hx : xs[k]? = some x) (h : x = v) : idxF v k (xs.drop k) = k := by rw [drop_get hx, idxF, if_pos h]
theorem idxF_f {v x : Int} {xs : List Int} {k : Nat} (hx : xs[k]? = some x) (h : x ≠ v) : idxF v k (xs.drop k) = idxF v (k + 1) (xs.drop (k + 1)) := by rw [drop_get hx, idxF, if_neg h]
theorem idxF_mem (v : Int) : ∀ (i : Nat) (xs : List Int), 0 ≤ idxF v i xs ↔ v ∈ xs
  | i, [] => by simp [idxF]
  | i, x :: r => by
    rw [idxF]
    by_cases h : x = v
    · rw [if_pos h]; simp [h]
    · rw [if_neg h, idxF_mem v (i + 1) r]
      simp [Ne.symm h]
end Go.Proofs.YtlagfeccdcjimaaDoor
