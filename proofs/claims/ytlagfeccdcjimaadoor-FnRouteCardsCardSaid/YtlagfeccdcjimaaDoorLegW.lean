/- Legs: the walk, the parts, the steps. -/
import Derived.Test.YtlagfeccdcjimaaDoorLegD
namespace Go.Proofs.YtlagfeccdcjimaaDoor
open Go.RowKit
set_option linter.unusedVariables false
set_option linter.unusedSimpArgs false

def walkL (x : Leg) : Int := if x.way = 0 ∨ x.way = 2 ∨ x.way = 4 ∨ x.way = 6 then 10 * x.units else 14 * x.units
def posI (n : Int) : Int := if 0 < n then n else 0
def absI (n : Int) : Int := if n < 0 then -n else n
def mxI (a b : Int) : Int := if b < a then a else b
theorem mxI_pos (n : Int) : mxI 0 n = posI n := by unfold mxI posI; split <;> split <;> omega
theorem mxI_abs (n : Int) : mxI n (-n) = absI n := by unfold mxI absI; split <;> split <;> omega
theorem posI_bd {n m : Int} (h : n ≤ m) (hm : 0 ≤ m) : 0 ≤ posI n ∧ posI n ≤ m := by unfold posI; split <;> omega
theorem absI_bd {n m : Int} (h : -m ≤ n) (h2 : n ≤ m) : 0 ≤ absI n ∧ absI n ≤ m := by unfold absI; split <;> omega
def partsL (x : Leg) : Int := 18 * walkL x + 15 * posI x.climb + 5 * posI (-100 - x.climb)
def stepE (way : Int) : Int := if way = 1 ∨ way = 2 ∨ way = 3 then 1 else if way = 5 ∨ way = 6 ∨ way = 7 then -1 else 0
def stepN (way : Int) : Int := if way = 0 ∨ way = 1 ∨ way = 7 then 1 else if way = 3 ∨ way = 4 ∨ way = 5 then -1 else 0
theorem walkL_bd {x : Leg} (h : IsLeg x) : 0 ≤ walkL x ∧ walkL x ≤ 13986 := by
  unfold IsLeg at h
  unfold walkL
  split <;> omega
theorem partsL_bd {x : Leg} (h : IsLeg x) : 0 ≤ partsL x ∧ partsL x ≤ 300000 := by
  have h1 := walkL_bd h
  unfold IsLeg at h
  unfold partsL posI
  split <;> split <;> omega
theorem stepE_bd (w : Int) : -1 ≤ stepE w ∧ stepE w ≤ 1 := by unfold stepE; split <;> (try split) <;> omega
theorem stepN_bd (w : Int) : -1 ≤ stepN w ∧ stepN w ≤ 1 := by unfold stepN; split <;> (try split) <;> omega
set_option maxHeartbeats 1000000 in
theorem walkLeg_any (x : Leg) (h : IsLeg x) (w : World) :
    Calls Tryd.prog 35 #[.agg #[.int .i64 x.way, .int .i64 x.units, .int .i64 x.climb]] w fun e w' => e = .returned (.int .i64 (walkL x)) ∧ Below w.heap.size w w' := by
  obtain ⟨wy, u, cl⟩ := x
  unfold IsLeg at h
  simp only at h ⊢
  obtain ⟨⟨p1, p2⟩, ⟨p3, p4⟩, ⟨p5, p6⟩⟩ := h
  have hw : wy = 0 ∨ wy = 1 ∨ wy = 2 ∨ wy = 3 ∨ wy = 4 ∨ wy = 5 ∨ wy = 6 ∨ wy = 7 := by omega
  rcases hw with rfl | rfl | rfl | rfl | rfl | rfl | rfl | rfl
  all_goals
    go_enter Tryd.func35, Tryd.ntmps35
    go_wp2
    go_ret
    exact ⟨ret_int (by simp [walkL]), by go_grown⟩
set_option maxHeartbeats 1000000 in
theorem l15Walk_any (x : Leg) (h : IsLeg x) (w : World) :
    Calls Tryd.prog 54 #[.agg #[.int .i64 x.way, .int .i64 x.units, .int .i64 x.climb]] w fun e w' => e = .returned (.int .i64 (walkL x)) ∧ Below w.heap.size w w' := by
  obtain ⟨wy, u, cl⟩ := x
  unfold IsLeg at h
  simp only at h ⊢
  obtain ⟨⟨p1, p2⟩, ⟨p3, p4⟩, ⟨p5, p6⟩⟩ := h
  have hw : wy = 0 ∨ wy = 1 ∨ wy = 2 ∨ wy = 3 ∨ wy = 4 ∨ wy = 5 ∨ wy = 6 ∨ wy = 7 := by omega
  rcases hw with rfl | rfl | rfl | rfl | rfl | rfl | rfl | rfl
  all_goals
    go_enter Tryd.func54, Tryd.ntmps54
    go_wp2
    go_ret
    exact ⟨ret_int (by simp [walkL]), by go_grown⟩
set_option maxHeartbeats 400000 in
theorem abs_any (n : Int) (h : -999 ≤ n ∧ n ≤ 999) (w : World) :
    Calls Tryd.prog 24 #[.int .i64 n] w fun e w' => e = .returned (.int .i64 (absI n)) ∧ w = w' := by
  obtain ⟨h1, h2⟩ := h
  by_cases hn : n < 0
  · go_enter Tryd.func24, Tryd.ntmps24
    go_wp2
    go_ret
    exact ⟨ret_int (by unfold absI; split <;> omega), rfl⟩
  · go_enter Tryd.func24, Tryd.ntmps24
    go_wp2
    go_ret
    exact ⟨ret_int (by unfold absI; split <;> omega), rfl⟩
set_option maxHeartbeats 400000 in
theorem l1Most_any (a b : Int) (w : World) :
    Calls Tryd.prog 55 #[.int .i64 a, .int .i64 b] w fun e w' => e = .returned (.int .i64 (mxI a b)) ∧ w = w' := by
  by_cases h : b < a
  · rw [show mxI a b = a from if_pos h]
    go_enter Tryd.func55, Tryd.ntmps55
    go_wp2
    go_ret
    exact ⟨rfl, rfl⟩
  · rw [show mxI a b = b from if_neg h]
    go_enter Tryd.func55, Tryd.ntmps55
    go_wp2
    go_ret
    exact ⟨rfl, rfl⟩
end Go.Proofs.YtlagfeccdcjimaaDoor
