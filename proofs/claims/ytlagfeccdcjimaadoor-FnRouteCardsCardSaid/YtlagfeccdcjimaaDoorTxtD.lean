/- Texts of legs: the words; a number of either sign. No condition. -/
import Derived.Test.YtlagfeccdcjimaaDoorLegW
import Derived.Test.YtlagfeccdcjimaaDoorLegD
import Derived.Test.YtlagfeccdcjimaaDoorNum
import Derived.IntWalk
namespace Go.Proofs.YtlagfeccdcjimaaDoor
open Go.RowKit
set_option linter.unusedVariables false
set_option linter.unusedSimpArgs false

def wayB (way : Int) : ByteArray := if way = 0 then ⟨#[110]⟩ else if way = 1 then ⟨#[110, 101]⟩ else if way = 2 then ⟨#[101]⟩ else if way = 3 then ⟨#[115, 101]⟩ else if way = 4 then ⟨#[115]⟩ else if way = 5 then ⟨#[115, 119]⟩ else if way = 6 then ⟨#[119]⟩ else ⟨#[110, 119]⟩
theorem wayB_size (way : Int) : (wayB way).size ≤ 2 := by
  unfold wayB
  (repeat' split) <;> decide
def digI (n : Int) : ByteArray := if n < 0 then ⟨#[45]⟩ ++ dig (-n).toNat else dig n.toNat
theorem digI_size {n : Int} (h : -999 ≤ n ∧ n ≤ 999) : (digI n).size ≤ 1002 := by
  unfold digI
  split
  · have := dig_size (-n).toNat
    rw [ByteArray.size_append]
    have e1 : ByteArray.size ⟨#[45]⟩ = 1 := rfl
    omega
  · have := dig_size n.toNat
    omega
theorem itoa_int (n : Int) : (ByteArray.mk (Lib.itoa n).toArray) = digI n := by
  unfold digI Lib.itoa dig
  split
  · rw [show (-n).toNat = n.natAbs by omega]
    apply ByteArray.ext
    simp
  · rfl
def legT (x : Leg) : ByteArray := if 0 < x.climb then wayB x.way ++ dig x.units.toNat ++ ⟨#[43]⟩ ++ digI x.climb else if x.climb < 0 then wayB x.way ++ dig x.units.toNat ++ digI x.climb else wayB x.way ++ dig x.units.toNat
theorem legT_size {x : Leg} (h : IsLeg x) : (legT x).size ≤ 2100 := by
  unfold IsLeg at h
  have h1 := wayB_size x.way
  have h2 := dig_size x.units.toNat
  have h3 := digI_size h.2.2
  have e1 : ByteArray.size ⟨#[43]⟩ = 1 := rfl
  unfold legT
  split
  · simp only [ByteArray.size_append]; omega
  · split
    · simp only [ByteArray.size_append]; omega
    · simp only [ByteArray.size_append]; omega
set_option maxHeartbeats 2000000 in
theorem l1NumI_any (n : Int) (h : -999 ≤ n ∧ n ≤ 999) (w : World) : Calls Tryd.prog 60 #[.int .i64 n] w fun e w' => e = .returned (.string (digI n)) ∧ Below w.heap.size w w' := by
  by_cases hn : n < 0
  · obtain ⟨m, hm⟩ : ∃ m : Nat, n = -(m : Int) := ⟨n.natAbs, by omega⟩
    subst hm
    have hd : digI (-(m : Int)) = ⟨#[45]⟩ ++ dig m := by unfold digI; rw [if_pos hn, show (- -(m : Int)).toNat = m by omega]
    have HD := Lib.hid hd
    have hw : IntKind.i64.wrap (- -(m : Int)) = (m : Int) := by rw [show - -(m : Int) = (m : Int) by omega]; exact IntWalk.i64_in _ (by omega)
    have hw2 : IntKind.i64.wrap (m : Int) = (m : Int) := IntWalk.i64_in _ (by omega)
    have HN := Lib.hid (l1Num_any m w (by omega))
    have hsz := dig_size m
    have hm0 : (0 : Int) < (m : Int) := by omega
    clear hd
    go_enter Tryd.func60, Tryd.ntmps60
    go_wp2_with fail
    ((with_reducible refine (HN.out).mono ?_); rintro e w1 ⟨rfl, hb1⟩)
    go_wp2
    refine bodyPost_ret (v := .string (⟨#[45]⟩ ++ dig m)) (by simp [results, Tryd.results60, go_sem]) rfl ⟨by rw [HD.out], hb1⟩
  · obtain ⟨m, hm⟩ : ∃ m : Nat, n = (m : Int) := ⟨n.toNat, by omega⟩
    subst hm
    have hd : digI (m : Int) = dig m := by unfold digI; rw [if_neg hn, Int.toNat_natCast]
    rw [hd]
    exact l1Num_any m w (by omega)
end Go.Proofs.YtlagfeccdcjimaaDoor
