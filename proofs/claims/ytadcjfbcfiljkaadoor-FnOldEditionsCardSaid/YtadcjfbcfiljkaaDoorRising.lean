/- Whether numbers are rising: the program's isRising and the reference's l1Rising. -/
import Derived.Test.YtadcjfbcfiljkaaDoorProg
import Derived.Test.YtadcjfbcfiljkaaDoorBase
import Derived.Test.YtadcjfbcfiljkaaDoorBase2
import Derived.Test.YtadcjfbcfiljkaaDoorWithin
namespace Go.Proofs.YtadcjfbcfiljkaaDoor
open Go.RowKit
set_option linter.unusedVariables false
set_option linter.unusedSimpArgs false

def InR (lo hi n : Int) : Prop := lo ≤ n ∧ n ≤ hi
def Lt (x y : Int) : Prop := x < y
def AllR (lo hi : Int) (l : List Int) : Prop := ∀ (i : Nat) (x : Int), l[i]? = some x → InR lo hi x
def Rising (l : List Int) : Prop := ∀ (i : Nat) (x y : Int), l[i]? = some x → l[i + 1]? = some y → Lt x y
theorem good_ris (lo hi : Int) (l : List Int) : Good (InR lo hi) Lt l ↔ AllR lo hi l ∧ Rising l := Iff.rfl

set_option maxHeartbeats 1000000 in
set_option maxRecDepth 100000 in
theorem l1Rising_any (A : Option Addr) (c : Nat) (xs : List Int)(lo hi : Int) (w : World) (hn : xs.length ≤ 1152921504606846976) (hA : Fl one 1 w A xs) :
    Calls Tryd.prog 64 #[.slice A xs.length c, .int .i64 lo, .int .i64 hi] w fun e w' => e = .returned (.bool (tb (Good (InR lo hi) (Lt) xs))) ∧ Below w.heap.size w w' := by
  obtain ⟨n, hnn⟩ : ∃ n, n = List.length xs := ⟨_, rfl⟩
  rw [← hnn] at hn ⊢
  have hN := Lib.hid hnn
  clear hnn
  go_enter Tryd.func64, Tryd.ntmps64
  go_wp2
  go_loopw [7] (fun i wr => ∃ k : Nat, k ≤ n ∧ i = .int .i64 k ∧ Below w.heap.size w wr ∧ Hid (GoodTo (InR lo hi) (Lt) xs k)) (fun i _ => n - (intOf i).toNat)
  case atStart => exact ⟨0, by omega, rfl, Below.refl _ _, GoodTo.zero⟩
  case round =>
    obtain ⟨k, hk, rfl, hbr, hall⟩ := hrel
    have hz := hbr.size
    by_cases hlt : k < n
    · have hAr := hA.ext hbr
      obtain ⟨x, b, o, hx, rfl, hb, hc⟩ := hAr.at_ (k := k) (by rw [← hN.out]; exact hlt)
      have hX := Lib.hid hx
      clear hx
      have hb2 : b < wr.heap.size + 1 := by omega
      have c0 : World.cell? wr ⟨b, o + k, none⟩ = some (.int .i64 x) := by have := hc 0 x rfl; simpa using this
      clear hc
      have hpc := plus_cell
      have hk0 : (0 : Int) ≤ (k : Int) := by omega
      have hk1 : (k : Int) < (n : Int) := by omega
      by_cases hP : (InR lo hi) x
      · rcases Nat.eq_zero_or_pos k with h0 | hpos
        · have hd : decide ((0 : Int) < (k : Int)) = false := by simp; omega
          have hd2 : decide (0 < k) = false := by simp; omega
          have H0 := Lib.hid h0
          clear hA hAr h0
          go_wp2_with fail
          refine wp_region_grow (by kernel_rfl) (by kernel_rfl) ?_
          repeat (go_big_quiet_step ((first | (go_at_call 43; exact quiet_same (l1In_t x lo hi _ hP)))))
          refine wpQuiet_nil ?_
          intro w1 hb1
          have hB1 : Below w.heap.size w w1 := ext_trans (by go_grown) hb1
          go_wp2
          go_roundw
          case rel => exact ⟨k + 1, by omega, by go_num, hB1, hall.out.step hX.out hP (fun m z hm => by have := H0.out; omega)⟩
          case measure => simp [intOf]; omega
        · obtain ⟨m, rfl⟩ : ∃ m, k = m + 1 := ⟨k - 1, by omega⟩
          obtain ⟨y, hy⟩ : ∃ y, xs[m]? = some y := ⟨_, List.getElem?_eq_getElem (by rw [← hN.out]; omega)⟩
          have hdy := hAr.get hy
          have d0 : World.cell? wr ⟨b, o + m, none⟩ = some (.int .i64 y) := by have := hdy 0 y rfl; simpa using this
          have hY := Lib.hid hy
          have hPy : (InR lo hi) y := hall.out.1 m y (by omega) hy
          clear hA hAr hy hdy
          have hm0 : (0 : Int) ≤ (m : Int) := by omega
          have hm1 : (m : Int) < (n : Int) := by omega
          have hm2 : (0 : Int) < (m : Int) + 1 := by omega
          by_cases hR : (Lt) y x
          · have hR1 : y < x := hR
            go_wp2_with fail
            refine wp_region_grow (by kernel_rfl) (by kernel_rfl) ?_
            repeat (go_big_quiet_step ((first | (go_at_call 43; exact quiet_same (l1In_t x lo hi _ hP)) | (fail))))
            refine wpQuiet_nil ?_
            intro w1 hb1
            have hB1 : Below w.heap.size w w1 := ext_trans (by go_grown) hb1
            go_wp2
            go_roundw
            case rel => exact ⟨m + 1 + 1, by omega, by go_num, hB1, hall.out.step hX.out hP (fun m' z hm hz => by
              obtain rfl : m = m' := by omega
              rw [hY.out] at hz; cases hz; exact hR)⟩
            case measure => simp [intOf]; omega
          · have hR1 : x ≤ y := by unfold Lt at hR; omega
            go_wp2_with fail
            refine wp_region_grow (by kernel_rfl) (by kernel_rfl) ?_
            repeat (go_big_quiet_step ((first | (go_at_call 43; exact quiet_same (l1In_t x lo hi _ hP)) | (fail))))
            refine wpQuiet_nil ?_
            intro w1 hb1
            have hB1 : Below w.heap.size w w1 := ext_trans (by go_grown) hb1
            go_wp2
            go_ret
            exact ⟨ret_bool (tb_f (fun h => Good.not_pair hY.out hX.out hR h)).symm, hB1⟩
      · clear hA hAr
        go_wp2_with fail
        refine wp_region_grow (by kernel_rfl) (by kernel_rfl) ?_
        repeat (go_big_quiet_step ((first | (go_at_call 43; exact quiet_same (l1In_f x lo hi _ hP)))))
        refine wpQuiet_nil ?_
        intro w1 hb1
        have hB1 : Below w.heap.size w w1 := ext_trans (by go_grown) hb1
        go_wp2
        go_ret
        exact ⟨ret_bool (tb_f (fun h => Good.not_elem hX.out hP h)).symm, hB1⟩
    · have hkn : k = n := by omega
      subst hkn
      go_wp2
      go_ret
      exact ⟨ret_bool (tb_t (hall.out.all (by rw [← hN.out]; exact Nat.le_refl _))).symm, hbr⟩

def RisTo (l : List Int) (k : Nat) : Prop := ∀ (i : Nat) (x y : Int), i + 1 < k → l[i]? = some x → l[i + 1]? = some y → Lt x y
set_option maxHeartbeats 1000000 in
set_option maxRecDepth 100000 in
theorem isRising_any (A : Option Addr) (c : Nat) (xs : List Int) (w : World) (hn : xs.length ≤ 1152921504606846976) (hA : Fl one 1 w A xs) :
    Calls Tryd.prog 62 #[.slice A xs.length c] w fun e w' => e = .returned (.bool (tb (Rising xs))) ∧ Below w.heap.size w w' := by
  obtain ⟨n, hnn⟩ : ∃ n, n = List.length xs := ⟨_, rfl⟩
  rw [← hnn] at hn ⊢
  have hN := Lib.hid hnn
  clear hnn
  go_enter Tryd.func62, Tryd.ntmps62
  go_wp2
  go_loopw [3] (fun i wr => ∃ k : Nat, i = .int .i64 ((k : Int) + 1) ∧ (k ≤ n) ∧ Below w.heap.size w wr ∧ Hid (RisTo xs (k + 1))) (fun i _ => n + 1 - (intOf i).toNat)
  case atStart => exact ⟨0, rfl, by omega, Below.refl _ _, fun i x y h => by omega⟩
  case round =>
    obtain ⟨k, rfl, hk, hbr, hall⟩ := hrel
    by_cases hlt : k + 1 < n
    · have hAr := hA.ext hbr
      obtain ⟨x, b, o, hx, rfl, hb, hc⟩ := hAr.at_ (k := k + 1) (by rw [← hN.out]; exact hlt)
      obtain ⟨y, hy⟩ : ∃ y, xs[k]? = some y := ⟨_, List.getElem?_eq_getElem (by rw [← hN.out]; omega)⟩
      have hdy := hAr.get hy
      have c0 : World.cell? wr ⟨b, o + (k + 1), none⟩ = some (.int .i64 x) := by have := hc 0 x rfl; simpa using this
      have d0 : World.cell? wr ⟨b, o + k, none⟩ = some (.int .i64 y) := by have := hdy 0 y rfl; simpa using this
      have hk0 : (0 : Int) ≤ (k : Int) := by omega
      have hk1 : (k : Int) + 1 < (n : Int) := by omega
      have hk2 : (k : Int) < (n : Int) := by omega
      have HX := Lib.hid hx
      have HY := Lib.hid hy
      clear hx hy hc hdy hA hAr
      have hpc := plus_cell wr
      by_cases hR : Lt y x
      · have hR1 : y < x := hR
        go_wp2_with fail
        refine wp_region_grow (by kernel_rfl) (by kernel_rfl) ?_
        repeat (go_big_quiet_step ((first | (fail))))
        refine wpQuiet_nil ?_
        intro w1 hb1
        go_wp2
        go_roundw
        case rel => exact ⟨k + 1, by go_num, by omega, ext_trans hbr hb1, fun i x' y' hi hx' hy' => by
          by_cases e : i = k
          · subst e
            rw [HY.out] at hx'
            rw [HX.out] at hy'
            cases hx'; cases hy'
            exact hR
          · exact hall.out i x' y' (by omega) hx' hy'⟩
        case measure => simp [intOf]; omega
      · have hR1 : x ≤ y := by unfold Lt at hR; omega
        go_wp2_with fail
        refine wp_region_grow (by kernel_rfl) (by kernel_rfl) ?_
        repeat (go_big_quiet_step ((first | (fail))))
        refine wpQuiet_nil ?_
        intro w1 hb1
        go_wp2
        go_ret
        exact ⟨ret_bool (tb_f (fun h => hR (h k y x HY.out HX.out))).symm, ext_trans hbr hb1⟩
    · have hk1 : ¬ (k : Int) + 1 < (n : Int) := by omega
      go_wp2
      go_ret
      exact ⟨ret_bool (tb_t (fun i x y hx hy => hall.out i x y (by have := lt_of_get hy; rw [← hN.out] at this; omega) hx hy)).symm, hbr⟩

end Go.Proofs.YtadcjfbcfiljkaaDoor
