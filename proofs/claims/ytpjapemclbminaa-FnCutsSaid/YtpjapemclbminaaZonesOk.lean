/- Which zones are valid: the program's AreZones and the reference's. -/
import Derived.Test.YtpjapemclbminaaProg
import Derived.Test.YtpjapemclbminaaBase
import Derived.Test.YtpjapemclbminaaTypes
namespace Go.Proofs.Ytpjapemclbminaa
open Go.RowKit
set_option linter.unusedVariables false
set_option linter.unusedSimpArgs false

def IsZon (z : Zone) : Prop := 1 ≤ z.id ∧ z.id ≤ 99 ∧ 0 ≤ z.west ∧ z.west < z.east ∧ z.east ≤ 9999 ∧ 0 ≤ z.south ∧ z.south < z.north ∧ z.north ≤ 9999
def ZonLt (x y : Zone) : Prop := x.id < y.id
def Zons (xs : List Zone) : Prop := Good IsZon ZonLt xs ∧ xs.length ≤ 10

set_option maxHeartbeats 1000000 in
theorem isZone_any (x : Zone) (w : World) :
    Calls Try.prog 26 #[.agg #[.int .i64 x.id, .int .i64 x.west, .int .i64 x.south, .int .i64 x.east, .int .i64 x.north]] w fun e w' => e = .returned (.bool (tb (IsZon x))) ∧ Below w.heap.size w w' := by
  go_enter Try.func26, Try.ntmps26
  go_wp2
  all_goals
    go_ret
    refine ⟨ret_bool ?_, by go_grown⟩
    first | exact (tb_t (by unfold IsZon; omega)).symm | exact (tb_f (by unfold IsZon; omega)).symm | exact tb_dec (by unfold IsZon; omega)
theorem isZone_t (x : Zone) (h : IsZon x) (w : World) :
    Calls Try.prog 26 #[.agg #[.int .i64 x.id, .int .i64 x.west, .int .i64 x.south, .int .i64 x.east, .int .i64 x.north]] w fun e w' => e = .returned (.bool true) ∧ Below w.heap.size w w' := by
  have := isZone_any x w; rwa [tb_t h] at this
theorem isZone_f (x : Zone) (h : ¬ IsZon x) (w : World) :
    Calls Try.prog 26 #[.agg #[.int .i64 x.id, .int .i64 x.west, .int .i64 x.south, .int .i64 x.east, .int .i64 x.north]] w fun e w' => e = .returned (.bool false) ∧ Below w.heap.size w w' := by
  have := isZone_any x w; rwa [tb_f h] at this
set_option maxHeartbeats 400000 in
theorem l6Zone_any (x : Zone) (w : World) :
    Calls Try.prog 55 #[.agg #[.int .i64 x.id, .int .i64 x.west, .int .i64 x.south, .int .i64 x.east, .int .i64 x.north]] w fun e w' => e = .returned (.bool (tb (IsZon x))) ∧ Below w.heap.size w w' := by
  go_enter Try.func55, Try.ntmps55
  go_wp2
  all_goals
    go_ret
    refine ⟨ret_bool ?_, by go_grown⟩
    first | exact (tb_t (by unfold IsZon; omega)).symm | exact (tb_f (by unfold IsZon; omega)).symm | exact tb_dec (by unfold IsZon; omega)
theorem l6Zone_t (x : Zone) (h : IsZon x) (w : World) :
    Calls Try.prog 55 #[.agg #[.int .i64 x.id, .int .i64 x.west, .int .i64 x.south, .int .i64 x.east, .int .i64 x.north]] w fun e w' => e = .returned (.bool true) ∧ Below w.heap.size w w' := by
  have := l6Zone_any x w; rwa [tb_t h] at this
theorem l6Zone_f (x : Zone) (h : ¬ IsZon x) (w : World) :
    Calls Try.prog 55 #[.agg #[.int .i64 x.id, .int .i64 x.west, .int .i64 x.south, .int .i64 x.east, .int .i64 x.north]] w fun e w' => e = .returned (.bool false) ∧ Below w.heap.size w w' := by
  have := l6Zone_any x w; rwa [tb_f h] at this

set_option maxHeartbeats 1000000 in
set_option maxRecDepth 100000 in
theorem areZones_any (A : Option Addr) (c : Nat) (xs : List Zone) (w : World) (hn : xs.length ≤ 1152921504606846976) (hA : Fl Zone.ints 5 w A xs) :
    Calls Try.prog 9 #[.slice A xs.length c] w fun e w' => e = .returned (.bool (tb (Zons xs))) ∧ Below w.heap.size w w' := by
  obtain ⟨n, hnn⟩ : ∃ n, n = List.length xs := ⟨_, rfl⟩
  rw [← hnn] at hn ⊢
  have hN := Lib.hid hnn
  clear hnn
  go_enter Try.func9, Try.ntmps9
  go_wp2
  go_loopw [7] (fun i wr => ∃ k : Nat, k ≤ n ∧ i = .int .i64 k ∧ Below w.heap.size w wr ∧ Hid (GoodTo IsZon ZonLt xs k)) (fun i _ => n - (intOf i).toNat)
  case atStart => exact ⟨0, by omega, rfl, Below.refl _ _, GoodTo.zero⟩
  case round =>
    obtain ⟨k, hk, rfl, hbr, hall⟩ := hrel
    have hz := hbr.size
    by_cases hlt : k < n
    · have hAr := hA.ext hbr
      obtain ⟨x, b, o, hx, rfl, hb, hc⟩ := hAr.at_ (k := k) (by rw [← hN.out]; exact hlt)
      have hX := Lib.hid hx
      clear hx
      have hb2 : b < wr.heap.size + 1 := by omega
      have c0 : World.cell? wr ⟨b, o + k * 5, none⟩ = some (.int .i64 x.id) := hc 0 _ rfl
      have c1 : World.cell? wr ⟨b, o + k * 5 + 1, none⟩ = some (.int .i64 x.west) := hc 1 _ rfl
      have c2 : World.cell? wr ⟨b, o + k * 5 + 2, none⟩ = some (.int .i64 x.south) := hc 2 _ rfl
      have c3 : World.cell? wr ⟨b, o + k * 5 + 3, none⟩ = some (.int .i64 x.east) := hc 3 _ rfl
      have c4 : World.cell? wr ⟨b, o + k * 5 + 4, none⟩ = some (.int .i64 x.north) := hc 4 _ rfl
      clear hc
      have hpc := plus_cell
      have hk0 : (0 : Int) ≤ (k : Int) := by omega
      have hk1 : (k : Int) < (n : Int) := by omega
      by_cases hP : IsZon x
      · rcases Nat.eq_zero_or_pos k with h0 | hpos
        · have hd : decide ((0 : Int) < (k : Int)) = false := by simp; omega
          have hd2 : decide (0 < k) = false := by simp; omega
          have H0 := Lib.hid h0
          clear hA hAr h0
          go_wp2_with fail
          refine wp_region_grow (by kernel_rfl) (by kernel_rfl) ?_
          repeat (go_big_quiet_step ((first | (go_at_call 26; exact quiet_below (isZone_t x hP _)))))
          refine wpQuiet_nil ?_
          intro w1 hb1
          have hB1 : Below w.heap.size w w1 := ext_trans (by go_grown) hb1
          go_wp2
          go_roundw
          case rel => exact ⟨k + 1, by omega, by go_num, hB1, hall.out.step hX.out hP (fun m z hm => by have := H0.out; omega)⟩
          case measure => simp [intOf]; omega
        · obtain ⟨m, rfl⟩ : ∃ m, k = m + 1 := ⟨k - 1, by omega⟩
          obtain ⟨y, hy⟩ : ∃ y, xs[m]? = some y := ⟨_, List.getElem?_eq_getElem (by rw [← hN.out]; omega)⟩
          have hdy := hAr.get hy
          have d0 : World.cell? wr ⟨b, o + m * 5, none⟩ = some (.int .i64 y.id) := hdy 0 _ rfl
          have d1 : World.cell? wr ⟨b, o + m * 5 + 1, none⟩ = some (.int .i64 y.west) := hdy 1 _ rfl
          have d2 : World.cell? wr ⟨b, o + m * 5 + 2, none⟩ = some (.int .i64 y.south) := hdy 2 _ rfl
          have d3 : World.cell? wr ⟨b, o + m * 5 + 3, none⟩ = some (.int .i64 y.east) := hdy 3 _ rfl
          have d4 : World.cell? wr ⟨b, o + m * 5 + 4, none⟩ = some (.int .i64 y.north) := hdy 4 _ rfl
          have hY := Lib.hid hy
          have hPy : IsZon y := hall.out.1 m y (by omega) hy
          clear hA hAr hy hdy
          have hm0 : (0 : Int) ≤ (m : Int) := by omega
          have hm1 : (m : Int) < (n : Int) := by omega
          have hm2 : (0 : Int) < (m : Int) + 1 := by omega
          by_cases hR : ZonLt y x
          · have hR1 : y.id < x.id := hR
            go_wp2_with fail
            refine wp_region_grow (by kernel_rfl) (by kernel_rfl) ?_
            repeat (go_big_quiet_step ((first | (go_at_call 26; exact quiet_below (isZone_t x hP _)) | (fail))))
            refine wpQuiet_nil ?_
            intro w1 hb1
            have hB1 : Below w.heap.size w w1 := ext_trans (by go_grown) hb1
            go_wp2
            go_roundw
            case rel => exact ⟨m + 1 + 1, by omega, by go_num, hB1, hall.out.step hX.out hP (fun m' z hm hz => by
              obtain rfl : m = m' := by omega
              rw [hY.out] at hz; cases hz; exact hR)⟩
            case measure => simp [intOf]; omega
          · have hR1 : x.id ≤ y.id := by unfold ZonLt at hR; omega
            go_wp2_with fail
            refine wp_region_grow (by kernel_rfl) (by kernel_rfl) ?_
            repeat (go_big_quiet_step ((first | (go_at_call 26; exact quiet_below (isZone_t x hP _)) | (fail))))
            refine wpQuiet_nil ?_
            intro w1 hb1
            have hB1 : Below w.heap.size w w1 := ext_trans (by go_grown) hb1
            go_wp2
            go_ret
            exact ⟨ret_bool (tb_f (fun h => Good.not_pair hY.out hX.out hR h.1)).symm, hB1⟩
      · clear hA hAr
        go_wp2_with fail
        refine wp_region_grow (by kernel_rfl) (by kernel_rfl) ?_
        repeat (go_big_quiet_step ((first | (go_at_call 26; exact quiet_below (isZone_f x hP _)))))
        refine wpQuiet_nil ?_
        intro w1 hb1
        have hB1 : Below w.heap.size w w1 := ext_trans (by go_grown) hb1
        go_wp2
        go_ret
        exact ⟨ret_bool (tb_f (fun h => Good.not_elem hX.out hP h.1)).symm, hB1⟩
    · have hkn : k = n := by omega
      subst hkn
      go_wp2
      go_ret
      exact ⟨ret_bool (tb_dec ⟨fun h => by have := h.2; rw [← hN.out] at this; omega, fun h => ⟨hall.out.all (by rw [← hN.out]; exact Nat.le_refl _), by rw [← hN.out]; omega⟩⟩), hbr⟩
set_option maxHeartbeats 1000000 in
set_option maxRecDepth 100000 in
theorem l6Zones_any (A : Option Addr) (c : Nat) (xs : List Zone) (w : World) (hn : xs.length ≤ 1152921504606846976) (hA : Fl Zone.ints 5 w A xs) :
    Calls Try.prog 38 #[.slice A xs.length c] w fun e w' => e = .returned (.bool (tb (Zons xs))) ∧ Below w.heap.size w w' := by
  obtain ⟨n, hnn⟩ : ∃ n, n = List.length xs := ⟨_, rfl⟩
  rw [← hnn] at hn ⊢
  have hN := Lib.hid hnn
  clear hnn
  go_enter Try.func38, Try.ntmps38
  go_wp2
  go_loopw [3] (fun i wr => ∃ k : Nat, k ≤ n ∧ i = .int .i64 k ∧ Below w.heap.size w wr ∧ Hid (GoodTo IsZon ZonLt xs k)) (fun i _ => n - (intOf i).toNat)
  case atStart => exact ⟨0, by omega, rfl, Below.refl _ _, GoodTo.zero⟩
  case round =>
    obtain ⟨k, hk, rfl, hbr, hall⟩ := hrel
    have hz := hbr.size
    by_cases hlt : k < n
    · have hAr := hA.ext hbr
      obtain ⟨x, b, o, hx, rfl, hb, hc⟩ := hAr.at_ (k := k) (by rw [← hN.out]; exact hlt)
      have hX := Lib.hid hx
      clear hx
      have hb2 : b < wr.heap.size + 1 := by omega
      have c0 : World.cell? wr ⟨b, o + k * 5, none⟩ = some (.int .i64 x.id) := hc 0 _ rfl
      have c1 : World.cell? wr ⟨b, o + k * 5 + 1, none⟩ = some (.int .i64 x.west) := hc 1 _ rfl
      have c2 : World.cell? wr ⟨b, o + k * 5 + 2, none⟩ = some (.int .i64 x.south) := hc 2 _ rfl
      have c3 : World.cell? wr ⟨b, o + k * 5 + 3, none⟩ = some (.int .i64 x.east) := hc 3 _ rfl
      have c4 : World.cell? wr ⟨b, o + k * 5 + 4, none⟩ = some (.int .i64 x.north) := hc 4 _ rfl
      clear hc
      have hpc := plus_cell
      have hk0 : (0 : Int) ≤ (k : Int) := by omega
      have hk1 : (k : Int) < (n : Int) := by omega
      by_cases hP : IsZon x
      · rcases Nat.eq_zero_or_pos k with h0 | hpos
        · have hd : decide ((0 : Int) < (k : Int)) = false := by simp; omega
          have hd2 : decide (0 < k) = false := by simp; omega
          have H0 := Lib.hid h0
          clear hA hAr h0
          go_wp2_with fail
          refine wp_region_grow (by kernel_rfl) (by kernel_rfl) ?_
          repeat (go_big_quiet_step ((first | (go_at_call 55; exact quiet_below (l6Zone_t x hP _)))))
          refine wpQuiet_nil ?_
          intro w1 hb1
          have hB1 : Below w.heap.size w w1 := ext_trans (by go_grown) hb1
          go_wp2
          go_roundw
          case rel => exact ⟨k + 1, by omega, by go_num, hB1, hall.out.step hX.out hP (fun m z hm => by have := H0.out; omega)⟩
          case measure => simp [intOf]; omega
        · obtain ⟨m, rfl⟩ : ∃ m, k = m + 1 := ⟨k - 1, by omega⟩
          obtain ⟨y, hy⟩ : ∃ y, xs[m]? = some y := ⟨_, List.getElem?_eq_getElem (by rw [← hN.out]; omega)⟩
          have hdy := hAr.get hy
          have d0 : World.cell? wr ⟨b, o + m * 5, none⟩ = some (.int .i64 y.id) := hdy 0 _ rfl
          have d1 : World.cell? wr ⟨b, o + m * 5 + 1, none⟩ = some (.int .i64 y.west) := hdy 1 _ rfl
          have d2 : World.cell? wr ⟨b, o + m * 5 + 2, none⟩ = some (.int .i64 y.south) := hdy 2 _ rfl
          have d3 : World.cell? wr ⟨b, o + m * 5 + 3, none⟩ = some (.int .i64 y.east) := hdy 3 _ rfl
          have d4 : World.cell? wr ⟨b, o + m * 5 + 4, none⟩ = some (.int .i64 y.north) := hdy 4 _ rfl
          have hY := Lib.hid hy
          have hPy : IsZon y := hall.out.1 m y (by omega) hy
          clear hA hAr hy hdy
          have hm0 : (0 : Int) ≤ (m : Int) := by omega
          have hm1 : (m : Int) < (n : Int) := by omega
          have hm2 : (0 : Int) < (m : Int) + 1 := by omega
          by_cases hR : ZonLt y x
          · have hR1 : y.id < x.id := hR
            go_wp2_with fail
            refine wp_region_grow (by kernel_rfl) (by kernel_rfl) ?_
            repeat (go_big_quiet_step ((first | (go_at_call 55; exact quiet_below (l6Zone_t x hP _)) | (fail))))
            refine wpQuiet_nil ?_
            intro w1 hb1
            have hB1 : Below w.heap.size w w1 := ext_trans (by go_grown) hb1
            go_wp2
            go_roundw
            case rel => exact ⟨m + 1 + 1, by omega, by go_num, hB1, hall.out.step hX.out hP (fun m' z hm hz => by
              obtain rfl : m = m' := by omega
              rw [hY.out] at hz; cases hz; exact hR)⟩
            case measure => simp [intOf]; omega
          · have hR1 : x.id ≤ y.id := by unfold ZonLt at hR; omega
            go_wp2_with fail
            refine wp_region_grow (by kernel_rfl) (by kernel_rfl) ?_
            repeat (go_big_quiet_step ((first | (go_at_call 55; exact quiet_below (l6Zone_t x hP _)) | (fail))))
            refine wpQuiet_nil ?_
            intro w1 hb1
            have hB1 : Below w.heap.size w w1 := ext_trans (by go_grown) hb1
            go_wp2
            go_ret
            exact ⟨ret_bool (tb_f (fun h => Good.not_pair hY.out hX.out hR h.1)).symm, hB1⟩
      · clear hA hAr
        go_wp2_with fail
        refine wp_region_grow (by kernel_rfl) (by kernel_rfl) ?_
        repeat (go_big_quiet_step ((first | (go_at_call 55; exact quiet_below (l6Zone_f x hP _)))))
        refine wpQuiet_nil ?_
        intro w1 hb1
        have hB1 : Below w.heap.size w w1 := ext_trans (by go_grown) hb1
        go_wp2
        go_ret
        exact ⟨ret_bool (tb_f (fun h => Good.not_elem hX.out hP h.1)).symm, hB1⟩
    · have hkn : k = n := by omega
      subst hkn
      go_wp2
      go_ret
      exact ⟨ret_bool (tb_dec ⟨fun h => by have := h.2; rw [← hN.out] at this; omega, fun h => ⟨hall.out.all (by rw [← hN.out]; exact Nat.le_refl _), by rw [← hN.out]; omega⟩⟩), hbr⟩
end Go.Proofs.Ytpjapemclbminaa
