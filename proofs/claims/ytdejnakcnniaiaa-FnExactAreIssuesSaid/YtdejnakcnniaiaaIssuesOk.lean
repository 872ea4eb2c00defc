/- Which issues are valid: the program's AreIssues and the reference's. -/
import Derived.Test.YtdejnakcnniaiaaRows
import Derived.Test.YtdejnakcnniaiaaBase
import Derived.Test.YtdejnakcnniaiaaTypes
namespace Go.Proofs.Ytdejnakcnniaiaa
open Go.RowKit
set_option linter.unusedVariables false
set_option linter.unusedSimpArgs false

def IsIss (x : Issue) : Prop := 1 ≤ x.sheet ∧ x.sheet ≤ 999 ∧ 1 ≤ x.num ∧ x.num ≤ 99 ∧ 0 ≤ x.frm ∧ x.frm ≤ x.til ∧ x.til ≤ 4000
def IssLt (x y : Issue) : Prop := x.sheet < y.sheet ∨ x.sheet = y.sheet ∧ x.num < y.num
def Isss (xs : List Issue) : Prop := Good IsIss IssLt xs ∧ xs.length ≤ 16

set_option maxHeartbeats 400000 in
theorem isIssue_any (x : Issue) (w : World) :
    Calls Try.prog 11 #[.agg #[.int .i64 x.sheet, .int .i64 x.num, .int .i64 x.frm, .int .i64 x.til]] w fun e w' => e = .returned (.bool (tb (IsIss x))) ∧ Below w.heap.size w w' := by
  go_enter Try.func11, Try.ntmps11
  go_wp2
  all_goals
    go_ret
    refine ⟨ret_bool ?_, by go_grown⟩
    first | exact (tb_t (by unfold IsIss; omega)).symm | exact (tb_f (by unfold IsIss; omega)).symm | exact tb_dec (by unfold IsIss; omega)
theorem isIssue_t (x : Issue) (h : IsIss x) (w : World) :
    Calls Try.prog 11 #[.agg #[.int .i64 x.sheet, .int .i64 x.num, .int .i64 x.frm, .int .i64 x.til]] w fun e w' => e = .returned (.bool true) ∧ Below w.heap.size w w' := by
  have := isIssue_any x w; rwa [tb_t h] at this
theorem isIssue_f (x : Issue) (h : ¬ IsIss x) (w : World) :
    Calls Try.prog 11 #[.agg #[.int .i64 x.sheet, .int .i64 x.num, .int .i64 x.frm, .int .i64 x.til]] w fun e w' => e = .returned (.bool false) ∧ Below w.heap.size w w' := by
  have := isIssue_any x w; rwa [tb_f h] at this
set_option maxHeartbeats 400000 in
theorem l20One_any (x : Issue) (w : World) :
    Calls Try.prog 41 #[.agg #[.int .i64 x.sheet, .int .i64 x.num, .int .i64 x.frm, .int .i64 x.til]] w fun e w' => e = .returned (.bool (tb (IsIss x))) ∧ Below w.heap.size w w' := by
  go_enter Try.func41, Try.ntmps41
  go_wp2
  all_goals
    go_ret
    refine ⟨ret_bool ?_, by go_grown⟩
    first | exact (tb_t (by unfold IsIss; omega)).symm | exact (tb_f (by unfold IsIss; omega)).symm | exact tb_dec (by unfold IsIss; omega)
theorem l20One_t (x : Issue) (h : IsIss x) (w : World) :
    Calls Try.prog 41 #[.agg #[.int .i64 x.sheet, .int .i64 x.num, .int .i64 x.frm, .int .i64 x.til]] w fun e w' => e = .returned (.bool true) ∧ Below w.heap.size w w' := by
  have := l20One_any x w; rwa [tb_t h] at this
theorem l20One_f (x : Issue) (h : ¬ IsIss x) (w : World) :
    Calls Try.prog 41 #[.agg #[.int .i64 x.sheet, .int .i64 x.num, .int .i64 x.frm, .int .i64 x.til]] w fun e w' => e = .returned (.bool false) ∧ Below w.heap.size w w' := by
  have := l20One_any x w; rwa [tb_f h] at this

def cmpI (a b : Int) : Int := if a < b then -1 else if b < a then 1 else 0
theorem cmpI_bd (a b : Int) : -1 ≤ cmpI a b ∧ cmpI a b ≤ 1 := by unfold cmpI; split <;> (try split) <;> omega

set_option maxHeartbeats 400000 in
theorem cmpCompare_any (a b : Int) (w : World) :
    Calls Try.prog 79 #[.int .i64 a, .int .i64 b] w fun e w' => e = .returned (.int .i64 (cmpI a b)) ∧ w = w' := by
  rcases Int.lt_trichotomy a b with h | h | h
  · have e : cmpI a b = -1 := by unfold cmpI; rw [if_pos h]
    rw [e]
    clear e
    go_enter Try.func79, Try.ntmps79
    go_wp2
    go_ret
    exact ⟨rfl, rfl⟩
  · have e : cmpI a b = 0 := by unfold cmpI; rw [if_neg (by omega), if_neg (by omega)]
    have h1 : ¬ a < b := by omega
    have h2 : ¬ b < a := by omega
    rw [e]
    clear e h
    go_enter Try.func79, Try.ntmps79
    go_wp2
    go_ret
    exact ⟨rfl, rfl⟩
  · have e : cmpI a b = 1 := by unfold cmpI; rw [if_neg (by omega), if_pos h]
    have h1 : ¬ a < b := by omega
    rw [e]
    clear e
    go_enter Try.func79, Try.ntmps79
    go_wp2
    go_ret
    exact ⟨rfl, rfl⟩

def orI (a b : Int) : Int := if a = 0 then b else a

set_option maxHeartbeats 400000 in
theorem cmpOr_two (g c : Nat) (a b : Int) (w : World) (h0 : w.cell? ⟨g, 0, none⟩ = some (.int .i64 a)) (h1 : w.cell? ⟨g, 1, none⟩ = some (.int .i64 b)) :
    Calls Try.prog 78 #[.slice (some ⟨g, 0, none⟩) 2 c] w fun e w' => e = .returned (.int .i64 (orI a b)) ∧ w = w' := by
  unfold orI
  by_cases ha : a = 0
  · subst ha
    rw [if_pos rfl]
    by_cases hb : b = 0
    · subst hb
      go_enter Try.func78, Try.ntmps78
      go_wp2
      refine wp_loop_rounds 3 ?_
      rw [rounds_succ]
      go_wp2
      rw [rounds_succ]
      go_wp2
      rw [rounds_succ]
      go_wp2
      go_ret
      exact ⟨rfl, rfl⟩
    · have hb1 : (b != 0) = true := by simpa using hb
      clear hb
      go_enter Try.func78, Try.ntmps78
      go_wp2
      refine wp_loop_rounds 3 ?_
      rw [rounds_succ]
      go_wp2
      rw [rounds_succ]
      go_wp2
      go_ret
      exact ⟨rfl, rfl⟩
  · rw [if_neg ha]
    have hb1 : (a != 0) = true := by simpa using ha
    clear ha
    go_enter Try.func78, Try.ntmps78
    go_wp2
    refine wp_loop_rounds 3 ?_
    rw [rounds_succ]
    go_wp2
    go_ret
    exact ⟨rfl, rfl⟩

def cmpIss (x y : Issue) : Int := orI (cmpI x.sheet y.sheet) (cmpI x.num y.num)
theorem cmpIss_lt (x y : Issue) : cmpIss x y < 0 ↔ IssLt x y := by
  unfold cmpIss orI cmpI IssLt
  repeat' split
  all_goals omega

set_option maxHeartbeats 1000000 in
theorem compareIssues_any (x y : Issue) (w : World) :
    Calls Try.prog 50 #[.agg #[.int .i64 x.sheet, .int .i64 x.num, .int .i64 x.frm, .int .i64 x.til], .agg #[.int .i64 y.sheet, .int .i64 y.num, .int .i64 y.frm, .int .i64 y.til]] w fun e w' => e = .returned (.int .i64 (cmpIss x y)) ∧ Below w.heap.size w w' := by
  unfold cmpIss
  go_enter Try.func50, Try.ntmps50
  go_wp2_with fail
  go_region_held3 (fun w' => Below w.heap.size w w' ∧ w.heap.size + 1 < w'.heap.size ∧ w'.cell? ⟨w.heap.size, 0, none⟩ = some (.int .i64 x.sheet) ∧ w'.cell? ⟨w.heap.size, 1, none⟩ = some (.int .i64 x.num) ∧ w'.cell? ⟨w.heap.size + 1, 0, none⟩ = some (.int .i64 y.sheet) ∧ w'.cell? ⟨w.heap.size + 1, 1, none⟩ = some (.int .i64 y.num))
    (first | (refine ⟨by go_grown, ?_⟩; go_keep) | (trace_state; fail)) (first | (go_at_call 79; refine (cmpCompare_any _ _ _).mono ?_; rintro e w' ⟨rfl, rfl⟩) | (go_at_call 78; refine (cmpOr_two _ _ (cmpI x.sheet y.sheet) (cmpI x.num y.num) _ ?_ ?_).mono ?_; go_simp; go_simp; rintro e w' ⟨rfl, rfl⟩))
  go_wp2
  go_ret
  exact ⟨rfl, by go_grown⟩

set_option maxHeartbeats 1000000 in
set_option maxRecDepth 100000 in
theorem areIssues_any (A : Option Addr) (c : Nat) (xs : List Issue) (w : World) (hn : xs.length ≤ 1152921504606846976) (hA : Fl Issue.ints 4 w A xs) :
    Calls Try.prog 20 #[.slice A xs.length c] w fun e w' => e = .returned (.bool (tb (Isss xs))) ∧ Below w.heap.size w w' := by
  obtain ⟨n, hnn⟩ : ∃ n, n = List.length xs := ⟨_, rfl⟩
  rw [← hnn] at hn ⊢
  have hN := Lib.hid hnn
  clear hnn
  go_enter Try.func20, Try.ntmps20
  go_wp2
  go_loopw [7] (fun i wr => ∃ k : Nat, k ≤ n ∧ i = .int .i64 k ∧ Below w.heap.size w wr ∧ Hid (GoodTo IsIss IssLt xs k)) (fun i _ => n - (intOf i).toNat)
  case atStart => exact ⟨0, by omega, rfl, Below.refl _ _, GoodTo.zero⟩
  case round =>
    obtain ⟨k, hk, rfl, hbr, hall⟩ := hrel
    have hz := hbr.size
    by_cases hlt : k < n
    · have hAr := hA.ext hbr
      obtain ⟨x, b, o, hx, rfl, hb, hc⟩ := hAr.at_ (k := k) (by rw [← hN.out]; exact hlt)
      have hX := Lib.hid hx
      clear hx
      have hb2 : b < wr.heap.size + 1 := by omega
      have c0 : World.cell? wr ⟨b, o + k * 4, none⟩ = some (.int .i64 x.sheet) := hc 0 _ rfl
      have c1 : World.cell? wr ⟨b, o + k * 4 + 1, none⟩ = some (.int .i64 x.num) := hc 1 _ rfl
      have c2 : World.cell? wr ⟨b, o + k * 4 + 2, none⟩ = some (.int .i64 x.frm) := hc 2 _ rfl
      have c3 : World.cell? wr ⟨b, o + k * 4 + 3, none⟩ = some (.int .i64 x.til) := hc 3 _ rfl
      clear hc
      have hpc := plus_cell
      have hk0 : (0 : Int) ≤ (k : Int) := by omega
      have hk1 : (k : Int) < (n : Int) := by omega
      by_cases hP : IsIss x
      · rcases Nat.eq_zero_or_pos k with h0 | hpos
        · have hd : decide ((0 : Int) < (k : Int)) = false := by simp; omega
          have hd2 : decide (0 < k) = false := by simp; omega
          have H0 := Lib.hid h0
          clear hA hAr h0
          go_wp2_with fail
          refine wp_region_grow (by kernel_rfl) (by kernel_rfl) ?_
          repeat (go_big_quiet_step ((first | (go_at_call 11; exact quiet_below (isIssue_t x hP _)))))
          refine wpQuiet_nil ?_
          intro w1 hb1
          have hB1 : Below w.heap.size w w1 := ext_trans (by go_grown) hb1
          go_wp2
          go_roundw
          case rel => exact ⟨k + 1, by omega, by go_num, hB1, hall.out.step hX.out hP (fun m z hm => by have := H0.out; omega)⟩
          case measure => simp [intOf]; omega
        · obtain ⟨m, rfl⟩ : ∃ m, k = m + 1 := ⟨k - 1, by omega⟩
          obtain ⟨y, hy⟩ : ∃ y, xs[m]? = some y := ⟨_, List.getElem?_eq_getElem (by rw [← hN.out]; omega)⟩
          have hdy := hAr.get hy
          have d0 : World.cell? wr ⟨b, o + m * 4, none⟩ = some (.int .i64 y.sheet) := hdy 0 _ rfl
          have d1 : World.cell? wr ⟨b, o + m * 4 + 1, none⟩ = some (.int .i64 y.num) := hdy 1 _ rfl
          have d2 : World.cell? wr ⟨b, o + m * 4 + 2, none⟩ = some (.int .i64 y.frm) := hdy 2 _ rfl
          have d3 : World.cell? wr ⟨b, o + m * 4 + 3, none⟩ = some (.int .i64 y.til) := hdy 3 _ rfl
          have hY := Lib.hid hy
          have hPy : IsIss y := hall.out.1 m y (by omega) hy
          clear hA hAr hy hdy
          have hm0 : (0 : Int) ≤ (m : Int) := by omega
          have hm1 : (m : Int) < (n : Int) := by omega
          have hm2 : (0 : Int) < (m : Int) + 1 := by omega
          by_cases hR : IssLt y x
          · have hR1 : cmpIss y x < 0 := (cmpIss_lt y x).2 hR
            go_wp2_with fail
            refine wp_region_grow (by kernel_rfl) (by kernel_rfl) ?_
            repeat (go_big_quiet_step ((first | (go_at_call 11; exact quiet_below (isIssue_t x hP _)) | (go_at_call 50; exact quiet_below (compareIssues_any y x _)))))
            refine wpQuiet_nil ?_
            intro w1 hb1
            have hB1 : Below w.heap.size w w1 := ext_trans (by go_grown) hb1
            go_wp2
            go_roundw
            case rel => exact ⟨m + 1 + 1, by omega, by go_num, hB1, hall.out.step hX.out hP (fun m' z hm hz => by
              obtain rfl : m = m' := by omega
              rw [hY.out] at hz; cases hz; exact hR)⟩
            case measure => simp [intOf]; omega
          · have hR1 : 0 ≤ cmpIss y x := Int.not_lt.1 (fun h => hR ((cmpIss_lt y x).1 h))
            go_wp2_with fail
            refine wp_region_grow (by kernel_rfl) (by kernel_rfl) ?_
            repeat (go_big_quiet_step ((first | (go_at_call 11; exact quiet_below (isIssue_t x hP _)) | (go_at_call 50; exact quiet_below (compareIssues_any y x _)))))
            refine wpQuiet_nil ?_
            intro w1 hb1
            have hB1 : Below w.heap.size w w1 := ext_trans (by go_grown) hb1
            go_wp2
            go_ret
            exact ⟨ret_bool (tb_f (fun h => Good.not_pair hY.out hX.out hR h.1)).symm, hB1⟩
      · clear hA hAr
        go_wp2_with fail
        refine wp_region_grow (by kernel_rfl) (by kernel_rfl) ?_
        repeat (go_big_quiet_step ((first | (go_at_call 11; exact quiet_below (isIssue_f x hP _)))))
        refine wpQuiet_nil ?_
        intro w1 hb1
        have hB1 : Below w.heap.size w w1 := ext_trans (by go_grown) hb1
        go_wp2
        go_ret
        exact ⟨ret_bool (tb_f (fun h => Good.not_elem hX.out hP h.1)).symm, hB1⟩
    · have hkn : k = n := by omega
      subst hkn
      go_wp2
      go_ret
      exact ⟨ret_bool (tb_dec ⟨fun h => by have := h.2; rw [← hN.out] at this; omega, fun h => ⟨hall.out.all (by rw [← hN.out]; exact Nat.le_refl _), by rw [← hN.out]; omega⟩⟩), hbr⟩
set_option maxHeartbeats 1000000 in
set_option maxRecDepth 100000 in
theorem l20Good_any (A : Option Addr) (c : Nat) (xs : List Issue) (w : World) (hn : xs.length ≤ 1152921504606846976) (hA : Fl Issue.ints 4 w A xs) :
    Calls Try.prog 49 #[.slice A xs.length c] w fun e w' => e = .returned (.bool (tb (Isss xs))) ∧ Below w.heap.size w w' := by
  obtain ⟨n, hnn⟩ : ∃ n, n = List.length xs := ⟨_, rfl⟩
  rw [← hnn] at hn ⊢
  have hN := Lib.hid hnn
  clear hnn
  go_enter Try.func49, Try.ntmps49
  go_wp2
  go_loopw [3] (fun i wr => ∃ k : Nat, k ≤ n ∧ i = .int .i64 k ∧ Below w.heap.size w wr ∧ Hid (GoodTo IsIss IssLt xs k)) (fun i _ => n - (intOf i).toNat)
  case atStart => exact ⟨0, by omega, rfl, Below.refl _ _, GoodTo.zero⟩
  case round =>
    obtain ⟨k, hk, rfl, hbr, hall⟩ := hrel
    have hz := hbr.size
    by_cases hlt : k < n
    · have hAr := hA.ext hbr
      obtain ⟨x, b, o, hx, rfl, hb, hc⟩ := hAr.at_ (k := k) (by rw [← hN.out]; exact hlt)
      have hX := Lib.hid hx
      clear hx
      have hb2 : b < wr.heap.size + 1 := by omega
      have c0 : World.cell? wr ⟨b, o + k * 4, none⟩ = some (.int .i64 x.sheet) := hc 0 _ rfl
      have c1 : World.cell? wr ⟨b, o + k * 4 + 1, none⟩ = some (.int .i64 x.num) := hc 1 _ rfl
      have c2 : World.cell? wr ⟨b, o + k * 4 + 2, none⟩ = some (.int .i64 x.frm) := hc 2 _ rfl
      have c3 : World.cell? wr ⟨b, o + k * 4 + 3, none⟩ = some (.int .i64 x.til) := hc 3 _ rfl
      clear hc
      have hpc := plus_cell
      have hk0 : (0 : Int) ≤ (k : Int) := by omega
      have hk1 : (k : Int) < (n : Int) := by omega
      by_cases hP : IsIss x
      · rcases Nat.eq_zero_or_pos k with h0 | hpos
        · have hd : decide ((0 : Int) < (k : Int)) = false := by simp; omega
          have hd2 : decide (0 < k) = false := by simp; omega
          have H0 := Lib.hid h0
          clear hA hAr h0
          go_wp2_with fail
          refine wp_region_grow (by kernel_rfl) (by kernel_rfl) ?_
          repeat (go_big_quiet_step ((first | (go_at_call 41; exact quiet_below (l20One_t x hP _)))))
          refine wpQuiet_nil ?_
          intro w1 hb1
          have hB1 : Below w.heap.size w w1 := ext_trans (by go_grown) hb1
          go_wp2
          go_roundw
          case rel => exact ⟨k + 1, by omega, by go_num, hB1, hall.out.step hX.out hP (fun m z hm => by have := H0.out; omega)⟩
          case measure => simp [intOf]; omega
        · obtain ⟨m, rfl⟩ : ∃ m, k = m + 1 := ⟨k - 1, by omega⟩
          obtain ⟨y, hy⟩ : ∃ y, xs[m]? = some y := ⟨_, List.getElem?_eq_getElem (by rw [← hN.out]; omega)⟩
          have hdy := hAr.get hy
          have d0 : World.cell? wr ⟨b, o + m * 4, none⟩ = some (.int .i64 y.sheet) := hdy 0 _ rfl
          have d1 : World.cell? wr ⟨b, o + m * 4 + 1, none⟩ = some (.int .i64 y.num) := hdy 1 _ rfl
          have d2 : World.cell? wr ⟨b, o + m * 4 + 2, none⟩ = some (.int .i64 y.frm) := hdy 2 _ rfl
          have d3 : World.cell? wr ⟨b, o + m * 4 + 3, none⟩ = some (.int .i64 y.til) := hdy 3 _ rfl
          have hY := Lib.hid hy
          have hPy : IsIss y := hall.out.1 m y (by omega) hy
          clear hA hAr hy hdy
          have hm0 : (0 : Int) ≤ (m : Int) := by omega
          have hm1 : (m : Int) < (n : Int) := by omega
          have hm2 : (0 : Int) < (m : Int) + 1 := by omega
          by_cases hR : IssLt y x
          · (obtain ⟨a1, a2, a3, a4, _, _, _⟩ := id hP; obtain ⟨b1, b2, b3, b4, _, _, _⟩ := id hPy); have hR1 : 100 * y.sheet + y.num < 100 * x.sheet + x.num := by unfold IssLt at hR; unfold IsIss at hP hPy; omega
            go_wp2_with fail
            refine wp_region_grow (by kernel_rfl) (by kernel_rfl) ?_
            repeat (go_big_quiet_step ((first | (go_at_call 41; exact quiet_below (l20One_t x hP _)) | (fail))))
            refine wpQuiet_nil ?_
            intro w1 hb1
            have hB1 : Below w.heap.size w w1 := ext_trans (by go_grown) hb1
            go_wp2
            go_roundw
            case rel => exact ⟨m + 1 + 1, by omega, by go_num, hB1, hall.out.step hX.out hP (fun m' z hm hz => by
              obtain rfl : m = m' := by omega
              rw [hY.out] at hz; cases hz; exact hR)⟩
            case measure => simp [intOf]; omega
          · (obtain ⟨a1, a2, a3, a4, _, _, _⟩ := id hP; obtain ⟨b1, b2, b3, b4, _, _, _⟩ := id hPy); have hR1 : 100 * x.sheet + x.num ≤ 100 * y.sheet + y.num := by unfold IssLt at hR; unfold IsIss at hP hPy; omega
            go_wp2_with fail
            refine wp_region_grow (by kernel_rfl) (by kernel_rfl) ?_
            repeat (go_big_quiet_step ((first | (go_at_call 41; exact quiet_below (l20One_t x hP _)) | (fail))))
            refine wpQuiet_nil ?_
            intro w1 hb1
            have hB1 : Below w.heap.size w w1 := ext_trans (by go_grown) hb1
            go_wp2
            go_ret
            exact ⟨ret_bool (tb_f (fun h => Good.not_pair hY.out hX.out hR h.1)).symm, hB1⟩
      · clear hA hAr
        go_wp2_with fail
        refine wp_region_grow (by kernel_rfl) (by kernel_rfl) ?_
        repeat (go_big_quiet_step ((first | (go_at_call 41; exact quiet_below (l20One_f x hP _)))))
        refine wpQuiet_nil ?_
        intro w1 hb1
        have hB1 : Below w.heap.size w w1 := ext_trans (by go_grown) hb1
        go_wp2
        go_ret
        exact ⟨ret_bool (tb_f (fun h => Good.not_elem hX.out hP h.1)).symm, hB1⟩
    · have hkn : k = n := by omega
      subst hkn
      go_wp2
      go_ret
      exact ⟨ret_bool (tb_dec ⟨fun h => by have := h.2; rw [← hN.out] at this; omega, fun h => ⟨hall.out.all (by rw [← hN.out]; exact Nat.le_refl _), by rw [← hN.out]; omega⟩⟩), hbr⟩
end Go.Proofs.Ytdejnakcnniaiaa
