/- Which routes are valid: both sides. -/
import Derived.Test.YtlagfeccdcjimaaDoorFamLeg
import Derived.Test.YtlagfeccdcjimaaDoorWithin
import Derived.Test.YtlagfeccdcjimaaDoorLst
namespace Go.Proofs.YtlagfeccdcjimaaDoor
open Go.RowKit
set_option linter.unusedVariables false
set_option linter.unusedSimpArgs false

def IsLeg (x : Leg) : Prop := (0 ≤ x.way ∧ x.way ≤ 7) ∧ (1 ≤ x.units ∧ x.units ≤ 999) ∧ (-999 ≤ x.climb ∧ x.climb ≤ 999)
def Legs (xs : List Leg) : Prop := ∀ (i : Nat) (x : Leg), xs[i]? = some x → IsLeg x
def Rt (xs : List Leg) : Prop := Legs xs ∧ xs.length ≤ 12
set_option maxHeartbeats 400000 in
theorem isLeg_any (x : Leg) (w : World) :
    Calls Tryd.prog 49 #[.agg #[.int .i64 x.way, .int .i64 x.units, .int .i64 x.climb]] w fun e w' => e = .returned (.bool (tb (IsLeg x))) ∧ Below w.heap.size w w' := by
  go_enter Tryd.func49, Tryd.ntmps49
  go_wp2
  all_goals
    go_ret
    refine ⟨ret_bool ?_, by go_grown⟩
    first | exact (tb_t (by unfold IsLeg; omega)).symm | exact (tb_f (by unfold IsLeg; omega)).symm | exact tb_dec (by unfold IsLeg; omega)
theorem isLeg_t (x : Leg) (h : IsLeg x) (w : World) :
    Calls Tryd.prog 49 #[.agg #[.int .i64 x.way, .int .i64 x.units, .int .i64 x.climb]] w fun e w' => e = .returned (.bool true) ∧ Below w.heap.size w w' := by
  have := isLeg_any x w; rwa [tb_t h] at this
theorem isLeg_f (x : Leg) (h : ¬ IsLeg x) (w : World) :
    Calls Tryd.prog 49 #[.agg #[.int .i64 x.way, .int .i64 x.units, .int .i64 x.climb]] w fun e w' => e = .returned (.bool false) ∧ Below w.heap.size w w' := by
  have := isLeg_any x w; rwa [tb_f h] at this
set_option maxHeartbeats 400000 in
theorem l15Leg_any (x : Leg) (w : World) :
    Calls Tryd.prog 52 #[.agg #[.int .i64 x.way, .int .i64 x.units, .int .i64 x.climb]] w fun e w' => e = .returned (.bool (tb (IsLeg x))) ∧ Below w.heap.size w w' := by
  go_enter Tryd.func52, Tryd.ntmps52
  go_wp2
  all_goals
    go_ret
    refine ⟨ret_bool ?_, by go_grown⟩
    first | exact (tb_t (by unfold IsLeg; omega)).symm | exact (tb_f (by unfold IsLeg; omega)).symm | exact tb_dec (by unfold IsLeg; omega)
theorem l15Leg_t (x : Leg) (h : IsLeg x) (w : World) :
    Calls Tryd.prog 52 #[.agg #[.int .i64 x.way, .int .i64 x.units, .int .i64 x.climb]] w fun e w' => e = .returned (.bool true) ∧ Below w.heap.size w w' := by
  have := l15Leg_any x w; rwa [tb_t h] at this
theorem l15Leg_f (x : Leg) (h : ¬ IsLeg x) (w : World) :
    Calls Tryd.prog 52 #[.agg #[.int .i64 x.way, .int .i64 x.units, .int .i64 x.climb]] w fun e w' => e = .returned (.bool false) ∧ Below w.heap.size w w' := by
  have := l15Leg_any x w; rwa [tb_f h] at this
set_option maxHeartbeats 400000 in
theorem notLeg_any (x : Leg) (w : World) :
    Calls Tryd.prog 48 #[.agg #[.int .i64 x.way, .int .i64 x.units, .int .i64 x.climb]] w fun e w' => e = .returned (.bool (tb (¬ IsLeg x))) ∧ Below w.heap.size w w' := by
  obtain ⟨V0, hV0, hC0, hy0, hv, _⟩ := box_world w #[Value.int .i64 x.way, .int .i64 x.units, .int .i64 x.climb] 52
  have v0 : World.cell? V0 ⟨w.heap.size, 0, none⟩ = some (.int .i64 x.way) := hv 0
  have v1 : World.cell? V0 ⟨w.heap.size, 1, none⟩ = some (.int .i64 x.units) := hv 1
  have v2 : World.cell? V0 ⟨w.heap.size, 2, none⟩ = some (.int .i64 x.climb) := hv 2
  clear hv
  by_cases h : IsLeg x
  · rw [tb_f (fun h' => h' h)]
    go_enter Tryd.func48, Tryd.ntmps48
    go_wp2_with fail
    refine (isLeg_t x h V0).mono ?_
    rintro e w1 ⟨rfl, hb1⟩
    go_wp2
    go_ret
    exact ⟨rfl, ext_trans hC0 hb1⟩
  · rw [tb_t h]
    go_enter Tryd.func48, Tryd.ntmps48
    go_wp2_with fail
    refine (isLeg_f x h V0).mono ?_
    rintro e w1 ⟨rfl, hb1⟩
    go_wp2
    go_ret
    exact ⟨rfl, ext_trans hC0 hb1⟩
def IdxQ (p : Prop) (w : World) (e : Ending) (w' : World) : Prop := ∃ r, e = .returned (.int .i64 r) ∧ ((0 ≤ r ∧ ¬ p) ∨ (r = -1 ∧ p)) ∧ Below w.heap.size w w'
set_option maxHeartbeats 1000000 in
set_option maxRecDepth 100000 in
theorem idxLeg_any (A : Option Addr) (c : Nat) (xs : List Leg) (w : World) (hn : xs.length ≤ 1048576) (hA : Fl Leg.ints 3 w A xs) :
    Calls Tryd.prog 62 #[.slice A xs.length c, .func (.func 48) #[] #[]] w (IdxQ (Legs xs) w) := by
  obtain ⟨n, hnn⟩ : ∃ n, n = List.length xs := ⟨_, rfl⟩
  rw [← hnn] at hn ⊢
  have hN := Lib.hid hnn
  clear hnn
  go_enter Tryd.func62, Tryd.ntmps62
  go_wp2
  go_loopw [8] (fun i wr => ∃ k : Nat, k ≤ n ∧ i = .int .i64 k ∧ Below w.heap.size w wr ∧ Hid (∀ (i : Nat) (x : Leg), i < k → xs[i]? = some x → IsLeg x)) (fun i _ => n - (intOf i).toNat)
  case atStart => exact ⟨0, by omega, rfl, Below.refl _ _, fun _ _ h => by omega⟩
  case round =>
    obtain ⟨k, hk, rfl, hbr, hall⟩ := hrel
    by_cases hlt : k < n
    · obtain ⟨x, b, o, hx, hAe, hb, hc⟩ := (hA.ext hbr).at_ (k := k) (by rw [← hN.out]; exact hlt)
      subst hAe
      have c0 : World.cell? wr ⟨b, o + k * 3, none⟩ = some (.int .i64 x.way) := hc 0 _ rfl
      have c1 : World.cell? wr ⟨b, o + k * 3 + 1, none⟩ = some (.int .i64 x.units) := hc 1 _ rfl
      have c2 : World.cell? wr ⟨b, o + k * 3 + 2, none⟩ = some (.int .i64 x.climb) := hc 2 _ rfl
      have HX := Lib.hid hx
      clear hc hx hA
      have hk0 : (0 : Int) ≤ (k : Int) := by omega
      have hk1 : (k : Int) < (n : Int) := by omega
      go_wp2_with fail
      refine (notLeg_any x wr).mono ?_
      rintro e w2 ⟨rfl, hb2⟩
      have hx2 := ext_trans hbr hb2
      by_cases h : IsLeg x
      · rw [tb_f (fun h' => h' h)]
        have HH := Lib.hid h
        clear h
        go_wp2
        go_roundw
        case rel => exact ⟨k + 1, by omega, by go_num, hx2, fun i y hi hy => by
          by_cases e : i = k
          · subst e; rw [HX.out] at hy; cases hy; exact HH.out
          · exact hall.out i y (by omega) hy⟩
        case measure => simp [intOf]; omega
      · rw [tb_t h]
        have HH := Lib.hid h
        clear h
        go_wp2
        go_ret
        exact ⟨k, rfl, .inl ⟨by omega, fun h => HH.out (h k x HX.out)⟩, hx2⟩
    · have hkn : k = n := by omega
      subst hkn
      go_wp2
      go_ret
      exact ⟨-1, rfl, .inr ⟨rfl, fun i x hx => hall.out i x (by rw [hN.out]; exact lt_of_get hx) hx⟩, hbr⟩
set_option maxHeartbeats 1000000 in
theorem badLeg_any (A : Option Addr) (c : Nat) (xs : List Leg) (w : World) (hn : xs.length ≤ 1048576) (hA : Fl Leg.ints 3 w A xs) :
    Calls Tryd.prog 47 #[.slice A xs.length c, .func (.func 48) #[] #[]] w fun e w' => e = .returned (.bool (tb (¬ Legs xs))) ∧ Below w.heap.size w w' := by
  have hidx := idxLeg_any A c xs w hn hA
  obtain ⟨n, hnn⟩ : ∃ n, n = List.length xs := ⟨_, rfl⟩
  rw [← hnn] at hn ⊢
  have hN := Lib.hid hnn
  clear hnn
  rw [← hN.out] at hidx
  have HI := Lib.hid hidx
  clear hidx
  go_enter Tryd.func47, Tryd.ntmps47
  go_wp2_with fail
  refine HI.out.mono ?_
  rintro e w1 ⟨r, rfl, hr, hb1⟩
  rcases hr with ⟨h1, h2⟩ | ⟨rfl, h2⟩
  · have H2 := Lib.hid h2
    clear h2
    go_wp2
    go_ret
    exact ⟨ret_bool (tb_t H2.out).symm, hb1⟩
  · have H2 := Lib.hid h2
    clear h2
    go_wp2
    go_ret
    exact ⟨ret_bool (tb_f (fun h => h H2.out)).symm, hb1⟩
set_option maxHeartbeats 1000000 in
theorem isRoute_any (A : Option Addr) (c : Nat) (xs : List Leg) (w : World) (hn : xs.length ≤ 1048576) (hA : Fl Leg.ints 3 w A xs) :
    Calls Tryd.prog 31 #[.slice A xs.length c] w fun e w' => e = .returned (.bool (tb (Rt xs))) ∧ Below w.heap.size w w' := by
  have hbad := badLeg_any A c xs w hn hA
  have hrt : Rt xs ↔ Legs xs ∧ xs.length ≤ 12 := Iff.rfl
  generalize Rt xs = R at hrt ⊢
  generalize Legs xs = L at hbad hrt
  generalize xs.length = n at *
  have HB := Lib.hid hbad
  have HR := Lib.hid hrt
  clear hbad hrt
  by_cases h1 : n ≤ 12
  · have h1' : (n : Int) ≤ 12 := by omega
    go_enter Tryd.func31, Tryd.ntmps31
    go_wp2_with fail
    refine (HB.out).mono ?_
    rintro e w1 ⟨rfl, hb1⟩
    by_cases h2 : L
    · rw [tb_f (fun h => h h2)]
      have H2 := Lib.hid h2
      clear h2
      go_wp2
      go_ret
      exact ⟨ret_bool (tb_t (HR.out.2 ⟨H2.out, h1⟩)).symm, hb1⟩
    · rw [tb_t h2]
      have H2 := Lib.hid h2
      clear h2
      go_wp2
      go_ret
      exact ⟨ret_bool (tb_f (fun h => H2.out (HR.out.1 h).1)).symm, hb1⟩
  · have h1' : ¬ (n : Int) ≤ 12 := by omega
    go_enter Tryd.func31, Tryd.ntmps31
    go_wp2
    go_ret
    exact ⟨ret_bool (tb_f (fun h => h1 (HR.out.1 h).2)).symm, Below.refl _ _⟩
set_option maxHeartbeats 1000000 in
set_option maxRecDepth 100000 in
theorem l15Good_any (A : Option Addr) (c : Nat) (xs : List Leg) (w : World) (hn : xs.length ≤ 1048576) (hA : Fl Leg.ints 3 w A xs) :
    Calls Tryd.prog 34 #[.slice A xs.length c] w fun e w' => e = .returned (.bool (tb (Rt xs))) ∧ Below w.heap.size w w' := by
  obtain ⟨n, hnn⟩ : ∃ n, n = List.length xs := ⟨_, rfl⟩
  rw [← hnn] at hn ⊢
  have hN := Lib.hid hnn
  clear hnn
  go_enter Tryd.func34, Tryd.ntmps34
  go_wp2
  go_loopw [3] (fun i wr => ∃ k : Nat, k ≤ n ∧ i = .int .i64 k ∧ Below w.heap.size w wr ∧ Hid (∀ (i : Nat) (x : Leg), i < k → xs[i]? = some x → IsLeg x)) (fun i _ => n - (intOf i).toNat)
  case atStart => exact ⟨0, by omega, rfl, Below.refl _ _, fun _ _ h => by omega⟩
  case round =>
    obtain ⟨k, hk, rfl, hbr, hall⟩ := hrel
    by_cases hlt : k < n
    · obtain ⟨x, b, o, hx, hAe, hb, hc⟩ := (hA.ext hbr).at_ (k := k) (by rw [← hN.out]; exact hlt)
      subst hAe
      have c0 : World.cell? wr ⟨b, o + k * 3, none⟩ = some (.int .i64 x.way) := hc 0 _ rfl
      have c1 : World.cell? wr ⟨b, o + k * 3 + 1, none⟩ = some (.int .i64 x.units) := hc 1 _ rfl
      have c2 : World.cell? wr ⟨b, o + k * 3 + 2, none⟩ = some (.int .i64 x.climb) := hc 2 _ rfl
      have HX := Lib.hid hx
      clear hc hx hA
      have hk0 : (0 : Int) ≤ (k : Int) := by omega
      have hk1 : (k : Int) < (n : Int) := by omega
      by_cases h : IsLeg x
      · go_wp2_with fail
        refine (l15Leg_t x h wr).mono ?_
        rintro e w2 ⟨rfl, hb2⟩
        have hx2 := ext_trans hbr hb2
        have HH := Lib.hid h
        clear h
        go_wp2
        go_roundw
        case rel => exact ⟨k + 1, by omega, by go_num, hx2, fun i y hi hy => by
          by_cases e : i = k
          · subst e; rw [HX.out] at hy; cases hy; exact HH.out
          · exact hall.out i y (by omega) hy⟩
        case measure => simp [intOf]; omega
      · go_wp2_with fail
        refine (l15Leg_f x h wr).mono ?_
        rintro e w2 ⟨rfl, hb2⟩
        have HH := Lib.hid h
        clear h
        go_wp2
        go_ret
        exact ⟨ret_bool (tb_f (fun h => HH.out (h.1 k x HX.out))).symm, ext_trans hbr hb2⟩
    · have hkn : k = n := by omega
      subst hkn
      have hL : Legs xs := fun i x hx => hall.out i x (by rw [hN.out]; exact lt_of_get hx) hx
      have HL := Lib.hid hL
      clear hL hA
      go_wp2
      all_goals
        go_ret
        refine ⟨ret_bool ?_, hbr⟩
        first
          | exact (tb_t ⟨HL.out, by rw [← hN.out]; omega⟩).symm
          | exact (tb_f (fun h => by have := h.2; rw [← hN.out] at this; omega)).symm
          | exact tb_dec ⟨fun h => by have := h.2; rw [← hN.out] at this; omega, fun h => ⟨HL.out, by rw [← hN.out]; omega⟩⟩
end Go.Proofs.YtlagfeccdcjimaaDoor
