/- Which editions are valid by themselves: the program's and the reference's. -/
import Derived.Test.YtadcjfbcfiljkaaDoorProg
import Derived.Test.YtadcjfbcfiljkaaDoorBase
import Derived.Test.YtadcjfbcfiljkaaDoorBase2
import Derived.Test.YtadcjfbcfiljkaaDoorNest
import Derived.Test.YtadcjfbcfiljkaaDoorWithin
import Derived.Test.YtadcjfbcfiljkaaDoorRising
namespace Go.Proofs.YtadcjfbcfiljkaaDoor
open Go.RowKit
set_option linter.unusedVariables false
set_option linter.unusedSimpArgs false

set_option maxHeartbeats 400000 in
theorem notPlace_any (x : Int) (w : World) :
    Calls Tryd.prog 61 #[.int .i64 x] w fun e w' => e = .returned (.bool (tb (¬ InR 0 999 x))) ∧ w = w' := by
  by_cases h : InR 0 999 x
  · rw [tb_f (fun h' => h' h)]
    go_enter Tryd.func61, Tryd.ntmps61
    go_wp2_with fail
    refine (isPlaceOf_t x w h).mono ?_
    rintro e w1 ⟨rfl, rfl⟩
    go_wp2
    go_ret
    exact ⟨rfl, rfl⟩
  · rw [tb_t h]
    go_enter Tryd.func61, Tryd.ntmps61
    go_wp2_with fail
    refine (isPlaceOf_f x w h).mono ?_
    rintro e w1 ⟨rfl, rfl⟩
    go_wp2
    go_ret
    exact ⟨rfl, rfl⟩

def IdxP (p : Prop) (w : World) (e : Ending) (w' : World) : Prop := ∃ r, e = .returned (.int .i64 r) ∧ ((0 ≤ r ∧ ¬ p) ∨ (r = -1 ∧ p)) ∧ w = w'
set_option maxHeartbeats 1000000 in
set_option maxRecDepth 100000 in
theorem idxPlace_any (A : Option Addr) (c : Nat) (xs : List Int) (w : World) (hn : xs.length ≤ 1152921504606846976) (hA : Fl one 1 w A xs) :
    Calls Tryd.prog 77 #[.slice A xs.length c, .func (.func 61) #[] #[]] w (IdxP (AllR 0 999 xs) w) := by
  obtain ⟨n, hnn⟩ : ∃ n, n = List.length xs := ⟨_, rfl⟩
  rw [← hnn] at hn ⊢
  have hN := Lib.hid hnn
  clear hnn
  go_enter Tryd.func77, Tryd.ntmps77
  go_wp2
  go_loop [8] (fun i => ∃ k : Nat, i = .int .i64 (k : Int) ∧ k ≤ n ∧ Hid (AllR 0 999 (xs.take k))) (fun i => n - (intOf i).toNat)
  case atStart => exact ⟨0, rfl, by omega, fun i x h => by simp at h⟩
  case round =>
    obtain ⟨k, rfl, hk, hall⟩ := hrel
    by_cases hlt : k < n
    · obtain ⟨x, b, o, hx, rfl, hb, hc⟩ := hA.at_ (k := k) (by rw [← hN.out]; exact hlt)
      have c0 : World.cell? w ⟨b, o + k, none⟩ = some (.int .i64 x) := by have := hc 0 x rfl; simpa using this
      have HX := Lib.hid hx
      have hk0 : (0 : Int) ≤ (k : Int) := by omega
      have hk1 : (k : Int) < (n : Int) := by omega
      clear hx hc hA
      go_wp2_with fail
      refine (notPlace_any x _).mono ?_
      rintro e w1 ⟨rfl, rfl⟩
      by_cases h : InR 0 999 x
      · rw [tb_f (fun h' => h' h)]
        have HH := Lib.hid h
        clear h
        go_wp2
        go_round
        case rel => exact ⟨k + 1, by go_num, by omega, fun i y hy => by
          rw [take_get HX.out, List.getElem?_append] at hy
          split at hy
          · exact hall.out i y hy
          · rcases hh : i - (xs.take k).length with _ | q
            · rw [hh] at hy
              simp at hy
              subst hy
              exact HH.out
            · rw [hh] at hy
              simp at hy⟩
        case measure => simp [intOf]; omega
      · rw [tb_t h]
        have HH := Lib.hid h
        clear h
        go_wp2
        go_ret
        exact ⟨k, rfl, .inl ⟨by omega, fun h => HH.out (h k x HX.out)⟩, rfl⟩
    · have hkn : k = n := by omega
      subst hkn
      go_wp2
      go_ret
      have h := hall.out
      rw [take_all (by rw [← hN.out]; exact Nat.le_refl _)] at h
      exact ⟨-1, rfl, .inr ⟨rfl, h⟩, rfl⟩
set_option maxHeartbeats 1000000 in
theorem hasBad_any (A : Option Addr) (c : Nat) (xs : List Int) (w : World) (hn : xs.length ≤ 1152921504606846976) (hA : Fl one 1 w A xs) :
    Calls Tryd.prog 60 #[.slice A xs.length c, .func (.func 61) #[] #[]] w fun e w' => e = .returned (.bool (tb (¬ AllR 0 999 xs))) ∧ w = w' := by
  have hidx := idxPlace_any A c xs w hn hA
  obtain ⟨n, hnn⟩ : ∃ n, n = List.length xs := ⟨_, rfl⟩
  rw [← hnn] at hn ⊢
  have hN := Lib.hid hnn
  clear hnn
  rw [← hN.out] at hidx
  have HI := Lib.hid hidx
  clear hidx
  go_enter Tryd.func60, Tryd.ntmps60
  go_wp2_with fail
  refine HI.out.mono ?_
  rintro e w1 ⟨r, rfl, hr, rfl⟩
  rcases hr with ⟨h1, h2⟩ | ⟨rfl, h2⟩
  · have H2 := Lib.hid h2
    clear h2
    go_wp2
    go_ret
    exact ⟨ret_bool (tb_t H2.out).symm, rfl⟩
  · have H2 := Lib.hid h2
    clear h2
    go_wp2
    go_ret
    exact ⟨ret_bool (tb_f (fun h => h H2.out)).symm, rfl⟩

def IsEd (x : Nest) : Prop := AllR 0 999 x.l ∧ Rising x.l ∧ x.l.length ≤ 10 ∧ (1 ≤ x.a ∧ x.a ≤ 999) ∧ (1 ≤ x.b ∧ x.b ≤ 9) ∧ (0 ≤ x.c ∧ x.c ≤ 4000) ∧ (1 < x.b ∨ x.l.length = 0)
set_option maxHeartbeats 1000000 in
set_option maxRecDepth 100000 in
theorem isEdition_any (x : Nest) (A : Option Addr) (d : Nat) (w : World) (hn : x.l.length ≤ 4194304) (hA : Fl one 1 w A x.l) :
    Calls Tryd.prog 47 #[.agg #[.int .i64 x.a, .int .i64 x.b, .int .i64 x.c, .slice A x.l.length d]] w fun e w' => e = .returned (.bool (tb (IsEd x))) ∧ Below w.heap.size w w' := by
  obtain ⟨W0, hW0, hB0, hz0, hc0, _⟩ := box_world w #[Value.int .i64 x.a, Value.int .i64 x.b, Value.int .i64 x.c, Value.slice A x.l.length d] 33
  have e0 : World.cell? W0 ⟨w.heap.size, 0, none⟩ = some (.int .i64 x.a) := hc0 0
  have e1 : World.cell? W0 ⟨w.heap.size, 1, none⟩ = some (.int .i64 x.b) := hc0 1
  have e2 : World.cell? W0 ⟨w.heap.size, 2, none⟩ = some (.int .i64 x.c) := hc0 2
  have e3 : World.cell? W0 ⟨w.heap.size, 3, none⟩ = some (.slice A x.l.length d) := hc0 3
  clear hc0
  go_enter Tryd.func47, Tryd.ntmps47
  go_wp2_with fail
  refine (hasBad_any A d x.l W0 (by omega) (hA.ext hB0)).mono ?_
  rintro e w1 ⟨rfl, rfl⟩
  by_cases h1 : AllR 0 999 x.l
  · rw [tb_f (fun h => h h1)]
    have H1 := Lib.hid h1
    clear h1
    go_wp2_with fail
    refine (isRising_any A d x.l W0 (by omega) (hA.ext hB0)).mono ?_
    rintro e w2 ⟨rfl, hb2⟩
    have hx2 := ext_trans hB0 hb2
    have hr2 := bcell hb2
    have hzz : w.heap.size < w2.heap.size := Nat.lt_of_lt_of_le hz0 hb2.size
    by_cases h2 : Rising x.l
    · rw [tb_t h2]
      have H2 := Lib.hid h2
      clear h2
      by_cases h3 : x.l.length ≤ 10
      · have h3' : (x.l.length : Int) ≤ 10 := by omega
        by_cases h4 : 1 ≤ x.a ∧ x.a ≤ 999
        · go_wp2_with fail
          refine (isId_t x.a _ h4).mono ?_
          rintro e w3 ⟨rfl, rfl⟩
          by_cases h5 : 1 ≤ x.b ∧ x.b ≤ 9
          · go_wp2_with fail
            refine (within_t x.b 1 9 _ h5).mono ?_
            rintro e w3 ⟨rfl, rfl⟩
            by_cases h6 : 0 ≤ x.c ∧ x.c ≤ 4000
            · go_wp2_with fail
              refine (isDay_t x.c _ h6).mono ?_
              rintro e w3 ⟨rfl, rfl⟩
              by_cases h7 : 1 < x.b
              · go_wp2
                go_ret
                exact ⟨ret_bool (tb_t ⟨H1.out, H2.out, h3, h4, h5, h6, .inl h7⟩).symm, hx2⟩
              · by_cases h8 : x.l.length = 0
                · have h8' : (x.l.length : Int) = 0 := by omega
                  have H8 := Lib.hid h8
                  clear h8 h3 h3'
                  go_wp2
                  go_ret
                  exact ⟨ret_bool (tb_t ⟨H1.out, H2.out, by have := H8.out; omega, h4, h5, h6, .inr H8.out⟩).symm, hx2⟩
                · have h8' : ¬ (x.l.length : Int) = 0 := by omega
                  have h8'' : ((x.l.length : Int) == 0) = false := by rw [beq_eq_false_iff_ne]; exact h8'
                  have h7' : decide (1 < x.b) = false := by simp; omega
                  have H8 := Lib.hid h8
                  clear h8
                  go_wp2
                  all_goals
                    go_ret
                    exact ⟨ret_bool (tb_f (fun h => (by have h9 := h.2.2.2.2.2.2; have := H8.out; omega))).symm, hx2⟩
            · go_wp2_with fail
              refine (isDay_f x.c _ h6).mono ?_
              rintro e w3 ⟨rfl, rfl⟩
              go_wp2
              all_goals
                go_ret
                exact ⟨ret_bool (tb_f (fun h => h6 h.2.2.2.2.2.1)).symm, hx2⟩
          · go_wp2_with fail
            refine (within_f x.b 1 9 _ h5).mono ?_
            rintro e w3 ⟨rfl, rfl⟩
            go_wp2
            all_goals
              go_ret
              exact ⟨ret_bool (tb_f (fun h => h5 h.2.2.2.2.1)).symm, hx2⟩
        · go_wp2_with fail
          refine (isId_f x.a _ h4).mono ?_
          rintro e w3 ⟨rfl, rfl⟩
          go_wp2
          all_goals
            go_ret
            exact ⟨ret_bool (tb_f (fun h => h4 h.2.2.2.1)).symm, hx2⟩
      · have h3' : 10 < (x.l.length : Int) := by omega
        go_wp2
        all_goals
          go_ret
          exact ⟨ret_bool (tb_f (fun h => h3 h.2.2.1)).symm, hx2⟩
    · rw [tb_f h2]
      have H2 := Lib.hid h2
      clear h2
      go_wp2
      all_goals
        go_ret
        exact ⟨ret_bool (tb_f (fun h => H2.out h.2.1)).symm, hx2⟩
  · rw [tb_t h1]
    have H1 := Lib.hid h1
    clear h1
    go_wp2
    all_goals
      go_ret
      exact ⟨ret_bool (tb_f (fun h => H1.out h.1)).symm, hB0⟩

set_option maxHeartbeats 1000000 in
set_option maxRecDepth 100000 in
theorem l18One_any (x : Nest) (A : Option Addr) (d : Nat) (w : World) (hn : x.l.length ≤ 4194304) (hA : Fl one 1 w A x.l) :
    Calls Tryd.prog 49 #[.agg #[.int .i64 x.a, .int .i64 x.b, .int .i64 x.c, .slice A x.l.length d]] w fun e w' => e = .returned (.bool (tb (IsEd x))) ∧ Below w.heap.size w w' := by
  obtain ⟨W0, hW0, hB0, hz0, hc0, _⟩ := box_world w #[Value.int .i64 x.a, Value.int .i64 x.b, Value.int .i64 x.c, Value.slice A x.l.length d] 33
  have e0 : World.cell? W0 ⟨w.heap.size, 0, none⟩ = some (.int .i64 x.a) := hc0 0
  have e1 : World.cell? W0 ⟨w.heap.size, 1, none⟩ = some (.int .i64 x.b) := hc0 1
  have e2 : World.cell? W0 ⟨w.heap.size, 2, none⟩ = some (.int .i64 x.c) := hc0 2
  have e3 : World.cell? W0 ⟨w.heap.size, 3, none⟩ = some (.slice A x.l.length d) := hc0 3
  clear hc0
  go_enter Tryd.func49, Tryd.ntmps49
  by_cases h4 : 1 ≤ x.a ∧ x.a ≤ 999
  · go_wp2_with fail
    refine (l18Id_t x.a W0 h4).mono ?_
    rintro e w3 ⟨rfl, rfl⟩
    by_cases h5 : 1 ≤ x.b ∧ x.b ≤ 9
    · go_wp2_with fail
      refine (l1In_t x.b 1 9 W0 h5).mono ?_
      rintro e w3 ⟨rfl, rfl⟩
      by_cases h6 : 0 ≤ x.c ∧ x.c ≤ 4000
      · go_wp2_with fail
        refine (l2Day_t x.c W0 h6).mono ?_
        rintro e w3 ⟨rfl, rfl⟩
        by_cases h3 : x.l.length ≤ 10
        · have h3' : (x.l.length : Int) ≤ 10 := by omega
          go_wp2_with fail
          refine (l1Rising_any A d x.l 0 999 W0 (by omega) (hA.ext hB0)).mono ?_
          rintro e w2 ⟨rfl, hb2⟩
          have hx2 := ext_trans hB0 hb2
          have hr2 := bcell hb2
          have hzz : w.heap.size < w2.heap.size := Nat.lt_of_lt_of_le hz0 hb2.size
          by_cases h1 : Good (InR 0 999) Lt x.l
          · rw [tb_t h1]
            have H1 := Lib.hid h1
            clear h1
            by_cases h7 : 1 < x.b
            · go_wp2
              go_ret
              exact ⟨ret_bool (tb_t ⟨H1.out.1, H1.out.2, h3, h4, h5, h6, .inl h7⟩).symm, hx2⟩
            · by_cases h8 : x.l.length = 0
              · have h8' : (x.l.length : Int) = 0 := by omega
                have H8 := Lib.hid h8
                clear h8 h3 h3'
                go_wp2
                go_ret
                exact ⟨ret_bool (tb_t ⟨H1.out.1, H1.out.2, by have := H8.out; omega, h4, h5, h6, .inr H8.out⟩).symm, hx2⟩
              · have h8' : ¬ (x.l.length : Int) = 0 := by omega
                have h8'' : ((x.l.length : Int) == 0) = false := by rw [beq_eq_false_iff_ne]; exact h8'
                have h7' : decide (1 < x.b) = false := by simp; omega
                have H8 := Lib.hid h8
                clear h8
                go_wp2
                all_goals
                  go_ret
                  exact ⟨ret_bool (tb_f (fun h => (by have h9 := h.2.2.2.2.2.2; have := H8.out; omega))).symm, hx2⟩
          · rw [tb_f h1]
            have H1 := Lib.hid h1
            clear h1
            go_wp2
            all_goals
              go_ret
              exact ⟨ret_bool (tb_f (fun h => H1.out ⟨h.1, h.2.1⟩)).symm, hx2⟩
        · have h3' : 10 < (x.l.length : Int) := by omega
          go_wp2
          all_goals
            go_ret
            exact ⟨ret_bool (tb_f (fun h => h3 h.2.2.1)).symm, hB0⟩
      · go_wp2_with fail
        refine (l2Day_f x.c W0 h6).mono ?_
        rintro e w3 ⟨rfl, rfl⟩
        go_wp2
        all_goals
          go_ret
          exact ⟨ret_bool (tb_f (fun h => h6 h.2.2.2.2.2.1)).symm, hB0⟩
    · go_wp2_with fail
      refine (l1In_f x.b 1 9 W0 h5).mono ?_
      rintro e w3 ⟨rfl, rfl⟩
      go_wp2
      all_goals
        go_ret
        exact ⟨ret_bool (tb_f (fun h => h5 h.2.2.2.2.1)).symm, hB0⟩
  · go_wp2_with fail
    refine (l18Id_f x.a W0 h4).mono ?_
    rintro e w3 ⟨rfl, rfl⟩
    go_wp2
    all_goals
      go_ret
      exact ⟨ret_bool (tb_f (fun h => h4 h.2.2.2.1)).symm, hB0⟩
end Go.Proofs.YtadcjfbcfiljkaaDoor
