/- Which loans are valid: the reference's l11Good. -/
import Derived.Test.YtnikeelpcokffaaDoorLoanD
namespace Go.Proofs.YtnikeelpcokffaaDoor
open Go.RowKit
set_option linter.unusedVariables false
set_option linter.unusedSimpArgs false

set_option maxHeartbeats 4000000 in
set_option maxRecDepth 100000 in
theorem l11Good_any (A : Option Addr) (c : Nat) (xs : List Loan) (w : World) (hn : xs.length ≤ 1048576) (hcap : xs.length ≤ c) (hcm : c ≤ 9223372036854775807) (hA : Fl Loan.ints 5 w A xs) :
    Calls Tryd.prog 34 #[.slice A xs.length c] w fun e w' => e = .returned (.bool (tb (Lns xs))) ∧ Below w.heap.size w w' := by
  obtain ⟨n, hnn⟩ : ∃ n, n = List.length xs := ⟨_, rfl⟩
  rw [← hnn] at hn hcap ⊢
  have hN := Lib.hid hnn
  clear hnn
  go_enter Tryd.func34, Tryd.ntmps34
  go_wp2
  go_loopw [3] (fun i wr => ∃ k : Nat, k ≤ n ∧ k ≤ 16 ∧ i = .int .i64 k ∧ Below w.heap.size w wr ∧ Hid (∀ j h, j < k → xs[j]? = some h → LoI xs j h)) (fun i _ => n - (intOf i).toNat)
  case atStart => exact ⟨0, by omega, by omega, rfl, Below.refl _ _, fun j h hj => by omega⟩
  case round =>
    obtain ⟨k, hk, hk11, rfl, hbr, hst⟩ := hrel
    obtain ⟨wo, hwo⟩ : ∃ x, x = wr := ⟨_, rfl⟩
    subst hwo
    by_cases hlt : k < n
    · by_cases hk12 : (15 : Int) < (k : Int)
      · have hkl : (k : Int) < (n : Int) := by omega
        have hn15 : (15 : Int) < (n : Int) := by omega
        have hn15' : ¬ (n : Int) ≤ 15 := by omega
        go_wp2
        go_ret
        exact ⟨ret_bool (tb_f (fun h => by have := h.2; rw [← hN.out] at this; omega)).symm, hbr⟩
      have hk10 : (k : Int) ≤ 15 := by omega
      obtain ⟨x, b, o, hx, hAe, hb, hc⟩ := (hA.ext hbr).at_ (k := k) (by rw [← hN.out]; exact hlt)
      subst hAe
      have c0 : World.cell? wo ⟨b, o + k * 5, none⟩ = some (.int .i64 x.sheet) := hc 0 _ rfl
      have c1 : World.cell? wo ⟨b, o + k * 5 + 1, none⟩ = some (.int .i64 x.reader) := hc 1 _ rfl
      have c2 : World.cell? wo ⟨b, o + k * 5 + 2, none⟩ = some (.int .i64 x.out) := hc 2 _ rfl
      have c3 : World.cell? wo ⟨b, o + k * 5 + 3, none⟩ = some (.int .i64 x.due) := hc 3 _ rfl
      have c4 : World.cell? wo ⟨b, o + k * 5 + 4, none⟩ = some (.int .i64 x.back) := hc 4 _ rfl
      have HX := Lib.hid hx
      have hbW := hbr
      have hpc := plus_cell wo
      clear hx hc
      have hk0 : (0 : Int) ≤ (k : Int) := by omega
      have hk1 : (k : Int) < (n : Int) := by omega
      rcases Nat.eq_zero_or_pos k with h0 | hpos
      · have hd : decide ((0 : Int) < (k : Int)) = false := by simp; omega
        have hd2 : decide (0 < k) = false := by simp; omega
        have H0 := Lib.hid h0
        clear h0
        by_cases h1 : IsLo x
        · go_wp2_with fail
          refine wp_region_grow (by kernel_rfl) (by kernel_rfl) ?_
          repeat (go_big_quiet_step ((first | (go_at_call 55; exact quiet_below (l11One_t x h1 _)))))
          refine wpQuiet_nil ?_
          intro w1 hb1
          skip
          have HHO : Hid (∀ (m' : Nat) (p : Loan), k = m' + 1 → xs[m']? = some p → p.out ≤ x.out) := fun m p h => by have := H0.out; omega
          have HH1 := Lib.hid h1
          clear hpc 
          have hbX := ext_trans hbW hb1
          go_wp2_with fail
          go_loopw [4] (fun i wr => ∃ q : Nat, q ≤ k ∧ i = .int .i64 q ∧ Below w1.heap.size w1 wr ∧ Hid (∀ (m : Nat) (p : Loan), m < q → xs[m]? = some p → ¬ Cl p x)) (fun i _ => k - (intOf i).toNat)
          case atStart => exact ⟨0, by omega, rfl, Below.refl _ _, fun m p h => by omega⟩
          case round =>
            obtain ⟨q, hq, rfl, hbi, hall⟩ := hrel
            by_cases hql : q < k
            · skip
              obtain ⟨p, hp⟩ : ∃ p, xs[q]? = some p := ⟨_, List.getElem?_eq_getElem (by rw [← hN.out]; omega)⟩
              have hAr := hA.ext (ext_trans hbW (ext_trans hb1 hbi))
              have hcp := hAr.get hp
              have d0 : World.cell? wr ⟨b, o + q * 5, none⟩ = some (.int .i64 p.sheet) := hcp 0 _ rfl
              have d1 : World.cell? wr ⟨b, o + q * 5 + 1, none⟩ = some (.int .i64 p.reader) := hcp 1 _ rfl
              have d2 : World.cell? wr ⟨b, o + q * 5 + 2, none⟩ = some (.int .i64 p.out) := hcp 2 _ rfl
              have d3 : World.cell? wr ⟨b, o + q * 5 + 3, none⟩ = some (.int .i64 p.due) := hcp 3 _ rfl
              have d4 : World.cell? wr ⟨b, o + q * 5 + 4, none⟩ = some (.int .i64 p.back) := hcp 4 _ rfl
              have HP := Lib.hid hp
              have hq0 : (0 : Int) ≤ (q : Int) := by omega
              have hq1 : (q : Int) < (k : Int) := by omega
              have hq2 : (q : Int) < (n : Int) := by omega
              clear hcp hp
              have hcx := hAr.get HX.out
              have e0 : World.cell? wr ⟨b, o + k * 5, none⟩ = some (.int .i64 x.sheet) := hcx 0 _ rfl
              have e1 : World.cell? wr ⟨b, o + k * 5 + 1, none⟩ = some (.int .i64 x.reader) := hcx 1 _ rfl
              have e2 : World.cell? wr ⟨b, o + k * 5 + 2, none⟩ = some (.int .i64 x.out) := hcx 2 _ rfl
              have e3 : World.cell? wr ⟨b, o + k * 5 + 3, none⟩ = some (.int .i64 x.due) := hcx 3 _ rfl
              have e4 : World.cell? wr ⟨b, o + k * 5 + 4, none⟩ = some (.int .i64 x.back) := hcx 4 _ rfl
              have hpc5 := plus_cell wr
              have hbb5 : b < wr.heap.size := by have h1 := hbi.size; have h2 := hb1.size; have h3 := hbW.size; omega
              have hpl := (hst.out q p (by omega) HP.out).1
              clear hcx
              by_cases hsh : p.sheet = x.sheet
              · have es : (p.sheet == x.sheet) = true := by simp [hsh]
                by_cases hbk : p.back < 0
                · have eb : decide (p.back < 0) = true := decide_eq_true hbk
                  have hb1' : p.back = -1 := by unfold IsLo at hpl; omega
                  have HSH := Lib.hid hsh
                  have HBK := Lib.hid hb1'
                  clear hsh hb1' hpl
                  go_wp2_with fail
                  refine wp_region_grow (by kernel_rfl) (by kernel_rfl) ?_
                  repeat (go_big_quiet_step ((first | (fail))))
                  refine wpQuiet_nil ?_
                  intro w1 hb1
                  have hbn := ext_trans hbi hb1
                  go_wp2
                  go_ret
                  exact ⟨ret_bool (tb_f (fun h => (h.1 k x HX.out).2.2 q p (by omega) HP.out ⟨HSH.out, .inl HBK.out⟩)).symm, ext_trans hbX hbn⟩
                · have eb : decide (p.back < 0) = false := decide_eq_false hbk
                  by_cases hlt3 : x.out < p.back
                  · have ec : decide (x.out < p.back) = true := decide_eq_true hlt3
                    have HSH := Lib.hid hsh
                    have HLT3 := Lib.hid hlt3
                    clear hsh hpl
                    go_wp2_with fail
                    refine wp_region_grow (by kernel_rfl) (by kernel_rfl) ?_
                    repeat (go_big_quiet_step ((first | (fail))))
                    refine wpQuiet_nil ?_
                    intro w1 hb1
                    have hbn := ext_trans hbi hb1
                    go_wp2
                    go_ret
                    exact ⟨ret_bool (tb_f (fun h => (h.1 k x HX.out).2.2 q p (by omega) HP.out ⟨HSH.out, .inr HLT3.out⟩)).symm, ext_trans hbX hbn⟩
                  · have ec : decide (x.out < p.back) = false := decide_eq_false hlt3
                    have HNC : Hid (¬ Cl p x) := fun h => by have := h.2; omega
                    clear hsh hpl
                    go_wp2_with fail
                    refine wp_region_grow (by kernel_rfl) (by kernel_rfl) ?_
                    repeat (go_big_quiet_step ((first | (fail))))
                    refine wpQuiet_nil ?_
                    intro w1 hb1
                    have hbn := ext_trans hbi hb1
                    go_wp2
                    go_roundw
                    case rel => exact ⟨q + 1, by omega, by go_num, hbn, fun m' p' hm hp' => by
                      by_cases e' : m' = q
                      · subst e'; rw [HP.out] at hp'; cases hp'; exact HNC.out
                      · exact hall.out m' p' (by omega) hp'⟩
                    case measure => simp [intOf]; omega
              · have es : (p.sheet == x.sheet) = false := by simp [hsh]
                have HNC : Hid (¬ Cl p x) := fun h => hsh h.1
                clear hsh hpl
                go_wp2_with fail
                refine wp_region_grow (by kernel_rfl) (by kernel_rfl) ?_
                repeat (go_big_quiet_step ((first | (fail))))
                refine wpQuiet_nil ?_
                intro w1 hb1
                have hbn := ext_trans hbi hb1
                go_wp2
                go_roundw
                case rel => exact ⟨q + 1, by omega, by go_num, hbn, fun m' p' hm hp' => by
                  by_cases e' : m' = q
                  · subst e'; rw [HP.out] at hp'; cases hp'; exact HNC.out
                  · exact hall.out m' p' (by omega) hp'⟩
                case measure => simp [intOf]; omega
            · have hqn : q = k := by omega
              have hql2 : ¬ (q : Int) < (k : Int) := by omega
              have HIK : Hid (LoI xs (k) x) := ⟨HH1.out, fun m' p h hp => HHO.out m' p h hp, fun m' p hm hp => hall.out m' p (by omega) hp⟩
              clear hqn
              go_wp2_with fail
              go_roundw
              case rel => exact ⟨k + 1, by omega, by omega, by go_num, ext_trans hbX hbi, fun j h hj hjh => by
                by_cases e : j = k
                · subst e; rw [HX.out] at hjh; cases hjh; exact HIK.out
                · exact hst.out j h (by omega) hjh⟩
              case measure => simp [intOf]; omega
        · go_wp2_with fail
          refine wp_region_grow (by kernel_rfl) (by kernel_rfl) ?_
          repeat (go_big_quiet_step ((first | (go_at_call 55; exact quiet_below (l11One_f x h1 _)))))
          refine wpQuiet_nil ?_
          intro w1 hb1
          go_wp2
          go_ret
          exact ⟨ret_bool (tb_f (fun h => h1 (h.1 (k) x HX.out).1)).symm, ext_trans hbW hb1⟩
      · obtain ⟨m, rfl⟩ : ∃ m, k = m + 1 := ⟨k - 1, by omega⟩
        obtain ⟨y, hy⟩ : ∃ y, xs[m]? = some y := ⟨_, List.getElem?_eq_getElem (by rw [← hN.out]; omega)⟩
        have hdy := (hA.ext hbr).get hy
        have d0 : World.cell? wo ⟨b, o + m * 5 + 2, none⟩ = some (.int .i64 y.out) := hdy 2 _ rfl
        have HY := Lib.hid hy
        clear hy hdy
        have hm0 : (0 : Int) ≤ (m : Int) := by omega
        have hm1 : (m : Int) < (n : Int) := by omega
        have hm2 : (0 : Int) < (m : Int) + 1 := by omega
        have hm3 : decide ((m : Int) + 1 < (n : Int)) = true := decide_eq_true (by omega)
        have hm5 : decide (((m + 1 : Nat) : Int) < (n : Int)) = true := decide_eq_true (by omega)
        have hm4 : (0 : Int) ≤ (m : Int) + 1 := by omega
        by_cases h1 : IsLo x
        · by_cases hyc : y.out ≤ x.out
          · have hyn : ¬ x.out < y.out := by omega
            have hord : ∀ m' p, m + 1 = m' + 1 → xs[m']? = some p → p.out ≤ x.out := fun m' p h hp => by
              obtain rfl : m = m' := by omega
              rw [HY.out] at hp
              cases hp
              exact hyc
            have HOR := Lib.hid hord
            clear hord
            go_wp2_with fail
            refine wp_region_grow (by kernel_rfl) (by kernel_rfl) ?_
            repeat (go_big_quiet_step ((first | (go_at_call 55; exact quiet_below (l11One_t x h1 _)))))
            refine wpQuiet_nil ?_
            intro w1 hb1
            skip
            have HHO : Hid (∀ (m' : Nat) (p : Loan), (m + 1) = m' + 1 → xs[m']? = some p → p.out ≤ x.out) := HOR
            have HH1 := Lib.hid h1
            clear hpc d0
            have hbX := ext_trans hbW hb1
            go_wp2_with fail
            go_loopw [4] (fun i wr => ∃ q : Nat, q ≤ (m + 1) ∧ i = .int .i64 q ∧ Below w1.heap.size w1 wr ∧ Hid (∀ (m : Nat) (p : Loan), m < q → xs[m]? = some p → ¬ Cl p x)) (fun i _ => (m + 1) - (intOf i).toNat)
            case atStart => exact ⟨0, by omega, rfl, Below.refl _ _, fun m p h => by omega⟩
            case round =>
              obtain ⟨q, hq, rfl, hbi, hall⟩ := hrel
              by_cases hql : q < (m + 1)
              · skip
                obtain ⟨p, hp⟩ : ∃ p, xs[q]? = some p := ⟨_, List.getElem?_eq_getElem (by rw [← hN.out]; omega)⟩
                have hAr := hA.ext (ext_trans hbW (ext_trans hb1 hbi))
                have hcp := hAr.get hp
                have d0 : World.cell? wr ⟨b, o + q * 5, none⟩ = some (.int .i64 p.sheet) := hcp 0 _ rfl
                have d1 : World.cell? wr ⟨b, o + q * 5 + 1, none⟩ = some (.int .i64 p.reader) := hcp 1 _ rfl
                have d2 : World.cell? wr ⟨b, o + q * 5 + 2, none⟩ = some (.int .i64 p.out) := hcp 2 _ rfl
                have d3 : World.cell? wr ⟨b, o + q * 5 + 3, none⟩ = some (.int .i64 p.due) := hcp 3 _ rfl
                have d4 : World.cell? wr ⟨b, o + q * 5 + 4, none⟩ = some (.int .i64 p.back) := hcp 4 _ rfl
                have HP := Lib.hid hp
                have hq0 : (0 : Int) ≤ (q : Int) := by omega
                have hq1 : (q : Int) < ((m + 1) : Int) := by omega
                have hq2 : (q : Int) < (n : Int) := by omega
                clear hcp hp
                have hcx := hAr.get HX.out
                have e0 : World.cell? wr ⟨b, o + (m + 1) * 5, none⟩ = some (.int .i64 x.sheet) := hcx 0 _ rfl
                have e1 : World.cell? wr ⟨b, o + (m + 1) * 5 + 1, none⟩ = some (.int .i64 x.reader) := hcx 1 _ rfl
                have e2 : World.cell? wr ⟨b, o + (m + 1) * 5 + 2, none⟩ = some (.int .i64 x.out) := hcx 2 _ rfl
                have e3 : World.cell? wr ⟨b, o + (m + 1) * 5 + 3, none⟩ = some (.int .i64 x.due) := hcx 3 _ rfl
                have e4 : World.cell? wr ⟨b, o + (m + 1) * 5 + 4, none⟩ = some (.int .i64 x.back) := hcx 4 _ rfl
                have hpc5 := plus_cell wr
                have hbb5 : b < wr.heap.size := by have h1 := hbi.size; have h2 := hb1.size; have h3 := hbW.size; omega
                have hpl := (hst.out q p (by omega) HP.out).1
                clear hcx
                by_cases hsh : p.sheet = x.sheet
                · have es : (p.sheet == x.sheet) = true := by simp [hsh]
                  by_cases hbk : p.back < 0
                  · have eb : decide (p.back < 0) = true := decide_eq_true hbk
                    have hb1' : p.back = -1 := by unfold IsLo at hpl; omega
                    have HSH := Lib.hid hsh
                    have HBK := Lib.hid hb1'
                    clear hsh hb1' hpl
                    go_wp2_with fail
                    refine wp_region_grow (by kernel_rfl) (by kernel_rfl) ?_
                    repeat (go_big_quiet_step ((first | (fail))))
                    refine wpQuiet_nil ?_
                    intro w1 hb1
                    have hbn := ext_trans hbi hb1
                    go_wp2
                    go_ret
                    exact ⟨ret_bool (tb_f (fun h => (h.1 (m + 1) x HX.out).2.2 q p (by omega) HP.out ⟨HSH.out, .inl HBK.out⟩)).symm, ext_trans hbX hbn⟩
                  · have eb : decide (p.back < 0) = false := decide_eq_false hbk
                    by_cases hlt3 : x.out < p.back
                    · have ec : decide (x.out < p.back) = true := decide_eq_true hlt3
                      have HSH := Lib.hid hsh
                      have HLT3 := Lib.hid hlt3
                      clear hsh hpl
                      go_wp2_with fail
                      refine wp_region_grow (by kernel_rfl) (by kernel_rfl) ?_
                      repeat (go_big_quiet_step ((first | (fail))))
                      refine wpQuiet_nil ?_
                      intro w1 hb1
                      have hbn := ext_trans hbi hb1
                      go_wp2
                      go_ret
                      exact ⟨ret_bool (tb_f (fun h => (h.1 (m + 1) x HX.out).2.2 q p (by omega) HP.out ⟨HSH.out, .inr HLT3.out⟩)).symm, ext_trans hbX hbn⟩
                    · have ec : decide (x.out < p.back) = false := decide_eq_false hlt3
                      have HNC : Hid (¬ Cl p x) := fun h => by have := h.2; omega
                      clear hsh hpl
                      go_wp2_with fail
                      refine wp_region_grow (by kernel_rfl) (by kernel_rfl) ?_
                      repeat (go_big_quiet_step ((first | (fail))))
                      refine wpQuiet_nil ?_
                      intro w1 hb1
                      have hbn := ext_trans hbi hb1
                      go_wp2
                      go_roundw
                      case rel => exact ⟨q + 1, by omega, by go_num, hbn, fun m' p' hm hp' => by
                        by_cases e' : m' = q
                        · subst e'; rw [HP.out] at hp'; cases hp'; exact HNC.out
                        · exact hall.out m' p' (by omega) hp'⟩
                      case measure => simp [intOf]; omega
                · have es : (p.sheet == x.sheet) = false := by simp [hsh]
                  have HNC : Hid (¬ Cl p x) := fun h => hsh h.1
                  clear hsh hpl
                  go_wp2_with fail
                  refine wp_region_grow (by kernel_rfl) (by kernel_rfl) ?_
                  repeat (go_big_quiet_step ((first | (fail))))
                  refine wpQuiet_nil ?_
                  intro w1 hb1
                  have hbn := ext_trans hbi hb1
                  go_wp2
                  go_roundw
                  case rel => exact ⟨q + 1, by omega, by go_num, hbn, fun m' p' hm hp' => by
                    by_cases e' : m' = q
                    · subst e'; rw [HP.out] at hp'; cases hp'; exact HNC.out
                    · exact hall.out m' p' (by omega) hp'⟩
                  case measure => simp [intOf]; omega
              · have hqn : q = (m + 1) := by omega
                have hql2 : ¬ (q : Int) < ((m + 1) : Int) := by omega
                have HIK : Hid (LoI xs ((m + 1)) x) := ⟨HH1.out, fun m' p h hp => HHO.out m' p h hp, fun m' p hm hp => hall.out m' p (by omega) hp⟩
                clear hqn
                go_wp2_with fail
                go_roundw
                case rel => exact ⟨(m + 1) + 1, by omega, by omega, by go_num, ext_trans hbX hbi, fun j h hj hjh => by
                  by_cases e : j = (m + 1)
                  · subst e; rw [HX.out] at hjh; cases hjh; exact HIK.out
                  · exact hst.out j h (by omega) hjh⟩
                case measure => simp [intOf]; omega
          · have hyc' : x.out < y.out := by omega
            go_wp2_with fail
            refine wp_region_grow (by kernel_rfl) (by kernel_rfl) ?_
            repeat (go_big_quiet_step ((first | (go_at_call 55; exact quiet_below (l11One_t x h1 _)))))
            refine wpQuiet_nil ?_
            intro w1 hb1
            go_wp2
            go_ret
            exact ⟨ret_bool (tb_f (fun h => by have := (h.1 (m + 1) x HX.out).2.1 m y rfl HY.out; omega)).symm, ext_trans hbW hb1⟩
        · go_wp2_with fail
          refine wp_region_grow (by kernel_rfl) (by kernel_rfl) ?_
          repeat (go_big_quiet_step ((first | (go_at_call 55; exact quiet_below (l11One_f x h1 _)))))
          refine wpQuiet_nil ?_
          intro w1 hb1
          go_wp2
          go_ret
          exact ⟨ret_bool (tb_f (fun h => h1 (h.1 (m + 1) x HX.out).1)).symm, ext_trans hbW hb1⟩
    · have hkn : k = n := by omega
      subst hkn
      go_wp2
      go_ret
      exact ⟨ret_bool (tb_dec ⟨fun h => by have := h.2; rw [← hN.out] at this; omega, fun h => ⟨fun j h' hj => hst.out j h' (by rw [hN.out]; exact lt_of_get hj) hj, by rw [← hN.out]; omega⟩⟩), hbr⟩
end Go.Proofs.YtnikeelpcokffaaDoor
