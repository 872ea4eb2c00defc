/- Which loans are valid: the program's AreLoans. -/
import Derived.Test.YtnikeelpcokffaaDoorLoanD
namespace Go.Proofs.YtnikeelpcokffaaDoor
open Go.RowKit
set_option linter.unusedVariables false
set_option linter.unusedSimpArgs false

set_option maxHeartbeats 4000000 in
set_option maxRecDepth 100000 in
theorem areLoans_any (A : Option Addr) (c : Nat) (xs : List Loan) (w : World) (hn : xs.length ≤ 1048576) (hcap : xs.length ≤ c) (hcm : c ≤ 9223372036854775807) (hA : Fl Loan.ints 5 w A xs) :
    Calls Tryd.prog 29 #[.slice A xs.length c] w fun e w' => e = .returned (.bool (tb (Lns xs))) ∧ Below w.heap.size w w' := by
  obtain ⟨n, hnn⟩ : ∃ n, n = List.length xs := ⟨_, rfl⟩
  rw [← hnn] at hn hcap ⊢
  have hN := Lib.hid hnn
  clear hnn
  go_enter Tryd.func29, Tryd.ntmps29
  go_wp2
  go_loopw [9] (fun i wr => ∃ k : Nat, k ≤ n ∧ i = .int .i64 k ∧ Below w.heap.size w wr ∧ Hid (∀ j h, j < k → xs[j]? = some h → LoI xs j h)) (fun i _ => n - (intOf i).toNat)
  case atStart => exact ⟨0, by omega, rfl, Below.refl _ _, fun j h hj => by omega⟩
  case round =>
    obtain ⟨k, hk, rfl, hbr, hst⟩ := hrel
    obtain ⟨wo, hwo⟩ : ∃ x, x = wr := ⟨_, rfl⟩
    subst hwo
    by_cases hlt : k < n
    · skip
      obtain ⟨x, b, o, hx, hAe, hb, hc⟩ := (hA.ext hbr).at_ (k := k) (by rw [← hN.out]; exact hlt)
      subst hAe
      have c0 : World.cell? wo ⟨b, o + k * 5, none⟩ = some (.int .i64 x.sheet) := hc 0 _ rfl
      have c1 : World.cell? wo ⟨b, o + k * 5 + 1, none⟩ = some (.int .i64 x.reader) := hc 1 _ rfl
      have c2 : World.cell? wo ⟨b, o + k * 5 + 2, none⟩ = some (.int .i64 x.out) := hc 2 _ rfl
      have c3 : World.cell? wo ⟨b, o + k * 5 + 3, none⟩ = some (.int .i64 x.due) := hc 3 _ rfl
      have c4 : World.cell? wo ⟨b, o + k * 5 + 4, none⟩ = some (.int .i64 x.back) := hc 4 _ rfl
      have HX := Lib.hid hx
      obtain ⟨W0, hW0, hB0, hz0', hg, _⟩ := box_world wo #[Value.int .i64 x.sheet, .int .i64 x.reader, .int .i64 x.out, .int .i64 x.due, .int .i64 x.back] 43
      have g0 : World.cell? W0 ⟨wo.heap.size, 0, none⟩ = some (.int .i64 x.sheet) := hg 0
      have g1 : World.cell? W0 ⟨wo.heap.size, 1, none⟩ = some (.int .i64 x.reader) := hg 1
      have g2 : World.cell? W0 ⟨wo.heap.size, 2, none⟩ = some (.int .i64 x.out) := hg 2
      have g3 : World.cell? W0 ⟨wo.heap.size, 3, none⟩ = some (.int .i64 x.due) := hg 3
      have g4 : World.cell? W0 ⟨wo.heap.size, 4, none⟩ = some (.int .i64 x.back) := hg 4
      have hcr0 := bcell hB0
      have hbW0 : b < W0.heap.size := Nat.lt_of_lt_of_le hb hB0.size
      have hbW := ext_trans hbr hB0
      have hpc := plus_cell W0
      clear hg
      clear hx hc
      have hk0 : (0 : Int) ≤ (k : Int) := by omega
      have hk1 : (k : Int) < (n : Int) := by omega
      rcases Nat.eq_zero_or_pos k with h0 | hpos
      · have hd : decide ((0 : Int) < (k : Int)) = false := by simp; omega
        have hd2 : decide (0 < k) = false := by simp; omega
        have H0 := Lib.hid h0
        clear h0
        by_cases h1 : IsLo x
        · go_wp2_with fail
          refine wp_region_grow (by kernel_rfl) (by kernel_rfl) ?_
          repeat (go_big_quiet_step ((first | (go_at_call 53; exact quiet_below (isLoan_t x h1 _)))))
          refine wpQuiet_nil ?_
          intro w1 hb1
          have hzb : wo.heap.size < w1.heap.size := Nat.lt_of_lt_of_le hz0' hb1.size
          have q0 : World.cell? w1 ⟨wo.heap.size, 0, none⟩ = some (.int .i64 x.sheet) := (hb1.cell (p := ⟨wo.heap.size, 0, none⟩) hz0').trans g0
          have q2 : World.cell? w1 ⟨wo.heap.size, 2, none⟩ = some (.int .i64 x.out) := (hb1.cell (p := ⟨wo.heap.size, 2, none⟩) hz0').trans g2
          have hkc : (k : Int) ≤ (c : Int) := by omega
          clear g0 g1 g2 g3 g4
          have HHO : Hid (∀ (m' : Nat) (p : Loan), k = m' + 1 → xs[m']? = some p → p.out ≤ x.out) := fun m p h => by have := H0.out; omega
          have HH1 := Lib.hid h1
          clear hpc 
          have hbX := ext_trans hbW hb1
          go_wp2_with fail
          go_loopw [36] (fun i wr => ∃ q : Nat, q ≤ k ∧ i = .int .i64 q ∧ Below w1.heap.size w1 wr ∧ Hid (∀ (m : Nat) (p : Loan), m < q → xs[m]? = some p → ¬ Cl p x)) (fun i _ => k - (intOf i).toNat)
          case atStart => exact ⟨0, by omega, rfl, Below.refl _ _, fun m p h => by omega⟩
          case round =>
            obtain ⟨q, hq, rfl, hbi, hall⟩ := hrel
            by_cases hql : q < k
            · skip
              obtain ⟨p, hp⟩ : ∃ p, xs[q]? = some p := ⟨_, List.getElem?_eq_getElem (by rw [← hN.out]; omega)⟩
              have hAr := hA.ext (ext_trans hbW (ext_trans hb1 hbi))
              have hcp := hAr.get hp
              have d0 : World.cell? wr ⟨b, o + q * 5, none⟩ = some (.int .i64 p.sheet) := hcp 0 _ rfl
              have d1 : World.cell? wr ⟨b, o + q * 5 + 1, none⟩ = some (.int .i64 p.reader) := hcp 1 _ rfl
              have d2 : World.cell? wr ⟨b, o + q * 5 + 2, none⟩ = some (.int .i64 p.out) := hcp 2 _ rfl
              have d3 : World.cell? wr ⟨b, o + q * 5 + 3, none⟩ = some (.int .i64 p.due) := hcp 3 _ rfl
              have d4 : World.cell? wr ⟨b, o + q * 5 + 4, none⟩ = some (.int .i64 p.back) := hcp 4 _ rfl
              have HP := Lib.hid hp
              have hq0 : (0 : Int) ≤ (q : Int) := by omega
              have hq1 : (q : Int) < (k : Int) := by omega
              have hq2 : (q : Int) < (n : Int) := by omega
              clear hcp hp
              have s0 := (hbi.cell (p := ⟨wo.heap.size, 0, none⟩) hzb).trans q0
              have s2 := (hbi.cell (p := ⟨wo.heap.size, 2, none⟩) hzb).trans q2
              obtain ⟨W5, hW5, hB5, hz5, hg5, _⟩ := box_world wr #[Value.int .i64 p.sheet, .int .i64 p.reader, .int .i64 p.out, .int .i64 p.due, .int .i64 p.back] 43
              have t0 : World.cell? W5 ⟨wr.heap.size, 0, none⟩ = some (.int .i64 p.sheet) := hg5 0
              have t4 : World.cell? W5 ⟨wr.heap.size, 4, none⟩ = some (.int .i64 p.back) := hg5 4
              have s0' := (hB5.cell (p := ⟨wo.heap.size, 0, none⟩) (Nat.lt_of_lt_of_le hzb hbi.size)).trans s0
              have s2' := (hB5.cell (p := ⟨wo.heap.size, 2, none⟩) (Nat.lt_of_lt_of_le hzb hbi.size)).trans s2
              have hbn := ext_trans hbi hB5
              clear hg5
              by_cases hsh : p.sheet = x.sheet
              · have es : (p.sheet == x.sheet) = true := by simp [hsh]
                by_cases hbk : p.back = -1
                · have eb : (p.back == -1) = true := by simp [hbk]
                  have HSH := Lib.hid hsh
                  have HBK := Lib.hid hbk
                  clear hsh hbk
                  go_wp2
                  go_ret
                  exact ⟨ret_bool (tb_f (fun h => (h.1 k x HX.out).2.2 q p (by omega) HP.out ⟨HSH.out, .inl HBK.out⟩)).symm, ext_trans hbX hbn⟩
                · have eb : (p.back == -1) = false := by simp [hbk]
                  by_cases hlt3 : x.out < p.back
                  · have HSH := Lib.hid hsh
                    clear hsh
                    go_wp2
                    go_ret
                    exact ⟨ret_bool (tb_f (fun h => (h.1 k x HX.out).2.2 q p (by omega) HP.out ⟨HSH.out, .inr (by omega)⟩)).symm, ext_trans hbX hbn⟩
                  · have HNC : Hid (¬ Cl p x) := fun h => by have := h.2; omega
                    clear hsh
                    go_wp2
                    go_roundw
                    case rel => exact ⟨q + 1, by omega, by go_num, hbn, fun m' p' hm hp' => by
                      by_cases e' : m' = q
                      · subst e'; rw [HP.out] at hp'; cases hp'; exact HNC.out
                      · exact hall.out m' p' (by omega) hp'⟩
                    case measure => simp [intOf]; omega
              · have es : (p.sheet == x.sheet) = false := by simp [hsh]
                have HNC : Hid (¬ Cl p x) := fun h => hsh h.1
                clear hsh
                go_wp2
                go_roundw
                case rel => exact ⟨q + 1, by omega, by go_num, hbn, fun m' p' hm hp' => by
                  by_cases e' : m' = q
                  · subst e'; rw [HP.out] at hp'; cases hp'; exact HNC.out
                  · exact hall.out m' p' (by omega) hp'⟩
                case measure => simp [intOf]; omega
            · have hqn : q = k := by omega
              have hql2 : ¬ (q : Int) < (k : Int) := by omega
              have HIK : Hid (LoI xs (k) x) := ⟨HH1.out, fun m' p h hp => HHO.out m' p h hp, fun m' p hm hp => hall.out m' p (by omega) hp⟩
              clear hqn
              go_wp2_with fail
              go_roundw
              case rel => exact ⟨k + 1, by omega,  by go_num, ext_trans hbX hbi, fun j h hj hjh => by
                by_cases e : j = k
                · subst e; rw [HX.out] at hjh; cases hjh; exact HIK.out
                · exact hst.out j h (by omega) hjh⟩
              case measure => simp [intOf]; omega
        · go_wp2_with fail
          refine wp_region_grow (by kernel_rfl) (by kernel_rfl) ?_
          repeat (go_big_quiet_step ((first | (go_at_call 53; exact quiet_below (isLoan_f x h1 _)))))
          refine wpQuiet_nil ?_
          intro w1 hb1
          go_wp2
          go_ret
          exact ⟨ret_bool (tb_f (fun h => h1 (h.1 (k) x HX.out).1)).symm, ext_trans hbW hb1⟩
      · obtain ⟨m, hkm⟩ : ∃ m, k = m + 1 := ⟨k - 1, by omega⟩
        have hkm1 : (k : Int) - 1 = (m : Int) := by omega
        have hkm2 : IntKind.i64.wrap ((k : Int) - 1) = (m : Int) := by rw [hkm1]; exact IntWalk.i64_in _ (by omega)
        have hkm3 : (0 : Int) < (k : Int) := by omega
        obtain ⟨y, hy⟩ : ∃ y, xs[m]? = some y := ⟨_, List.getElem?_eq_getElem (by rw [← hN.out]; omega)⟩
        have hdy := (hA.ext hbr).get hy
        have d0 : World.cell? wo ⟨b, o + m * 5 + 2, none⟩ = some (.int .i64 y.out) := hdy 2 _ rfl
        have HY := Lib.hid hy
        clear hy hdy
        have hm0 : (0 : Int) ≤ (m : Int) := by omega
        have hm1 : (m : Int) < (n : Int) := by omega
        have HKM := Lib.hid hkm
        clear hkm
        by_cases h1 : IsLo x
        · by_cases hyc : y.out ≤ x.out
          · have hyn : ¬ x.out < y.out := by omega
            have hord : ∀ m' p, k = m' + 1 → xs[m']? = some p → p.out ≤ x.out := fun m' p h hp => by
              obtain rfl : m = m' := by have := HKM.out; omega
              rw [HY.out] at hp
              cases hp
              exact hyc
            have HOR := Lib.hid hord
            clear hord
            go_wp2_with fail
            refine wp_region_grow (by kernel_rfl) (by kernel_rfl) ?_
            repeat (go_big_quiet_step ((first | (go_at_call 53; exact quiet_below (isLoan_t x h1 _)))))
            refine wpQuiet_nil ?_
            intro w1 hb1
            have hzb : wo.heap.size < w1.heap.size := Nat.lt_of_lt_of_le hz0' hb1.size
            have q0 : World.cell? w1 ⟨wo.heap.size, 0, none⟩ = some (.int .i64 x.sheet) := (hb1.cell (p := ⟨wo.heap.size, 0, none⟩) hz0').trans g0
            have q2 : World.cell? w1 ⟨wo.heap.size, 2, none⟩ = some (.int .i64 x.out) := (hb1.cell (p := ⟨wo.heap.size, 2, none⟩) hz0').trans g2
            have hkc : (k : Int) ≤ (c : Int) := by omega
            clear g0 g1 g2 g3 g4
            have HHO : Hid (∀ (m' : Nat) (p : Loan), k = m' + 1 → xs[m']? = some p → p.out ≤ x.out) := HOR
            have HH1 := Lib.hid h1
            clear hpc d0
            have hbX := ext_trans hbW hb1
            go_wp2_with fail
            go_loopw [36] (fun i wr => ∃ q : Nat, q ≤ k ∧ i = .int .i64 q ∧ Below w1.heap.size w1 wr ∧ Hid (∀ (m : Nat) (p : Loan), m < q → xs[m]? = some p → ¬ Cl p x)) (fun i _ => k - (intOf i).toNat)
            case atStart => exact ⟨0, by omega, rfl, Below.refl _ _, fun m p h => by omega⟩
            case round =>
              obtain ⟨q, hq, rfl, hbi, hall⟩ := hrel
              by_cases hql : q < k
              · skip
                obtain ⟨p, hp⟩ : ∃ p, xs[q]? = some p := ⟨_, List.getElem?_eq_getElem (by rw [← hN.out]; omega)⟩
                have hAr := hA.ext (ext_trans hbW (ext_trans hb1 hbi))
                have hcp := hAr.get hp
                have d0 : World.cell? wr ⟨b, o + q * 5, none⟩ = some (.int .i64 p.sheet) := hcp 0 _ rfl
                have d1 : World.cell? wr ⟨b, o + q * 5 + 1, none⟩ = some (.int .i64 p.reader) := hcp 1 _ rfl
                have d2 : World.cell? wr ⟨b, o + q * 5 + 2, none⟩ = some (.int .i64 p.out) := hcp 2 _ rfl
                have d3 : World.cell? wr ⟨b, o + q * 5 + 3, none⟩ = some (.int .i64 p.due) := hcp 3 _ rfl
                have d4 : World.cell? wr ⟨b, o + q * 5 + 4, none⟩ = some (.int .i64 p.back) := hcp 4 _ rfl
                have HP := Lib.hid hp
                have hq0 : (0 : Int) ≤ (q : Int) := by omega
                have hq1 : (q : Int) < (k : Int) := by omega
                have hq2 : (q : Int) < (n : Int) := by omega
                clear hcp hp
                have s0 := (hbi.cell (p := ⟨wo.heap.size, 0, none⟩) hzb).trans q0
                have s2 := (hbi.cell (p := ⟨wo.heap.size, 2, none⟩) hzb).trans q2
                obtain ⟨W5, hW5, hB5, hz5, hg5, _⟩ := box_world wr #[Value.int .i64 p.sheet, .int .i64 p.reader, .int .i64 p.out, .int .i64 p.due, .int .i64 p.back] 43
                have t0 : World.cell? W5 ⟨wr.heap.size, 0, none⟩ = some (.int .i64 p.sheet) := hg5 0
                have t4 : World.cell? W5 ⟨wr.heap.size, 4, none⟩ = some (.int .i64 p.back) := hg5 4
                have s0' := (hB5.cell (p := ⟨wo.heap.size, 0, none⟩) (Nat.lt_of_lt_of_le hzb hbi.size)).trans s0
                have s2' := (hB5.cell (p := ⟨wo.heap.size, 2, none⟩) (Nat.lt_of_lt_of_le hzb hbi.size)).trans s2
                have hbn := ext_trans hbi hB5
                clear hg5
                by_cases hsh : p.sheet = x.sheet
                · have es : (p.sheet == x.sheet) = true := by simp [hsh]
                  by_cases hbk : p.back = -1
                  · have eb : (p.back == -1) = true := by simp [hbk]
                    have HSH := Lib.hid hsh
                    have HBK := Lib.hid hbk
                    clear hsh hbk
                    go_wp2
                    go_ret
                    exact ⟨ret_bool (tb_f (fun h => (h.1 k x HX.out).2.2 q p (by omega) HP.out ⟨HSH.out, .inl HBK.out⟩)).symm, ext_trans hbX hbn⟩
                  · have eb : (p.back == -1) = false := by simp [hbk]
                    by_cases hlt3 : x.out < p.back
                    · have HSH := Lib.hid hsh
                      clear hsh
                      go_wp2
                      go_ret
                      exact ⟨ret_bool (tb_f (fun h => (h.1 k x HX.out).2.2 q p (by omega) HP.out ⟨HSH.out, .inr (by omega)⟩)).symm, ext_trans hbX hbn⟩
                    · have HNC : Hid (¬ Cl p x) := fun h => by have := h.2; omega
                      clear hsh
                      go_wp2
                      go_roundw
                      case rel => exact ⟨q + 1, by omega, by go_num, hbn, fun m' p' hm hp' => by
                        by_cases e' : m' = q
                        · subst e'; rw [HP.out] at hp'; cases hp'; exact HNC.out
                        · exact hall.out m' p' (by omega) hp'⟩
                      case measure => simp [intOf]; omega
                · have es : (p.sheet == x.sheet) = false := by simp [hsh]
                  have HNC : Hid (¬ Cl p x) := fun h => hsh h.1
                  clear hsh
                  go_wp2
                  go_roundw
                  case rel => exact ⟨q + 1, by omega, by go_num, hbn, fun m' p' hm hp' => by
                    by_cases e' : m' = q
                    · subst e'; rw [HP.out] at hp'; cases hp'; exact HNC.out
                    · exact hall.out m' p' (by omega) hp'⟩
                  case measure => simp [intOf]; omega
              · have hqn : q = k := by omega
                have hql2 : ¬ (q : Int) < (k : Int) := by omega
                have HIK : Hid (LoI xs (k) x) := ⟨HH1.out, fun m' p h hp => HHO.out m' p h hp, fun m' p hm hp => hall.out m' p (by omega) hp⟩
                clear hqn
                go_wp2_with fail
                go_roundw
                case rel => exact ⟨k + 1, by omega,  by go_num, ext_trans hbX hbi, fun j h hj hjh => by
                  by_cases e : j = k
                  · subst e; rw [HX.out] at hjh; cases hjh; exact HIK.out
                  · exact hst.out j h (by omega) hjh⟩
                case measure => simp [intOf]; omega
          · have hyc' : x.out < y.out := by omega
            go_wp2_with fail
            refine wp_region_grow (by kernel_rfl) (by kernel_rfl) ?_
            repeat (go_big_quiet_step ((first | (go_at_call 53; exact quiet_below (isLoan_t x h1 _)))))
            refine wpQuiet_nil ?_
            intro w1 hb1
            go_wp2
            go_ret
            exact ⟨ret_bool (tb_f (fun h => by have := (h.1 (k) x HX.out).2.1 m y HKM.out HY.out; omega)).symm, ext_trans hbW hb1⟩
        · go_wp2_with fail
          refine wp_region_grow (by kernel_rfl) (by kernel_rfl) ?_
          repeat (go_big_quiet_step ((first | (go_at_call 53; exact quiet_below (isLoan_f x h1 _)))))
          refine wpQuiet_nil ?_
          intro w1 hb1
          go_wp2
          go_ret
          exact ⟨ret_bool (tb_f (fun h => h1 (h.1 (k) x HX.out).1)).symm, ext_trans hbW hb1⟩
    · have hkn : k = n := by omega
      subst hkn
      go_wp2
      go_ret
      exact ⟨ret_bool (tb_dec ⟨fun h => by have := h.2; rw [← hN.out] at this; omega, fun h => ⟨fun j h' hj => hst.out j h' (by rw [hN.out]; exact lt_of_get hj) hj, by rw [← hN.out]; omega⟩⟩), hbr⟩
end Go.Proofs.YtnikeelpcokffaaDoor
