/- LateOn: the reference's side. -/
import Derived.Test.YtbmdhkdlhohjhaaLoanS
namespace Go.Proofs.Ytbmdhkdlhohjhaa
open Go.RowKit
set_option linter.unusedVariables false
set_option linter.unusedSimpArgs false

set_option maxHeartbeats 1000000 in
set_option maxRecDepth 100000 in
theorem specLateOn_any (A : Option Addr) (c : Nat) (xs : List Loan) (day : Int) (w : World) (hn : xs.length ≤ 1048576) (hcap : xs.length ≤ c) (hcm : c ≤ 9223372036854775807) (hA : Fl Loan.ints 5 w A xs) :
    Calls Try.prog 35 #[.slice A xs.length c, .int .i64 day] w (RetL one 1 w (sel (LtOk xs day) (putAll (lateS day xs))) (tb (LtOk xs day))) := by
  obtain ⟨W0, hW0, hB0, hzw, _, _⟩ := box_world w #[] 3
  have hown0 : OwnF one 1 w.heap.size 3 W0 (.slice (some ⟨w.heap.size, 0, none⟩) 0 0) [] := hW0 ▸ OwnF.empty (Nat.le_refl _)
  have hare := l11Good_any A c xs W0 hn hcap hcm (hA.ext hB0)
  have hlo : Lns xs → ∀ (i : Nat) (x : Loan), xs[i]? = some x → x.back = -1 ∨ 0 ≤ x.back := fun h i x hx => by
    have := (h.1 i x hx).1
    unfold IsLo at this
    omega
  obtain ⟨n, hnn⟩ : ∃ n, n = List.length xs := ⟨_, rfl⟩
  rw [← hnn] at hare hn hcap ⊢
  have hN := Lib.hid hnn
  have HA := Lib.hid hare
  have HLO := Lib.hid hlo
  clear hnn hare hlo
  go_enter Try.func35, Try.ntmps35
  go_wp2_with fail
  refine (HA.out).mono ?_
  rintro e w1 ⟨rfl, hb1⟩
  by_cases h1 : Lns xs
  · rw [tb_t h1]
    have H1 := Lib.hid h1
    clear h1
    by_cases h2 : 0 ≤ day ∧ day ≤ 4000
    · go_wp2_with fail
      refine (l2Day_t day _ h2).mono ?_
      rintro e w9 ⟨rfl, rfl⟩
      have HO : Hid (LtOk xs day) := ⟨H1.out, h2⟩
      go_wp2
      go_loopw [6, 7] (fun v i wr => ∃ k : Nat, k ≤ n ∧ i = .int .i64 k ∧ Below w.heap.size w wr ∧ OwnF one 1 w.heap.size 3 wr v (putAll (lateS day (xs.take k)))) (fun _ i _ => n - (intOf i).toNat)
      case atStart => exact ⟨0, by omega, rfl, (ext_trans hB0 hb1), hown0.ext hb1⟩
      case round =>
        obtain ⟨k, hk, rfl, hbr, hown⟩ := hrel
        clear hb1
        have hzr := hbr.size
        by_cases hlt : k < n
        · obtain ⟨x, b, o, hx, hAe, hb, hc⟩ := (hA.ext hbr).at_ (k := k) (by rw [← hN.out]; exact hlt)
          subst hAe
          have c0 : World.cell? wr ⟨b, o + k * 5, none⟩ = some (.int .i64 x.sheet) := hc 0 _ rfl
          have c1 : World.cell? wr ⟨b, o + k * 5 + 1, none⟩ = some (.int .i64 x.reader) := hc 1 _ rfl
          have c2 : World.cell? wr ⟨b, o + k * 5 + 2, none⟩ = some (.int .i64 x.out) := hc 2 _ rfl
          have c3 : World.cell? wr ⟨b, o + k * 5 + 3, none⟩ = some (.int .i64 x.due) := hc 3 _ rfl
          have c4 : World.cell? wr ⟨b, o + k * 5 + 4, none⟩ = some (.int .i64 x.back) := hc 4 _ rfl
          have hlen : (putAll (lateS day (xs.take k))).length ≤ 1048576 := Nat.le_trans (putAll_len _) (Nat.le_trans (lateS_len _ _) (by rw [List.length_take]; omega))
          have hbk := HLO.out HO.out.1 k x hx
          have HT := Lib.hid (take_get hx)
          have hpc := plus_cell wr
          clear hx hc
          have hk0 : (0 : Int) ≤ (k : Int) := by omega
          have hk1 : (k : Int) < (n : Int) := by omega
          by_cases hop : OpenL day x
          · by_cases hdu : x.due < day
            · have hlt' : Late day x := by unfold OpenL at hop; unfold Late; omega
              have HLT := Lib.hid hlt'
              clear hlt'
              have eb : decide (x.due < day) = true := decide_eq_true hdu
              clear hbk
              go_wp2_with fail
              refine (l11IsOpen_t x day wr hop).mono ?_
              rintro e w1 ⟨rfl, hb1⟩
              have r3 : World.cell? w1 ⟨b, o + k * 5 + 3, none⟩ = some (.int .i64 x.due) := (hb1.cell (p := ⟨b, o + k * 5 + 3, none⟩) hb).trans c3
              have r0 : World.cell? w1 ⟨b, o + k * 5, none⟩ = some (.int .i64 x.sheet) := (hb1.cell (p := ⟨b, o + k * 5, none⟩) hb).trans c0
              have hownA := hown.ext hb1
              have hbA := ext_trans hbr hb1
              go_wp2_with fail
              refine (l1PutOwn_any w.heap.size _ (putAll (lateS day (xs.take k))) x.sheet w1 (by omega) hbA.size hownA).mono ?_
              rintro e w3 ⟨v3, rfl, hown3, hb3⟩
              go_wp2
              go_roundw
              case rel => exact ⟨k + 1, by omega, by go_num, hbA.trans hb3, by rw [HT.out, lateS_t HLT.out, putAll_snoc]; exact hown3⟩
              case measure => simp [intOf]; omega
            · have HNL : Hid (¬ Late day x) := fun h => hdu h.2.2
              have eb : decide (x.due < day) = false := decide_eq_false hdu
              clear hbk
              go_wp2_with fail
              refine (l11IsOpen_t x day wr hop).mono ?_
              rintro e w1 ⟨rfl, hb1⟩
              have r3 : World.cell? w1 ⟨b, o + k * 5 + 3, none⟩ = some (.int .i64 x.due) := (hb1.cell (p := ⟨b, o + k * 5 + 3, none⟩) hb).trans c3
              go_wp2
              go_roundw
              case rel => exact ⟨k + 1, by omega, by go_num, ext_trans hbr hb1, by rw [HT.out, lateS_f HNL.out]; exact hown.ext hb1⟩
              case measure => simp [intOf]; omega
          · have HNL : Hid (¬ Late day x) := fun h => hop (by unfold Late at h; unfold OpenL; omega)
            clear hbk
            go_wp2_with fail
            refine (l11IsOpen_f x day wr hop).mono ?_
            rintro e w1 ⟨rfl, hb1⟩
            go_wp2
            go_roundw
            case rel => exact ⟨k + 1, by omega, by go_num, ext_trans hbr hb1, by rw [HT.out, lateS_f HNL.out]; exact hown.ext hb1⟩
            case measure => simp [intOf]; omega
        · have hkn : k = n := by omega
          subst hkn
          rw [take_all (by rw [← hN.out]; exact Nat.le_refl _)] at hown
          go_wp2
          go_ret2
          obtain ⟨B, d, hv, hF⟩ := hown.form one_length
          rw [sel_t HO.out, tb_t HO.out]
          exact ⟨B, d, by rw [hv]; rfl, hF, hbr⟩
    · go_wp2_with fail
      refine (l2Day_f day _ h2).mono ?_
      rintro e w9 ⟨rfl, rfl⟩
      go_wp2
      go_ret2
      have hok : ¬ (LtOk xs day) := fun h => h2 h.2
      rw [sel_f hok, tb_f hok]
      exact ⟨some ⟨w.heap.size, 0, none⟩, 0, rfl, FlO.nil, (ext_trans hB0 hb1)⟩
  · rw [tb_f h1]
    have H1 := Lib.hid h1
    clear h1
    go_wp2
    go_ret2
    have hok : ¬ (LtOk xs day) := fun h => H1.out h.1
    rw [sel_f hok, tb_f hok]
    exact ⟨some ⟨w.heap.size, 0, none⟩, 0, rfl, FlO.nil, (ext_trans hB0 hb1)⟩
end Go.Proofs.Ytbmdhkdlhohjhaa
