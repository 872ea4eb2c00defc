/- LateOn: the program's side. LateOn: the reference's side. No condition. -/
import Derived.Test.YtnikeelpcokffaaDoorLoanI
import Derived.Test.YtnikeelpcokffaaDoorLoanS
namespace Go.Proofs.YtnikeelpcokffaaDoor
open Go.RowKit
set_option linter.unusedVariables false
set_option linter.unusedSimpArgs false

set_option maxHeartbeats 1000000 in
theorem lateC_any (x : Loan) (day : Int) (b1 : Nat) (w : World) (hz1 : b1 < w.heap.size) (h1 : w.cell? ⟨b1, 0, none⟩ = some (.int .i64 day)) :
    Calls Tryd.prog 32 #[.agg #[.int .i64 x.sheet, .int .i64 x.reader, .int .i64 x.out, .int .i64 x.due, .int .i64 x.back], .pointer (some ⟨b1, 0, none⟩)] w fun e w' => e = .returned (.bool (tb (Late day x))) ∧ Below w.heap.size w w' := by
  obtain ⟨V0, hV0, hC0, hy0, hv, _⟩ := box_world w #[Value.int .i64 x.sheet, .int .i64 x.reader, .int .i64 x.out, .int .i64 x.due, .int .i64 x.back] 43
  have v0 : World.cell? V0 ⟨w.heap.size, 0, none⟩ = some (.int .i64 x.sheet) := hv 0
  have v1 : World.cell? V0 ⟨w.heap.size, 1, none⟩ = some (.int .i64 x.reader) := hv 1
  have v2 : World.cell? V0 ⟨w.heap.size, 2, none⟩ = some (.int .i64 x.out) := hv 2
  have v3 : World.cell? V0 ⟨w.heap.size, 3, none⟩ = some (.int .i64 x.due) := hv 3
  have v4 : World.cell? V0 ⟨w.heap.size, 4, none⟩ = some (.int .i64 x.back) := hv 4
  have e1 := (hC0.cell (p := ⟨b1, 0, none⟩) hz1).trans h1
  have HL := Lib.hid (isLate_any x day V0)
  clear hv
  go_enter Tryd.func32, Tryd.ntmps32
  go_wp2_with fail
  refine (HL.out).mono ?_
  rintro e w3 ⟨rfl, hb3⟩
  go_wp2
  go_ret
  exact ⟨rfl, ext_trans hC0 hb3⟩
set_option maxHeartbeats 1000000 in
set_option maxRecDepth 100000 in
theorem sheetsLate_any (A : Option Addr) (c : Nat) (xs : List Loan) (day : Int) (b1 : Nat) (w : World) (hn : xs.length ≤ 1048576) (hA : Fl Loan.ints 5 w A xs) (hz1 : b1 < w.heap.size) (h1 : w.cell? ⟨b1, 0, none⟩ = some (.int .i64 day)) :
    Calls Tryd.prog 31 #[.slice A xs.length c, .func (.func 32) #[] #[.pointer (some ⟨b1, 0, none⟩)]] w (RetI w ((lateS day xs).mergeSort leI)) := by
  obtain ⟨i0, hi, hy0, hy1, hy2⟩ := info_parts infoInt
  obtain ⟨n, hnn⟩ : ∃ n, n = List.length xs := ⟨_, rfl⟩
  rw [← hnn] at hn ⊢
  have hN := Lib.hid hnn
  clear hnn
  go_enter Tryd.func31, Tryd.ntmps31
  go_wp2
  go_loopw [5, 10] (fun v i wr => ∃ k : Nat, k ≤ n ∧ i = .int .i64 k ∧ Below w.heap.size w wr ∧ OwnF one 1 w.heap.size 3 wr v (lateS day (xs.take k))) (fun _ i _ => n - (intOf i).toNat)
  case atStart => exact ⟨0, by omega, rfl, Below.refl _ _, OwnF.none_⟩
  case round =>
    obtain ⟨k, hk, rfl, hbr, hown⟩ := hrel
    have hzr := hbr.size
    by_cases hlt : k < n
    · obtain ⟨x, b, o, hx, hAe, hb, hc⟩ := (hA.ext hbr).at_ (k := k) (by rw [← hN.out]; exact hlt)
      subst hAe
      have c0 : World.cell? wr ⟨b, o + k * 5, none⟩ = some (.int .i64 x.sheet) := hc 0 _ rfl
      have c1 : World.cell? wr ⟨b, o + k * 5 + 1, none⟩ = some (.int .i64 x.reader) := hc 1 _ rfl
      have c2 : World.cell? wr ⟨b, o + k * 5 + 2, none⟩ = some (.int .i64 x.out) := hc 2 _ rfl
      have c3 : World.cell? wr ⟨b, o + k * 5 + 3, none⟩ = some (.int .i64 x.due) := hc 3 _ rfl
      have c4 : World.cell? wr ⟨b, o + k * 5 + 4, none⟩ = some (.int .i64 x.back) := hc 4 _ rfl
      have hlen : (lateS day (xs.take k)).length ≤ 1048576 := Nat.le_trans (lateS_len _ _) (by rw [List.length_take]; omega)
      have HT := Lib.hid (take_get hx)
      obtain ⟨W0, hW0, hB0, hz0', hg, _⟩ := box_world wr #[Value.int .i64 x.sheet, .int .i64 x.reader, .int .i64 x.out, .int .i64 x.due, .int .i64 x.back] 43
      have g0 : World.cell? W0 ⟨wr.heap.size, 0, none⟩ = some (.int .i64 x.sheet) := hg 0
      have g1 : World.cell? W0 ⟨wr.heap.size, 1, none⟩ = some (.int .i64 x.reader) := hg 1
      have g2 : World.cell? W0 ⟨wr.heap.size, 2, none⟩ = some (.int .i64 x.out) := hg 2
      have g3 : World.cell? W0 ⟨wr.heap.size, 3, none⟩ = some (.int .i64 x.due) := hg 3
      have g4 : World.cell? W0 ⟨wr.heap.size, 4, none⟩ = some (.int .i64 x.back) := hg 4
      have hown0 := hown.ext hB0
      have hbW := ext_trans hbr hB0
      have HCL := Lib.hid (lateC_any x day b1 W0 (Nat.lt_of_lt_of_le hz1 hbW.size) ((hbW.cell (p := ⟨b1, 0, none⟩) hz1).trans h1))
      clear hc hg hx
      have hk0 : (0 : Int) ≤ (k : Int) := by omega
      have hk1 : (k : Int) < (n : Int) := by omega
      go_wp2_with fail
      refine (HCL.out).mono ?_
      rintro e w1 ⟨rfl, hb1⟩
      have r0 : World.cell? w1 ⟨wr.heap.size, 0, none⟩ = some (.int .i64 x.sheet) := (hb1.cell (p := ⟨wr.heap.size, 0, none⟩) hz0').trans g0
      have hownA := hown0.ext hb1
      have hbA := ext_trans hbW hb1
      clear g0 g1 g2 g3 g4
      by_cases hP : Late day x
      · rw [tb_t hP]
        have HP := Lib.hid hP
        clear hP
        go_wp2_with (at_builtin; refine wpList_append_flat (f := one) (y := x.sheet) rfl _ _ _ rfl w.heap.size i0 _ 1 8 Tryd.underlying27 hi hy0 hy1 hy2 rfl (by decide) _ _ rfl rfl hownA rfl ?_ (by decide) ?_ ?_; omega; exact hbA.size; intro v' w3 hown3 hg3 hb3)
        go_roundw
        case rel => exact ⟨k + 1, by omega, by go_num, hbA.trans hb3, by rw [HT.out, lateS_t HP.out]; exact hown3⟩
        case measure => simp [intOf]; omega
      · rw [tb_f hP]
        have HP := Lib.hid hP
        clear hP
        go_wp2
        go_roundw
        case rel => exact ⟨k + 1, by omega, by go_num, hbA, by rw [HT.out, lateS_f HP.out]; exact hownA⟩
        case measure => simp [intOf]; omega
    · have hkn : k = n := by omega
      subst hkn
      rw [take_all (by rw [← hN.out]; exact Nat.le_refl _)] at hown
      have hll : (lateS day xs).length ≤ 16777216 := Nat.le_trans (lateS_len _ _) (by rw [← hN.out]; omega)
      obtain ⟨L, hL⟩ : ∃ L, lateS day xs = L := ⟨_, rfl⟩
      rw [hL] at hown hll
      have HL := Lib.hid hL
      clear hL
      obtain ⟨A1, c1, hv, _, _⟩ := hown.caps
      subst hv
      go_wp2_with fail
      refine (sortOwn_any w.heap.size _ L wr hll hzr hown).mono ?_
      rintro e w4 ⟨rfl, hown4, _, hb4⟩
      go_wp2
      go_ret
      have hl2 : (L.mergeSort leI).length = L.length := List.length_mergeSort L
      obtain ⟨A2, c2, hv2, hF2⟩ := hown4.form one_length
      rw [hl2] at hv2
      injection hv2 with e1 e2 e3
      rw [HL.out]
      refine ⟨A2, c1, ?_, hF2, hbr.trans hb4⟩
      rw [← e1, hl2]
      rfl
set_option maxHeartbeats 1000000 in
set_option maxRecDepth 100000 in
theorem lateOn_any (A : Option Addr) (c : Nat) (xs : List Loan) (day : Int) (w : World) (hn : xs.length ≤ 1048576) (hcap : xs.length ≤ c) (hcm : c ≤ 9223372036854775807) (hA : Fl Loan.ints 5 w A xs) :
    Calls Tryd.prog 6 #[.slice A xs.length c, .int .i64 day] w (RetL one 1 w (sel (LtOk xs day) (putAll (lateS day xs))) (tb (LtOk xs day))) := by
  obtain ⟨W1, hW1, hD1, hy1, hv1, _⟩ := box_world w #[Value.int .i64 day] 3
  have hmf : ∀ (fn : Fn) (first cap : Array Value) (w : World), (Instr.makeFunc fn first cap).run Tryd.prog w = .ok (.func fn first cap) w := fun _ _ _ _ => rfl
  have k1 : World.cell? W1 ⟨w.heap.size, 0, none⟩ = some (.int .i64 day) := hv1 0
  have hare := areLoans_any A c xs W1 hn hcap hcm (hA.ext hD1)
  have hcw := fun (W : World) (hW : Below W1.heap.size W1 W) => sheetsLate_any A c xs day w.heap.size W hn ((hA.ext hD1).ext hW) (Nat.lt_of_lt_of_le hy1 hW.size) ((hW.cell (p := ⟨w.heap.size, 0, none⟩) hy1).trans k1)
  have hls := fun h : Lns xs => late_sorted h day
  generalize putAll (lateS day xs) = zs at hls ⊢
  generalize (lateS day xs).mergeSort leI = ys at hcw hls
  obtain ⟨n, hnn⟩ : ∃ n, n = List.length xs := ⟨_, rfl⟩
  rw [← hnn] at hare hcw hn hcap ⊢
  have HA := Lib.hid hare
  have HCW := Lib.hid hcw
  have HLS := Lib.hid hls
  clear hnn hare hcw hv1 hls
  go_enter Tryd.func6, Tryd.ntmps6
  go_wp2_with fail
  refine (HA.out).mono ?_
  rintro e w1 ⟨rfl, hb1⟩
  have k3 : World.cell? w1 ⟨w.heap.size, 0, none⟩ = some (.int .i64 day) := (hb1.cell (p := ⟨w.heap.size, 0, none⟩) hy1).trans k1
  by_cases h1 : Lns xs
  · rw [tb_t h1]
    have H1 := Lib.hid h1
    clear h1
    by_cases h2 : 0 ≤ day ∧ day ≤ 4000
    · go_wp2_with fail
      refine (isDay_t day _ h2).mono ?_
      rintro e w9 ⟨rfl, rfl⟩
      have HO : Hid (LtOk xs day) := ⟨H1.out, h2⟩
      go_wp2_with fail
      refine (HCW.out _ hb1).mono ?_
      rintro e w3 ⟨B, e, rfl, hF, hb3⟩
      go_wp2
      go_ret2
      rw [sel_t HO.out, tb_t HO.out, ← HLS.out HO.out.1]
      exact ⟨B, e, rfl, hF.mono ((ext_trans hD1 hb1)).size (Nat.le_refl _), ext_trans (ext_trans hD1 hb1) hb3⟩
    · go_wp2_with fail
      refine (isDay_f day _ h2).mono ?_
      rintro e w9 ⟨rfl, rfl⟩
      go_wp2
      go_ret2
      have hok : ¬ (LtOk xs day) := fun h => h2 h.2
      rw [sel_f hok, tb_f hok]
      exact ⟨none, 0, rfl, FlO.nil, (ext_trans hD1 hb1)⟩
  · rw [tb_f h1]
    have H1 := Lib.hid h1
    clear h1
    go_wp2
    go_ret2
    have hok : ¬ (LtOk xs day) := fun h => H1.out h.1
    rw [sel_f hok, tb_f hok]
    exact ⟨none, 0, rfl, FlO.nil, (ext_trans hD1 hb1)⟩
end Go.Proofs.YtnikeelpcokffaaDoor
namespace Go.Proofs.YtnikeelpcokffaaDoor
open Go.RowKit
set_option linter.unusedVariables false
set_option linter.unusedSimpArgs false

set_option maxHeartbeats 1000000 in
set_option maxRecDepth 100000 in
theorem specLateOn_any (A : Option Addr) (c : Nat) (xs : List Loan) (day : Int) (w : World) (hn : xs.length ≤ 1048576) (hcap : xs.length ≤ c) (hcm : c ≤ 9223372036854775807) (hA : Fl Loan.ints 5 w A xs) :
    Calls Tryd.prog 7 #[.slice A xs.length c, .int .i64 day] w (RetL one 1 w (sel (LtOk xs day) (putAll (lateS day xs))) (tb (LtOk xs day))) := by
  obtain ⟨W0, hW0, hB0, hzw, _, _⟩ := box_world w #[] 3
  have hown0 : OwnF one 1 w.heap.size 3 W0 (.slice (some ⟨w.heap.size, 0, none⟩) 0 0) [] := hW0 ▸ OwnF.empty (Nat.le_refl _)
  have hare := l11Good_any A c xs W0 hn hcap hcm (hA.ext hB0)
  have hlo : Lns xs → ∀ (i : Nat) (x : Loan), xs[i]? = some x → x.back = -1 ∨ 0 ≤ x.back := fun h i x hx => by
    have := (h.1 i x hx).1
    unfold IsLo at this
    omega
  obtain ⟨n, hnn⟩ : ∃ n, n = List.length xs := ⟨_, rfl⟩
  rw [← hnn] at hare hn hcap ⊢
  have hN := Lib.hid hnn
  have HA := Lib.hid hare
  have HLO := Lib.hid hlo
  clear hnn hare hlo
  go_enter Tryd.func7, Tryd.ntmps7
  go_wp2_with fail
  refine (HA.out).mono ?_
  rintro e w1 ⟨rfl, hb1⟩
  by_cases h1 : Lns xs
  · rw [tb_t h1]
    have H1 := Lib.hid h1
    clear h1
    by_cases h2 : 0 ≤ day ∧ day ≤ 4000
    · go_wp2_with fail
      refine (l2Day_t day _ h2).mono ?_
      rintro e w9 ⟨rfl, rfl⟩
      have HO : Hid (LtOk xs day) := ⟨H1.out, h2⟩
      go_wp2
      go_loopw [6, 7] (fun v i wr => ∃ k : Nat, k ≤ n ∧ i = .int .i64 k ∧ Below w.heap.size w wr ∧ OwnF one 1 w.heap.size 3 wr v (putAll (lateS day (xs.take k)))) (fun _ i _ => n - (intOf i).toNat)
      case atStart => exact ⟨0, by omega, rfl, (ext_trans hB0 hb1), hown0.ext hb1⟩
      case round =>
        obtain ⟨k, hk, rfl, hbr, hown⟩ := hrel
        clear hb1
        have hzr := hbr.size
        by_cases hlt : k < n
        · obtain ⟨x, b, o, hx, hAe, hb, hc⟩ := (hA.ext hbr).at_ (k := k) (by rw [← hN.out]; exact hlt)
          subst hAe
          have c0 : World.cell? wr ⟨b, o + k * 5, none⟩ = some (.int .i64 x.sheet) := hc 0 _ rfl
          have c1 : World.cell? wr ⟨b, o + k * 5 + 1, none⟩ = some (.int .i64 x.reader) := hc 1 _ rfl
          have c2 : World.cell? wr ⟨b, o + k * 5 + 2, none⟩ = some (.int .i64 x.out) := hc 2 _ rfl
          have c3 : World.cell? wr ⟨b, o + k * 5 + 3, none⟩ = some (.int .i64 x.due) := hc 3 _ rfl
          have c4 : World.cell? wr ⟨b, o + k * 5 + 4, none⟩ = some (.int .i64 x.back) := hc 4 _ rfl
          have hlen : (putAll (lateS day (xs.take k))).length ≤ 1048576 := Nat.le_trans (putAll_len _) (Nat.le_trans (lateS_len _ _) (by rw [List.length_take]; omega))
          have hbk := HLO.out HO.out.1 k x hx
          have HT := Lib.hid (take_get hx)
          have hpc := plus_cell wr
          clear hx hc
          have hk0 : (0 : Int) ≤ (k : Int) := by omega
          have hk1 : (k : Int) < (n : Int) := by omega
          by_cases hop : OpenL day x
          · by_cases hdu : x.due < day
            · have hlt' : Late day x := by unfold OpenL at hop; unfold Late; omega
              have HLT := Lib.hid hlt'
              clear hlt'
              have eb : decide (x.due < day) = true := decide_eq_true hdu
              clear hbk
              go_wp2_with fail
              refine (l11IsOpen_t x day wr hop).mono ?_
              rintro e w1 ⟨rfl, hb1⟩
              have r3 : World.cell? w1 ⟨b, o + k * 5 + 3, none⟩ = some (.int .i64 x.due) := (hb1.cell (p := ⟨b, o + k * 5 + 3, none⟩) hb).trans c3
              have r0 : World.cell? w1 ⟨b, o + k * 5, none⟩ = some (.int .i64 x.sheet) := (hb1.cell (p := ⟨b, o + k * 5, none⟩) hb).trans c0
              have hownA := hown.ext hb1
              have hbA := ext_trans hbr hb1
              go_wp2_with fail
              refine (l1PutOwn_any w.heap.size _ (putAll (lateS day (xs.take k))) x.sheet w1 (by omega) hbA.size hownA).mono ?_
              rintro e w3 ⟨v3, rfl, hown3, hb3⟩
              go_wp2
              go_roundw
              case rel => exact ⟨k + 1, by omega, by go_num, hbA.trans hb3, by rw [HT.out, lateS_t HLT.out, putAll_snoc]; exact hown3⟩
              case measure => simp [intOf]; omega
            · have HNL : Hid (¬ Late day x) := fun h => hdu h.2.2
              have eb : decide (x.due < day) = false := decide_eq_false hdu
              clear hbk
              go_wp2_with fail
              refine (l11IsOpen_t x day wr hop).mono ?_
              rintro e w1 ⟨rfl, hb1⟩
              have r3 : World.cell? w1 ⟨b, o + k * 5 + 3, none⟩ = some (.int .i64 x.due) := (hb1.cell (p := ⟨b, o + k * 5 + 3, none⟩) hb).trans c3
              go_wp2
              go_roundw
              case rel => exact ⟨k + 1, by omega, by go_num, ext_trans hbr hb1, by rw [HT.out, lateS_f HNL.out]; exact hown.ext hb1⟩
              case measure => simp [intOf]; omega
          · have HNL : Hid (¬ Late day x) := fun h => hop (by unfold Late at h; unfold OpenL; omega)
            clear hbk
            go_wp2_with fail
            refine (l11IsOpen_f x day wr hop).mono ?_
            rintro e w1 ⟨rfl, hb1⟩
            go_wp2
            go_roundw
            case rel => exact ⟨k + 1, by omega, by go_num, ext_trans hbr hb1, by rw [HT.out, lateS_f HNL.out]; exact hown.ext hb1⟩
            case measure => simp [intOf]; omega
        · have hkn : k = n := by omega
          subst hkn
          rw [take_all (by rw [← hN.out]; exact Nat.le_refl _)] at hown
          go_wp2
          go_ret2
          obtain ⟨B, d, hv, hF⟩ := hown.form one_length
          rw [sel_t HO.out, tb_t HO.out]
          exact ⟨B, d, by rw [hv]; rfl, hF, hbr⟩
    · go_wp2_with fail
      refine (l2Day_f day _ h2).mono ?_
      rintro e w9 ⟨rfl, rfl⟩
      go_wp2
      go_ret2
      have hok : ¬ (LtOk xs day) := fun h => h2 h.2
      rw [sel_f hok, tb_f hok]
      exact ⟨some ⟨w.heap.size, 0, none⟩, 0, rfl, FlO.nil, (ext_trans hB0 hb1)⟩
  · rw [tb_f h1]
    have H1 := Lib.hid h1
    clear h1
    go_wp2
    go_ret2
    have hok : ¬ (LtOk xs day) := fun h => H1.out h.1
    rw [sel_f hok, tb_f hok]
    exact ⟨some ⟨w.heap.size, 0, none⟩, 0, rfl, FlO.nil, (ext_trans hB0 hb1)⟩
end Go.Proofs.YtnikeelpcokffaaDoor
