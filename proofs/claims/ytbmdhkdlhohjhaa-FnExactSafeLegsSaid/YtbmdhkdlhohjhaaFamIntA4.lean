/- The laws' own functions over []IntA4: the copy, the comparison, the marks. -/
import Derived.Test.YtbmdhkdlhohjhaaProg
import Derived.Test.YtbmdhkdlhohjhaaBase
import Derived.Test.YtbmdhkdlhohjhaaTypes
namespace Go.Proofs.Ytbmdhkdlhohjhaa
open Go.RowKit
set_option linter.unusedVariables false
set_option linter.unusedSimpArgs false

theorem infoIntA4 : (Try.prog.info? 106).map (fun i => (i.zero, i.size, i.bytes)) = some (some (.agg (Array.replicate 4 (.int .i64 0))), 4, 32) := by kernel_rfl

set_option maxHeartbeats 400000 in
theorem szIntA4S_no (A : Option Addr) (n c : Nat) (w : World) (left : Int) (h0 : 0 ≤ left) (h1 : left ≤ 1048576) (hn : n ≤ 9223372036854775807) (h : left < (n : Int)) :
    Calls Try.prog 50 #[.slice A n c, .int .i64 left] w fun e w' => e = .returned (.int .i64 (-1)) ∧ w = w' := by
  have hd : left - (n : Int) < 0 := by omega
  go_enter Try.func50, Try.ntmps50
  go_wp2
  go_ret
  exact ⟨rfl, rfl⟩
set_option maxHeartbeats 400000 in
theorem szIntA4S_ok (A : Option Addr) (n c : Nat) (w : World) (left : Int) (h0 : 0 ≤ left) (h1 : left ≤ 1048576) (hn : n ≤ 9223372036854775807) (h : (n : Int) ≤ left) :
    Calls Try.prog 50 #[.slice A n c, .int .i64 left] w fun e w' => e = .returned (.int .i64 (left - n)) ∧ w = w' := by
  have hd : ¬ left - (n : Int) < 0 := by omega
  go_enter Try.func50, Try.ntmps50
  go_wp2
  go_ret
  exact ⟨rfl, rfl⟩

set_option maxHeartbeats 400000 in
theorem toIntA4_any (x : Four) (w : World) :
    Calls Try.prog 94 #[.agg #[.int .i64 x.a, .int .i64 x.b, .int .i64 x.c, .int .i64 x.d]] w fun e w' => e = .returned (.agg #[.int .i64 x.a, .int .i64 x.b, .int .i64 x.c, .int .i64 x.d]) ∧ Below w.heap.size w w' := by
  go_enter Try.func94, Try.ntmps94
  go_wp2
  refine wp_loop_rounds 5 ?_
  repeat any_goals (rw [rounds_succ]; go_wp2)
  refine bodyPost_ret (v := .agg #[.int .i64 x.a, .int .i64 x.b, .int .i64 x.c, .int .i64 x.d]) (by simp [results, Try.results94, go_sem]) rfl ⟨rfl, by go_grown⟩

set_option maxHeartbeats 1000000 in
set_option maxRecDepth 100000 in
theorem toIntA4S_any (A : Option Addr) (c : Nat) (xs : List Four) (w : World) (hn : xs.length ≤ 1048576) (hA : Fl Four.ints 4 w A xs) :
    Calls Try.prog 53 #[.slice A xs.length c] w fun e w' => ∃ B, e = .returned (.slice (some ⟨B, 0, none⟩) xs.length xs.length) ∧ FlO Four.ints 4 w.heap.size w'.heap.size w' (some ⟨B, 0, none⟩) xs ∧ Below w.heap.size w w' := by
  obtain ⟨i0, hi, hz0, hz1, hz2⟩ := info_parts infoIntA4
  obtain ⟨n, hnn⟩ : ∃ n, n = xs.length := ⟨_, rfl⟩
  rw [← hnn] at hn ⊢
  have hmk := run_make_rowN (P := Try.prog) 22 106 i0 _ Try.underlying22 hi hz0 .i64 .i64 n n (Nat.le_refl _) (by rw [hz2]; omega) (by omega)
  rw [hz1] at hmk
  obtain ⟨cells, hcells⟩ : ∃ cs, cs = madeCells (Value.agg (Array.replicate 4 (.int .i64 0))).cells (n * 4) := ⟨_, rfl⟩
  rw [← hcells] at hmk
  have hcs : cells.size = n * 4 := by rw [hcells]; exact size_madeCells _ _
  clear hcells hz0 hz1 hz2 hi
  have hN := Lib.hid hnn
  have hC := Lib.hid hcs
  clear hnn hcs
  go_enter Try.func53, Try.ntmps53
  go_wp2
  go_loopw [4] (fun i wr => ∃ k : Nat, k ≤ n ∧ i = .int .i64 k ∧ Below w.heap.size w wr ∧ Fill Four.ints 4 w.heap.size n xs k wr) (fun i _ => n - (intOf i).toNat)
  case atStart => exact ⟨0, by omega, rfl, by go_grown, Fill.start rfl hC.out⟩
  case round =>
    obtain ⟨k, hk, rfl, hbr, hF⟩ := hrel
    by_cases hlt : k < n
    · obtain ⟨x, b, o, hx, rfl, hb, hc⟩ := ((hA.ext hbr).at_ (k := k) (by rw [← hN.out]; exact hlt))
      have hX := Lib.hid hx
      clear hx
      have c0 : World.cell? wr ⟨b, o + k * 4, none⟩ = some (.int .i64 x.a) := hc 0 _ rfl
      have c1 : World.cell? wr ⟨b, o + k * 4 + 1, none⟩ = some (.int .i64 x.b) := hc 1 _ rfl
      have c2 : World.cell? wr ⟨b, o + k * 4 + 2, none⟩ = some (.int .i64 x.c) := hc 2 _ rfl
      have c3 : World.cell? wr ⟨b, o + k * 4 + 3, none⟩ = some (.int .i64 x.d) := hc 3 _ rfl
      clear hc hA
      go_wp2_with fail
      refine (toIntA4_any x _).mono ?_
      rintro e w1 ⟨rfl, hb1⟩
      have hF1 := hF.ext hb1
      have hsz := hF1.size
      have hfz := hF1.frozen
      have hth : ∀ j, j < 4 → ∃ u, w1.cell? ⟨w.heap.size, k * 4 + j, none⟩ = some u := fun j hj => hF1.there _ (by omega)
      obtain ⟨z0, hz0⟩ : ∃ u, w1.cell? ⟨w.heap.size, k * 4, none⟩ = some u := hth 0 (by omega)
      obtain ⟨z1, hz1⟩ : ∃ u, w1.cell? ⟨w.heap.size, k * 4 + 1, none⟩ = some u := hth 1 (by omega)
      obtain ⟨z2, hz2⟩ : ∃ u, w1.cell? ⟨w.heap.size, k * 4 + 2, none⟩ = some u := hth 2 (by omega)
      obtain ⟨z3, hz3⟩ : ∃ u, w1.cell? ⟨w.heap.size, k * 4 + 3, none⟩ = some u := hth 3 (by omega)
      clear hth
      go_wp2
      go_roundw
      case rel =>
        refine ⟨k + 1, by omega, by go_num, ?_, (hF1.step hlt hX.out rfl (fun _ => rfl) : Fill _ _ _ _ _ _ (setRow w1 w.heap.size (k * 4) _))⟩
        exact ((setRow_touch w.heap.size (lo := w.heap.size) (hi := w.heap.size + 1) (Nat.le_refl _) (by omega) (x.ints.map (Value.int .i64)) w1 (k * 4)).below (ext_trans hbr hb1) (Nat.le_refl _) : Below _ w (setRow w1 w.heap.size (k * 4) _))
      case measure => simp [intOf]; omega
    · have hkn : k = n := by omega
      subst hkn
      go_wp2
      go_ret
      exact ⟨_, rfl, hF.flo (by rw [← hN.out]; exact Nat.le_refl _) (Nat.le_refl _), hbr⟩

set_option maxHeartbeats 400000 in
theorem eqIntA4_any (x y : Four) (w : World) :
    Calls Try.prog 102 #[.agg #[.int .i64 x.a, .int .i64 x.b, .int .i64 x.c, .int .i64 x.d], .agg #[.int .i64 y.a, .int .i64 y.b, .int .i64 y.c, .int .i64 y.d]] w fun e w' => e = .returned (.bool (tb (x = y))) ∧ Below w.heap.size w w' := by
  go_enter Try.func102, Try.ntmps102
  go_wp2
  refine wp_loop_rounds 5 ?_
  repeat any_goals (rw [rounds_succ]; go_wp2; try (go_quiet (fail); go_wp2))
  all_goals
    go_ret
    refine ⟨ret_bool ?_, by (repeat refine below_drewN ?_ _); go_grown⟩
    first
      | exact (tb_t (by rw [Four.eq_iff]; simp_all)).symm
      | exact (tb_f (by rw [Four.eq_iff]; simp_all)).symm

set_option maxHeartbeats 1000000 in
set_option maxRecDepth 100000 in
theorem eqIntA4S_any (A B : Option Addr) (c d : Nat) (xs ys : List Four) (w : World) (hn : xs.length ≤ 1152921504606846976) (hm : ys.length ≤ 1152921504606846976) (hA : Fl Four.ints 4 w A xs) (hB : Fl Four.ints 4 w B ys) :
    Calls Try.prog 57 #[.slice A xs.length c, .slice B ys.length d] w fun e w' => e = .returned (.bool (tb (xs = ys))) ∧ Below w.heap.size w w' := by
  by_cases hl : xs.length = ys.length
  · obtain ⟨n, hnn⟩ : ∃ n, n = xs.length := ⟨_, rfl⟩
    rw [← hl] at hm ⊢
    rw [← hnn] at hm hn ⊢
    have hN := Lib.hid hnn
    have hL := Lib.hid hl
    clear hnn hl
    go_enter Try.func57, Try.ntmps57
    go_wp2
    go_loopw [5] (fun i wr => ∃ k : Nat, k ≤ n ∧ i = .int .i64 k ∧ Below w.heap.size w wr ∧ Hid (xs.take k = ys.take k)) (fun i _ => n - (intOf i).toNat)
    case atStart => exact ⟨0, by omega, rfl, Below.refl _ _, rfl⟩
    case round =>
      obtain ⟨k, hk, rfl, hbr, hall⟩ := hrel
      by_cases hlt : k < n
      · obtain ⟨x, b, o, hx, rfl, hb, hc⟩ := ((hA.ext hbr).at_ (k := k) (by rw [← hN.out]; exact hlt))
        obtain ⟨y, b', o', hy, rfl, hb', hc'⟩ := ((hB.ext hbr).at_ (k := k) (by rw [← hL.out, ← hN.out]; exact hlt))
        have hX := Lib.hid hx
        have hY := Lib.hid hy
        clear hx hy
        have c0 : World.cell? wr ⟨b, o + k * 4, none⟩ = some (.int .i64 x.a) := hc 0 _ rfl
        have c1 : World.cell? wr ⟨b, o + k * 4 + 1, none⟩ = some (.int .i64 x.b) := hc 1 _ rfl
        have c2 : World.cell? wr ⟨b, o + k * 4 + 2, none⟩ = some (.int .i64 x.c) := hc 2 _ rfl
        have c3 : World.cell? wr ⟨b, o + k * 4 + 3, none⟩ = some (.int .i64 x.d) := hc 3 _ rfl
        have d0 : World.cell? wr ⟨b', o' + k * 4, none⟩ = some (.int .i64 y.a) := hc' 0 _ rfl
        have d1 : World.cell? wr ⟨b', o' + k * 4 + 1, none⟩ = some (.int .i64 y.b) := hc' 1 _ rfl
        have d2 : World.cell? wr ⟨b', o' + k * 4 + 2, none⟩ = some (.int .i64 y.c) := hc' 2 _ rfl
        have d3 : World.cell? wr ⟨b', o' + k * 4 + 3, none⟩ = some (.int .i64 y.d) := hc' 3 _ rfl
        clear hc hc' hA hB
        have hpc := plus_cell wr
        have hk0 : (0 : Int) ≤ (k : Int) := by omega
        have hk1 : (k : Int) < (n : Int) := by omega
        go_wp2_with fail
        refine wp_region_grow (by kernel_rfl) (by kernel_rfl) ?_
        repeat (go_big_quiet_step ((go_at_call 102; exact quiet_below (eqIntA4_any x y _))))
        refine wpQuiet_nil ?_
        intro w1 hb1
        by_cases hxy : x = y
        · rw [tb_t hxy]
          have hXY := Lib.hid hxy
          clear hxy
          go_wp2
          go_roundw
          case rel => exact ⟨k + 1, by omega, by go_num, ext_trans hbr hb1, by unfold Hid; rw [take_get hX.out, take_get hY.out, hall.out, hXY.out]⟩
          case measure => simp [intOf]; omega
        · rw [tb_f hxy]
          have hXY := Lib.hid hxy
          clear hxy
          go_wp2
          go_ret
          refine ⟨ret_bool (tb_f ?_).symm, ext_trans hbr hb1⟩
          intro e
          have h1 := hX.out
          rw [e, hY.out] at h1
          exact hXY.out (Option.some.inj h1).symm
      · have hkn : k = n := by omega
        subst hkn
        go_wp2
        go_ret
        refine ⟨ret_bool (tb_t ?_).symm, hbr⟩
        have h1 := hall.out
        rwa [take_all (by rw [← hN.out]; exact Nat.le_refl _), take_all (by rw [← hL.out, ← hN.out]; exact Nat.le_refl _)] at h1
  · have hne : ((xs.length : Int) != (ys.length : Int)) = true := by rw [bne_iff_ne]; omega
    go_enter Try.func57, Try.ntmps57
    go_wp2
    go_ret
    exact ⟨ret_bool (tb_f (fun e => hl (by rw [e]))).symm, Below.refl _ _⟩

theorem eqIntA4S_same (A B : Option Addr) (c d : Nat) (xs : List Four) (w : World) (hn : xs.length ≤ 1152921504606846976) (hA : Fl Four.ints 4 w A xs) (hB : Fl Four.ints 4 w B xs) :
    Calls Try.prog 57 #[.slice A xs.length c, .slice B xs.length d] w fun e w' => e = .returned (.bool true) ∧ Below w.heap.size w w' := by
  have h := eqIntA4S_any A B c d xs xs w hn hn hA hB
  rwa [tb_t rfl] at h

end Go.Proofs.Ytbmdhkdlhohjhaa
