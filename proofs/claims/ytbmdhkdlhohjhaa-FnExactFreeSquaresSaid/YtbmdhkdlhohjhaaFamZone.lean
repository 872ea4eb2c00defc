/- The laws' own functions over []Zone: the copy, the comparison, the marks. -/
import Derived.Test.YtbmdhkdlhohjhaaProg
import Derived.Test.YtbmdhkdlhohjhaaBase
import Derived.Test.YtbmdhkdlhohjhaaTypes
namespace Go.Proofs.Ytbmdhkdlhohjhaa
open Go.RowKit
set_option linter.unusedVariables false
set_option linter.unusedSimpArgs false

theorem infoZone : (Try.prog.info? 87).map (fun i => (i.zero, i.size, i.bytes)) = some (some (.agg (Array.replicate 5 (.int .i64 0))), 5, 40) := by kernel_rfl

set_option maxHeartbeats 400000 in
theorem szZoneS_no (A : Option Addr) (n c : Nat) (w : World) (left : Int) (h0 : 0 ≤ left) (h1 : left ≤ 1048576) (hn : n ≤ 9223372036854775807) (h : left < (n : Int)) :
    Calls Try.prog 27 #[.slice A n c, .int .i64 left] w fun e w' => e = .returned (.int .i64 (-1)) ∧ w = w' := by
  have hd : left - (n : Int) < 0 := by omega
  go_enter Try.func27, Try.ntmps27
  go_wp2
  go_ret
  exact ⟨rfl, rfl⟩
set_option maxHeartbeats 400000 in
theorem szZoneS_ok (A : Option Addr) (n c : Nat) (w : World) (left : Int) (h0 : 0 ≤ left) (h1 : left ≤ 1048576) (hn : n ≤ 9223372036854775807) (h : (n : Int) ≤ left) :
    Calls Try.prog 27 #[.slice A n c, .int .i64 left] w fun e w' => e = .returned (.int .i64 (left - n)) ∧ w = w' := by
  have hd : ¬ left - (n : Int) < 0 := by omega
  go_enter Try.func27, Try.ntmps27
  go_wp2
  go_ret
  exact ⟨rfl, rfl⟩

set_option maxHeartbeats 400000 in
theorem toZone_any (x : Zone) (w : World) :
    Calls Try.prog 63 #[.agg #[.int .i64 x.id, .int .i64 x.west, .int .i64 x.south, .int .i64 x.east, .int .i64 x.north]] w fun e w' => e = .returned (.agg #[.int .i64 x.id, .int .i64 x.west, .int .i64 x.south, .int .i64 x.east, .int .i64 x.north]) ∧ Below w.heap.size w w' := by
  go_enter Try.func63, Try.ntmps63
  go_wp2
  refine bodyPost_ret (v := .agg #[.int .i64 x.id, .int .i64 x.west, .int .i64 x.south, .int .i64 x.east, .int .i64 x.north]) (by simp [results, Try.results63, go_sem]) rfl ⟨rfl, by go_grown⟩

set_option maxHeartbeats 1000000 in
set_option maxRecDepth 100000 in
theorem toZoneS_any (A : Option Addr) (c : Nat) (xs : List Zone) (w : World) (hn : xs.length ≤ 1048576) (hA : Fl Zone.ints 5 w A xs) :
    Calls Try.prog 29 #[.slice A xs.length c] w fun e w' => ∃ B, e = .returned (.slice (some ⟨B, 0, none⟩) xs.length xs.length) ∧ FlO Zone.ints 5 w.heap.size w'.heap.size w' (some ⟨B, 0, none⟩) xs ∧ Below w.heap.size w w' := by
  obtain ⟨i0, hi, hz0, hz1, hz2⟩ := info_parts infoZone
  obtain ⟨n, hnn⟩ : ∃ n, n = xs.length := ⟨_, rfl⟩
  rw [← hnn] at hn ⊢
  have hmk := run_make_rowN (P := Try.prog) 47 87 i0 _ Try.underlying47 hi hz0 .i64 .i64 n n (Nat.le_refl _) (by rw [hz2]; omega) (by omega)
  rw [hz1] at hmk
  obtain ⟨cells, hcells⟩ : ∃ cs, cs = madeCells (Value.agg (Array.replicate 5 (.int .i64 0))).cells (n * 5) := ⟨_, rfl⟩
  rw [← hcells] at hmk
  have hcs : cells.size = n * 5 := by rw [hcells]; exact size_madeCells _ _
  clear hcells hz0 hz1 hz2 hi
  have hN := Lib.hid hnn
  have hC := Lib.hid hcs
  clear hnn hcs
  go_enter Try.func29, Try.ntmps29
  go_wp2
  go_loopw [4] (fun i wr => ∃ k : Nat, k ≤ n ∧ i = .int .i64 k ∧ Below w.heap.size w wr ∧ Fill Zone.ints 5 w.heap.size n xs k wr) (fun i _ => n - (intOf i).toNat)
  case atStart => exact ⟨0, by omega, rfl, by go_grown, Fill.start rfl hC.out⟩
  case round =>
    obtain ⟨k, hk, rfl, hbr, hF⟩ := hrel
    by_cases hlt : k < n
    · obtain ⟨x, b, o, hx, rfl, hb, hc⟩ := ((hA.ext hbr).at_ (k := k) (by rw [← hN.out]; exact hlt))
      have hX := Lib.hid hx
      clear hx
      have c0 : World.cell? wr ⟨b, o + k * 5, none⟩ = some (.int .i64 x.id) := hc 0 _ rfl
      have c1 : World.cell? wr ⟨b, o + k * 5 + 1, none⟩ = some (.int .i64 x.west) := hc 1 _ rfl
      have c2 : World.cell? wr ⟨b, o + k * 5 + 2, none⟩ = some (.int .i64 x.south) := hc 2 _ rfl
      have c3 : World.cell? wr ⟨b, o + k * 5 + 3, none⟩ = some (.int .i64 x.east) := hc 3 _ rfl
      have c4 : World.cell? wr ⟨b, o + k * 5 + 4, none⟩ = some (.int .i64 x.north) := hc 4 _ rfl
      clear hc hA
      go_wp2_with fail
      refine (toZone_any x _).mono ?_
      rintro e w1 ⟨rfl, hb1⟩
      have hF1 := hF.ext hb1
      have hsz := hF1.size
      have hfz := hF1.frozen
      have hth : ∀ j, j < 5 → ∃ u, w1.cell? ⟨w.heap.size, k * 5 + j, none⟩ = some u := fun j hj => hF1.there _ (by omega)
      obtain ⟨z0, hz0⟩ : ∃ u, w1.cell? ⟨w.heap.size, k * 5, none⟩ = some u := hth 0 (by omega)
      obtain ⟨z1, hz1⟩ : ∃ u, w1.cell? ⟨w.heap.size, k * 5 + 1, none⟩ = some u := hth 1 (by omega)
      obtain ⟨z2, hz2⟩ : ∃ u, w1.cell? ⟨w.heap.size, k * 5 + 2, none⟩ = some u := hth 2 (by omega)
      obtain ⟨z3, hz3⟩ : ∃ u, w1.cell? ⟨w.heap.size, k * 5 + 3, none⟩ = some u := hth 3 (by omega)
      obtain ⟨z4, hz4⟩ : ∃ u, w1.cell? ⟨w.heap.size, k * 5 + 4, none⟩ = some u := hth 4 (by omega)
      clear hth
      go_wp2
      go_roundw
      case rel =>
        refine ⟨k + 1, by omega, by go_num, ?_, (hF1.step hlt hX.out rfl (fun _ => rfl) : Fill _ _ _ _ _ _ (setRow w1 w.heap.size (k * 5) _))⟩
        exact ((setRow_touch w.heap.size (lo := w.heap.size) (hi := w.heap.size + 1) (Nat.le_refl _) (by omega) (x.ints.map (Value.int .i64)) w1 (k * 5)).below (ext_trans hbr hb1) (Nat.le_refl _) : Below _ w (setRow w1 w.heap.size (k * 5) _))
      case measure => simp [intOf]; omega
    · have hkn : k = n := by omega
      subst hkn
      go_wp2
      go_ret
      exact ⟨_, rfl, hF.flo (by rw [← hN.out]; exact Nat.le_refl _) (Nat.le_refl _), hbr⟩

set_option maxHeartbeats 400000 in
theorem eqZone_any (x y : Zone) (w : World) :
    Calls Try.prog 67 #[.agg #[.int .i64 x.id, .int .i64 x.west, .int .i64 x.south, .int .i64 x.east, .int .i64 x.north], .agg #[.int .i64 y.id, .int .i64 y.west, .int .i64 y.south, .int .i64 y.east, .int .i64 y.north]] w fun e w' => e = .returned (.bool (tb (x = y))) ∧ Below w.heap.size w w' := by
  go_enter Try.func67, Try.ntmps67
  go_wp2
  all_goals
    go_ret
    refine ⟨ret_bool ?_, by go_grown⟩
    first
      | exact (tb_t (by rw [Zone.eq_iff]; simp_all)).symm
      | exact (tb_f (by rw [Zone.eq_iff]; simp_all)).symm

set_option maxHeartbeats 1000000 in
set_option maxRecDepth 100000 in
theorem eqZoneS_any (A B : Option Addr) (c d : Nat) (xs ys : List Zone) (w : World) (hn : xs.length ≤ 1152921504606846976) (hm : ys.length ≤ 1152921504606846976) (hA : Fl Zone.ints 5 w A xs) (hB : Fl Zone.ints 5 w B ys) :
    Calls Try.prog 31 #[.slice A xs.length c, .slice B ys.length d] w fun e w' => e = .returned (.bool (tb (xs = ys))) ∧ Below w.heap.size w w' := by
  by_cases hl : xs.length = ys.length
  · obtain ⟨n, hnn⟩ : ∃ n, n = xs.length := ⟨_, rfl⟩
    rw [← hl] at hm ⊢
    rw [← hnn] at hm hn ⊢
    have hN := Lib.hid hnn
    have hL := Lib.hid hl
    clear hnn hl
    go_enter Try.func31, Try.ntmps31
    go_wp2
    go_loopw [5] (fun i wr => ∃ k : Nat, k ≤ n ∧ i = .int .i64 k ∧ Below w.heap.size w wr ∧ Hid (xs.take k = ys.take k)) (fun i _ => n - (intOf i).toNat)
    case atStart => exact ⟨0, by omega, rfl, Below.refl _ _, rfl⟩
    case round =>
      obtain ⟨k, hk, rfl, hbr, hall⟩ := hrel
      by_cases hlt : k < n
      · obtain ⟨x, b, o, hx, rfl, hb, hc⟩ := ((hA.ext hbr).at_ (k := k) (by rw [← hN.out]; exact hlt))
        obtain ⟨y, b', o', hy, rfl, hb', hc'⟩ := ((hB.ext hbr).at_ (k := k) (by rw [← hL.out, ← hN.out]; exact hlt))
        have hX := Lib.hid hx
        have hY := Lib.hid hy
        clear hx hy
        have c0 : World.cell? wr ⟨b, o + k * 5, none⟩ = some (.int .i64 x.id) := hc 0 _ rfl
        have c1 : World.cell? wr ⟨b, o + k * 5 + 1, none⟩ = some (.int .i64 x.west) := hc 1 _ rfl
        have c2 : World.cell? wr ⟨b, o + k * 5 + 2, none⟩ = some (.int .i64 x.south) := hc 2 _ rfl
        have c3 : World.cell? wr ⟨b, o + k * 5 + 3, none⟩ = some (.int .i64 x.east) := hc 3 _ rfl
        have c4 : World.cell? wr ⟨b, o + k * 5 + 4, none⟩ = some (.int .i64 x.north) := hc 4 _ rfl
        have d0 : World.cell? wr ⟨b', o' + k * 5, none⟩ = some (.int .i64 y.id) := hc' 0 _ rfl
        have d1 : World.cell? wr ⟨b', o' + k * 5 + 1, none⟩ = some (.int .i64 y.west) := hc' 1 _ rfl
        have d2 : World.cell? wr ⟨b', o' + k * 5 + 2, none⟩ = some (.int .i64 y.south) := hc' 2 _ rfl
        have d3 : World.cell? wr ⟨b', o' + k * 5 + 3, none⟩ = some (.int .i64 y.east) := hc' 3 _ rfl
        have d4 : World.cell? wr ⟨b', o' + k * 5 + 4, none⟩ = some (.int .i64 y.north) := hc' 4 _ rfl
        clear hc hc' hA hB
        have hpc := plus_cell wr
        have hk0 : (0 : Int) ≤ (k : Int) := by omega
        have hk1 : (k : Int) < (n : Int) := by omega
        go_wp2_with fail
        refine wp_region_grow (by kernel_rfl) (by kernel_rfl) ?_
        repeat (go_big_quiet_step ((go_at_call 67; exact quiet_below (eqZone_any x y _))))
        refine wpQuiet_nil ?_
        intro w1 hb1
        by_cases hxy : x = y
        · rw [tb_t hxy]
          have hXY := Lib.hid hxy
          clear hxy
          go_wp2
          go_roundw
          case rel => exact ⟨k + 1, by omega, by go_num, ext_trans hbr hb1, by unfold Hid; rw [take_get hX.out, take_get hY.out, hall.out, hXY.out]⟩
          case measure => simp [intOf]; omega
        · rw [tb_f hxy]
          have hXY := Lib.hid hxy
          clear hxy
          go_wp2
          go_ret
          refine ⟨ret_bool (tb_f ?_).symm, ext_trans hbr hb1⟩
          intro e
          have h1 := hX.out
          rw [e, hY.out] at h1
          exact hXY.out (Option.some.inj h1).symm
      · have hkn : k = n := by omega
        subst hkn
        go_wp2
        go_ret
        refine ⟨ret_bool (tb_t ?_).symm, hbr⟩
        have h1 := hall.out
        rwa [take_all (by rw [← hN.out]; exact Nat.le_refl _), take_all (by rw [← hL.out, ← hN.out]; exact Nat.le_refl _)] at h1
  · have hne : ((xs.length : Int) != (ys.length : Int)) = true := by rw [bne_iff_ne]; omega
    go_enter Try.func31, Try.ntmps31
    go_wp2
    go_ret
    exact ⟨ret_bool (tb_f (fun e => hl (by rw [e]))).symm, Below.refl _ _⟩

theorem eqZoneS_same (A B : Option Addr) (c d : Nat) (xs : List Zone) (w : World) (hn : xs.length ≤ 1152921504606846976) (hA : Fl Zone.ints 5 w A xs) (hB : Fl Zone.ints 5 w B xs) :
    Calls Try.prog 31 #[.slice A xs.length c, .slice B xs.length d] w fun e w' => e = .returned (.bool true) ∧ Below w.heap.size w w' := by
  have h := eqZoneS_any A B c d xs xs w hn hn hA hB
  rwa [tb_t rfl] at h

set_option maxHeartbeats 1000000 in
set_option maxRecDepth 100000 in
theorem markZoneS_any (A : Option Addr) (c lo hi : Nat) (k0 : Int) (xs : List Zone) (w : World) (hk : 0 ≤ k0) (hn : xs.length ≤ 16777216) (hk1 : k0 ≤ 1099511627776) (hA : FlO Zone.ints 5 lo hi w A xs) :
    Calls Try.prog 49 #[.slice A xs.length c, .int .i64 k0] w fun e w' => e = .returned (.int .i64 (k0 + (xs.length : Int) * 5)) ∧ Num lo hi w' A (xs.length * 5) k0 ∧ Touch lo hi w w' := by
  by_cases hne : xs = []
  · subst hne
    go_enter Try.func49, Try.ntmps49
    go_wp2
    refine wp_loop_rounds 1 ?_; rw [rounds_succ]
    go_wp2
    go_ret
    exact ⟨ret_int (by simp), Num.zero, Touch.refl _ _ _⟩
  · obtain ⟨b, o, rfl, hb, h1, h2, hM0⟩ := hA.mark (fun _ => rfl) hne k0
    obtain ⟨n, hnn⟩ : ∃ n, n = xs.length := ⟨_, rfl⟩
    rw [← hnn] at hn hM0 ⊢
    clear hnn hA hne
    go_enter Try.func49, Try.ntmps49
    go_wp2
    go_loopw [1, 5] (fun q i wr => ∃ m : Nat, m ≤ n ∧ i = .int .i64 m ∧ q = .int .i64 (k0 + (m : Int) * 5) ∧ b < wr.heap.size ∧ Mark b o lo hi (n * 5) (m * 5) k0 w wr) (fun _ i _ => n - (intOf i).toNat)
    case atStart => exact ⟨0, by omega, rfl, by simp, hb, by simpa using hM0⟩
    case round =>
      obtain ⟨m, hm, rfl, rfl, hbs, hM⟩ := hrel
      obtain ⟨q, hq⟩ : ∃ q, q = k0 + (m : Int) * 5 := ⟨_, rfl⟩
      rw [← hq]
      by_cases hlt : m < n
      · have hq0 : 0 ≤ q := by omega
        have hq1 : q ≤ 2199023255552 := by omega
        have hQ := Lib.hid hq
        clear hq
        have hfz := hM.frozen
        have hth : ∀ j, j < 5 → ∃ u, wr.cell? ⟨b, o + (m * 5 + j), none⟩ = some u := fun j hj => hM.there _ (by omega)
        obtain ⟨z0, hz0⟩ : ∃ u, wr.cell? ⟨b, o + m * 5, none⟩ = some u := hth 0 (by omega)
        obtain ⟨z1, hz1⟩ : ∃ u, wr.cell? ⟨b, o + m * 5 + 1, none⟩ = some u := hth 1 (by omega)
        obtain ⟨z2, hz2⟩ : ∃ u, wr.cell? ⟨b, o + m * 5 + 2, none⟩ = some u := hth 2 (by omega)
        obtain ⟨z3, hz3⟩ : ∃ u, wr.cell? ⟨b, o + m * 5 + 3, none⟩ = some u := hth 3 (by omega)
        obtain ⟨z4, hz4⟩ : ∃ u, wr.cell? ⟨b, o + m * 5 + 4, none⟩ = some u := hth 4 (by omega)
        clear hth
        go_wp2
        go_roundw
        case rel =>
          refine ⟨m + 1, by omega, by go_num, ?_, by simpa [World.setCell] using hbs, ?_⟩
          · have := hQ.out
            congr 1
            omega
          · have := hQ.out
            refine Mark.step' (m := m * 5 + 4) ?_ h1 h2 (by omega) (by omega) (by omega) (by omega)
            refine Mark.step' (m := m * 5 + 3) ?_ h1 h2 (by omega) (by omega) (by omega) (by omega)
            refine Mark.step' (m := m * 5 + 2) ?_ h1 h2 (by omega) (by omega) (by omega) (by omega)
            refine Mark.step' (m := m * 5 + 1) ?_ h1 h2 (by omega) (by omega) (by omega) (by omega)
            refine Mark.step' (m := m * 5 + 0) ?_ h1 h2 (by omega) (by omega) (by omega) (by omega)
            exact hM
        case measure => simp [intOf]; omega
      · have hkn : m = n := by omega
        subst hkn
        go_wp2
        go_ret
        exact ⟨ret_int (by first | rfl | exact hq), hM.num (Nat.le_refl _) hbs h1 h2, hM.touch⟩

end Go.Proofs.Ytbmdhkdlhohjhaa
