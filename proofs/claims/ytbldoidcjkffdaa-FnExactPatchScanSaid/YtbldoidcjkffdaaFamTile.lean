/- The laws' own functions over []Tile: the copy, the comparison, the marks. -/
import Derived.Test.YtbldoidcjkffdaaProg
import Derived.Test.YtbldoidcjkffdaaBase
import Derived.Test.YtbldoidcjkffdaaTypes
namespace Go.Proofs.Ytbldoidcjkffdaa
open Go.RowKit
set_option linter.unusedVariables false
set_option linter.unusedSimpArgs false

theorem infoTile : (Try.prog.info? 51).map (fun i => (i.zero, i.size, i.bytes)) = some (some (.agg (Array.replicate 3 (.int .i64 0))), 3, 24) := by kernel_rfl

set_option maxHeartbeats 400000 in
theorem szTileS_no (A : Option Addr) (n c : Nat) (w : World) (left : Int) (h0 : 0 ≤ left) (h1 : left ≤ 1048576) (hn : n ≤ 9223372036854775807) (h : left < (n : Int)) :
    Calls Try.prog 36 #[.slice A n c, .int .i64 left] w fun e w' => e = .returned (.int .i64 (-1)) ∧ w = w' := by
  have hd : left - (n : Int) < 0 := by omega
  go_enter Try.func36, Try.ntmps36
  go_wp2
  go_ret
  exact ⟨rfl, rfl⟩
set_option maxHeartbeats 400000 in
theorem szTileS_ok (A : Option Addr) (n c : Nat) (w : World) (left : Int) (h0 : 0 ≤ left) (h1 : left ≤ 1048576) (hn : n ≤ 9223372036854775807) (h : (n : Int) ≤ left) :
    Calls Try.prog 36 #[.slice A n c, .int .i64 left] w fun e w' => e = .returned (.int .i64 (left - n)) ∧ w = w' := by
  have hd : ¬ left - (n : Int) < 0 := by omega
  go_enter Try.func36, Try.ntmps36
  go_wp2
  go_ret
  exact ⟨rfl, rfl⟩

set_option maxHeartbeats 400000 in
theorem toTile_any (x : Tile) (w : World) :
    Calls Try.prog 30 #[.agg #[.int .i64 x.row, .int .i64 x.col, .int .i64 x.sum]] w fun e w' => e = .returned (.agg #[.int .i64 x.row, .int .i64 x.col, .int .i64 x.sum]) ∧ Below w.heap.size w w' := by
  go_enter Try.func30, Try.ntmps30
  go_wp2
  refine bodyPost_ret (v := .agg #[.int .i64 x.row, .int .i64 x.col, .int .i64 x.sum]) (by simp [results, Try.results30, go_sem]) rfl ⟨rfl, by go_grown⟩

set_option maxHeartbeats 1000000 in
set_option maxRecDepth 100000 in
theorem toTileS_any (A : Option Addr) (c : Nat) (xs : List Tile) (w : World) (hn : xs.length ≤ 1048576) (hA : Fl Tile.ints 3 w A xs) :
    Calls Try.prog 40 #[.slice A xs.length c] w fun e w' => ∃ B, e = .returned (.slice (some ⟨B, 0, none⟩) xs.length xs.length) ∧ FlO Tile.ints 3 w.heap.size w'.heap.size w' (some ⟨B, 0, none⟩) xs ∧ Below w.heap.size w w' := by
  obtain ⟨i0, hi, hz0, hz1, hz2⟩ := info_parts infoTile
  obtain ⟨n, hnn⟩ : ∃ n, n = xs.length := ⟨_, rfl⟩
  rw [← hnn] at hn ⊢
  have hmk := run_make_rowN (P := Try.prog) 26 51 i0 _ Try.underlying26 hi hz0 .i64 .i64 n n (Nat.le_refl _) (by rw [hz2]; omega) (by omega)
  rw [hz1] at hmk
  obtain ⟨cells, hcells⟩ : ∃ cs, cs = madeCells (Value.agg (Array.replicate 3 (.int .i64 0))).cells (n * 3) := ⟨_, rfl⟩
  rw [← hcells] at hmk
  have hcs : cells.size = n * 3 := by rw [hcells]; exact size_madeCells _ _
  clear hcells hz0 hz1 hz2 hi
  have hN := Lib.hid hnn
  have hC := Lib.hid hcs
  clear hnn hcs
  go_enter Try.func40, Try.ntmps40
  go_wp2
  go_loopw [4] (fun i wr => ∃ k : Nat, k ≤ n ∧ i = .int .i64 k ∧ Below w.heap.size w wr ∧ Fill Tile.ints 3 w.heap.size n xs k wr) (fun i _ => n - (intOf i).toNat)
  case atStart => exact ⟨0, by omega, rfl, by go_grown, Fill.start rfl hC.out⟩
  case round =>
    obtain ⟨k, hk, rfl, hbr, hF⟩ := hrel
    by_cases hlt : k < n
    · obtain ⟨x, b, o, hx, rfl, hb, hc⟩ := ((hA.ext hbr).at_ (k := k) (by rw [← hN.out]; exact hlt))
      have hX := Lib.hid hx
      clear hx
      have c0 : World.cell? wr ⟨b, o + k * 3, none⟩ = some (.int .i64 x.row) := hc 0 _ rfl
      have c1 : World.cell? wr ⟨b, o + k * 3 + 1, none⟩ = some (.int .i64 x.col) := hc 1 _ rfl
      have c2 : World.cell? wr ⟨b, o + k * 3 + 2, none⟩ = some (.int .i64 x.sum) := hc 2 _ rfl
      clear hc hA
      go_wp2_with fail
      refine (toTile_any x _).mono ?_
      rintro e w1 ⟨rfl, hb1⟩
      have hF1 := hF.ext hb1
      have hsz := hF1.size
      have hfz := hF1.frozen
      have hth : ∀ j, j < 3 → ∃ u, w1.cell? ⟨w.heap.size, k * 3 + j, none⟩ = some u := fun j hj => hF1.there _ (by omega)
      obtain ⟨z0, hz0⟩ : ∃ u, w1.cell? ⟨w.heap.size, k * 3, none⟩ = some u := hth 0 (by omega)
      obtain ⟨z1, hz1⟩ : ∃ u, w1.cell? ⟨w.heap.size, k * 3 + 1, none⟩ = some u := hth 1 (by omega)
      obtain ⟨z2, hz2⟩ : ∃ u, w1.cell? ⟨w.heap.size, k * 3 + 2, none⟩ = some u := hth 2 (by omega)
      clear hth
      go_wp2
      go_roundw
      case rel =>
        refine ⟨k + 1, by omega, by go_num, ?_, (hF1.step hlt hX.out rfl (fun _ => rfl) : Fill _ _ _ _ _ _ (setRow w1 w.heap.size (k * 3) _))⟩
        exact ((setRow_touch w.heap.size (lo := w.heap.size) (hi := w.heap.size + 1) (Nat.le_refl _) (by omega) (x.ints.map (Value.int .i64)) w1 (k * 3)).below (ext_trans hbr hb1) (Nat.le_refl _) : Below _ w (setRow w1 w.heap.size (k * 3) _))
      case measure => simp [intOf]; omega
    · have hkn : k = n := by omega
      subst hkn
      go_wp2
      go_ret
      exact ⟨_, rfl, hF.flo (by rw [← hN.out]; exact Nat.le_refl _) (Nat.le_refl _), hbr⟩

set_option maxHeartbeats 400000 in
theorem eqTile_any (x y : Tile) (w : World) :
    Calls Try.prog 61 #[.agg #[.int .i64 x.row, .int .i64 x.col, .int .i64 x.sum], .agg #[.int .i64 y.row, .int .i64 y.col, .int .i64 y.sum]] w fun e w' => e = .returned (.bool (tb (x = y))) ∧ Below w.heap.size w w' := by
  go_enter Try.func61, Try.ntmps61
  go_wp2
  all_goals
    go_ret
    refine ⟨ret_bool ?_, by go_grown⟩
    first
      | exact (tb_t (by rw [Tile.eq_iff]; simp_all)).symm
      | exact (tb_f (by rw [Tile.eq_iff]; simp_all)).symm

set_option maxHeartbeats 1000000 in
set_option maxRecDepth 100000 in
theorem eqTileS_any (A B : Option Addr) (c d : Nat) (xs ys : List Tile) (w : World) (hn : xs.length ≤ 1152921504606846976) (hm : ys.length ≤ 1152921504606846976) (hA : Fl Tile.ints 3 w A xs) (hB : Fl Tile.ints 3 w B ys) :
    Calls Try.prog 44 #[.slice A xs.length c, .slice B ys.length d] w fun e w' => e = .returned (.bool (tb (xs = ys))) ∧ Below w.heap.size w w' := by
  by_cases hl : xs.length = ys.length
  · obtain ⟨n, hnn⟩ : ∃ n, n = xs.length := ⟨_, rfl⟩
    rw [← hl] at hm ⊢
    rw [← hnn] at hm hn ⊢
    have hN := Lib.hid hnn
    have hL := Lib.hid hl
    clear hnn hl
    go_enter Try.func44, Try.ntmps44
    go_wp2
    go_loopw [5] (fun i wr => ∃ k : Nat, k ≤ n ∧ i = .int .i64 k ∧ Below w.heap.size w wr ∧ Hid (xs.take k = ys.take k)) (fun i _ => n - (intOf i).toNat)
    case atStart => exact ⟨0, by omega, rfl, Below.refl _ _, rfl⟩
    case round =>
      obtain ⟨k, hk, rfl, hbr, hall⟩ := hrel
      by_cases hlt : k < n
      · obtain ⟨x, b, o, hx, rfl, hb, hc⟩ := ((hA.ext hbr).at_ (k := k) (by rw [← hN.out]; exact hlt))
        obtain ⟨y, b', o', hy, rfl, hb', hc'⟩ := ((hB.ext hbr).at_ (k := k) (by rw [← hL.out, ← hN.out]; exact hlt))
        have hX := Lib.hid hx
        have hY := Lib.hid hy
        clear hx hy
        have c0 : World.cell? wr ⟨b, o + k * 3, none⟩ = some (.int .i64 x.row) := hc 0 _ rfl
        have c1 : World.cell? wr ⟨b, o + k * 3 + 1, none⟩ = some (.int .i64 x.col) := hc 1 _ rfl
        have c2 : World.cell? wr ⟨b, o + k * 3 + 2, none⟩ = some (.int .i64 x.sum) := hc 2 _ rfl
        have d0 : World.cell? wr ⟨b', o' + k * 3, none⟩ = some (.int .i64 y.row) := hc' 0 _ rfl
        have d1 : World.cell? wr ⟨b', o' + k * 3 + 1, none⟩ = some (.int .i64 y.col) := hc' 1 _ rfl
        have d2 : World.cell? wr ⟨b', o' + k * 3 + 2, none⟩ = some (.int .i64 y.sum) := hc' 2 _ rfl
        clear hc hc' hA hB
        have hpc := plus_cell wr
        have hk0 : (0 : Int) ≤ (k : Int) := by omega
        have hk1 : (k : Int) < (n : Int) := by omega
        go_wp2_with fail
        refine wp_region_grow (by kernel_rfl) (by kernel_rfl) ?_
        repeat (go_big_quiet_step ((go_at_call 61; exact quiet_below (eqTile_any x y _))))
        refine wpQuiet_nil ?_
        intro w1 hb1
        by_cases hxy : x = y
        · rw [tb_t hxy]
          have hXY := Lib.hid hxy
          clear hxy
          go_wp2
          go_roundw
          case rel => exact ⟨k + 1, by omega, by go_num, ext_trans hbr hb1, by unfold Hid; rw [take_get hX.out, take_get hY.out, hall.out, hXY.out]⟩
          case measure => simp [intOf]; omega
        · rw [tb_f hxy]
          have hXY := Lib.hid hxy
          clear hxy
          go_wp2
          go_ret
          refine ⟨ret_bool (tb_f ?_).symm, ext_trans hbr hb1⟩
          intro e
          have h1 := hX.out
          rw [e, hY.out] at h1
          exact hXY.out (Option.some.inj h1).symm
      · have hkn : k = n := by omega
        subst hkn
        go_wp2
        go_ret
        refine ⟨ret_bool (tb_t ?_).symm, hbr⟩
        have h1 := hall.out
        rwa [take_all (by rw [← hN.out]; exact Nat.le_refl _), take_all (by rw [← hL.out, ← hN.out]; exact Nat.le_refl _)] at h1
  · have hne : ((xs.length : Int) != (ys.length : Int)) = true := by rw [bne_iff_ne]; omega
    go_enter Try.func44, Try.ntmps44
    go_wp2
    go_ret
    exact ⟨ret_bool (tb_f (fun e => hl (by rw [e]))).symm, Below.refl _ _⟩

theorem eqTileS_same (A B : Option Addr) (c d : Nat) (xs : List Tile) (w : World) (hn : xs.length ≤ 1152921504606846976) (hA : Fl Tile.ints 3 w A xs) (hB : Fl Tile.ints 3 w B xs) :
    Calls Try.prog 44 #[.slice A xs.length c, .slice B xs.length d] w fun e w' => e = .returned (.bool true) ∧ Below w.heap.size w w' := by
  have h := eqTileS_any A B c d xs xs w hn hn hA hB
  rwa [tb_t rfl] at h

set_option maxHeartbeats 1000000 in
set_option maxRecDepth 100000 in
theorem markTileS_any (A : Option Addr) (c lo hi : Nat) (k0 : Int) (xs : List Tile) (w : World) (hk : 0 ≤ k0) (hn : xs.length ≤ 16777216) (hk1 : k0 ≤ 1099511627776) (hA : FlO Tile.ints 3 lo hi w A xs) :
    Calls Try.prog 45 #[.slice A xs.length c, .int .i64 k0] w fun e w' => e = .returned (.int .i64 (k0 + (xs.length : Int) * 3)) ∧ Num lo hi w' A (xs.length * 3) k0 ∧ Touch lo hi w w' := by
  by_cases hne : xs = []
  · subst hne
    go_enter Try.func45, Try.ntmps45
    go_wp2
    refine wp_loop_rounds 1 ?_; rw [rounds_succ]
    go_wp2
    go_ret
    exact ⟨ret_int (by simp), Num.zero, Touch.refl _ _ _⟩
  · obtain ⟨b, o, rfl, hb, h1, h2, hM0⟩ := hA.mark (fun _ => rfl) hne k0
    obtain ⟨n, hnn⟩ : ∃ n, n = xs.length := ⟨_, rfl⟩
    rw [← hnn] at hn hM0 ⊢
    clear hnn hA hne
    go_enter Try.func45, Try.ntmps45
    go_wp2
    go_loopw [1, 5] (fun q i wr => ∃ m : Nat, m ≤ n ∧ i = .int .i64 m ∧ q = .int .i64 (k0 + (m : Int) * 3) ∧ b < wr.heap.size ∧ Mark b o lo hi (n * 3) (m * 3) k0 w wr) (fun _ i _ => n - (intOf i).toNat)
    case atStart => exact ⟨0, by omega, rfl, by simp, hb, by simpa using hM0⟩
    case round =>
      obtain ⟨m, hm, rfl, rfl, hbs, hM⟩ := hrel
      obtain ⟨q, hq⟩ : ∃ q, q = k0 + (m : Int) * 3 := ⟨_, rfl⟩
      rw [← hq]
      by_cases hlt : m < n
      · have hq0 : 0 ≤ q := by omega
        have hq1 : q ≤ 2199023255552 := by omega
        have hQ := Lib.hid hq
        clear hq
        have hfz := hM.frozen
        have hth : ∀ j, j < 3 → ∃ u, wr.cell? ⟨b, o + (m * 3 + j), none⟩ = some u := fun j hj => hM.there _ (by omega)
        obtain ⟨z0, hz0⟩ : ∃ u, wr.cell? ⟨b, o + m * 3, none⟩ = some u := hth 0 (by omega)
        obtain ⟨z1, hz1⟩ : ∃ u, wr.cell? ⟨b, o + m * 3 + 1, none⟩ = some u := hth 1 (by omega)
        obtain ⟨z2, hz2⟩ : ∃ u, wr.cell? ⟨b, o + m * 3 + 2, none⟩ = some u := hth 2 (by omega)
        clear hth
        go_wp2
        go_roundw
        case rel =>
          refine ⟨m + 1, by omega, by go_num, ?_, by simpa [World.setCell] using hbs, ?_⟩
          · have := hQ.out
            congr 1
            omega
          · have := hQ.out
            refine Mark.step' (m := m * 3 + 2) ?_ h1 h2 (by omega) (by omega) (by omega) (by omega)
            refine Mark.step' (m := m * 3 + 1) ?_ h1 h2 (by omega) (by omega) (by omega) (by omega)
            refine Mark.step' (m := m * 3 + 0) ?_ h1 h2 (by omega) (by omega) (by omega) (by omega)
            exact hM
        case measure => simp [intOf]; omega
      · have hkn : m = n := by omega
        subst hkn
        go_wp2
        go_ret
        exact ⟨ret_int (by first | rfl | exact hq), hM.num (Nat.le_refl _) hbs h1 h2, hM.touch⟩

set_option maxHeartbeats 1000000 in
set_option maxRecDepth 100000 in
theorem heldTileS_any (A : Option Addr) (n c lo hi : Nat) (k0 : Int) (w : World) (hk : 0 ≤ k0) (hn : n ≤ 16777216) (hk1 : k0 ≤ 1099511627776) (hA : Num lo hi w A (n * 3) k0) :
    Calls Try.prog 46 #[.slice A n c, .int .i64 k0] w fun e w' => e = .returned (.int .i64 (k0 + (n : Int) * 3)) ∧ w = w' := by
  go_enter Try.func46, Try.ntmps46
  go_wp2
  go_loop [1, 5] (fun q i => ∃ m : Nat, m ≤ n ∧ i = .int .i64 m ∧ q = .int .i64 (k0 + (m : Int) * 3)) (fun _ i => n - (intOf i).toNat)
  case atStart => exact ⟨0, by omega, rfl, by simp⟩
  case round =>
    obtain ⟨m, hm, rfl, rfl⟩ := hrel
    obtain ⟨q, hq⟩ : ∃ q, q = k0 + (m : Int) * 3 := ⟨_, rfl⟩
    rw [← hq]
    by_cases hlt : m < n
    · obtain ⟨b, o, rfl, hb, _, _, hc⟩ := hA (by omega)
      have hq0 : 0 ≤ q := by omega
      have hq1 : q ≤ 2199023255552 := by omega
      have c0 : w.cell? ⟨b, o + m * 3, none⟩ = some (.int .i64 (q)) := by have h := hc (m * 3 + 0) (by omega); rw [← Nat.add_assoc] at h; refine h.trans ?_; congr 2; omega
      have c1 : w.cell? ⟨b, o + m * 3 + 1, none⟩ = some (.int .i64 (q + 1)) := by have h := hc (m * 3 + 1) (by omega); rw [← Nat.add_assoc] at h; refine h.trans ?_; congr 2; omega
      have c2 : w.cell? ⟨b, o + m * 3 + 2, none⟩ = some (.int .i64 (q + 1 + 1)) := by have h := hc (m * 3 + 2) (by omega); rw [← Nat.add_assoc] at h; refine h.trans ?_; congr 2; omega
      have hQ := Lib.hid hq
      clear hq hc hA
      go_wp2
      go_round
      case rel =>
        refine ⟨m + 1, by omega, by go_num, ?_⟩
        have := hQ.out
        congr 1
        omega
      case measure => simp [intOf]; omega
    · have hkn : m = n := by omega
      subst hkn
      go_wp2
      go_ret
      exact ⟨ret_int (by first | rfl | exact hq), rfl⟩
end Go.Proofs.Ytbldoidcjkffdaa
