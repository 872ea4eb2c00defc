/- The laws' own functions over []int: the comparison, the marks. -/
import Derived.Test.YthoicjdkpkbbfaaDoorProg
import Derived.Test.YthoicjdkpkbbfaaDoorBase
namespace Go.Proofs.YthoicjdkpkbbfaaDoor
open Go.RowKit
set_option linter.unusedVariables false
set_option linter.unusedSimpArgs false

theorem infoInt : (Tryd.prog.info? 3).map (fun i => (i.zero, i.size, i.bytes)) = some (some (.int .i64 0), 1, 8) := by kernel_rfl

set_option maxHeartbeats 400000 in
theorem szIntS_no (A : Option Addr) (n c : Nat) (w : World) (left : Int) (h0 : 0 ≤ left) (h1 : left ≤ 1048576) (hn : n ≤ 9223372036854775807) (h : left < (n : Int)) :
    Calls Tryd.prog 17 #[.slice A n c, .int .i64 left] w fun e w' => e = .returned (.int .i64 (-1)) ∧ w = w' := by
  have hd : left - (n : Int) < 0 := by omega
  go_enter Tryd.func17, Tryd.ntmps17
  go_wp2
  go_ret
  exact ⟨rfl, rfl⟩
set_option maxHeartbeats 400000 in
theorem szIntS_ok (A : Option Addr) (n c : Nat) (w : World) (left : Int) (h0 : 0 ≤ left) (h1 : left ≤ 1048576) (hn : n ≤ 9223372036854775807) (h : (n : Int) ≤ left) :
    Calls Tryd.prog 17 #[.slice A n c, .int .i64 left] w fun e w' => e = .returned (.int .i64 (left - n)) ∧ w = w' := by
  have hd : ¬ left - (n : Int) < 0 := by omega
  go_enter Tryd.func17, Tryd.ntmps17
  go_wp2
  go_ret
  exact ⟨rfl, rfl⟩
set_option maxHeartbeats 1000000 in
set_option maxRecDepth 100000 in
theorem toIntS_any (A : Option Addr) (c : Nat) (xs : List Int) (w : World) (hn : xs.length ≤ 1048576) (hA : Fl one 1 w A xs) :
    Calls Tryd.prog 19 #[.slice A xs.length c] w fun e w' => ∃ B, e = .returned (.slice (some ⟨B, 0, none⟩) xs.length xs.length) ∧ FlO one 1 w.heap.size w'.heap.size w' (some ⟨B, 0, none⟩) xs ∧ Below w.heap.size w w' := by
  obtain ⟨i0, hi, hz0, hz1, hz2⟩ := info_parts infoInt
  obtain ⟨n, hnn⟩ : ∃ n, n = xs.length := ⟨_, rfl⟩
  rw [← hnn] at hn ⊢
  have hmk := run_make_rowN (P := Tryd.prog) 29 3 i0 _ Tryd.underlying29 hi hz0 .i64 .i64 n n (Nat.le_refl _) (by rw [hz2]; omega) (by omega)
  rw [hz1] at hmk
  obtain ⟨cells, hcells⟩ : ∃ cs, cs = madeCells (Value.int .i64 0).cells (n * 1) := ⟨_, rfl⟩
  rw [← hcells] at hmk
  have hcs : cells.size = n * 1 := by rw [hcells]; exact size_madeCells _ _
  clear hcells hz0 hz1 hz2 hi
  have hN := Lib.hid hnn
  have hC := Lib.hid hcs
  clear hnn hcs
  go_enter Tryd.func19, Tryd.ntmps19
  go_wp2
  go_loopw [4] (fun i wr => ∃ k : Nat, k ≤ n ∧ i = .int .i64 k ∧ Below w.heap.size w wr ∧ Fill one 1 w.heap.size n xs k wr) (fun i _ => n - (intOf i).toNat)
  case atStart => exact ⟨0, by omega, rfl, by go_grown, Fill.start rfl hC.out⟩
  case round =>
    obtain ⟨k, hk, rfl, hbr, hF⟩ := hrel
    by_cases hlt : k < n
    · obtain ⟨x, b, o, hx, rfl, hb, hc⟩ := ((hA.ext hbr).at_ (k := k) (by rw [← hN.out]; exact hlt))
      have hX := Lib.hid hx
      clear hx
      have c0 : World.cell? wr ⟨b, o + k, none⟩ = some (.int .i64 x) := by have := hc 0 x rfl; simpa using this
      clear hc hA
      have hsz := hF.size
      have hfz := hF.frozen
      obtain ⟨z0, hz0⟩ : ∃ u, World.cell? wr ⟨w.heap.size, k, none⟩ = some u := hF.there k (by omega)
      have hk0 : (0 : Int) ≤ (k : Int) := by omega
      have hk1 : (k : Int) < (n : Int) := by omega
      go_wp2
      go_roundw
      case rel =>
        have hst := hF.step hlt hX.out rfl (fun _ => rfl)
        have hT := (setRow_touch w.heap.size (lo := w.heap.size) (hi := w.heap.size + 1) (Nat.le_refl _) (by omega) ((one x).map (Value.int .i64)) wr (k * 1)).below hbr (Nat.le_refl _)
        rw [Nat.mul_one] at hst hT
        exact ⟨k + 1, by omega, by go_num, hT, hst⟩
      case measure => simp [intOf]; omega
    · have hkn : k = n := by omega
      subst hkn
      go_wp2
      go_ret
      exact ⟨_, rfl, hF.flo (by rw [← hN.out]; exact Nat.le_refl _) (Nat.le_refl _), hbr⟩

set_option maxHeartbeats 1000000 in
set_option maxRecDepth 100000 in
theorem eqIntS_any (A B : Option Addr) (c d : Nat) (xs ys : List Int) (w : World) (hn : xs.length ≤ 1152921504606846976) (hm : ys.length ≤ 1152921504606846976) (hA : Fl one 1 w A xs) (hB : Fl one 1 w B ys) :
    Calls Tryd.prog 21 #[.slice A xs.length c, .slice B ys.length d] w fun e w' => e = .returned (.bool (tb (xs = ys))) ∧ Below w.heap.size w w' := by
  by_cases hl : xs.length = ys.length
  · obtain ⟨n, hnn⟩ : ∃ n, n = xs.length := ⟨_, rfl⟩
    rw [← hl] at hm ⊢
    rw [← hnn] at hm hn ⊢
    have hN := Lib.hid hnn
    have hL := Lib.hid hl
    clear hnn hl
    go_enter Tryd.func21, Tryd.ntmps21
    go_wp2
    go_loopw [5] (fun i wr => ∃ k : Nat, k ≤ n ∧ i = .int .i64 k ∧ Below w.heap.size w wr ∧ Hid (xs.take k = ys.take k)) (fun i _ => n - (intOf i).toNat)
    case atStart => exact ⟨0, by omega, rfl, Below.refl _ _, rfl⟩
    case round =>
      obtain ⟨k, hk, rfl, hbr, hall⟩ := hrel
      by_cases hlt : k < n
      · obtain ⟨x, b, o, hx, rfl, hb, hc⟩ := ((hA.ext hbr).at_ (k := k) (by rw [← hN.out]; exact hlt))
        obtain ⟨y, b', o', hy, rfl, hb', hc'⟩ := ((hB.ext hbr).at_ (k := k) (by rw [← hL.out, ← hN.out]; exact hlt))
        have hX := Lib.hid hx
        have hY := Lib.hid hy
        clear hx hy
        have c0 : World.cell? wr ⟨b, o + k, none⟩ = some (.int .i64 x) := by simpa using hc 0 _ rfl
        have d0 : World.cell? wr ⟨b', o' + k, none⟩ = some (.int .i64 y) := by simpa using hc' 0 _ rfl
        clear hc hc' hA hB
        have hpc := plus_cell wr
        have hk0 : (0 : Int) ≤ (k : Int) := by omega
        have hk1 : (k : Int) < (n : Int) := by omega
        by_cases hxy : x = y
        · subst hxy
          go_wp2_with fail
          refine wp_region_grow (by kernel_rfl) (by kernel_rfl) ?_
          repeat (go_big_quiet_step ((first | (fail))))
          refine wpQuiet_nil ?_
          intro w1 hb1
          go_wp2
          go_roundw
          case rel => exact ⟨k + 1, by omega, by go_num, ext_trans hbr hb1, by unfold Hid; rw [take_get hX.out, take_get hY.out, hall.out]⟩
          case measure => simp [intOf]; omega
        · have hne : (x != y) = true := by simpa using hxy
          have hXY := Lib.hid hxy
          clear hxy
          go_wp2_with fail
          refine wp_region_grow (by kernel_rfl) (by kernel_rfl) ?_
          repeat (go_big_quiet_step ((first | (fail))))
          refine wpQuiet_nil ?_
          intro w1 hb1
          go_wp2
          go_ret
          refine ⟨ret_bool (tb_f ?_).symm, ext_trans hbr hb1⟩
          intro e
          have h1 := hX.out
          rw [e, hY.out] at h1
          exact hXY.out (Option.some.inj h1).symm
      · have hkn : k = n := by omega
        subst hkn
        go_wp2
        go_ret
        refine ⟨ret_bool (tb_t ?_).symm, hbr⟩
        have h1 := hall.out
        rwa [take_all (by rw [← hN.out]; exact Nat.le_refl _), take_all (by rw [← hL.out, ← hN.out]; exact Nat.le_refl _)] at h1
  · have hne : ((xs.length : Int) != (ys.length : Int)) = true := by rw [bne_iff_ne]; omega
    go_enter Tryd.func21, Tryd.ntmps21
    go_wp2
    go_ret
    exact ⟨ret_bool (tb_f (fun e => hl (by rw [e]))).symm, Below.refl _ _⟩
theorem eqIntS_same (A B : Option Addr) (c d : Nat) (xs : List Int) (w : World) (hn : xs.length ≤ 1152921504606846976) (hA : Fl one 1 w A xs) (hB : Fl one 1 w B xs) :
    Calls Tryd.prog 21 #[.slice A xs.length c, .slice B xs.length d] w fun e w' => e = .returned (.bool true) ∧ Below w.heap.size w w' := by
  have h := eqIntS_any A B c d xs xs w hn hn hA hB
  rwa [tb_t rfl] at h


end Go.Proofs.YthoicjdkpkbbfaaDoor
