/- The laws' own functions over []int: the comparison, the marks. -/
import Derived.Test.YtbldoidcjkffdaaProg
import Derived.Test.YtbldoidcjkffdaaBase
namespace Go.Proofs.Ytbldoidcjkffdaa
open Go.RowKit
set_option linter.unusedVariables false
set_option linter.unusedSimpArgs false

theorem infoInt : (Try.prog.info? 3).map (fun i => (i.zero, i.size, i.bytes)) = some (some (.int .i64 0), 1, 8) := by kernel_rfl


set_option maxHeartbeats 1000000 in
set_option maxRecDepth 100000 in
theorem eqIntS_any (A B : Option Addr) (c d : Nat) (xs ys : List Int) (w : World) (hn : xs.length ≤ 1152921504606846976) (hm : ys.length ≤ 1152921504606846976) (hA : Fl one 1 w A xs) (hB : Fl one 1 w B ys) :
    Calls Try.prog 19 #[.slice A xs.length c, .slice B ys.length d] w fun e w' => e = .returned (.bool (tb (xs = ys))) ∧ Below w.heap.size w w' := by
  by_cases hl : xs.length = ys.length
  · obtain ⟨n, hnn⟩ : ∃ n, n = xs.length := ⟨_, rfl⟩
    rw [← hl] at hm ⊢
    rw [← hnn] at hm hn ⊢
    have hN := Lib.hid hnn
    have hL := Lib.hid hl
    clear hnn hl
    go_enter Try.func19, Try.ntmps19
    go_wp2
    go_loopw [5] (fun i wr => ∃ k : Nat, k ≤ n ∧ i = .int .i64 k ∧ Below w.heap.size w wr ∧ Hid (xs.take k = ys.take k)) (fun i _ => n - (intOf i).toNat)
    case atStart => exact ⟨0, by omega, rfl, Below.refl _ _, rfl⟩
    case round =>
      obtain ⟨k, hk, rfl, hbr, hall⟩ := hrel
      by_cases hlt : k < n
      · obtain ⟨x, b, o, hx, rfl, hb, hc⟩ := ((hA.ext hbr).at_ (k := k) (by rw [← hN.out]; exact hlt))
        obtain ⟨y, b', o', hy, rfl, hb', hc'⟩ := ((hB.ext hbr).at_ (k := k) (by rw [← hL.out, ← hN.out]; exact hlt))
        have hX := Lib.hid hx
        have hY := Lib.hid hy
        clear hx hy
        have c0 : World.cell? wr ⟨b, o + k, none⟩ = some (.int .i64 x) := by simpa using hc 0 _ rfl
        have d0 : World.cell? wr ⟨b', o' + k, none⟩ = some (.int .i64 y) := by simpa using hc' 0 _ rfl
        clear hc hc' hA hB
        have hpc := plus_cell wr
        have hk0 : (0 : Int) ≤ (k : Int) := by omega
        have hk1 : (k : Int) < (n : Int) := by omega
        by_cases hxy : x = y
        · subst hxy
          go_wp2_with fail
          refine wp_region_grow (by kernel_rfl) (by kernel_rfl) ?_
          repeat (go_big_quiet_step ((first | (fail))))
          refine wpQuiet_nil ?_
          intro w1 hb1
          go_wp2
          go_roundw
          case rel => exact ⟨k + 1, by omega, by go_num, ext_trans hbr hb1, by unfold Hid; rw [take_get hX.out, take_get hY.out, hall.out]⟩
          case measure => simp [intOf]; omega
        · have hne : (x != y) = true := by simpa using hxy
          have hXY := Lib.hid hxy
          clear hxy
          go_wp2_with fail
          refine wp_region_grow (by kernel_rfl) (by kernel_rfl) ?_
          repeat (go_big_quiet_step ((first | (fail))))
          refine wpQuiet_nil ?_
          intro w1 hb1
          go_wp2
          go_ret
          refine ⟨ret_bool (tb_f ?_).symm, ext_trans hbr hb1⟩
          intro e
          have h1 := hX.out
          rw [e, hY.out] at h1
          exact hXY.out (Option.some.inj h1).symm
      · have hkn : k = n := by omega
        subst hkn
        go_wp2
        go_ret
        refine ⟨ret_bool (tb_t ?_).symm, hbr⟩
        have h1 := hall.out
        rwa [take_all (by rw [← hN.out]; exact Nat.le_refl _), take_all (by rw [← hL.out, ← hN.out]; exact Nat.le_refl _)] at h1
  · have hne : ((xs.length : Int) != (ys.length : Int)) = true := by rw [bne_iff_ne]; omega
    go_enter Try.func19, Try.ntmps19
    go_wp2
    go_ret
    exact ⟨ret_bool (tb_f (fun e => hl (by rw [e]))).symm, Below.refl _ _⟩
theorem eqIntS_same (A B : Option Addr) (c d : Nat) (xs : List Int) (w : World) (hn : xs.length ≤ 1152921504606846976) (hA : Fl one 1 w A xs) (hB : Fl one 1 w B xs) :
    Calls Try.prog 19 #[.slice A xs.length c, .slice B xs.length d] w fun e w' => e = .returned (.bool true) ∧ Below w.heap.size w w' := by
  have h := eqIntS_any A B c d xs xs w hn hn hA hB
  rwa [tb_t rfl] at h

set_option maxHeartbeats 1000000 in
set_option maxRecDepth 100000 in
theorem markIntS_any (A : Option Addr) (c lo hi : Nat) (k0 : Int) (xs : List Int) (w : World) (hk : 0 ≤ k0) (hn : xs.length ≤ 16777216) (hk1 : k0 ≤ 1099511627776) (hA : FlO one 1 lo hi w A xs) :
    Calls Try.prog 20 #[.slice A xs.length c, .int .i64 k0] w fun e w' => e = .returned (.int .i64 (k0 + (xs.length : Int))) ∧ Num lo hi w' A xs.length k0 ∧ Touch lo hi w w' := by
  by_cases hne : xs = []
  · subst hne
    go_enter Try.func20, Try.ntmps20
    go_wp2
    refine wp_loop_rounds 1 ?_; rw [rounds_succ]
    go_wp2
    go_ret
    exact ⟨ret_int (by simp), Num.zero, Touch.refl _ _ _⟩
  · obtain ⟨b, o, rfl, hb, h1, h2, hM0⟩ := hA.mark (fun _ => rfl) hne k0
    obtain ⟨n, hnn⟩ : ∃ n, n = xs.length := ⟨_, rfl⟩
    rw [← hnn] at hn hM0 ⊢
    rw [Nat.mul_one] at hM0
    clear hnn hA hne
    go_enter Try.func20, Try.ntmps20
    go_wp2
    go_loopw [1, 5] (fun q i wr => ∃ m : Nat, m ≤ n ∧ i = .int .i64 m ∧ q = .int .i64 (k0 + (m : Int)) ∧ b < wr.heap.size ∧ Mark b o lo hi n m k0 w wr) (fun _ i _ => n - (intOf i).toNat)
    case atStart => exact ⟨0, by omega, rfl, by simp, hb, hM0⟩
    case round =>
      obtain ⟨m, hm, rfl, rfl, hbs, hM⟩ := hrel
      obtain ⟨q, hq⟩ : ∃ q, q = k0 + (m : Int) := ⟨_, rfl⟩
      rw [← hq]
      by_cases hlt : m < n
      · have hq0 : 0 ≤ q := by omega
        have hq1 : q ≤ 2199023255552 := by omega
        have hQ := Lib.hid hq
        clear hq
        have hfz := hM.frozen
        obtain ⟨z0, hz0⟩ := hM.there m hlt
        go_wp2
        go_roundw
        case rel =>
          refine ⟨m + 1, by omega, by go_num, ?_, by simpa [World.setCell] using hbs, ?_⟩
          · have := hQ.out
            congr 1
            omega
          · have := hQ.out
            exact Mark.step' hM h1 h2 hlt (by omega) (by omega) (by omega)
        case measure => simp [intOf]; omega
      · have hkn : m = n := by omega
        subst hkn
        go_wp2
        go_ret
        exact ⟨ret_int (by first | rfl | exact hq), hM.num (Nat.le_refl _) hbs h1 h2, hM.touch⟩

set_option maxHeartbeats 1000000 in
set_option maxRecDepth 100000 in
theorem heldIntS_any (A : Option Addr) (n c lo hi : Nat) (k0 : Int) (w : World) (hk : 0 ≤ k0) (hn : n ≤ 16777216) (hk1 : k0 ≤ 1099511627776) (hA : Num lo hi w A n k0) :
    Calls Try.prog 21 #[.slice A n c, .int .i64 k0] w fun e w' => e = .returned (.int .i64 (k0 + (n : Int))) ∧ w = w' := by
  go_enter Try.func21, Try.ntmps21
  go_wp2
  go_loop [1, 5] (fun q i => ∃ m : Nat, m ≤ n ∧ i = .int .i64 m ∧ q = .int .i64 (k0 + (m : Int))) (fun _ i => n - (intOf i).toNat)
  case atStart => exact ⟨0, by omega, rfl, by simp⟩
  case round =>
    obtain ⟨m, hm, rfl, rfl⟩ := hrel
    obtain ⟨q, hq⟩ : ∃ q, q = k0 + (m : Int) := ⟨_, rfl⟩
    rw [← hq]
    by_cases hlt : m < n
    · obtain ⟨b, o, rfl, hb, _, _, hc⟩ := hA (by omega)
      have hq0 : 0 ≤ q := by omega
      have hq1 : q ≤ 2199023255552 := by omega
      have c0 : w.cell? ⟨b, o + m, none⟩ = some (.int .i64 q) := by rw [hc m (by omega), hq]
      have hQ := Lib.hid hq
      clear hq hc hA
      go_wp2
      go_round
      case rel =>
        refine ⟨m + 1, by omega, by go_num, ?_⟩
        have := hQ.out
        congr 1
        omega
      case measure => simp [intOf]; omega
    · have hkn : m = n := by omega
      subst hkn
      go_wp2
      go_ret
      exact ⟨ret_int (by first | rfl | exact hq), rfl⟩
end Go.Proofs.Ytbldoidcjkffdaa
