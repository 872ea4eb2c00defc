/- The laws' own functions over structs that hold a slice: the marks. -/
import Derived.Test.YtbmdhkdlhohjhaaBoxLaw
namespace Go.Proofs.Ytbmdhkdlhohjhaa
open Go.RowKit
set_option linter.unusedVariables false
set_option linter.unusedSimpArgs false
set_option maxHeartbeats 2000000 in
set_option maxRecDepth 100000 in
theorem markIntA4S_any (A : Option Addr) (c lo hi : Nat) (k0 : Int) (xs : List Four) (w : World) (hk : 0 ≤ k0) (hn : xs.length ≤ 16777216) (hk1 : k0 ≤ 1099511627776) (hA : FlO Four.ints 4 lo hi w A xs) :
    Calls Try.prog 59 #[.slice A xs.length c, .int .i64 k0] w fun e w' => e = .returned (.int .i64 (k0 + (xs.length : Int) * 4)) ∧ Num lo hi w' A (xs.length * 4) k0 ∧ Touch lo hi w w' := by
  by_cases hne : xs = []
  · subst hne
    go_enter Try.func59, Try.ntmps59
    go_wp2
    refine wp_loop_rounds 1 ?_; rw [rounds_succ]
    go_wp2
    go_ret
    exact ⟨ret_int (by simp), Num.zero, Touch.refl _ _ _⟩
  · obtain ⟨b, o, rfl, hb, h1, h2, hM0⟩ := hA.mark (fun _ => rfl) hne k0
    obtain ⟨n, hnn⟩ : ∃ n, n = xs.length := ⟨_, rfl⟩
    rw [← hnn] at hn hM0 ⊢
    clear hnn hA hne
    go_enter Try.func59, Try.ntmps59
    go_wp2
    go_loopw [1, 5] (fun q i wr => ∃ m : Nat, m ≤ n ∧ i = .int .i64 m ∧ q = .int .i64 (k0 + (m : Int) * 4) ∧ b < wr.heap.size ∧ Mark b o lo hi (n * 4) (m * 4) k0 w wr) (fun _ i _ => n - (intOf i).toNat)
    case atStart => exact ⟨0, by omega, rfl, by simp, hb, by simpa using hM0⟩
    case round =>
      obtain ⟨m, hm, rfl, rfl, hbs, hM⟩ := hrel
      obtain ⟨q, hq⟩ : ∃ q, q = k0 + (m : Int) * 4 := ⟨_, rfl⟩
      rw [← hq]
      by_cases hlt : m < n
      · have hq0 : 0 ≤ q := by omega
        have hq1 : q ≤ 2199023255552 := by omega
        have hQ := Lib.hid hq
        clear hq
        have hfz := hM.frozen
        have hth : ∀ j, j < 4 → ∃ u, wr.cell? ⟨b, o + (m * 4 + j), none⟩ = some u := fun j hj => hM.there _ (by omega)
        obtain ⟨z0, hz0⟩ : ∃ u, wr.cell? ⟨b, o + m * 4, none⟩ = some u := hth 0 (by omega)
        obtain ⟨z1, hz1⟩ : ∃ u, wr.cell? ⟨b, o + m * 4 + 1, none⟩ = some u := hth 1 (by omega)
        obtain ⟨z2, hz2⟩ : ∃ u, wr.cell? ⟨b, o + m * 4 + 2, none⟩ = some u := hth 2 (by omega)
        obtain ⟨z3, hz3⟩ : ∃ u, wr.cell? ⟨b, o + m * 4 + 3, none⟩ = some u := hth 3 (by omega)
        have hk0' : (0 : Int) ≤ (m : Int) := by omega
        have hk1' : (m : Int) < (n : Int) := by omega
        clear hth
        go_wp2
        refine wp_loop_rounds 5 ?_
        repeat any_goals (rw [rounds_succ]; go_wp2)
        go_roundw
        case rel =>
          refine ⟨m + 1, by omega, by go_num, ?_, by simpa [World.setCell] using hbs, ?_⟩
          · have := hQ.out
            congr 1
            omega
          · have := hQ.out
            refine Mark.step' (m := m * 4 + 3) ?_ h1 h2 (by omega) (by omega) (by omega) (by omega)
            refine Mark.step' (m := m * 4 + 2) ?_ h1 h2 (by omega) (by omega) (by omega) (by omega)
            refine Mark.step' (m := m * 4 + 1) ?_ h1 h2 (by omega) (by omega) (by omega) (by omega)
            refine Mark.step' (m := m * 4 + 0) ?_ h1 h2 (by omega) (by omega) (by omega) (by omega)
            exact hM
        case measure => simp [intOf]; omega
      · have hkn : m = n := by omega
        subst hkn
        go_wp2
        go_ret
        exact ⟨ret_int (by first | rfl | exact hq), hM.num (Nat.le_refl _) hbs h1 h2, hM.touch⟩
set_option maxHeartbeats 1000000 in
theorem markLand_any (wide high steep : Int) (A : Option Addr) (c lo hi : Nat) (k0 : Int) (xs : List Four) (w : World) (hk : 0 ≤ k0) (hn : xs.length ≤ 16777216) (hk1 : k0 ≤ 1099511627776) (hA : FlO Four.ints 4 lo hi w A xs) :
    Calls Try.prog 24 #[.agg #[.int .i64 wide, .int .i64 high, .slice A xs.length c, .int .i64 steep], .int .i64 k0] w fun e w' => e = .returned (.int .i64 (k0 + (xs.length : Int) * 4)) ∧ Num lo hi w' A (xs.length * 4) k0 ∧ Touch lo hi w w' := by
  have hmk := fun W hW => markIntA4S_any A c lo hi k0 xs W hk hn hk1 hW
  obtain ⟨N, hN⟩ : ∃ N, N = xs.length := ⟨_, rfl⟩
  obtain ⟨V0, hV0, hC0, hz0, _, _⟩ := box_world w #[Value.int .i64 wide, .int .i64 high, .slice A N c, .int .i64 steep] 30
  rw [← hN] at hmk ⊢
  obtain ⟨K, hK⟩ : ∃ K, K = k0 + (N : Int) * 4 := ⟨_, rfl⟩
  rw [← hK] at hmk ⊢
  have HM := Lib.hid hmk
  clear hmk hN hK
  go_enter Try.func24, Try.ntmps24
  go_wp2_with fail
  clear hV0
  refine (HM.out V0 (hA.ext hC0)).mono ?_
  rintro e w1 ⟨rfl, hN1, hT1⟩
  go_wp2
  go_ret
  exact ⟨rfl, hN1, (Touch.of_ext hC0).trans hT1⟩
end Go.Proofs.Ytbmdhkdlhohjhaa
