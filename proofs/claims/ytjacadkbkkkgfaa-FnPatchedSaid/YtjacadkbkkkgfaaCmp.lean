/- Go's own comparisons of integers and of pairs of integers. -/
import Derived.Test.YtjacadkbkkkgfaaProg
import Derived.Test.YtjacadkbkkkgfaaBase
namespace Go.Proofs.Ytjacadkbkkkgfaa
open Go.RowKit
set_option linter.unusedVariables false
set_option linter.unusedSimpArgs false

def cmpI (a b : Int) : Int := if a < b then -1 else if b < a then 1 else 0
theorem cmpI_bd (a b : Int) : -1 ≤ cmpI a b ∧ cmpI a b ≤ 1 := by unfold cmpI; split <;> (try split) <;> omega

set_option maxHeartbeats 400000 in
theorem cmpCompare_any (a b : Int) (w : World) :
    Calls Try.prog 72 #[.int .i64 a, .int .i64 b] w fun e w' => e = .returned (.int .i64 (cmpI a b)) ∧ w = w' := by
  rcases Int.lt_trichotomy a b with h | h | h
  · have e : cmpI a b = -1 := by unfold cmpI; rw [if_pos h]
    rw [e]
    clear e
    go_enter Try.func72, Try.ntmps72
    go_wp2
    go_ret
    exact ⟨rfl, rfl⟩
  · have e : cmpI a b = 0 := by unfold cmpI; rw [if_neg (by omega), if_neg (by omega)]
    have h1 : ¬ a < b := by omega
    have h2 : ¬ b < a := by omega
    rw [e]
    clear e h
    go_enter Try.func72, Try.ntmps72
    go_wp2
    go_ret
    exact ⟨rfl, rfl⟩
  · have e : cmpI a b = 1 := by unfold cmpI; rw [if_neg (by omega), if_pos h]
    have h1 : ¬ a < b := by omega
    rw [e]
    clear e
    go_enter Try.func72, Try.ntmps72
    go_wp2
    go_ret
    exact ⟨rfl, rfl⟩

def orI (a b : Int) : Int := if a = 0 then b else a

set_option maxHeartbeats 1000000 in
theorem slicesCompare_two (g g' c c' : Nat) (a0 a1 b0 b1 : Int) (w : World) (h0 : w.cell? ⟨g, 0, none⟩ = some (.int .i64 a0)) (h1 : w.cell? ⟨g, 1, none⟩ = some (.int .i64 a1))
    (k0 : w.cell? ⟨g', 0, none⟩ = some (.int .i64 b0)) (k1 : w.cell? ⟨g', 1, none⟩ = some (.int .i64 b1)) :
    Calls Try.prog 69 #[.slice (some ⟨g, 0, none⟩) 2 c, .slice (some ⟨g', 0, none⟩) 2 c'] w fun e w' => e = .returned (.int .i64 (orI (cmpI a0 b0) (cmpI a1 b1))) ∧ w = w' := by
  have hp := fun W => cmpCompare_any a0 b0 W
  have hq := fun W => cmpCompare_any a1 b1 W
  generalize cmpI a0 b0 = p at hp ⊢
  generalize cmpI a1 b1 = q at hq ⊢
  have HP := Lib.hid hp
  have HQ := Lib.hid hq
  clear hp hq
  unfold orI
  by_cases hp0 : p = 0
  · subst hp0
    rw [if_pos rfl]
    by_cases hq0 : q = 0
    · subst hq0
      go_enter Try.func69, Try.ntmps69
      go_wp2
      refine wp_loop_rounds 3 ?_
      rw [rounds_succ]
      go_wp2_with fail
      refine (HP.out _).mono ?_
      rintro e w' ⟨rfl, rfl⟩
      go_wp2
      rw [rounds_succ]
      go_wp2_with fail
      refine (HQ.out _).mono ?_
      rintro e w' ⟨rfl, rfl⟩
      go_wp2
      rw [rounds_succ]
      go_wp2
      go_ret
      exact ⟨rfl, rfl⟩
    · have hb1 : (q != 0) = true := by simpa using hq0
      clear hq0
      go_enter Try.func69, Try.ntmps69
      go_wp2
      refine wp_loop_rounds 3 ?_
      rw [rounds_succ]
      go_wp2_with fail
      refine (HP.out _).mono ?_
      rintro e w' ⟨rfl, rfl⟩
      go_wp2
      rw [rounds_succ]
      go_wp2_with fail
      refine (HQ.out _).mono ?_
      rintro e w' ⟨rfl, rfl⟩
      go_wp2
      go_ret
      exact ⟨rfl, rfl⟩
  · rw [if_neg hp0]
    have hb1 : (p != 0) = true := by simpa using hp0
    clear hp0
    go_enter Try.func69, Try.ntmps69
    go_wp2
    refine wp_loop_rounds 3 ?_
    rw [rounds_succ]
    go_wp2_with fail
    refine (HP.out _).mono ?_
    rintro e w' ⟨rfl, rfl⟩
    go_wp2
    go_ret
    exact ⟨rfl, rfl⟩
end Go.Proofs.Ytjacadkbkkkgfaa
