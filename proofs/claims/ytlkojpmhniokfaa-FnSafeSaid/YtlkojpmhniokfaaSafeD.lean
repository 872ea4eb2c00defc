/- Routes: where the first fault lies. -/
import Derived.Test.YtlkojpmhniokfaaFaultS
import Derived.Test.YtlkojpmhniokfaaFaultI
namespace Go.Proofs.Ytlkojpmhniokfaa
open Go.RowKit
set_option linter.unusedVariables false
set_option linter.unusedSimpArgs false

theorem faultL_idx {wide high steep most : Int} {bars : List Four} : ∀ (ls : List Leg) (k : Nat) (e n s : Int), ∃ j : Nat, (faultL wide high steep most bars ls k e n s).2 = (j : Int) ∧ k ≤ j ∧ j ≤ k + ls.length ∧ ((faultL wide high steep most bars ls k e n s).1 = 0 → j = k + ls.length) ∧ ((faultL wide high steep most bars ls k e n s).1 ≠ 0 → j < k + ls.length)
  | [], k, e, n, s => ⟨k, rfl, by omega, by simp, fun _ => by simp, fun h => absurd rfl h⟩
  | x :: r, k, e, n, s => by
    rw [List.length_cons]
    by_cases h1 : steep * x.units < absI x.climb
    · rw [faultL_steep h1]
      exact ⟨k, rfl, by omega, by omega, fun h => by simp at h, fun _ => by omega⟩
    · by_cases h2 : walkF wide high bars (stepE x.way) (stepN x.way) x.units.toNat e n = 0
      · by_cases h3 : 150 * most < s + partsL x
        · rw [faultL_late h1 h2 h3]
          exact ⟨k, rfl, by omega, by omega, fun h => by simp at h, fun _ => by omega⟩
        · rw [faultL_go h1 h2 h3]
          obtain ⟨j, a1, a2, a3, a4, a5⟩ := faultL_idx r (k + 1) (e + stepE x.way * x.units) (n + stepN x.way * x.units) (s + partsL x)
          exact ⟨j, a1, by omega, by omega, fun h => by have := a4 h; omega, fun h => by have := a5 h; omega⟩
      · rw [faultL_walk h1 rfl h2]
        exact ⟨k, rfl, by omega, by omega, fun h => absurd h h2, fun _ => by omega⟩
end Go.Proofs.Ytlkojpmhniokfaa
