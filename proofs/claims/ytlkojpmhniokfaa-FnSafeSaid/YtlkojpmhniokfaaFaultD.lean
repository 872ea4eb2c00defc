/- The first fault of a route: the words. -/
import Derived.Test.YtlkojpmhniokfaaLegK
import Derived.Test.YtlkojpmhniokfaaLegP
import Derived.Test.YtlkojpmhniokfaaAsk
namespace Go.Proofs.Ytlkojpmhniokfaa
open Go.RowKit
set_option linter.unusedVariables false
set_option linter.unusedSimpArgs false

/-- the fault and the number of its leg; the number of legs if there is none -/
noncomputable def faultL (wide high steep most : Int) (bars : List Four) : List Leg → Nat → Int → Int → Int → Int × Int
  | [], k, _, _, _ => (0, (k : Int))
  | x :: r, k, e, n, s =>
    @ite _ (steep * x.units < absI x.climb) (Classical.propDecidable _) (3, (k : Int))
      (if walkF wide high bars (stepE x.way) (stepN x.way) x.units.toNat e n = 0 then
        (if 150 * most < s + partsL x then (4, (k : Int)) else faultL wide high steep most bars r (k + 1) (e + stepE x.way * x.units) (n + stepN x.way * x.units) (s + partsL x))
      else (walkF wide high bars (stepE x.way) (stepN x.way) x.units.toNat e n, (k : Int)))
section
variable {wide high steep most : Int} {bars : List Four} {x : Leg} {r : List Leg} {k : Nat} {e n s : Int}
theorem faultL_steep (h : steep * x.units < absI x.climb) : faultL wide high steep most bars (x :: r) k e n s = (3, (k : Int)) := by
  rw [faultL, if_pos h]
theorem faultL_walk {f : Int} (h : ¬ steep * x.units < absI x.climb) (h2 : walkF wide high bars (stepE x.way) (stepN x.way) x.units.toNat e n = f) (h3 : f ≠ 0) : faultL wide high steep most bars (x :: r) k e n s = (f, (k : Int)) := by
  rw [faultL, if_neg h, h2, if_neg h3]
theorem faultL_late (h : ¬ steep * x.units < absI x.climb) (h2 : walkF wide high bars (stepE x.way) (stepN x.way) x.units.toNat e n = 0) (h3 : 150 * most < s + partsL x) : faultL wide high steep most bars (x :: r) k e n s = (4, (k : Int)) := by
  rw [faultL, if_neg h, if_pos h2, if_pos h3]
theorem faultL_go (h : ¬ steep * x.units < absI x.climb) (h2 : walkF wide high bars (stepE x.way) (stepN x.way) x.units.toNat e n = 0) (h3 : ¬ 150 * most < s + partsL x) : faultL wide high steep most bars (x :: r) k e n s = faultL wide high steep most bars r (k + 1) (e + stepE x.way * x.units) (n + stepN x.way * x.units) (s + partsL x) := by
  rw [faultL, if_neg h, if_pos h2, if_neg h3]
end
theorem stepF_in {wide high : Int} {bars : List Four} {e n a b : Int} (h : stepF wide high bars e n a b = 0) : InLand wide high (e + a) (n + b) := by
  by_cases h1 : InLand wide high (e + a) (n + b)
  · exact h1
  · rw [stepF_out h1] at h; cases h
/-- a way without a fault ends inside the land -/
theorem walkF_end {wide high : Int} {bars : List Four} {a b : Int} : ∀ (u : Nat) (e n : Int), 0 < u → walkF wide high bars a b u e n = 0 → InLand wide high (e + a * (u : Int)) (n + b * (u : Int))
  | 0, _, _, h, _ => by omega
  | 1, e, n, _, h => by
    by_cases h1 : stepF wide high bars e n a b = 0
    · have := stepF_in h1
      simpa using this
    · rw [walkF_stop rfl h1] at h; exact absurd h h1
  | u + 2, e, n, _, h => by
    by_cases h1 : stepF wide high bars e n a b = 0
    · rw [walkF_go h1] at h
      have ih := walkF_end (u + 1) (e + a) (n + b) (by omega) h
      have e1 : e + a + a * ((u + 1 : Nat) : Int) = e + a * ((u + 2 : Nat) : Int) := by
        rw [show ((u + 2 : Nat) : Int) = ((u + 1 : Nat) : Int) + 1 from by omega, Int.mul_add]; omega
      have e2 : n + b + b * ((u + 1 : Nat) : Int) = n + b * ((u + 2 : Nat) : Int) := by
        rw [show ((u + 2 : Nat) : Int) = ((u + 1 : Nat) : Int) + 1 from by omega, Int.mul_add]; omega
      rw [e1, e2] at ih
      exact ih
    · rw [walkF_stop rfl h1] at h; exact absurd h h1
end Go.Proofs.Ytlkojpmhniokfaa
