/- Scans: places of which something holds. -/
import Derived.Test.YtjacadkbkkkgfaaSumAt
import Derived.Test.YtjacadkbkkkgfaaFamRows
import Derived.Test.YtjacadkbkkkgfaaOwn2
namespace Go.Proofs.Ytjacadkbkkkgfaa
open Go.RowKit
set_option linter.unusedVariables false
set_option linter.unusedSimpArgs false

noncomputable def rowFrom (p : Int → Int → Prop) (r : Int) : Nat → Int → List (List Int)
  | 0, _ => []
  | m + 1, c => @ite _ (p r c) (Classical.propDecidable _) ([r, c] :: rowFrom p r m (c + 1)) (rowFrom p r m (c + 1))
noncomputable def gridFrom (p : Int → Int → Prop) (cols : Nat) : Nat → Int → List (List Int)
  | 0, _ => []
  | m + 1, r => rowFrom p r cols 0 ++ gridFrom p cols m (r + 1)
theorem rowFrom_t {p : Int → Int → Prop} {r c : Int} {m : Nat} (h : p r c) : rowFrom p r (m + 1) c = [r, c] :: rowFrom p r m (c + 1) := by rw [rowFrom, if_pos h]
theorem rowFrom_f {p : Int → Int → Prop} {r c : Int} {m : Nat} (h : ¬ p r c) : rowFrom p r (m + 1) c = rowFrom p r m (c + 1) := by rw [rowFrom, if_neg h]
theorem rowFrom_wt (p : Int → Int → Prop) (r : Int) : ∀ (m : Nat) (c : Int), rwt (rowFrom p r m c) ≤ 3 * m
  | 0, _ => by simp [rowFrom, rwt]
  | m + 1, c => by
    have ih := rowFrom_wt p r m (c + 1)
    by_cases h : p r c
    · rw [rowFrom_t h, rwt]; simp; omega
    · rw [rowFrom_f h]; omega
theorem gridFrom_wt (p : Int → Int → Prop) (cols : Nat) : ∀ (m : Nat) (r : Int), rwt (gridFrom p cols m r) ≤ 3 * cols * m
  | 0, _ => by simp [gridFrom, rwt]
  | m + 1, r => by
    have h1 := rowFrom_wt p r cols 0
    have h2 := gridFrom_wt p cols m (r + 1)
    rw [gridFrom, rwt_append, Nat.mul_add]
    omega
/-- rows that have been made -/
def RetG (w : World) (ys : List (List Int)) (e : Ending) (w' : World) : Prop :=
  ∃ B d, e = .returned (.slice B ys.length d) ∧ GlO nohd slf 0 w.heap.size w'.heap.size w' B ys ∧ Below w.heap.size w w'
def missP (xs : List Tile) (r c : Int) : Prop := sumAt r c xs < 0
def otherP (xs ys : List Tile) (r c : Int) : Prop := sumAt r c xs ≠ sumAt r c ys
def AlikeS (ra ca : Int) (xs : List Tile) (rb cb : Int) (ys : List Tile) : Prop := Scn ra ca xs ∧ Scn rb cb ys ∧ ra = rb ∧ ca = cb
noncomputable def gridS (p : Int → Int → Prop) (rows cols : Int) : List (List Int) := gridFrom p cols.toNat rows.toNat 0
theorem grid_sel {P : Prop} {p : Int → Int → Prop} {rows cols : Int} (h : P → Side rows cols) : rwt (sel P (gridS p rows cols)) ≤ 1048576 := by
  by_cases hP : P
  · rw [sel_t hP]
    obtain ⟨h1, h2, h3, h4⟩ := h hP
    have hw := gridFrom_wt p cols.toNat rows.toNat 0
    have : 3 * cols.toNat * rows.toNat ≤ 3 * 6 * 6 := Nat.mul_le_mul (by omega) (by omega)
    unfold gridS
    omega
  · rw [sel_f hP]; simp [rwt]
end Go.Proofs.Ytjacadkbkkkgfaa
