/- The capacity of a slice of one's own. No condition. -/
import Derived.Test.YtlagfeccdcjimaaDoorFamInt
import Derived.Test.YtlagfeccdcjimaaDoorLst
namespace Go.Proofs.YtlagfeccdcjimaaDoor
open Go.RowKit
set_option linter.unusedVariables false
set_option linter.unusedSimpArgs false

theorem OwnF.caps {α : Type} {f : α → List Int} {sz lo : Nat} {e : TypeId} {w : World} {v : Value} {ys : List α} (h : OwnF f sz lo e w v ys) : ∃ A c, v = .slice A ys.length c ∧ ys.length ≤ c ∧ c ≤ 9223372036854775807 := by
  rcases h.2 with ⟨rfl, hn⟩ | ⟨g, cap, cur, rfl, _, _, hnc, hcm, _⟩
  · exact ⟨none, 0, by rw [hn], by omega, by omega⟩
  · exact ⟨_, cap, rfl, hnc, by simp only [maxLen] at hcm; omega⟩
end Go.Proofs.YtlagfeccdcjimaaDoor
