/- The slips missing from a copy: MissingSlips on both sides. -/
import Derived.Test.YtbnlbcbdhmmlgaaGreatDoorMiss
import Derived.Test.YtbnlbcbdhmmlgaaGreatDoorHeldI
import Derived.Test.YtbnlbcbdhmmlgaaGreatDoorHeldS
namespace Go.Proofs.YtbnlbcbdhmmlgaaGreatDoor
open Go.RowKit
set_option linter.unusedVariables false
set_option linter.unusedSimpArgs false

def atH (hs : List Nest) (number : Int) : Int := idxB (fun x => decide (x.a = number)) 0 hs
theorem atH_p (hs : List Nest) (number : Int) (h : 0 ≤ atH hs number) : ∃ (j : Nat) (y : Nest), atH hs number = (j : Int) ∧ hs[j]? = some y := by
  rcases idxB_p (fun x : Nest => decide (x.a = number)) hs 0 with ⟨h4, _⟩ | ⟨j', e', h4, h5, h6⟩
  · unfold atH at h; omega
  · exact ⟨j', e', by unfold atH; omega, h5⟩
noncomputable def missAt (xs : List Erratum) (hs : List Nest) (r day : Int) : List Int := match hs[r.toNat]? with | some x => miss x day xs | none => []
theorem missAt_len (xs : List Erratum) (hs : List Nest) (r day : Int) : (missAt xs hs r day).length ≤ xs.length := by
  unfold missAt; split
  · exact miss_len _ _ _
  · simp
theorem missAt_j {xs : List Erratum} {hs : List Nest} {j : Nat} {day : Int} {x : Nest} (h : hs[j]? = some x) : missAt xs hs (j : Int) day = miss x day xs := by simp [missAt, h]
def MsOk (xs : List Erratum) (hs : List Nest) (r day : Int) : Prop := HeldOk xs hs ∧ 0 ≤ r ∧ (0 ≤ day ∧ day ≤ 4000)
end Go.Proofs.YtbnlbcbdhmmlgaaGreatDoor
