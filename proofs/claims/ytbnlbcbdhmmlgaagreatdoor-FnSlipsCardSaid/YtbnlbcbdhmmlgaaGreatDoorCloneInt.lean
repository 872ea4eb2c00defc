/- Copies of []int in memory of their own: slices.Clone and the reference's l1Own. -/
import Derived.Test.YtbnlbcbdhmmlgaaGreatDoorMgB
import Derived.Test.YtbnlbcbdhmmlgaaGreatDoorMgA
namespace Go.Proofs.YtbnlbcbdhmmlgaaGreatDoor
open Go.RowKit
set_option linter.unusedVariables false
set_option linter.unusedSimpArgs false
/-- a call that hands back a copy in new memory -/
def RetC (w : World) (xs : List Int) (e : Ending) (w' : World) : Prop :=
  ∃ B d, e = .returned (.slice B xs.length d) ∧ OwnF one 1 w.heap.size 3 w' (.slice B xs.length d) xs ∧ Below w.heap.size w w'
set_option maxHeartbeats 1000000 in
set_option maxRecDepth 100000 in
theorem cloneInt_any (A : Option Addr) (c : Nat) (xs : List Int) (w : World) (hn : xs.length ≤ 16777216) (hA : Fl one 1 w A xs) :
    Calls Tryz.prog 68 #[.slice A xs.length c] w (RetC w xs) := by
  obtain ⟨i0, hi, hz0, hz1, hz2⟩ := info_parts infoInt
  have heq := fun (u : World) (a : Option Addr) (n c : Nat) => Lib.run_eql_slice_nil (P := Tryz.prog) u 31 3 a n c 0 0 Tryz.underlying31
  rcases A with _ | ad
  · have hx : xs = [] := by
      by_cases hne : xs = []
      · exact hne
      · obtain ⟨b, o, h1, _⟩ := hA hne
        cases h1
    subst hx
    go_enter Tryz.func68, Tryz.ntmps68
    go_wp2
    go_ret
    exact ⟨none, 0, rfl, OwnF.none_, Below.refl _ _⟩
  · go_enter Tryz.func68, Tryz.ntmps68
    go_wp2_with (at_builtin; refine wpList_append_all (f := one) rfl _ _ _ rfl w.heap.size i0 _ 1 _ Tryz.underlying31 hi hz0 hz1 hz2 rfl (by decide) _ [] rfl (OwnF.empty (Nat.le_refl _)) (some ad) c xs rfl (hA.ext (by go_grown)) (fun _ => rfl) (by simp; omega) (by decide) (by simp) ?_; intro v' w1 hown hg hb1)
    have hx1 : Below w.heap.size w w1 := (by go_grown : Below w.heap.size w _).trans hb1
    rw [List.nil_append] at hown
    obtain ⟨B, d, hv, _⟩ := hown.form (fun _ => rfl)
    subst hv
    go_ret
    exact ⟨B, d, rfl, hown, hx1⟩
set_option maxHeartbeats 1000000 in
set_option maxRecDepth 100000 in
theorem l1Own_any (A : Option Addr) (c : Nat) (xs : List Int) (w : World) (hn : xs.length ≤ 16777216) (hA : Fl one 1 w A xs) :
    Calls Tryz.prog 59 #[.slice A xs.length c] w (RetC w xs) := by
  obtain ⟨i0, hi, hz0, hz1, hz2⟩ := info_parts infoInt
  go_enter Tryz.func59, Tryz.ntmps59
  go_wp2_with (at_builtin; refine wpList_append_all (f := one) rfl _ _ _ rfl w.heap.size i0 _ 1 _ Tryz.underlying31 hi hz0 hz1 hz2 rfl (by decide) _ [] rfl (OwnF.empty (Nat.le_refl _)) A c xs rfl (hA.ext (by go_grown)) (fun _ => rfl) (by simp; omega) (by decide) (by simp) ?_; intro v' w1 hown hg hb1)
  have hx1 : Below w.heap.size w w1 := (by go_grown : Below w.heap.size w _).trans hb1
  rw [List.nil_append] at hown
  obtain ⟨B, d, hv, _⟩ := hown.form (fun _ => rfl)
  subst hv
  go_ret
  exact ⟨B, d, rfl, hown, hx1⟩
end Go.Proofs.YtbnlbcbdhmmlgaaGreatDoor
