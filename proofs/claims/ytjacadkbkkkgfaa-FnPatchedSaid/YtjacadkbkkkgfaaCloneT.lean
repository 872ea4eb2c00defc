/- slices.Clone over tiles. -/
import Derived.Test.YtjacadkbkkkgfaaFamTile
import Derived.Test.YtjacadkbkkkgfaaOwn2
namespace Go.Proofs.Ytjacadkbkkkgfaa
open Go.RowKit
set_option linter.unusedVariables false
set_option linter.unusedSimpArgs false

set_option maxHeartbeats 1000000 in
set_option maxRecDepth 100000 in
theorem cloneTile_any (A : Option Addr) (c : Nat) (xs : List Tile) (w : World) (hn : xs.length ≤ 16777216) (hA : Fl Tile.ints 3 w A xs) :
    Calls Try.prog 39 #[.slice A xs.length c] w fun e w' => ∃ B d, e = .returned (.slice B xs.length d) ∧ OwnF Tile.ints 3 w.heap.size 39 w' (.slice B xs.length d) xs ∧ Below w.heap.size w w' := by
  obtain ⟨i0, hi, hz0, hz1, hz2⟩ := info_parts infoTile
  have heq := fun (u : World) (a : Option Addr) (n c : Nat) => Lib.run_eql_slice_nil (P := Try.prog) u 24 39 a n c 0 0 Try.underlying24
  rcases A with _ | ad
  · have hx : xs = [] := by
      by_cases hne : xs = []
      · exact hne
      · obtain ⟨b, o, h1, _⟩ := hA hne
        cases h1
    subst hx
    go_enter Try.func39, Try.ntmps39
    go_wp2
    go_ret
    exact ⟨none, 0, rfl, OwnF.none_, Below.refl _ _⟩
  · go_enter Try.func39, Try.ntmps39
    go_wp2_with (at_builtin; refine wpList_append_all (f := Tile.ints) rfl _ _ _ rfl w.heap.size i0 _ 3 _ Try.underlying24 hi hz0 hz1 hz2 rfl (by decide) _ [] rfl (OwnF.empty (Nat.le_refl _)) (some ad) c xs rfl (hA.ext (by go_grown)) (fun _ => rfl) (by simp; omega) (by decide) (by simp) ?_; intro v' w1 hown hg hb1)
    have hx1 : Below w.heap.size w w1 := (by go_grown : Below w.heap.size w _).trans hb1
    rw [List.nil_append] at hown
    obtain ⟨B, d, hv, _⟩ := hown.form (fun _ => rfl)
    subst hv
    go_ret
    exact ⟨B, d, rfl, hown, hx1⟩
end Go.Proofs.Ytjacadkbkkkgfaa
