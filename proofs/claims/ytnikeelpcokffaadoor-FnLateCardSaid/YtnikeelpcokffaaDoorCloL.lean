/- slices.Clone over loans. No condition. -/
import Derived.Test.YtnikeelpcokffaaDoorFamLoan
import Derived.Test.YtnikeelpcokffaaDoorOwn2
import Derived.Test.YtnikeelpcokffaaDoorBase2
namespace Go.Proofs.YtnikeelpcokffaaDoor
open Go.RowKit
set_option linter.unusedVariables false
set_option linter.unusedSimpArgs false

theorem OwnF.formL {α : Type} {f : α → List Int} {sz lo : Nat} {e : TypeId} {w : World} {v : Value} {ys : List α} (h : OwnF f sz lo e w v ys) (hls : ∀ y, (f y).length = sz) : ∃ A c, v = .slice A ys.length c ∧ (ys.length ≤ c ∧ c ≤ 9223372036854775807) ∧ FlO f sz lo w.heap.size w A ys := by
  obtain ⟨A, c, hv, hF⟩ := h.form hls
  rcases h.2 with ⟨hv2, hn⟩ | ⟨g, cap, cur, hv2, _, _, hnc, hcm, _⟩
  · rw [hv] at hv2
    injection hv2 with e1 e2 e3
    subst e3
    exact ⟨A, 0, hv, ⟨by omega, by omega⟩, hF⟩
  · rw [hv] at hv2
    injection hv2 with e1 e2 e3
    subst e3
    exact ⟨A, c, hv, ⟨by omega, by simp only [maxLen] at hcm; omega⟩, hF⟩
def RetLC {α : Type} (f : α → List Int) (sz : Nat) (w : World) (ys : List α) (ok : Bool) (e : Ending) (w' : World) : Prop :=
  ∃ B d, e = .returned (.tuple #[.slice B ys.length d, .bool ok]) ∧ (ys.length ≤ d ∧ d ≤ 9223372036854775807) ∧ FlO f sz w.heap.size w'.heap.size w' B ys ∧ Below w.heap.size w w'
def RetLIC {α : Type} (f : α → List Int) (sz : Nat) (w : World) (ys : List α) (q : Int) (ok : Bool) (e : Ending) (w' : World) : Prop :=
  ∃ B d, e = .returned (.tuple #[.slice B ys.length d, .int .i64 q, .bool ok]) ∧ (ys.length ≤ d ∧ d ≤ 9223372036854775807) ∧ FlO f sz w.heap.size w'.heap.size w' B ys ∧ Below w.heap.size w w'
set_option maxHeartbeats 1000000 in
set_option maxRecDepth 100000 in
theorem cloneLoan_any (A : Option Addr) (c : Nat) (xs : List Loan) (w : World) (hn : xs.length ≤ 16777216) (hA : Fl Loan.ints 5 w A xs) :
    Calls Tryd.prog 45 #[.slice A xs.length c] w fun e w' => ∃ B d, e = .returned (.slice B xs.length d) ∧ OwnF Loan.ints 5 w.heap.size 43 w' (.slice B xs.length d) xs ∧ Below w.heap.size w w' := by
  obtain ⟨i0, hi, hz0, hz1, hz2⟩ := info_parts infoLoan
  have heq := fun (u : World) (a : Option Addr) (n c : Nat) => Lib.run_eql_slice_nil (P := Tryd.prog) u 24 43 a n c 0 0 Tryd.underlying24
  rcases A with _ | ad
  · have hx : xs = [] := by
      by_cases hne : xs = []
      · exact hne
      · obtain ⟨b, o, h1, _⟩ := hA hne
        cases h1
    subst hx
    go_enter Tryd.func45, Tryd.ntmps45
    go_wp2
    go_ret
    exact ⟨none, 0, rfl, OwnF.none_, Below.refl _ _⟩
  · go_enter Tryd.func45, Tryd.ntmps45
    go_wp2_with (at_builtin; refine wpList_append_all (f := Loan.ints) rfl _ _ _ rfl w.heap.size i0 _ 5 _ Tryd.underlying24 hi hz0 hz1 hz2 rfl (by decide) _ [] rfl (OwnF.empty (Nat.le_refl _)) (some ad) c xs rfl (hA.ext (by go_grown)) (fun _ => rfl) (by simp; omega) (by decide) (by simp) ?_; intro v' w1 hown hg hb1)
    have hx1 : Below w.heap.size w w1 := (by go_grown : Below w.heap.size w _).trans hb1
    rw [List.nil_append] at hown
    obtain ⟨B, d, hv, _⟩ := hown.form (fun _ => rfl)
    subst hv
    go_ret
    exact ⟨B, d, rfl, hown, hx1⟩
end Go.Proofs.YtnikeelpcokffaaDoor
