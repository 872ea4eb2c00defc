/- Copies whose capacities are known. -/
import Derived.Test.YtbnlbcbdhmmlgaaGreatDoorFamHeld
import Derived.Test.YtbnlbcbdhmmlgaaGreatDoorPut
namespace Go.Proofs.YtbnlbcbdhmmlgaaGreatDoor
open Go.RowKit
set_option linter.unusedVariables false
set_option linter.unusedSimpArgs false

def NlC (w : World) (A : Option Addr) (xs : List Nest) : Prop :=
  xs ≠ [] → ∃ b o, A = some ⟨b, o, none⟩ ∧ b < w.heap.size ∧ ∀ i x, xs[i]? = some x → ∃ A' d, NAt w b (o + i * 4) x A' d ∧ Fl one 1 w A' x.l ∧ Cap A' x.l.length d
theorem NlC.nl {w : World} {A : Option Addr} {xs : List Nest} (h : NlC w A xs) : Nl w A xs := fun hn => by
  obtain ⟨b, o, h1, h2, h3⟩ := h hn
  exact ⟨b, o, h1, h2, fun i x hx => by obtain ⟨A', d, h4, h5, _⟩ := h3 i x hx; exact ⟨A', d, h4, h5⟩⟩
theorem NlC.ext {w w' : World} {A : Option Addr} {xs : List Nest} (h : NlC w A xs) (hb : Below w.heap.size w w') : NlC w' A xs := fun hn => by
  obtain ⟨b, o, h1, h2, h3⟩ := h hn
  refine ⟨b, o, h1, Nat.lt_of_lt_of_le h2 hb.size, fun i x hx => ?_⟩
  obtain ⟨A', d, h4, h5, h6⟩ := h3 i x hx
  exact ⟨A', d, h4.cells fun j => hb.cell (p := ⟨b, j, none⟩) h2, h5.ext hb, h6⟩
theorem NlC.at_ {w : World} {A : Option Addr} {xs : List Nest} (h : NlC w A xs) {k : Nat} (hk : k < xs.length) : ∃ x b o A' d, xs[k]? = some x ∧ A = some ⟨b, o, none⟩ ∧ b < w.heap.size ∧ NAt w b (o + k * 4) x A' d ∧ Fl one 1 w A' x.l ∧ Cap A' x.l.length d := by
  obtain ⟨b, o, h1, h2, h3⟩ := h (fun e => by subst e; simp at hk)
  have hx : xs[k]? = some xs[k] := List.getElem?_eq_getElem hk
  obtain ⟨A', d, h4, h5, h6⟩ := h3 k _ hx
  exact ⟨xs[k], b, o, A', d, hx, h1, h2, h4, h5, h6⟩
def CapTo (S : Nat → Option Addr) (D : Nat → Nat) (xs : List Nest) (k : Nat) : Prop := ∀ (i : Nat) (x : Nest), i < k → xs[i]? = some x → D i = x.l.length ∧ ∃ b, S i = some ⟨b, 0, none⟩
theorem CapTo.step {S : Nat → Option Addr} {D : Nat → Nat} {xs : List Nest} {k B : Nat} {x : Nest} (h : CapTo S D xs k) (hx : xs[k]? = some x) : CapTo (fun i => if i = k then some ⟨B, 0, none⟩ else S i) (fun i => if i = k then x.l.length else D i) xs (k + 1) := fun i y hi hy => by
  by_cases e : i = k
  · subst e
    rw [hy] at hx
    cases hx
    simp
  · simp only [if_neg e]
    exact h i y (by omega) hy
theorem NFill.nlc {B n k : Nat} {xs : List Nest} {g : Nat → Nat} {S : Nat → Option Addr} {D : Nat → Nat} {wr : World} (h : NFill B n xs g S D k wr) (hc : CapTo S D xs k) (hk : xs.length ≤ k) (hn : wt xs ≤ 1048576) : NlC wr (some ⟨B, 0, none⟩) xs := fun _ =>
  ⟨B, 0, rfl, h.size, fun i x hx => by
    have hi : i < k := Nat.lt_of_lt_of_le (lt_of_get hx) hk
    obtain ⟨h1, b, h2⟩ := hc i x hi hx
    have := wt_in (List.mem_of_getElem? hx)
    rw [Nat.zero_add]
    exact ⟨S i, D i, h.cell i x hi hx, (h.own i x hi hx).fl, by rw [h1]; exact Nat.le_refl _, by rw [h1]; omega, .inr ⟨b, 0, h2⟩⟩⟩
end Go.Proofs.YtbnlbcbdhmmlgaaGreatDoor
