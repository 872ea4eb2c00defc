/- slices.Sort over integers that the call itself has made. -/
import Derived.Test.YtnikeelpcokffaaDoorShelf
import Derived.Test.YtnikeelpcokffaaDoorFamInt
import Derived.Test.YtnikeelpcokffaaDoorOwn2
import Derived.Sort.OwnSortedInts
namespace Go.Proofs.YtnikeelpcokffaaDoor
open Go.RowKit
set_option linter.unusedVariables false
set_option linter.unusedSimpArgs false

theorem row_one : ∀ l : List Int, row one l = l.map (Value.int .i64)
  | [] => rfl
  | x :: r => by
    have ih := row_one r
    unfold row at ih ⊢
    rw [List.flatMap_cons, ih]
    rfl
def leI (x y : Int) : Bool := decide (x ≤ y)
theorem sortOwn_any (lo : Nat) (v : Value) (xs : List Int) (w : World) (hn : xs.length ≤ 16777216) (hlo : lo ≤ w.heap.size) (h : OwnF one 1 lo 3 w v xs) :
    Calls Tryd.prog 61 #[v] w fun e w' => e = .returned (.tuple #[]) ∧ OwnF one 1 lo 3 w' v (xs.mergeSort leI) ∧ w.grownBy w' v.ownBlock ∧ Below lo w w' := by
  rcases h.2 with ⟨rfl, h0⟩ | ⟨g, cap, cur, rfl, hg, hh, hnc, hcm, hcs, htk⟩
  · have hx : xs = [] := List.length_eq_zero_iff.1 h0
    subst hx
    refine (Tryd.slices_Sort_int_none none 0 w).mono ?_
    rintro e w' ⟨rfl, rfl⟩
    exact ⟨rfl, by simpa [List.mergeSort] using OwnF.none_, World.grownBy.refl _ _, Below.refl _ _⟩
  · have hgw : g < w.heap.size := (Array.getElem?_eq_some_iff.1 hh).1
    rw [row_one, Nat.mul_one] at htk
    refine (Tryd.slices_Sort_int g 0 cap xs w (holds_of_blockI hh htk) hgw (by omega)).mono ?_
    rintro e w' ⟨rfl, n, os, rfl⟩
    have hl : (xs.mergeSort fun x y => decide (x ≤ y)).length = xs.length := List.length_mergeSort xs
    have ho := ownsRow_sortedI (w := w) (base := lo) (n := n) (os := os) hl hg hh hnc hcm (by omega)
    have hgr := grownBy_sortedI (w := w) (n := n) (os := os) (xs.mergeSort fun x y => decide (x ≤ y)).toArray (g := g)
    refine ⟨rfl, ?_, hgr, (Below.refl _ _).grown hgr hlo (fun k hk => by injection hk with hk; omega)⟩
    unfold OwnF
    rw [row_one]
    have hl2 : (xs.mergeSort leI).length = xs.length := hl
    rw [hl2]
    exact ho
theorem leI_trans : ∀ a b c : Int, leI a b = true → leI b c = true → leI a c = true := fun a b c h k => by simp [leI] at *; omega
theorem leI_total : ∀ a b : Int, (leI a b || leI b a) = true := fun a b => by simp [leI]; omega
theorem sort_sorted (xs : List Int) : (xs.mergeSort leI).Pairwise (fun x y => x ≤ y) := by
  have := List.pairwise_mergeSort leI_trans leI_total xs
  refine this.imp fun h => by simpa [leI] using h
theorem sort_perm (xs : List Int) : (xs.mergeSort leI).Perm xs := List.mergeSort_perm xs leI
/-- sorted lists of the same elements are the same -/
theorem sorted_unique {xs ys : List Int} (hp : xs.Perm ys) (hx : xs.Pairwise (fun x y => x ≤ y)) (hy : ys.Pairwise (fun x y => x ≤ y)) : xs = ys :=
  hp.eq_of_pairwise (fun a b _ _ h k => Int.le_antisymm h k) hx hy
end Go.Proofs.YtnikeelpcokffaaDoor
