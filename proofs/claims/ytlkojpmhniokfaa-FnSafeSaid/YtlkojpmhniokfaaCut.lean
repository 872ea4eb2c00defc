/- Parts of slices of structs; a world that has one block more. No Go text is spoken of here. -/
import Derived.Test.YtlkojpmhniokfaaBase
import Derived.Test.YtlkojpmhniokfaaBase2
namespace Go.Proofs.Ytlkojpmhniokfaa
open Go.RowKit
set_option linter.unusedVariables false
set_option linter.unusedSimpArgs false
theorem cut_lt (w : World) (o : Obj) : w.heap.size < (w.alloc o).drew.heap.size := by
  have h : w.heap.size < (w.alloc o).heap.size := by simp
  exact h
theorem cut_cell (w : World) (cs : Array Value) (t : TypeId) (j : Nat) : (w.alloc (.cells cs t)).drew.cell? ⟨w.heap.size, j, none⟩ = cs[j]? := World.cell?_alloc_new w cs t j
theorem Fl.takeC {α : Type} {f : α → List Int} {sz : Nat} {w : World} {A : Option Addr} {xs : List α} (h : Fl f sz w A xs) (k : Nat) : Fl f sz w A (xs.take k) := fun hn => by
  obtain ⟨b, o, h1, h2, h3⟩ := h (fun e => hn (by rw [e]; simp))
  refine ⟨b, o, h1, h2, fun i x hx => h3 i x ?_⟩
  rw [List.getElem?_take] at hx
  split at hx
  · exact hx
  · cases hx
theorem Fl.dropC {α : Type} {f : α → List Int} {sz : Nat} {w : World} {b o : Nat} {xs : List α} (h : Fl f sz w (some ⟨b, o, none⟩) xs) (k : Nat) : Fl f sz w (some ⟨b, o + k * sz, none⟩) (xs.drop k) := fun hn => by
  obtain ⟨b', o', h1, h2, h3⟩ := h (fun e => hn (by rw [e]; simp))
  injection h1 with h1
  injection h1 with e1 e2 _
  subst e1 e2
  refine ⟨b, o + k * sz, rfl, h2, fun i x hx j v hv => ?_⟩
  rw [List.getElem?_drop] at hx
  have := h3 (k + i) x hx j v hv
  rwa [Nat.add_mul, ← Nat.add_assoc] at this
end Go.Proofs.Ytlkojpmhniokfaa
