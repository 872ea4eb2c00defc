/- Lists that are turned element by element. -/
import Derived.Test.YtdicopjoffdnnaaCopyHeld
namespace Go.Proofs.Ytdicopjoffdnnaa
open Go.RowKit
set_option linter.unusedVariables false
set_option linter.unusedSimpArgs false

def updTo (f : Nest → Nest) (hs : List Nest) (k : Nat) : List Nest := (hs.take k).map f ++ hs.drop k
section
variable {f : Nest → Nest} {hs : List Nest} {k : Nat} {x : Nest}
theorem updTo_zero (f : Nest → Nest) (hs : List Nest) : updTo f hs 0 = hs := by simp [updTo]
theorem updTo_all (hk : hs.length ≤ k) : updTo f hs k = hs.map f := by simp [updTo, take_all hk, drop_all hk]
theorem updTo_len (f : Nest → Nest) (hs : List Nest) (k : Nat) : (updTo f hs k).length = hs.length := by simp [updTo]; omega
theorem updTo_left (hx : hs[k]? = some x) : ((hs.take k).map f).length = k := by have := lt_of_get hx; rw [List.length_map, List.length_take]; omega
theorem updTo_get (hx : hs[k]? = some x) : (updTo f hs k)[k]? = some x := by
  unfold updTo
  rw [List.getElem?_append_right (by rw [updTo_left hx]; exact Nat.le_refl _), updTo_left hx, drop_get hx, Nat.sub_self]
  rfl
theorem updTo_step (hx : hs[k]? = some x) : (updTo f hs k).set k (f x) = updTo f hs (k + 1) := by
  unfold updTo
  rw [List.set_append_right _ _ (by rw [updTo_left hx]; exact Nat.le_refl _), updTo_left hx, take_get hx, List.map_append, drop_get hx, Nat.sub_self]
  simp
theorem lsum_map (D : Nat) : ∀ l : List Nest, (∀ x ∈ l, (f x).l.length ≤ x.l.length + D) → lsum (l.map f) ≤ lsum l + l.length * D
  | [], _ => by simp [lsum]
  | x :: r, h => by
    have h1 := h x List.mem_cons_self
    have h2 := lsum_map D r fun y hy => h y (List.mem_cons_of_mem _ hy)
    simp only [List.map_cons, lsum, List.length_cons, Nat.add_mul, Nat.one_mul]
    omega
theorem updTo_wt (D k : Nat) (h : ∀ x ∈ hs, (f x).l.length ≤ x.l.length + D) : wt (updTo f hs k) ≤ wt hs + hs.length * D := by
  have h1 := lsum_map (f := f) D (hs.take k) fun x hx => h x (List.mem_of_mem_take hx)
  have h2 : lsum (hs.take k) + lsum (hs.drop k) = lsum hs := by rw [← lsum_append, List.take_append_drop]
  have h3 : (hs.take k).length * D ≤ hs.length * D := Nat.mul_le_mul_right _ (by rw [List.length_take]; omega)
  unfold wt
  rw [updTo_len]
  unfold updTo
  rw [lsum_append]
  omega
end
theorem Fl.takeK {α : Type} {f : α → List Int} {sz : Nat} {w : World} {A : Option Addr} {xs : List α} (h : Fl f sz w A xs) (k : Nat) : Fl f sz w A (xs.take k) := fun hn => by
  obtain ⟨b, o, h1, h2, h3⟩ := h (fun e => hn (by rw [e]; simp))
  refine ⟨b, o, h1, h2, fun i x hx => h3 i x ?_⟩
  rw [List.getElem?_take] at hx
  split at hx
  · exact hx
  · cases hx
theorem Fl.dropK {α : Type} {f : α → List Int} {sz : Nat} {w : World} {b o : Nat} {xs : List α} (h : Fl f sz w (some ⟨b, o, none⟩) xs) (k : Nat) : Fl f sz w (some ⟨b, o + k * sz, none⟩) (xs.drop k) := fun hn => by
  obtain ⟨b', o', h1, h2, h3⟩ := h (fun e => hn (by rw [e]; simp))
  injection h1 with h1
  injection h1 with e1 e2 _
  subst e1 e2
  refine ⟨b, o + k * sz, rfl, h2, fun i x hx j v hv => ?_⟩
  rw [List.getElem?_drop] at hx
  have := h3 (k + i) x hx j v hv
  rwa [Nat.add_mul, ← Nat.add_assoc] at this
theorem alloc_drew_lt (w : World) (o : Obj) : w.heap.size < (w.alloc o).drew.heap.size := by
  have h : w.heap.size < (w.alloc o).heap.size := by simp
  exact h
theorem alloc_drew_cell (w : World) (cs : Array Value) (t : TypeId) (j : Nat) : (w.alloc (.cells cs t)).drew.cell? ⟨w.heap.size, j, none⟩ = cs[j]? := World.cell?_alloc_new w cs t j
theorem OwnG.ne_row {lo : Nat} {e et : TypeId} {w : World} {ys : List (GV Nest)} {g n c k : Nat} {y : GV Nest} (h : OwnG hdN Nest.l 3 lo e et w (.slice (some ⟨g, 0, none⟩) n c) ys) (hy : ys[k]? = some y) (hee : e ≠ et) (n' m' : Nat) : some g ≠ (Value.slice y.A n' m').ownBlock := by
  have h1 := (h.inn k y hy).blk_ne h.out hee
  intro he
  have h2 : (Value.slice y.A n' m').ownBlock = (Value.slice y.A (Nest.l y.x).length y.d).ownBlock := by cases y.A <;> rfl
  rw [h2] at he
  rcases h1 with h1 | h1
  · rw [h1] at he; cases he
  · exact h1 he.symm
theorem OwnF.low {lo : Nat} {et : TypeId} {w : World} {A : Option Addr} {n d : Nat} {l : List Int} (h : OwnF one 1 lo et w (.slice A n d) l) (n' m' : Nat) : ∀ q, (Value.slice A n' m').ownBlock = some q → lo ≤ q := fun q hq => by
  rcases h.base with h | ⟨g, h, h2, _⟩
  · rw [h] at hq; cases hq
  · rw [h] at hq; simp [Value.ownBlock] at hq; omega
end Go.Proofs.Ytdicopjoffdnnaa
