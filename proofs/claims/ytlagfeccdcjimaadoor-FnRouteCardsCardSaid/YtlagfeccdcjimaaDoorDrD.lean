/- Bytes; a cursor's start. No condition. -/
import Derived.Test.YtlagfeccdcjimaaDoorCurA
import Derived.Test.YtlagfeccdcjimaaDoorBoxLaw
namespace Go.Proofs.YtlagfeccdcjimaaDoor
open Go.RowKit
set_option linter.unusedVariables false
set_option linter.unusedSimpArgs false

/-- bytes that can be read -/
def Bytes (w : World) (A : Option Addr) (n : Nat) : Prop := ∀ i, i < n → ∃ b o v, A = some ⟨b, o, none⟩ ∧ b < w.heap.size ∧ (0 : Int) ≤ v ∧ v ≤ 255 ∧ w.cell? ⟨b, o + i, none⟩ = some (.int .u8 v)
theorem Bytes.ext {w w' : World} {A : Option Addr} {n : Nat} (h : Bytes w A n) (hb : Below w.heap.size w w') : Bytes w' A n := fun i hi => by
  obtain ⟨b, o, v, h1, h2, h3, h4, h5⟩ := h i hi
  exact ⟨b, o, v, h1, Nat.lt_of_lt_of_le h2 hb.size, h3, h4, (hb.cell (p := ⟨b, _, none⟩) h2).trans h5⟩
/-- a new cursor -/
theorem CurAt.start {w : World} {A : Option Addr} {n : Nat} (h : Bytes w A n) (cap : Nat) (e : TypeId) : CurAt w.heap.size A n cap 0 (w.alloc (.cells #[.slice A n cap, .int .i64 0, .int .u64 0] e)) := by
  refine ⟨by simp, World.cell?_alloc_new w _ _ 0, ⟨0, Nat.le_refl _, World.cell?_alloc_new w _ _ 1⟩, ⟨0, by omega, by omega, World.cell?_alloc_new w _ _ 2⟩, fun j => ?_, fun i hi => ?_⟩
  · unfold World.frozen?
    rw [show (w.alloc (.cells #[.slice A n cap, .int .i64 0, .int .u64 0] e)).heap[(⟨w.heap.size, j, none⟩ : Addr).block]? = some (.cells #[.slice A n cap, .int .i64 0, .int .u64 0] e) from heap_alloc_new w _]
    simp
  · obtain ⟨b, o, v, h1, h2, h3, h4, h5⟩ := h.ext (ext_alloc w (.cells #[.slice A n cap, .int .i64 0, .int .u64 0] e)) i hi
    obtain ⟨b', o', v', k1, k2, k3, k4, k5⟩ := h i hi
    rw [h1] at k1
    injection k1 with k1
    injection k1 with k1 _ _
    subst k1
    exact ⟨b, o, v, h1, k2, h3, h4, h5⟩
end Go.Proofs.YtlagfeccdcjimaaDoor
