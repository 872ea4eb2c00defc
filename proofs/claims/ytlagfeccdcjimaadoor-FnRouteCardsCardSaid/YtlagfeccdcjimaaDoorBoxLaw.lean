/- The laws' own functions over structs that hold a slice: what is left of the size; the marks. -/
import Derived.Test.YtlagfeccdcjimaaDoorBase2
namespace Go.Proofs.YtlagfeccdcjimaaDoor
open Go.RowKit
set_option linter.unusedVariables false
set_option linter.unusedSimpArgs false
theorem held_below {W w' : World} (h : Below W.heap.size W w' ∧ ∀ b o, b < W.heap.size → w'.cell? ⟨b, o, none⟩ = W.cell? ⟨b, o, none⟩) : Below W.heap.size W w' := h.1
theorem cls_next {W w w' : World} {R : Prop} (h : Below W.heap.size W w ∧ R) (hb : Below w.heap.size w w') : Below W.heap.size W w' ∧ ∀ b o, b < W.heap.size → w'.cell? ⟨b, o, none⟩ = W.cell? ⟨b, o, none⟩ := cls_of (ext_trans h.1 hb)
theorem alloc_lt {W w' : World} {o : Obj} (h : Below (W.alloc o).heap.size (W.alloc o) w') : W.heap.size < w'.heap.size := by have := h.size; simp at this; omega
theorem alloc_lt' {W w' : World} {o : Obj} (h : Below (W.alloc o).drew.heap.size (W.alloc o).drew w') : W.heap.size < w'.heap.size := by
  have := h.size
  have h2 : (W.alloc o).drew.heap.size = W.heap.size + 1 := by show (W.alloc o).heap.size = _; simp
  omega
theorem fcell {W w1 : World} (hb : Below W.heap.size W w1) : ∀ b o, b < W.heap.size → w1.frozen? ⟨b, o, none⟩ = W.frozen? ⟨b, o, none⟩ :=
  fun b o h => hb.frozen (p := ⟨b, o, none⟩) h
end Go.Proofs.YtlagfeccdcjimaaDoor
