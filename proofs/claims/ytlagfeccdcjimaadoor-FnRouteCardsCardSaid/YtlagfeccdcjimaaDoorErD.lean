/- A cursor's draws: variables of any length. No condition. -/
import Derived.Test.YtlagfeccdcjimaaDoorCurA
namespace Go.Proofs.YtlagfeccdcjimaaDoor
open Go.RowKit
set_option linter.unusedVariables false
set_option linter.unusedSimpArgs false

structure VarL (w : World) (B : Nat) (vs : List Value) : Prop where
  lt : B < w.heap.size
  cell : ∀ (j : Nat) (v : Value), vs[j]? = some v → w.cell? ⟨B, j, none⟩ = some v
  fz : ∀ j, w.frozen? ⟨B, j, none⟩ = false
theorem VarL.touch {w w' : World} {B lo hi : Nat} {vs : List Value} (h : VarL w B vs) (ht : Touch lo hi w w') (ho : B < lo ∨ hi ≤ B) : VarL w' B vs :=
  ⟨Nat.lt_of_lt_of_le h.lt ht.size, fun j v hv => (ht.cell h.lt ho).trans (h.cell j v hv), fun j => (ht.frozen h.lt ho).trans (h.fz j)⟩
theorem VarL.below {w w' : World} {B M : Nat} {vs : List Value} (h : VarL w B vs) (hb : Below M w w') (hm : B < M) : VarL w' B vs :=
  ⟨Nat.lt_of_lt_of_le h.lt hb.size, fun j v hv => (hb.cell (p := ⟨B, j, none⟩) hm).trans (h.cell j v hv), fun j => (hb.frozen (p := ⟨B, j, none⟩) hm).trans (h.fz j)⟩
theorem VarL.ext {w w' : World} {B : Nat} {vs : List Value} (h : VarL w B vs) (hb : Below w.heap.size w w') : VarL w' B vs := h.below hb h.lt
theorem VarL.box (w : World) (vs : List Value) (t : TypeId) : VarL (w.alloc (.cells vs.toArray t)) w.heap.size vs :=
  ⟨by simp, fun j v hv => (World.cell?_alloc_new w vs.toArray t j).trans (by simpa using hv), fun j => by
    unfold World.frozen?
    rw [show (w.alloc (.cells vs.toArray t)).heap[(⟨w.heap.size, j, none⟩ : Addr).block]? = some (.cells vs.toArray t) from heap_alloc_new w _]
    simp⟩
theorem VarL.set {w : World} {B : Nat} {vs : List Value} (h : VarL w B vs) (k : Nat) (v : Value) (hk : k < vs.length) : VarL (w.setCell ⟨B, k, none⟩ v) B (vs.set k v) := by
  refine ⟨by rw [setCell_size]; exact h.lt, fun j u hu => ?_, fun j => by rw [frozen_setCell]; exact h.fz j⟩
  by_cases e : j = k
  · subst e
    rw [List.getElem?_set_self hk] at hu
    injection hu with hu
    subst hu
    have hc := h.cell j (vs[j]) (List.getElem?_eq_getElem hk)
    have hl := h.lt
    simp [go_sem, hc]
  · rw [List.getElem?_set_ne (Ne.symm e)] at hu
    have hc := h.cell j u hu
    rw [World.cell?_setCell_other w _ _ v (fun q => e (by injection q with _ q _; exact q.symm))]
    exact hc
theorem Touch.far' {lo hi M : Nat} {w0 w w' : World} (h : Touch lo hi w0 w) (hb : Below M w w') (hm : w0.heap.size ≤ M) : Touch lo hi w0 w' :=
  ⟨hb.os.trans h.os, hb.tape.trans h.tape, hb.output.trans h.output, Nat.le_trans h.size hb.size, fun i hi ho => (hb.block i (by omega)).trans (h.block i hi ho)⟩
theorem Touch.over' {g B : Nat} {w0 w w' : World} (h : Touch g (g + 1) w0 w) (ht : Touch B (B + 1) w w') (hB : w0.heap.size ≤ B) : Touch g (g + 1) w0 w' :=
  ⟨ht.os.trans h.os, ht.tape.trans h.tape, ht.output.trans h.output, Nat.le_trans h.size ht.size, fun i hi ho => (ht.block i (Nat.lt_of_lt_of_le hi h.size) (.inl (by omega))).trans (h.block i hi ho)⟩
theorem CurAt.touch' {g : Nat} {C : Option Addr} {n cap k l u : Nat} {w w' : World} (h : CurAt g C n cap k w) (ht : Touch l u w w') (hg : g < l) : CurAt g C n cap k w' := by
  have c := fun j => ht.cell (b := g) (o := j) h.lt (.inl hg)
  refine ⟨Nat.lt_of_lt_of_le h.lt ht.size, (c 0).trans h.c0, ?_, ?_, fun j => (ht.frozen (b := g) (o := j) h.lt (.inl hg)).trans (h.fz j), fun i hi => ?_⟩
  · obtain ⟨a, h1, h2⟩ := h.c1; exact ⟨a, h1, (c 1).trans h2⟩
  · obtain ⟨s, h1, h2, h3⟩ := h.c2; exact ⟨s, h1, h2, (c 2).trans h3⟩
  · obtain ⟨b, o, v, h1, h2, h3, h4, h5⟩ := h.code i hi
    exact ⟨b, o, v, h1, h2, h3, h4, (ht.cell (b := b) (Nat.lt_trans h2 h.lt) (.inl (by omega))).trans h5⟩
theorem VarL.c2 {w : World} {B : Nat} {a b c : Value} {r : List Value} (h : VarL w B (a :: b :: c :: r)) : w.cell? ⟨B, 2, none⟩ = some c := h.cell 2 c rfl
theorem set5_touch (w : World) (B : Nat) (a b c d e : Value) : Touch B (B + 1) w (((((w.setCell ⟨B, 0, none⟩ a).setCell ⟨B, 1, none⟩ b).setCell ⟨B, 2, none⟩ c).setCell ⟨B, 3, none⟩ d).setCell ⟨B, 4, none⟩ e) :=
  ((((Touch.of_set w ⟨B, 0, none⟩ a (Nat.le_refl _) (Nat.lt_succ_self _)).set (p := ⟨B, 1, none⟩) (Nat.le_refl _) (Nat.lt_succ_self _) b).set (p := ⟨B, 2, none⟩) (Nat.le_refl _) (Nat.lt_succ_self _) c).set (p := ⟨B, 3, none⟩) (Nat.le_refl _) (Nat.lt_succ_self _) d).set (p := ⟨B, 4, none⟩) (Nat.le_refl _) (Nat.lt_succ_self _) e
end Go.Proofs.YtlagfeccdcjimaaDoor
