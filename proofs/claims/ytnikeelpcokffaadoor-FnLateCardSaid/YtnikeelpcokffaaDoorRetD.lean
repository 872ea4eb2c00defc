/- A sheet that comes back: the words. No condition. -/
import Derived.Test.YtnikeelpcokffaaDoorLoF
import Derived.Test.YtnikeelpcokffaaDoorOpnX
import Derived.Test.YtnikeelpcokffaaDoorCloL
import Derived.Laws.OwnMore
namespace Go.Proofs.YtnikeelpcokffaaDoor
open Go.RowKit
set_option linter.unusedVariables false
set_option linter.unusedSimpArgs false

theorem row_set1 {α : Type} {f : α → List Int} {sz : Nat} (hls : ∀ y, (f y).length = sz) (j : Nat) (hj : j < sz) (u : Value) : ∀ (ys : List α) (k : Nat) (x x' : α), ys[k]? = some x → (f x').map (Value.int .i64) = ((f x).map (Value.int .i64)).set j u → (row f ys).set (k * sz + j) u = row f (ys.set k x')
  | [], k, x, x', h, _ => by simp at h
  | z :: r, 0, x, x', h, h2 => by
    simp only [List.getElem?_cons_zero, Option.some.injEq] at h
    subst h
    simp only [row, List.flatMap_cons, List.set_cons_zero, Nat.zero_mul, Nat.zero_add]
    rw [List.set_append_left _ _ (by rw [List.length_map, hls]; exact hj), h2]
  | z :: r, k + 1, x, x', h, h2 => by
    simp only [List.getElem?_cons_succ] at h
    have ih := row_set1 hls j hj u r k x x' h h2
    simp only [row, List.flatMap_cons, List.set_cons_succ] at ih ⊢
    have hl : ((f z).map (Value.int .i64)).length = sz := by rw [List.length_map, hls]
    rw [List.set_append_right _ _ (by rw [hl, Nat.add_mul]; omega), hl, show (k + 1) * sz + j - sz = k * sz + j from by rw [Nat.add_mul]; omega, ih]
section
variable {lo : Nat} {e : TypeId} {w : World} {g d n : Nat} {B : Option Addr} {ys : List Loan}
theorem OwnF.lenL (h : OwnF Loan.ints 5 lo e w (.slice B n d) ys) : n = ys.length := by
  obtain ⟨A, c, hv, _⟩ := h.form (fun _ => rfl)
  injection hv
theorem OwnF.capL (h : OwnF Loan.ints 5 lo e w (.slice B n d) ys) : n ≤ d ∧ d ≤ 9223372036854775807 := by
  obtain ⟨A, c, hv, hc, _⟩ := h.formL (fun _ => rfl)
  injection hv with e1 e2 e3
  rw [e2, e3]
  exact hc
theorem OwnF.floL (h : OwnF Loan.ints 5 lo e w (.slice B n d) ys) : FlO Loan.ints 5 lo w.heap.size w B ys := by
  obtain ⟨A, c, hv, _, hF⟩ := h.formL (fun _ => rfl)
  injection hv with e1 e2 e3
  rw [e1]
  exact hF
theorem OwnF.blkL (h : OwnF Loan.ints 5 lo e w (.slice B n d) ys) {k : Nat} {x : Loan} (hx : ys[k]? = some x) : ∃ g, B = some ⟨g, 0, none⟩ ∧ lo ≤ g ∧ g < w.heap.size ∧ (∀ j, w.frozen? ⟨g, j, none⟩ = false) ∧ ∀ j v, (Loan.ints x)[j]? = some v → w.cell? ⟨g, k * 5 + j, none⟩ = some (.int .i64 v) := by
  obtain ⟨g, cap, cur, hv, h1, hh, h2⟩ := h.blk (fun e' => by subst e'; simp at hx)
  injection hv with e1 e2 e3
  refine ⟨g, e1, h1, h2, fun j => by simp [World.frozen?, hh], fun j v hj => ?_⟩
  have := (e1 ▸ h.floL).fl.get hx j v hj
  rwa [Nat.zero_add] at this
theorem OwnF.store1 (h : OwnF Loan.ints 5 lo e w (.slice (some ⟨g, 0, none⟩) n d) ys) {k j : Nat} {x x' : Loan} {u : Value} (hx : ys[k]? = some x) (hj : j < 5) (h2 : (Loan.ints x').map (Value.int .i64) = ((Loan.ints x).map (Value.int .i64)).set j u) :
    OwnF Loan.ints 5 lo e (w.setCell ⟨g, k * 5 + j, none⟩ u) (.slice (some ⟨g, 0, none⟩) n d) (ys.set k x') ∧ w.grownBy (w.setCell ⟨g, k * 5 + j, none⟩ u) (some g) := by
  have hl := h.lenL
  have h0 := h
  unfold OwnF at h0
  rw [← hl] at h0
  have hst := World.ownsRow.stored h0 (k * 5 + j) u
  rw [row_set1 (f := Loan.ints) (sz := 5) (fun _ => rfl) j hj u ys k x x' hx h2] at hst
  refine ⟨?_, hst.2⟩
  unfold OwnF
  rw [List.length_set, ← hl]
  exact hst.1
end
def setBack (d : Int) (x : Loan) : Loan := ⟨x.sheet, x.reader, x.out, x.due, d⟩
def retL (s d : Int) (xs : List Loan) : List Loan := match xs[(idxB (opB s) 0 xs).toNat]? with
  | some x => xs.set (idxB (opB s) 0 xs).toNat (setBack d x)
  | none => xs
def retF (s d : Int) (xs : List Loan) : Int := match xs[(idxB (opB s) 0 xs).toNat]? with
  | some x => fineV d (setBack d x)
  | none => 0
def RtOk (xs : List Loan) (s d : Int) : Prop := (Lns xs ∧ 0 ≤ idxB (opB s) 0 xs ∧ (0 ≤ d ∧ d ≤ 4000)) ∧ Lns (retL s d xs)
theorem ret_at {s d : Int} {xs : List Loan} {k : Nat} {x : Loan} (h : idxB (opB s) 0 xs = (k : Int)) (hx : xs[k]? = some x) : retL s d xs = xs.set k (setBack d x) ∧ retF s d xs = fineV d (setBack d x) := by
  unfold retL retF
  rw [h, Int.toNat_natCast, hx]
  exact ⟨rfl, rfl⟩
theorem retL_len (s d : Int) (xs : List Loan) : (retL s d xs).length = xs.length := by
  unfold retL
  split
  · rw [List.length_set]
  · rfl
theorem idx_at {α : Type} {p : α → Bool} {xs : List α} {r : Int} (h : idxB p 0 xs = r) (h0 : 0 ≤ r) : ∃ (k : Nat) (x : α), r = k ∧ xs[k]? = some x ∧ p x = true := by
  rcases idxB_p p xs 0 with ⟨h1, _⟩ | ⟨j, x, h1, h2, h3⟩
  · omega
  · exact ⟨j, x, by omega, h2, h3⟩
theorem set_get {α : Type} {xs : List α} {k : Nat} {x y : α} (h : xs[k]? = some x) : (xs.set k y)[k]? = some y := by rw [List.getElem?_set_self (lt_of_get h)]
theorem set_self_of {α : Type} {xs : List α} {k : Nat} {x : α} (h : xs[k]? = some x) : xs.set k x = xs := by
  obtain ⟨hk, rfl⟩ := List.getElem?_eq_some_iff.1 h
  exact List.set_getElem_self hk
theorem ret_facts {lo : Nat} {e t : TypeId} {w3 : World} {g n d3 k : Nat} {xs : List Loan} {x : Loan} (day : Int) (hown : OwnF Loan.ints 5 lo e w3 (.slice (some ⟨g, 0, none⟩) n d3) xs) (hx : xs[k]? = some x) (hlo : lo ≤ w3.heap.size) (hg1 : lo ≤ g) (hg2 : g < w3.heap.size)
    (hfz : ∀ j, w3.frozen? ⟨g, j, none⟩ = false) (hcl : ∀ j v, (Loan.ints x)[j]? = some v → w3.cell? ⟨g, k * 5 + j, none⟩ = some (.int .i64 v)) :
    ∃ W5 W6 W7, w3.alloc (.cells #[.int .i64 x.sheet, .int .i64 x.reader, .int .i64 x.out, .int .i64 x.due, .int .i64 x.back] t) = W5 ∧ W5.setCell ⟨w3.heap.size, 4, none⟩ (.int .i64 day) = W6 ∧
      (((((W6.setCell ⟨g, k * 5, none⟩ (.int .i64 x.sheet)).setCell ⟨g, k * 5 + 1, none⟩ (.int .i64 x.reader)).setCell ⟨g, k * 5 + 2, none⟩ (.int .i64 x.out)).setCell ⟨g, k * 5 + 3, none⟩ (.int .i64 x.due)).setCell ⟨g, k * 5 + 4, none⟩ (.int .i64 day)) = W7 ∧
      (∀ j v, (Loan.ints x)[j]? = some v → W5.cell? ⟨w3.heap.size, j, none⟩ = some (.int .i64 v)) ∧ (∀ j, W5.frozen? ⟨w3.heap.size, j, none⟩ = false) ∧
      (∀ j v, (Loan.ints (setBack day x))[j]? = some v → W6.cell? ⟨w3.heap.size, j, none⟩ = some (.int .i64 v)) ∧
      (∀ j v, (Loan.ints x)[j]? = some v → W6.cell? ⟨g, k * 5 + j, none⟩ = some (.int .i64 v)) ∧ (∀ j, W6.frozen? ⟨g, j, none⟩ = false) ∧
      (∀ j v, (Loan.ints (setBack day x))[j]? = some v → W7.cell? ⟨w3.heap.size, j, none⟩ = some (.int .i64 v)) ∧ w3.heap.size < W7.heap.size ∧
      OwnF Loan.ints 5 lo e W7 (.slice (some ⟨g, 0, none⟩) n d3) (xs.set k (setBack day x)) ∧ Below lo w3 W7 := by
  obtain ⟨W5, hW5, hB5, hz5, hv5, hf5⟩ := box_world w3 #[Value.int .i64 x.sheet, .int .i64 x.reader, .int .i64 x.out, .int .i64 x.due, .int .i64 x.back] t
  have hv : ∀ j v, (Loan.ints x)[j]? = some v → W5.cell? ⟨w3.heap.size, j, none⟩ = some (.int .i64 v) := fun j v hj => by
    rw [hv5 j]
    match j, hj with
    | 0, hj | 1, hj | 2, hj | 3, hj | 4, hj => simp [Loan.ints] at hj; subst hj; rfl
    | j + 5, hj => simp [Loan.ints] at hj
  obtain ⟨W6, hW6⟩ : ∃ W6, W5.setCell ⟨w3.heap.size, 4, none⟩ (.int .i64 day) = W6 := ⟨_, rfl⟩
  have hT : Touch w3.heap.size (w3.heap.size + 1) W5 W6 := hW6 ▸ Touch.of_set W5 ⟨w3.heap.size, 4, none⟩ _ (Nat.le_refl _) (Nat.lt_succ_self _)
  have hb6 : Below w3.heap.size w3 W6 := hT.below hB5 (Nat.le_refl _)
  have hu : ∀ j v, (Loan.ints (setBack day x))[j]? = some v → W6.cell? ⟨w3.heap.size, j, none⟩ = some (.int .i64 v) := fun j v hj => by
    rw [← hW6]
    match j, hj with
    | 0, hj | 1, hj | 2, hj | 3, hj => rw [World.cell?_setCell_other W5 _ _ _ (by simp)]; exact hv _ _ hj
    | 4, hj => simp [Loan.ints, setBack] at hj; subst hj; exact World.cell?_setCell_same W5 _ _ (hv 4 _ rfl)
    | j + 5, hj => simp [Loan.ints] at hj
  have hr : ∀ j v, (Loan.ints x)[j]? = some v → W6.cell? ⟨g, k * 5 + j, none⟩ = some (.int .i64 v) := fun j v hj => (hb6.cell (p := ⟨g, k * 5 + j, none⟩) hg2).trans (hcl j v hj)
  have hrf : ∀ j, W6.frozen? ⟨g, j, none⟩ = false := fun j => (hb6.frozen (p := ⟨g, j, none⟩) hg2).trans (hfz j)
  have ho6 := hown.ext hb6
  obtain ⟨o1, q1⟩ := ho6.store1 (j := 0) (u := .int .i64 x.sheet) (x' := x) hx (by decide) rfl
  rw [set_self_of hx] at o1
  obtain ⟨o2, q2⟩ := o1.store1 (j := 1) (u := .int .i64 x.reader) (x' := x) hx (by decide) rfl
  rw [set_self_of hx] at o2
  obtain ⟨o3, q3⟩ := o2.store1 (j := 2) (u := .int .i64 x.out) (x' := x) hx (by decide) rfl
  rw [set_self_of hx] at o3
  obtain ⟨o4, q4⟩ := o3.store1 (j := 3) (u := .int .i64 x.due) (x' := x) hx (by decide) rfl
  rw [set_self_of hx] at o4
  obtain ⟨o5, q5⟩ := o4.store1 (j := 4) (u := .int .i64 day) (x' := setBack day x) hx (by decide) rfl
  obtain ⟨W7, hW7⟩ : ∃ W7, (((((W6.setCell ⟨g, k * 5, none⟩ (.int .i64 x.sheet)).setCell ⟨g, k * 5 + 1, none⟩ (.int .i64 x.reader)).setCell ⟨g, k * 5 + 2, none⟩ (.int .i64 x.out)).setCell ⟨g, k * 5 + 3, none⟩ (.int .i64 x.due)).setCell ⟨g, k * 5 + 4, none⟩ (.int .i64 day)) = W7 := ⟨_, rfl⟩
  have hT7 : Touch g (g + 1) W6 W7 := hW7 ▸ setRow_touch g (Nat.le_refl g) (Nat.lt_succ_self g) [Value.int .i64 x.sheet, .int .i64 x.reader, .int .i64 x.out, .int .i64 x.due, .int .i64 day] W6 (k * 5)
  have ho7 : OwnF Loan.ints 5 lo e W7 (.slice (some ⟨g, 0, none⟩) n d3) (xs.set k (setBack day x)) := hW7 ▸ o5
  have hz6 : w3.heap.size < W6.heap.size := Nat.lt_of_lt_of_le hz5 hT.size
  refine ⟨W5, W6, W7, hW5, hW6, hW7, hv, hf5, hu, hr, hrf, fun j v hj => (hT7.cell (o := j) hz6 (.inr (by omega))).trans (hu j v hj), Nat.lt_of_lt_of_le hz6 hT7.size, ho7, (hb6.mono hlo).grown ⟨hT7.os, hT7.tape, hT7.output, hT7.size, fun q hq hne => hT7.block q hq (by have : q ≠ g := fun e => hne (by rw [e]); omega)⟩ (Nat.le_trans hlo hb6.size) (fun q hq => by injection hq with hq; omega)⟩
end Go.Proofs.YtnikeelpcokffaaDoor
