/- A loan prolonged: the words. No condition. -/
import Derived.Test.YtnikeelpcokffaaDoorRetD
namespace Go.Proofs.YtnikeelpcokffaaDoor
open Go.RowKit
set_option linter.unusedVariables false
set_option linter.unusedSimpArgs false

def setDue (d : Int) (x : Loan) : Loan := ⟨x.sheet, x.reader, x.out, x.due + d, x.back⟩
def prlL (s d : Int) (xs : List Loan) : List Loan := match xs[(idxB (opB s) 0 xs).toNat]? with
  | some x => xs.set (idxB (opB s) 0 xs).toNat (setDue d x)
  | none => xs
def prlC (s day : Int) (xs : List Loan) : Prop := match xs[(idxB (opB s) 0 xs).toNat]? with
  | some x => day ≤ x.due ∧ x.out ≤ day
  | none => False
def PrOk (xs : List Loan) (s day days : Int) : Prop := (Lns xs ∧ 0 ≤ idxB (opB s) 0 xs ∧ (0 ≤ day ∧ day ≤ 4000) ∧ (1 ≤ days ∧ days ≤ 60)) ∧ prlC s day xs ∧ Lns (prlL s days xs)
theorem prl_at {s d day : Int} {xs : List Loan} {k : Nat} {x : Loan} (h : idxB (opB s) 0 xs = (k : Int)) (hx : xs[k]? = some x) : prlL s d xs = xs.set k (setDue d x) ∧ (prlC s day xs ↔ day ≤ x.due ∧ x.out ≤ day) := by
  unfold prlL prlC
  rw [h, Int.toNat_natCast, hx]
  exact ⟨rfl, Iff.rfl⟩
theorem prlL_len (s d : Int) (xs : List Loan) : (prlL s d xs).length = xs.length := by
  unfold prlL
  split
  · rw [List.length_set]
  · rfl
theorem prl_facts {lo : Nat} {e t : TypeId} {w3 : World} {g n d3 k : Nat} {xs : List Loan} {x : Loan} (days : Int) (hown : OwnF Loan.ints 5 lo e w3 (.slice (some ⟨g, 0, none⟩) n d3) xs) (hx : xs[k]? = some x) (hlo : lo ≤ w3.heap.size) (hg1 : lo ≤ g) (hg2 : g < w3.heap.size)
    (hfz : ∀ j, w3.frozen? ⟨g, j, none⟩ = false) (hcl : ∀ j v, (Loan.ints x)[j]? = some v → w3.cell? ⟨g, k * 5 + j, none⟩ = some (.int .i64 v)) :
    ∃ W5 W6 W7, w3.alloc (.cells #[.int .i64 x.sheet, .int .i64 x.reader, .int .i64 x.out, .int .i64 x.due, .int .i64 x.back] t) = W5 ∧ W5.setCell ⟨w3.heap.size, 3, none⟩ (.int .i64 (x.due + days)) = W6 ∧
      (((((W6.setCell ⟨g, k * 5, none⟩ (.int .i64 x.sheet)).setCell ⟨g, k * 5 + 1, none⟩ (.int .i64 x.reader)).setCell ⟨g, k * 5 + 2, none⟩ (.int .i64 x.out)).setCell ⟨g, k * 5 + 3, none⟩ (.int .i64 (x.due + days))).setCell ⟨g, k * 5 + 4, none⟩ (.int .i64 x.back)) = W7 ∧
      (∀ j v, (Loan.ints x)[j]? = some v → W5.cell? ⟨w3.heap.size, j, none⟩ = some (.int .i64 v)) ∧ (∀ j, W5.frozen? ⟨w3.heap.size, j, none⟩ = false) ∧
      (∀ j v, (Loan.ints (setDue days x))[j]? = some v → W6.cell? ⟨w3.heap.size, j, none⟩ = some (.int .i64 v)) ∧
      (∀ j v, (Loan.ints x)[j]? = some v → W6.cell? ⟨g, k * 5 + j, none⟩ = some (.int .i64 v)) ∧ (∀ j, W6.frozen? ⟨g, j, none⟩ = false) ∧
      (∀ j v, (Loan.ints (setDue days x))[j]? = some v → W7.cell? ⟨w3.heap.size, j, none⟩ = some (.int .i64 v)) ∧ w3.heap.size < W7.heap.size ∧
      OwnF Loan.ints 5 lo e W7 (.slice (some ⟨g, 0, none⟩) n d3) (xs.set k (setDue days x)) ∧ Below lo w3 W7 := by
  obtain ⟨W5, hW5, hB5, hz5, hv5, hf5⟩ := box_world w3 #[Value.int .i64 x.sheet, .int .i64 x.reader, .int .i64 x.out, .int .i64 x.due, .int .i64 x.back] t
  have hv : ∀ j v, (Loan.ints x)[j]? = some v → W5.cell? ⟨w3.heap.size, j, none⟩ = some (.int .i64 v) := fun j v hj => by
    rw [hv5 j]
    match j, hj with
    | 0, hj | 1, hj | 2, hj | 3, hj | 4, hj => simp [Loan.ints] at hj; subst hj; rfl
    | j + 5, hj => simp [Loan.ints] at hj
  obtain ⟨W6, hW6⟩ : ∃ W6, W5.setCell ⟨w3.heap.size, 3, none⟩ (.int .i64 (x.due + days)) = W6 := ⟨_, rfl⟩
  have hT : Touch w3.heap.size (w3.heap.size + 1) W5 W6 := hW6 ▸ Touch.of_set W5 ⟨w3.heap.size, 3, none⟩ _ (Nat.le_refl _) (Nat.lt_succ_self _)
  have hb6 : Below w3.heap.size w3 W6 := hT.below hB5 (Nat.le_refl _)
  have hu : ∀ j v, (Loan.ints (setDue days x))[j]? = some v → W6.cell? ⟨w3.heap.size, j, none⟩ = some (.int .i64 v) := fun j v hj => by
    rw [← hW6]
    match j, hj with
    | 0, hj | 1, hj | 2, hj | 4, hj => rw [World.cell?_setCell_other W5 _ _ _ (by simp)]; exact hv _ _ hj
    | 3, hj => simp [Loan.ints, setDue] at hj; subst hj; exact World.cell?_setCell_same W5 _ _ (hv 3 _ rfl)
    | j + 5, hj => simp [Loan.ints] at hj
  have hr : ∀ j v, (Loan.ints x)[j]? = some v → W6.cell? ⟨g, k * 5 + j, none⟩ = some (.int .i64 v) := fun j v hj => (hb6.cell (p := ⟨g, k * 5 + j, none⟩) hg2).trans (hcl j v hj)
  have hrf : ∀ j, W6.frozen? ⟨g, j, none⟩ = false := fun j => (hb6.frozen (p := ⟨g, j, none⟩) hg2).trans (hfz j)
  have ho6 := hown.ext hb6
  obtain ⟨o1, q1⟩ := ho6.store1 (j := 0) (u := .int .i64 x.sheet) (x' := x) hx (by decide) rfl
  rw [set_self_of hx] at o1
  obtain ⟨o2, q2⟩ := o1.store1 (j := 1) (u := .int .i64 x.reader) (x' := x) hx (by decide) rfl
  rw [set_self_of hx] at o2
  obtain ⟨o3, q3⟩ := o2.store1 (j := 2) (u := .int .i64 x.out) (x' := x) hx (by decide) rfl
  rw [set_self_of hx] at o3
  obtain ⟨o4, q4⟩ := o3.store1 (j := 3) (u := .int .i64 (x.due + days)) (x' := setDue days x) hx (by decide) rfl
  obtain ⟨o5, q5⟩ := o4.store1 (j := 4) (u := .int .i64 x.back) (x' := setDue days x) (set_get hx) (by decide) rfl
  rw [set_self_of (set_get hx)] at o5
  obtain ⟨W7, hW7⟩ : ∃ W7, (((((W6.setCell ⟨g, k * 5, none⟩ (.int .i64 x.sheet)).setCell ⟨g, k * 5 + 1, none⟩ (.int .i64 x.reader)).setCell ⟨g, k * 5 + 2, none⟩ (.int .i64 x.out)).setCell ⟨g, k * 5 + 3, none⟩ (.int .i64 (x.due + days))).setCell ⟨g, k * 5 + 4, none⟩ (.int .i64 x.back)) = W7 := ⟨_, rfl⟩
  have hT7 : Touch g (g + 1) W6 W7 := hW7 ▸ setRow_touch g (Nat.le_refl g) (Nat.lt_succ_self g) [Value.int .i64 x.sheet, .int .i64 x.reader, .int .i64 x.out, .int .i64 (x.due + days), .int .i64 x.back] W6 (k * 5)
  have ho7 : OwnF Loan.ints 5 lo e W7 (.slice (some ⟨g, 0, none⟩) n d3) (xs.set k (setDue days x)) := hW7 ▸ o5
  have hz6 : w3.heap.size < W6.heap.size := Nat.lt_of_lt_of_le hz5 hT.size
  refine ⟨W5, W6, W7, hW5, hW6, hW7, hv, hf5, hu, hr, hrf, fun j v hj => (hT7.cell (o := j) hz6 (.inr (by omega))).trans (hu j v hj), Nat.lt_of_lt_of_le hz6 hT7.size, ho7, (hb6.mono hlo).grown ⟨hT7.os, hT7.tape, hT7.output, hT7.size, fun q hq hne => hT7.block q hq (by have : q ≠ g := fun e => hne (by rw [e]); omega)⟩ (Nat.le_trans hlo hb6.size) (fun q hq => by injection hq with hq; omega)⟩
end Go.Proofs.YtnikeelpcokffaaDoor
