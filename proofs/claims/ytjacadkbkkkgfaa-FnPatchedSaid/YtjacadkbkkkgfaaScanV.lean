/- Scans in variables of their own. -/
import Derived.Test.YtjacadkbkkkgfaaSumAt
import Derived.Test.YtjacadkbkkkgfaaOwn2
import Derived.Test.YtjacadkbkkkgfaaLst
namespace Go.Proofs.Ytjacadkbkkkgfaa
open Go.RowKit
set_option linter.unusedVariables false
set_option linter.unusedSimpArgs false

def shiftT (r c : Int) (t : Tile) : Tile := ⟨t.row - r, t.col - c, t.sum⟩
def InS (rows cols : Int) (t : Tile) : Prop := 0 ≤ t.row ∧ t.row < rows ∧ 0 ≤ t.col ∧ t.col < cols
instance (rows cols : Int) (t : Tile) : Decidable (InS rows cols t) := inferInstanceAs (Decidable (_ ∧ _))
def cropL (r c rows cols : Int) (xs : List Tile) : List Tile := (xs.map (shiftT r c)).filter fun t => decide (InS rows cols t)
theorem cropL_t {r c rows cols : Int} {xs : List Tile} {x : Tile} (h : InS rows cols (shiftT r c x)) : cropL r c rows cols (xs ++ [x]) = cropL r c rows cols xs ++ [shiftT r c x] := by simp [cropL, h]
theorem cropL_f {r c rows cols : Int} {xs : List Tile} {x : Tile} (h : ¬ InS rows cols (shiftT r c x)) : cropL r c rows cols (xs ++ [x]) = cropL r c rows cols xs := by
  unfold cropL
  rw [List.map_append, List.filter_append, List.map_cons, List.filter_cons_of_neg (by simpa using h)]
  simp
theorem cropL_len (r c rows cols : Int) (xs : List Tile) : (cropL r c rows cols xs).length ≤ xs.length := by
  unfold cropL
  exact Nat.le_trans (List.length_filter_le _ _) (by simp)
def CropOk (R C : Int) (xs : List Tile) (row col rows cols : Int) : Prop := Scn R C xs ∧ (1 ≤ rows ∧ rows ≤ R) ∧ (1 ≤ cols ∧ cols ≤ C) ∧ (0 ≤ row ∧ row ≤ R - rows) ∧ (0 ≤ col ∧ col ≤ C - cols)
theorem cropOk_iff (R C : Int) (xs : List Tile) (row col rows cols : Int) : CropOk R C xs row col rows cols ↔ Scn R C xs ∧ (1 ≤ rows ∧ rows ≤ 6) ∧ (1 ≤ cols ∧ cols ≤ 6) ∧ hasW R C row col ∧ hasW R C (row + rows - 1) (col + cols - 1) := by
  unfold CropOk
  constructor
  · rintro ⟨h, h1, h2, h3, h4⟩
    have hs := h.2
    unfold Side at hs
    have d1 := dec_eq (n := R) (by omega)
    have d2 := dec_eq (n := C) (by omega)
    refine ⟨h, by omega, by omega, ?_, ?_⟩ <;> (unfold hasW; omega)
  · rintro ⟨h, h1, h2, h3, h4⟩
    have hs := h.2
    unfold Side at hs
    have d1 := dec_eq (n := R) (by omega)
    have d2 := dec_eq (n := C) (by omega)
    unfold hasW at h3 h4
    exact ⟨h, by omega, by omega, by omega, by omega⟩
/-- a call that hands back a scan and a bool -/
def RetSc (w : World) (rr cc : Int) (ys : List Tile) (ok : Bool) (e : Ending) (w' : World) : Prop :=
  ∃ B d, e = .returned (.tuple #[.agg #[.int .i64 rr, .int .i64 cc, .slice B ys.length d], .bool ok]) ∧ FlO Tile.ints 3 w.heap.size w'.heap.size w' B ys ∧ Below w.heap.size w w'
theorem set3_touch (w : World) (B : Nat) (a b c : Value) : Touch B (B + 1) w (((w.setCell ⟨B, 0, none⟩ a).setCell ⟨B, 1, none⟩ b).setCell ⟨B, 2, none⟩ c) :=
  ((Touch.of_set w ⟨B, 0, none⟩ a (Nat.le_refl _) (Nat.lt_succ_self _)).set (p := ⟨B, 1, none⟩) (Nat.le_refl _) (Nat.lt_succ_self _) b).set (p := ⟨B, 2, none⟩) (Nat.le_refl _) (Nat.lt_succ_self _) c
/-- a variable of three cells that may be written, in a world in which no block but 'g' of its own has turned -/
structure Var3 (w : World) (B : Nat) (a b c : Value) : Prop where
  lt : B < w.heap.size
  c0 : w.cell? ⟨B, 0, none⟩ = some a
  c1 : w.cell? ⟨B, 1, none⟩ = some b
  c2 : w.cell? ⟨B, 2, none⟩ = some c
  fz : ∀ j, w.frozen? ⟨B, j, none⟩ = false
theorem Var3.touch {w w' : World} {B lo hi : Nat} {a b c : Value} (h : Var3 w B a b c) (ht : Touch lo hi w w') (ho : B < lo ∨ hi ≤ B) : Var3 w' B a b c :=
  ⟨Nat.lt_of_lt_of_le h.lt ht.size, (ht.cell h.lt ho).trans h.c0, (ht.cell h.lt ho).trans h.c1, (ht.cell h.lt ho).trans h.c2, fun j => (ht.frozen h.lt ho).trans (h.fz j)⟩
theorem Var3.ext {w w' : World} {B : Nat} {a b c : Value} (h : Var3 w B a b c) (hb : Below w.heap.size w w') : Var3 w' B a b c :=
  ⟨Nat.lt_of_lt_of_le h.lt hb.size, (hb.cell (p := ⟨B, 0, none⟩) h.lt).trans h.c0, (hb.cell (p := ⟨B, 1, none⟩) h.lt).trans h.c1, (hb.cell (p := ⟨B, 2, none⟩) h.lt).trans h.c2, fun j => (hb.frozen (p := ⟨B, j, none⟩) h.lt).trans (h.fz j)⟩
theorem Var3.below {w w' : World} {B M : Nat} {a b c : Value} (h : Var3 w B a b c) (hb : Below M w w') (hm : B < M) : Var3 w' B a b c :=
  ⟨Nat.lt_of_lt_of_le h.lt hb.size, (hb.cell (p := ⟨B, 0, none⟩) hm).trans h.c0, (hb.cell (p := ⟨B, 1, none⟩) hm).trans h.c1, (hb.cell (p := ⟨B, 2, none⟩) hm).trans h.c2, fun j => (hb.frozen (p := ⟨B, j, none⟩) hm).trans (h.fz j)⟩
theorem Var3.set2 {w : World} {B : Nat} {a b c : Value} (h : Var3 w B a b c) (v : Value) : Var3 (w.setCell ⟨B, 2, none⟩ v) B a b v :=
  ⟨by rw [setCell_size]; exact h.lt, (World.cell?_setCell_other w _ _ _ (by simp)).trans h.c0, (World.cell?_setCell_other w _ _ _ (by simp)).trans h.c1, World.cell?_setCell_same w _ _ h.c2, fun j => by rw [frozen_setCell]; exact h.fz j⟩
theorem Var3.set3 {w : World} {B : Nat} {a b c : Value} (h : Var3 w B a b c) (x y z : Value) : Var3 (((w.setCell ⟨B, 0, none⟩ x).setCell ⟨B, 1, none⟩ y).setCell ⟨B, 2, none⟩ z) B x y z := by
  have h1 : (w.setCell ⟨B, 0, none⟩ x).cell? ⟨B, 0, none⟩ = some x := World.cell?_setCell_same w _ _ h.c0
  have h2 : (w.setCell ⟨B, 0, none⟩ x).cell? ⟨B, 1, none⟩ = some b := (World.cell?_setCell_other w _ _ _ (by simp)).trans h.c1
  have h3 : (w.setCell ⟨B, 0, none⟩ x).cell? ⟨B, 2, none⟩ = some c := (World.cell?_setCell_other w _ _ _ (by simp)).trans h.c2
  have k1 : ((w.setCell ⟨B, 0, none⟩ x).setCell ⟨B, 1, none⟩ y).cell? ⟨B, 0, none⟩ = some x := (World.cell?_setCell_other _ _ _ _ (by simp)).trans h1
  have k2 : ((w.setCell ⟨B, 0, none⟩ x).setCell ⟨B, 1, none⟩ y).cell? ⟨B, 1, none⟩ = some y := World.cell?_setCell_same _ _ _ h2
  have k3 : ((w.setCell ⟨B, 0, none⟩ x).setCell ⟨B, 1, none⟩ y).cell? ⟨B, 2, none⟩ = some c := (World.cell?_setCell_other _ _ _ _ (by simp)).trans h3
  exact ⟨by rw [setCell_size, setCell_size, setCell_size]; exact h.lt, (World.cell?_setCell_other _ _ _ _ (by simp)).trans k1, (World.cell?_setCell_other _ _ _ _ (by simp)).trans k2, World.cell?_setCell_same _ _ _ k3, fun j => by rw [frozen_setCell, frozen_setCell, frozen_setCell]; exact h.fz j⟩
theorem below_set {M : Nat} {a w : World} (h : Below M a w) (p : Addr) (u : Value) (hp : M ≤ p.block) : Below M a (w.setCell p u) :=
  ⟨h.os, h.tape, h.output, by rw [setCell_size]; exact h.size, fun k hk => (Below.heap_setCell w p u k (by omega)).trans (h.block k hk)⟩
theorem cls_set3 {W w : World} {g : Nat} {x y z : Value} (h : Below W.heap.size W w) (hg : W.heap.size ≤ g) : Below W.heap.size W (((w.setCell ⟨g, 0, none⟩ x).setCell ⟨g, 1, none⟩ y).setCell ⟨g, 2, none⟩ z) ∧ ∀ b o, b < W.heap.size → (((w.setCell ⟨g, 0, none⟩ x).setCell ⟨g, 1, none⟩ y).setCell ⟨g, 2, none⟩ z).cell? ⟨b, o, none⟩ = W.cell? ⟨b, o, none⟩ :=
  cls_of (below_set (below_set (below_set h ⟨g, 0, none⟩ x hg) ⟨g, 1, none⟩ y hg) ⟨g, 2, none⟩ z hg)
theorem var3_box (w : World) (a b c : Value) (t : TypeId) : Var3 (w.alloc (.cells #[a, b, c] t)) w.heap.size a b c :=
  ⟨by simp, World.cell?_alloc_new w _ t 0, World.cell?_alloc_new w _ t 1, World.cell?_alloc_new w _ t 2, fun j => by simp only [World.frozen?, heap_alloc_new]; simp⟩
end Go.Proofs.Ytjacadkbkkkgfaa
