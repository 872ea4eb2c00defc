/- A scan being drawn: its state. No condition. -/
import Derived.Test.YtjacadkbkkkgfaaCurA
import Derived.Test.YtjacadkbkkkgfaaScanV
import Derived.Test.YtjacadkbkkkgfaaFamTile
namespace Go.Proofs.Ytjacadkbkkkgfaa
open Go.RowKit
set_option linter.unusedVariables false
set_option linter.unusedSimpArgs false

theorem tile_box (w : World) (a b c : Int) (e : TypeId) : Fl Tile.ints 3 (w.alloc (.cells #[.int .i64 a, .int .i64 b, .int .i64 c] e)) (some ⟨w.heap.size, 0, none⟩) [(⟨a, b, c⟩ : Tile)] := Fl.box (f := Tile.ints) (sz := 3) (e := e) w (⟨a, b, c⟩ : Tile)
theorem Touch.far {lo hi M : Nat} {w0 w w' : World} (h : Touch lo hi w0 w) (hb : Below M w w') (hm : w0.heap.size ≤ M) : Touch lo hi w0 w' :=
  ⟨hb.os.trans h.os, hb.tape.trans h.tape, hb.output.trans h.output, Nat.le_trans h.size hb.size, fun i hi ho => (hb.block i (by omega)).trans (h.block i hi ho)⟩
theorem CurAt.below {g : Nat} {C : Option Addr} {n cap k M : Nat} {w w' : World} (h : CurAt g C n cap k w) (hb : Below M w w') (hg : g < M) : CurAt g C n cap k w' := by
  have c := fun j => hb.cell (p := ⟨g, j, none⟩) hg
  refine ⟨Nat.lt_of_lt_of_le h.lt hb.size, (c 0).trans h.c0, ?_, ?_, fun j => (hb.frozen (p := ⟨g, j, none⟩) hg).trans (h.fz j), fun i hi => ?_⟩
  · obtain ⟨a, h1, h2⟩ := h.c1; exact ⟨a, h1, (c 1).trans h2⟩
  · obtain ⟨s, h1, h2, h3⟩ := h.c2; exact ⟨s, h1, h2, (c 2).trans h3⟩
  · obtain ⟨b, o, v, h1, h2, h3, h4, h5⟩ := h.code i hi
    exact ⟨b, o, v, h1, h2, h3, h4, (hb.cell (p := ⟨b, _, none⟩) (Nat.lt_trans h2 hg)).trans h5⟩
theorem CurAt.touch {g : Nat} {C : Option Addr} {n cap k l u : Nat} {w w' : World} (h : CurAt g C n cap k w) (ht : Touch l u w w') (hg : g < l) : CurAt g C n cap k w' := by
  have c := fun j => ht.cell (b := g) (o := j) h.lt (.inl hg)
  refine ⟨Nat.lt_of_lt_of_le h.lt ht.size, (c 0).trans h.c0, ?_, ?_, fun j => (ht.frozen (b := g) (o := j) h.lt (.inl hg)).trans (h.fz j), fun i hi => ?_⟩
  · obtain ⟨a, h1, h2⟩ := h.c1; exact ⟨a, h1, (c 1).trans h2⟩
  · obtain ⟨s, h1, h2, h3⟩ := h.c2; exact ⟨s, h1, h2, (c 2).trans h3⟩
  · obtain ⟨b, o, v, h1, h2, h3, h4, h5⟩ := h.code i hi
    exact ⟨b, o, v, h1, h2, h3, h4, (ht.cell (b := b) (Nat.lt_trans h2 h.lt) (.inl (by omega))).trans h5⟩
/-- the cursor at g, the scan under way in the variable at B, its tiles in blocks behind B -/
structure S17 (g : Nat) (C : Option Addr) (n cap B : Nat) (r c : Int) (v : Value) (xs : List Tile) (K : Nat) (w0 w : World) : Prop where
  cur : CurAt g C n cap K w
  box : Var3 w B (.int .i64 r) (.int .i64 c) v
  own : OwnF Tile.ints 3 (B + 1) 39 w v xs
  tch : Touch g (g + 1) w0 w
  res : Var3 w (B - 1) (.int .i64 0) (.int .i64 0) (.slice none 0 0)
theorem S17.ext {g : Nat} {C : Option Addr} {n cap B : Nat} {r c : Int} {v : Value} {xs : List Tile} {K : Nat} {w0 w w' : World} (h : S17 g C n cap B r c v xs K w0 w) (hb : Below w.heap.size w w') : S17 g C n cap B r c v xs K w0 w' :=
  ⟨h.cur.ext hb, h.box.ext hb, h.own.ext hb, h.tch.trans (Touch.of_ext hb), h.res.ext hb⟩
theorem S17.mono {g : Nat} {C : Option Addr} {n cap B : Nat} {r c : Int} {v : Value} {xs : List Tile} {K K' : Nat} {w0 w : World} (h : S17 g C n cap B r c v xs K w0 w) (hk : K ≤ K') : S17 g C n cap B r c v xs K' w0 w :=
  ⟨h.cur.mono hk, h.box, h.own, h.tch, h.res⟩
theorem S17.draw {g : Nat} {C : Option Addr} {n cap B : Nat} {r c : Int} {v : Value} {xs : List Tile} {K K' : Nat} {w0 w w' : World} (h : S17 g C n cap B r c v xs K w0 w) (hg : g + 1 < B) (hc : CurAt g C n cap K' w') (ht : Touch g (g + 1) w w') : S17 g C n cap B r c v xs K' w0 w' :=
  ⟨hc, h.box.touch ht (.inr (by omega)), h.own.touch ht (by omega), h.tch.trans ht, h.res.touch ht (.inr (by omega))⟩
theorem S17.app {g : Nat} {C : Option Addr} {n cap B : Nat} {r c : Int} {v v' : Value} {xs ys : List Tile} {K : Nat} {w0 w w' : World} (h : S17 g C n cap B r c v xs K w0 w) (hg : g + 1 < B) (hB : w0.heap.size ≤ B) (hb : Below (B + 1) w w') (ho : OwnF Tile.ints 3 (B + 1) 39 w' v' ys) : S17 g C n cap B r c v' ys K w0 (w'.setCell ⟨B, 2, none⟩ v') := by
  have ht : Touch B (B + 1) w' (w'.setCell ⟨B, 2, none⟩ v') := Touch.of_set w' ⟨B, 2, none⟩ v' (Nat.le_refl _) (Nat.lt_succ_self _)
  refine ⟨(h.cur.below hb (by omega)).touch ht (by omega), (h.box.below hb (Nat.lt_succ_self _)).set2 v', ho.touch ht (Nat.le_refl _), ?_, (h.res.below hb (by omega)).touch ht (.inl (by omega))⟩
  have h1 := h.tch.far hb (by omega)
  exact ⟨ht.os.trans h1.os, ht.tape.trans h1.tape, ht.output.trans h1.output, Nat.le_trans h1.size ht.size, fun i hi ho => (ht.block i (Nat.lt_of_lt_of_le hi h1.size) (.inl (by omega))).trans (h1.block i hi ho)⟩
theorem Touch.over {g B : Nat} {w0 w w' : World} (h : Touch g (g + 1) w0 w) (ht : Touch B (B + 1) w w') (hB : w0.heap.size ≤ B) : Touch g (g + 1) w0 w' :=
  ⟨ht.os.trans h.os, ht.tape.trans h.tape, ht.output.trans h.output, Nat.le_trans h.size ht.size, fun i hi ho => (ht.block i (Nat.lt_of_lt_of_le hi h.size) (.inl (by omega))).trans (h.block i hi ho)⟩
theorem lit_own (w : World) (lo : Nat) (a b c : Int) (e : TypeId) (hlo : lo ≤ w.heap.size) : OwnF Tile.ints 3 lo e (w.alloc (.cells #[.int .i64 a, .int .i64 b, .int .i64 c] e)) (.slice (some ⟨w.heap.size, 0, none⟩) 1 1) [(⟨a, b, c⟩ : Tile)] :=
  ⟨rfl, .inr ⟨w.heap.size, 1, #[.int .i64 a, .int .i64 b, .int .i64 c], rfl, hlo, heap_alloc_new w _, Nat.le_refl _, by simp [maxLen], rfl, rfl⟩⟩
theorem Var3.set0 {w : World} {B : Nat} {a b c : Value} (h : Var3 w B a b c) (v : Value) : Var3 (w.setCell ⟨B, 0, none⟩ v) B v b c := by
  have h0 := h.c0; have h1 := h.c1; have h2 := h.c2; have hl := h.lt
  refine ⟨by rw [setCell_size]; exact hl, by simp [go_sem, h0], by simp [go_sem, h1], by simp [go_sem, h2], fun j => by rw [frozen_setCell]; exact h.fz j⟩
theorem Var3.set1 {w : World} {B : Nat} {a b c : Value} (h : Var3 w B a b c) (v : Value) : Var3 (w.setCell ⟨B, 1, none⟩ v) B a v c := by
  have h0 := h.c0; have h1 := h.c1; have h2 := h.c2; have hl := h.lt
  refine ⟨by rw [setCell_size]; exact hl, by simp [go_sem, h0], by simp [go_sem, h1], by simp [go_sem, h2], fun j => by rw [frozen_setCell]; exact h.fz j⟩
theorem S17.set {g : Nat} {C : Option Addr} {n cap B : Nat} {r c r' c' : Int} {v v' : Value} {xs ys : List Tile} {K j : Nat} {u : Value} {w0 w : World} (h : S17 g C n cap B r c v xs K w0 w) (hg : g + 1 < B) (hB : w0.heap.size ≤ B) (hv : Var3 (w.setCell ⟨B, j, none⟩ u) B (.int .i64 r') (.int .i64 c') v') (ho : OwnF Tile.ints 3 (B + 1) 39 w v' ys) : S17 g C n cap B r' c' v' ys K w0 (w.setCell ⟨B, j, none⟩ u) := by
  have ht : Touch B (B + 1) w (w.setCell ⟨B, j, none⟩ u) := Touch.of_set w ⟨B, j, none⟩ u (Nat.le_refl _) (Nat.lt_succ_self _)
  exact ⟨h.cur.touch ht (by omega), hv, ho.touch ht (Nat.le_refl _), h.tch.over ht hB, h.res.touch ht (.inl (by omega))⟩
def End17 (g : Nat) (C : Option Addr) (n cap K : Nat) (w : World) (e : Ending) (w' : World) : Prop :=
  ∃ (r c : Int) (A : Option Addr) (d : Nat) (xs : List Tile), e = .returned (.agg #[.int .i64 r, .int .i64 c, .slice A xs.length d]) ∧ xs.length ≤ 40 ∧ FlO Tile.ints 3 w.heap.size w'.heap.size w' A xs ∧ CurAt g C n cap K w' ∧ Touch g (g + 1) w w'
theorem fin17 {g : Nat} {C : Option Addr} {n cap B O : Nat} {r c : Int} {A : Option Addr} {m d : Nat} {xs : List Tile} {K K' : Nat} {w w' : World} (h : S17 g C n cap B r c (.slice A m d) xs K w w') (hm : m = xs.length) (hO : B - 1 = O) (hO2 : O = w.heap.size) (hg : g + 1 < B) (hl : xs.length ≤ 40) (hK : K ≤ K') (x y z : Value) :
    End17 g C n cap K' w (.returned (.agg #[.int .i64 r, .int .i64 c, .slice A m d])) (((w'.setCell ⟨O, 0, none⟩ x).setCell ⟨O, 1, none⟩ y).setCell ⟨O, 2, none⟩ z) := by
  subst hm
  have ht := set3_touch w' O x y z
  obtain ⟨A9, d9, hv9, hF9⟩ := h.own.form Tile.ints_length
  injection hv9 with e1 e2 e3
  subst e1 e3
  exact ⟨r, c, _, _, xs, rfl, hl, (hF9.touch ht (.inr (by omega))).mono (by omega) ht.size, (h.cur.touch ht (by omega)).mono hK, h.tch.over ht (by omega)⟩
end Go.Proofs.Ytjacadkbkkkgfaa
