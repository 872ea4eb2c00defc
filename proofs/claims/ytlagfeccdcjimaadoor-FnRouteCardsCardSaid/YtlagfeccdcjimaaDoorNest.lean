/- Slices of structs of three integers and one []int: how they are read, owned, filled and marked. -/
import Derived.Test.YtlagfeccdcjimaaDoorBase
import Derived.Test.YtlagfeccdcjimaaDoorBase2
namespace Go.Proofs.YtlagfeccdcjimaaDoor
open Go.RowKit
set_option linter.unusedVariables false
set_option linter.unusedSimpArgs false

structure Nest where
  a : Int
  b : Int
  c : Int
  l : List Int
theorem Nest.eq_iff (x y : Nest) : x = y ↔ x.a = y.a ∧ x.b = y.b ∧ x.c = y.c ∧ x.l = y.l := by
  cases x; cases y; simp

/-- the cells of one of them -/
structure NAt (w : World) (b o : Nat) (x : Nest) (A : Option Addr) (d : Nat) : Prop where
  ca : w.cell? ⟨b, o, none⟩ = some (.int .i64 x.a)
  cb : w.cell? ⟨b, o + 1, none⟩ = some (.int .i64 x.b)
  cc : w.cell? ⟨b, o + 2, none⟩ = some (.int .i64 x.c)
  cl : w.cell? ⟨b, o + 3, none⟩ = some (.slice A x.l.length d)
theorem NAt.cells {w w' : World} {b o : Nat} {x : Nest} {A : Option Addr} {d : Nat} (h : NAt w b o x A d) (hc : ∀ j, w'.cell? ⟨b, j, none⟩ = w.cell? ⟨b, j, none⟩) : NAt w' b o x A d :=
  ⟨(hc _).trans h.ca, (hc _).trans h.cb, (hc _).trans h.cc, (hc _).trans h.cl⟩

def Nl (w : World) (A : Option Addr) (xs : List Nest) : Prop :=
  xs ≠ [] → ∃ b o, A = some ⟨b, o, none⟩ ∧ b < w.heap.size ∧ ∀ i x, xs[i]? = some x → ∃ A' d, NAt w b (o + i * 4) x A' d ∧ Fl one 1 w A' x.l

structure NOwn (lo hi b o : Nat) (g : Nat → Nat) (S : Nat → Option Addr) (D : Nat → Nat) (xs : List Nest) (w : World) : Prop where
  size : b < w.heap.size
  hlo : lo ≤ b
  hhi : b < hi
  frozen : ∀ j, w.frozen? ⟨b, j, none⟩ = false
  cell : ∀ i x, xs[i]? = some x → NAt w b (o + i * 4) x (S i) (D i)
  own : ∀ i x, xs[i]? = some x → FlO one 1 (g i) (g i + 1) w (S i) x.l
  rng : ∀ i x, xs[i]? = some x → x.l ≠ [] → lo ≤ g i ∧ g i < hi ∧ g i ≠ b
  inj : ∀ i j x y, xs[i]? = some x → xs[j]? = some y → x.l ≠ [] → y.l ≠ [] → g i = g j → i = j
def NlO (lo hi : Nat) (w : World) (A : Option Addr) (xs : List Nest) : Prop :=
  xs ≠ [] → ∃ b o g S D, A = some ⟨b, o, none⟩ ∧ NOwn lo hi b o g S D xs w

section
variable {lo hi : Nat} {w w' : World} {A : Option Addr} {xs : List Nest}
theorem Nl.nil : Nl w A [] := fun h => absurd rfl h
theorem NlO.nil : NlO lo hi w A [] := fun h => absurd rfl h
theorem Nl.ext (h : Nl w A xs) (hb : Below w.heap.size w w') : Nl w' A xs := fun hn => by
  obtain ⟨b, o, h1, h2, h3⟩ := h hn
  refine ⟨b, o, h1, Nat.lt_of_lt_of_le h2 hb.size, fun i x hx => ?_⟩
  obtain ⟨A', d, h4, h5⟩ := h3 i x hx
  exact ⟨A', d, h4.cells fun j => hb.cell (p := ⟨b, j, none⟩) h2, h5.ext hb⟩
theorem NlO.nl (h : NlO lo hi w A xs) : Nl w A xs := fun hn => by
  obtain ⟨b, o, g, S, D, h1, h2⟩ := h hn
  exact ⟨b, o, h1, h2.size, fun i x hx => ⟨S i, D i, h2.cell i x hx, (h2.own i x hx).fl⟩⟩
theorem NlO.mono {lo' hi' : Nat} (h : NlO lo hi w A xs) (hl : lo' ≤ lo) (hh : hi ≤ hi') : NlO lo' hi' w A xs := fun hn => by
  obtain ⟨b, o, g, S, D, h1, h2⟩ := h hn
  exact ⟨b, o, g, S, D, h1, h2.size, Nat.le_trans hl h2.hlo, Nat.lt_of_lt_of_le h2.hhi hh, h2.frozen, h2.cell, h2.own, fun i x hx hl' => by have := h2.rng i x hx hl'; omega, h2.inj⟩
theorem NlO.touch {l u : Nat} (h : NlO lo hi w A xs) (ht : Touch l u w w') (ho : hi ≤ l ∨ u ≤ lo) : NlO lo hi w' A xs := fun hn => by
  obtain ⟨b, o, g, S, D, h1, h2⟩ := h hn
  have hb := h2.hlo
  have hb' := h2.hhi
  refine ⟨b, o, g, S, D, h1, Nat.lt_of_lt_of_le h2.size ht.size, h2.hlo, h2.hhi, fun j => (ht.frozen h2.size (by omega)).trans (h2.frozen j), fun i x hx => (h2.cell i x hx).cells fun j => ht.cell h2.size (by omega), fun i x hx => ?_, h2.rng, h2.inj⟩
  by_cases hl : x.l = []
  · rw [hl]; exact FlO.nil
  · have := h2.rng i x hx hl
    exact (h2.own i x hx).touch ht (by rcases ho with h | h <;> omega)
theorem NlO.ext (h : NlO lo hi w A xs) (hb : Below w.heap.size w w') : NlO lo hi w' A xs := fun hn => by
  obtain ⟨b, o, g, S, D, h1, h2⟩ := h hn
  exact ⟨b, o, g, S, D, h1, Nat.lt_of_lt_of_le h2.size hb.size, h2.hlo, h2.hhi, fun j => (hb.frozen (p := ⟨b, j, none⟩) h2.size).trans (h2.frozen j), fun i x hx => (h2.cell i x hx).cells fun j => hb.cell (p := ⟨b, j, none⟩) h2.size, fun i x hx => (h2.own i x hx).ext hb, h2.rng, h2.inj⟩
theorem Nl.at_ (h : Nl w A xs) {k : Nat} (hk : k < xs.length) : ∃ x b o A' d, xs[k]? = some x ∧ A = some ⟨b, o, none⟩ ∧ b < w.heap.size ∧ NAt w b (o + k * 4) x A' d ∧ Fl one 1 w A' x.l := by
  obtain ⟨b, o, h1, h2, h3⟩ := h (fun e => by subst e; simp at hk)
  have hx : xs[k]? = some xs[k] := List.getElem?_eq_getElem hk
  obtain ⟨A', d, h4, h5⟩ := h3 k _ hx
  exact ⟨xs[k], b, o, A', d, hx, h1, h2, h4, h5⟩
theorem Nl.get {b o : Nat} (h : Nl w (some ⟨b, o, none⟩) xs) {k : Nat} {x : Nest} (hx : xs[k]? = some x) : ∃ A' d, NAt w b (o + k * 4) x A' d ∧ Fl one 1 w A' x.l := by
  obtain ⟨b', o', h1, _, h3⟩ := h (fun e => by subst e; simp at hx)
  injection h1 with h1
  injection h1 with hb ho
  subst hb ho
  exact h3 k x hx
/-- a slice whose address is known to be a block's: the block is the one that is owned -/
theorem FlO.one_block {α : Type} {f : α → List Int} {sz B : Nat} {ys : List α} (h : FlO f sz lo hi w (some ⟨B, 0, none⟩) ys) : FlO f sz B (B + 1) w (some ⟨B, 0, none⟩) ys ∧ (ys ≠ [] → lo ≤ B ∧ B < hi ∧ B < w.heap.size) := by
  refine ⟨fun hn => ?_, fun hn => ?_⟩
  · obtain ⟨b, o, h1, h2, h3, h4, h5, h6⟩ := h hn
    injection h1 with h1
    injection h1 with hb ho
    subst hb ho
    exact ⟨B, 0, rfl, h2, Nat.le_refl _, Nat.lt_succ_self _, h5, h6⟩
  · obtain ⟨b, o, h1, h2, h3, h4, h5, h6⟩ := h hn
    injection h1 with h1
    injection h1 with hb ho
    subst hb ho
    exact ⟨h3, h4, h2⟩
end

/-! ### a new block that is being filled -/
structure NFill (B n : Nat) (xs : List Nest) (g : Nat → Nat) (S : Nat → Option Addr) (D : Nat → Nat) (k : Nat) (wr : World) : Prop where
  size : B < wr.heap.size
  frozen : ∀ j, wr.frozen? ⟨B, j, none⟩ = false
  there : ∀ j, j < n * 4 → ∃ u, wr.cell? ⟨B, j, none⟩ = some u
  cell : ∀ i x, i < k → xs[i]? = some x → NAt wr B (i * 4) x (S i) (D i)
  own : ∀ i x, i < k → xs[i]? = some x → FlO one 1 (g i) (g i + 1) wr (S i) x.l
  rng : ∀ i x, i < k → xs[i]? = some x → x.l ≠ [] → B < g i ∧ g i < wr.heap.size
  inj : ∀ i j x y, i < k → j < k → xs[i]? = some x → xs[j]? = some y → x.l ≠ [] → y.l ≠ [] → g i = g j → i = j
section
variable {B n k : Nat} {xs : List Nest} {g : Nat → Nat} {S : Nat → Option Addr} {D : Nat → Nat} {w wr w1 : World}
theorem NFill.ext (h : NFill B n xs g S D k wr) (hb : Below wr.heap.size wr w1) : NFill B n xs g S D k w1 :=
  ⟨Nat.lt_of_lt_of_le h.size hb.size, fun j => (hb.frozen (p := ⟨B, j, none⟩) h.size).trans (h.frozen j), fun j hj => by
    obtain ⟨u, hu⟩ := h.there j hj
    exact ⟨u, (hb.cell (p := ⟨B, j, none⟩) h.size).trans hu⟩, fun i x hi hx => (h.cell i x hi hx).cells fun j => hb.cell (p := ⟨B, j, none⟩) h.size,
    fun i x hi hx => (h.own i x hi hx).ext hb, fun i x hi hx hl => by have := h.rng i x hi hx hl; have := hb.size; omega, h.inj⟩
theorem NFill.start (hf : w.heap.size = B) {cs : Array Value} {t : TypeId} (hc : cs.size = n * 4) : NFill B n xs g S D 0 (w.alloc (.cells cs t)) := by
  subst hf
  refine ⟨by simp, fun j => by simp only [World.frozen?, heap_alloc_new]; simp, fun j hj => ?_, fun i x hi => by omega, fun i x hi => by omega, fun i x hi => by omega, fun i j x y hi => by omega⟩
  rw [World.cell?_alloc_new]
  exact ⟨cs[j]'(by omega), Array.getElem?_eq_getElem (by omega)⟩
/-- one more: its inner slice in a block Q that came since -/
theorem NFill.step {Q d : Nat} (h : NFill B n xs g S D k wr) (hb : Below wr.heap.size wr w1) (hk : k < n) {x : Nest} (hx : xs[k]? = some x)
    (hF : FlO one 1 wr.heap.size w1.heap.size w1 (some ⟨Q, 0, none⟩) x.l) :
    NFill B n xs (fun i => if i = k then Q else g i) (fun i => if i = k then some ⟨Q, 0, none⟩ else S i) (fun i => if i = k then d else D i) (k + 1)
      (setRow w1 B (k * 4) [.int .i64 x.a, .int .i64 x.b, .int .i64 x.c, .slice (some ⟨Q, 0, none⟩) x.l.length d]) := by
  have h1 := h.ext hb
  obtain ⟨hq1, hq2⟩ := hF.one_block
  have hm : k * 4 + 4 ≤ n * 4 := by omega
  have hth : ∀ j, j < ([.int .i64 x.a, .int .i64 x.b, .int .i64 x.c, .slice (some ⟨Q, 0, none⟩) x.l.length d] : List Value).length → ∃ u, w1.cell? ⟨B, k * 4 + j, none⟩ = some u := fun j hj => h1.there _ (by simp at hj; omega)
  have hT := setRow_touch B (Nat.le_refl B) (Nat.lt_succ_self B) [Value.int .i64 x.a, .int .i64 x.b, .int .i64 x.c, .slice (some ⟨Q, 0, none⟩) x.l.length d] w1 (k * 4)
  have hsame := setRow_same B _ w1 (k * 4) hth
  have hother := fun b o => setRow_other B b o [Value.int .i64 x.a, .int .i64 x.b, .int .i64 x.c, .slice (some ⟨Q, 0, none⟩) x.l.length d] w1 (k * 4)
  have hsz : (setRow w1 B (k * 4) [Value.int .i64 x.a, .int .i64 x.b, .int .i64 x.c, .slice (some ⟨Q, 0, none⟩) x.l.length d]).heap.size = w1.heap.size := setRow_size _ _ _ _
  have hB := h.size
  have hfz : ∀ j, (setRow w1 B (k * 4) [Value.int .i64 x.a, .int .i64 x.b, .int .i64 x.c, .slice (some ⟨Q, 0, none⟩) x.l.length d]).frozen? ⟨B, j, none⟩ = w1.frozen? ⟨B, j, none⟩ := fun j => setRow_frozen _ _ _ _ _
  generalize setRow w1 B (k * 4) [Value.int .i64 x.a, .int .i64 x.b, .int .i64 x.c, .slice (some ⟨Q, 0, none⟩) x.l.length d] = R at hT hsame hother hsz hfz ⊢
  have hs0 := hsame 0 (.int .i64 x.a) rfl
  have hs1 := hsame 1 (.int .i64 x.b) rfl
  have hs2 := hsame 2 (.int .i64 x.c) rfl
  have hs3 := hsame 3 (.slice (some ⟨Q, 0, none⟩) x.l.length d) rfl
  clear hth
  refine ⟨by rw [hsz]; exact h1.size, fun j => by rw [hfz]; exact h1.frozen j, fun j hj => ?_, fun i y hi hy => ?_, fun i y hi hy => ?_, fun i y hi hy hl => ?_, fun i j y z hi hj hy hz hl hl' hg => ?_⟩
  · by_cases hin : k * 4 ≤ j ∧ j < k * 4 + 4
    · have := hsame (j - k * 4) _ (List.getElem?_eq_getElem (by simp; omega))
      rw [show k * 4 + (j - k * 4) = j from by omega] at this
      exact ⟨_, this⟩
    · rw [hother B j (by simp; omega)]
      exact h1.there j hj
  · by_cases e : i = k
    · subst e
      rw [hy] at hx
      cases hx
      simp only [if_true]
      exact ⟨hs0, hs1, hs2, hs3⟩
    · simp only [if_neg e]
      have hc := h1.cell i y (by omega) hy
      exact ⟨(hother B _ (by simp; omega)).trans hc.ca, (hother B _ (by simp; omega)).trans hc.cb, (hother B _ (by simp; omega)).trans hc.cc, (hother B _ (by simp; omega)).trans hc.cl⟩
  · by_cases hl : y.l = []
    · rw [hl]; exact FlO.nil
    · by_cases e : i = k
      · subst e
        rw [hy] at hx
        cases hx
        simp only [if_true]
        have := hq2 hl
        exact hq1.touch hT (by omega)
      · simp only [if_neg e]
        have := h1.rng i y (by omega) hy hl
        exact (h1.own i y (by omega) hy).touch hT (by omega)
  · by_cases e : i = k
    · subst e
      rw [hy] at hx
      cases hx
      simp only [if_true]
      have := hq2 hl
      rw [hsz]
      omega
    · simp only [if_neg e]
      have := h1.rng i y (by omega) hy hl
      rw [hsz]
      exact this
  · by_cases e : i = k
    · by_cases e' : j = k
      · omega
      · subst e
        rw [hy] at hx
        cases hx
        simp only [if_true, if_neg e'] at hg
        have h2 := hq2 hl
        have h3 := h.rng j z (by omega) hz hl'
        omega
    · by_cases e' : j = k
      · subst e'
        rw [hz] at hx
        cases hx
        simp only [if_true, if_neg e] at hg
        have h2 := hq2 hl'
        have h3 := h.rng i y (by omega) hy hl
        omega
      · simp only [if_neg e, if_neg e'] at hg
        exact h.inj i j y z (by omega) (by omega) hy hz hl hl' hg
theorem NFill.nlo {lo : Nat} (h : NFill B n xs g S D k wr) (hk : xs.length ≤ k) (hlo : lo ≤ B) : NlO lo wr.heap.size wr (some ⟨B, 0, none⟩) xs := fun _ =>
  have hi : ∀ {i x}, xs[i]? = some x → i < k := fun hx => Nat.lt_of_lt_of_le (lt_of_get hx) hk
  ⟨B, 0, g, S, D, rfl, h.size, hlo, h.size, h.frozen, fun i x hx => by rw [Nat.zero_add]; exact h.cell i x (hi hx) hx, fun i x hx => h.own i x (hi hx) hx, fun i x hx hl => by have := h.rng i x (hi hx) hx hl; omega, fun i j x y hx hy => h.inj i j x y (hi hx) (hi hy) hx hy⟩
end

/-! ### how much there is -/
def lsum : List Nest → Nat
  | [] => 0
  | x :: xs => x.l.length + lsum xs
def wt (xs : List Nest) : Nat := xs.length + lsum xs
theorem lsum_append (xs ys : List Nest) : lsum (xs ++ ys) = lsum xs + lsum ys := by
  induction xs with
  | nil => simp [lsum]
  | cons x xs ih => simp [lsum, ih]; omega
theorem lsum_take {xs : List Nest} {k : Nat} {x : Nest} (hx : xs[k]? = some x) : lsum (xs.take (k + 1)) = lsum (xs.take k) + x.l.length := by
  rw [take_get hx, lsum_append]
  simp [lsum]
theorem lsum_le (xs : List Nest) (k : Nat) : lsum (xs.take k) ≤ lsum xs := by
  conv => rhs; rw [← List.take_append_drop k xs]
  rw [lsum_append]
  omega
def szR (n : Nat) (left : Int) : Int := if (n : Int) ≤ left then left - n else -1
theorem szR_ok {n : Nat} {left : Int} (h : (n : Int) ≤ left) : szR n left = left - n := if_pos h
theorem szR_no {n : Nat} {left : Int} (h : ¬ (n : Int) ≤ left) : szR n left = -1 := if_neg h
theorem wt_snoc (xs : List Nest) (x : Nest) : wt (xs ++ [x]) = wt xs + 1 + x.l.length := by
  unfold wt
  rw [lsum_append, List.length_append]
  simp [lsum]
  omega
theorem lsum_bound (m : Nat) : ∀ xs : List Nest, (∀ x ∈ xs, x.l.length ≤ m) → lsum xs ≤ m * xs.length
  | [], _ => by simp [lsum]
  | x :: r, h => by
    have h1 := h x List.mem_cons_self
    have h2 := lsum_bound m r fun y hy => h y (List.mem_cons_of_mem _ hy)
    rw [lsum, List.length_cons, Nat.mul_add, Nat.mul_one]
    omega
theorem wt_len (xs : List Nest) : xs.length ≤ wt xs := by unfold wt; omega
theorem wt_in {xs : List Nest} {x : Nest} (h : x ∈ xs) : x.l.length ≤ wt xs := by
  unfold wt
  induction xs with
  | nil => simp at h
  | cons y ys ih =>
    rcases List.mem_cons.1 h with rfl | h
    · simp [lsum]; omega
    · have := ih h
      simp [lsum]; omega
end Go.Proofs.YtlagfeccdcjimaaDoor
