/- Slices of elements with p integers and one []int: owned memory, numbered memory. No Go text is spoken of here. -/
import Derived.Test.YtlagfeccdcjimaaDoorBase
import Derived.Test.YtlagfeccdcjimaaDoorBase2
import Derived.Test.YtlagfeccdcjimaaDoorNest
namespace Go.Proofs.YtlagfeccdcjimaaDoor
open Go.RowKit
set_option linter.unusedVariables false
set_option linter.unusedSimpArgs false

structure GAt {α : Type} (hd tl : α → List Int) (p : Nat) (w : World) (b o : Nat) (x : α) (A : Option Addr) (d : Nat) : Prop where
  ch : ∀ j q, (hd x)[j]? = some q → w.cell? ⟨b, o + j, none⟩ = some (.int .i64 q)
  ct : w.cell? ⟨b, o + p, none⟩ = some (.slice A (tl x).length d)
theorem GAt.cells {α : Type} {hd tl : α → List Int} {p : Nat} {w w' : World} {b o : Nat} {x : α} {A : Option Addr} {d : Nat} (h : GAt hd tl p w b o x A d) (hc : ∀ j, w'.cell? ⟨b, j, none⟩ = w.cell? ⟨b, j, none⟩) : GAt hd tl p w' b o x A d :=
  ⟨fun j q hq => (hc _).trans (h.ch j q hq), (hc _).trans h.ct⟩
def Gl {α : Type} (hd tl : α → List Int) (p : Nat) (w : World) (A : Option Addr) (xs : List α) : Prop :=
  xs ≠ [] → ∃ b o, A = some ⟨b, o, none⟩ ∧ b < w.heap.size ∧ ∀ i x, xs[i]? = some x → ∃ A' d, GAt hd tl p w b (o + i * (p + 1)) x A' d ∧ Fl one 1 w A' (tl x)
structure GOwn {α : Type} (hd tl : α → List Int) (p lo hi b o : Nat) (g : Nat → Nat) (S : Nat → Option Addr) (D : Nat → Nat) (xs : List α) (w : World) : Prop where
  size : b < w.heap.size
  hlo : lo ≤ b
  hhi : b < hi
  frozen : ∀ j, w.frozen? ⟨b, j, none⟩ = false
  cell : ∀ i x, xs[i]? = some x → GAt hd tl p w b (o + i * (p + 1)) x (S i) (D i)
  own : ∀ i x, xs[i]? = some x → FlO one 1 (g i) (g i + 1) w (S i) (tl x)
  rng : ∀ i x, xs[i]? = some x → tl x ≠ [] → lo ≤ g i ∧ g i < hi ∧ g i ≠ b
  inj : ∀ i j x y, xs[i]? = some x → xs[j]? = some y → tl x ≠ [] → tl y ≠ [] → g i = g j → i = j
def GlO {α : Type} (hd tl : α → List Int) (p lo hi : Nat) (w : World) (A : Option Addr) (xs : List α) : Prop :=
  xs ≠ [] → ∃ b o g S D, A = some ⟨b, o, none⟩ ∧ GOwn hd tl p lo hi b o g S D xs w

section
variable {α : Type} {hd tl : α → List Int} {p lo hi : Nat} {w w' : World} {A : Option Addr} {xs : List α}
theorem Gl.nil : Gl hd tl p w A ([] : List α) := fun h => absurd rfl h
theorem GlO.nil : GlO hd tl p lo hi w A ([] : List α) := fun h => absurd rfl h
theorem Gl.ext (h : Gl hd tl p w A xs) (hb : Below w.heap.size w w') : Gl hd tl p w' A xs := fun hn => by
  obtain ⟨b, o, h1, h2, h3⟩ := h hn
  refine ⟨b, o, h1, Nat.lt_of_lt_of_le h2 hb.size, fun i x hx => ?_⟩
  obtain ⟨A', d, h4, h5⟩ := h3 i x hx
  exact ⟨A', d, h4.cells fun j => hb.cell (p := ⟨b, j, none⟩) h2, h5.ext hb⟩
theorem GlO.gl (h : GlO hd tl p lo hi w A xs) : Gl hd tl p w A xs := fun hn => by
  obtain ⟨b, o, g, S, D, h1, h2⟩ := h hn
  exact ⟨b, o, h1, h2.size, fun i x hx => ⟨S i, D i, h2.cell i x hx, (h2.own i x hx).fl⟩⟩
theorem GlO.mono {lo' hi' : Nat} (h : GlO hd tl p lo hi w A xs) (hl : lo' ≤ lo) (hh : hi ≤ hi') : GlO hd tl p lo' hi' w A xs := fun hn => by
  obtain ⟨b, o, g, S, D, h1, h2⟩ := h hn
  exact ⟨b, o, g, S, D, h1, h2.size, Nat.le_trans hl h2.hlo, Nat.lt_of_lt_of_le h2.hhi hh, h2.frozen, h2.cell, h2.own, fun i x hx hl' => by have := h2.rng i x hx hl'; omega, h2.inj⟩
theorem GlO.touch {l u : Nat} (h : GlO hd tl p lo hi w A xs) (ht : Touch l u w w') (ho : hi ≤ l ∨ u ≤ lo) : GlO hd tl p lo hi w' A xs := fun hn => by
  obtain ⟨b, o, g, S, D, h1, h2⟩ := h hn
  have hb := h2.hlo
  have hb' := h2.hhi
  refine ⟨b, o, g, S, D, h1, Nat.lt_of_lt_of_le h2.size ht.size, h2.hlo, h2.hhi, fun j => (ht.frozen h2.size (by omega)).trans (h2.frozen j), fun i x hx => (h2.cell i x hx).cells fun j => ht.cell h2.size (by omega), fun i x hx => ?_, h2.rng, h2.inj⟩
  by_cases hl : tl x = []
  · rw [hl]; exact FlO.nil
  · have := h2.rng i x hx hl
    exact (h2.own i x hx).touch ht (by rcases ho with h | h <;> omega)
theorem GlO.ext (h : GlO hd tl p lo hi w A xs) (hb : Below w.heap.size w w') : GlO hd tl p lo hi w' A xs := fun hn => by
  obtain ⟨b, o, g, S, D, h1, h2⟩ := h hn
  exact ⟨b, o, g, S, D, h1, Nat.lt_of_lt_of_le h2.size hb.size, h2.hlo, h2.hhi, fun j => (hb.frozen (p := ⟨b, j, none⟩) h2.size).trans (h2.frozen j), fun i x hx => (h2.cell i x hx).cells fun j => hb.cell (p := ⟨b, j, none⟩) h2.size, fun i x hx => (h2.own i x hx).ext hb, h2.rng, h2.inj⟩
theorem Gl.at_ (h : Gl hd tl p w A xs) {k : Nat} (hk : k < xs.length) : ∃ x b o A' d, xs[k]? = some x ∧ A = some ⟨b, o, none⟩ ∧ b < w.heap.size ∧ GAt hd tl p w b (o + k * (p + 1)) x A' d ∧ Fl one 1 w A' (tl x) := by
  obtain ⟨b, o, h1, h2, h3⟩ := h (fun e => by subst e; simp at hk)
  have hx : xs[k]? = some xs[k] := List.getElem?_eq_getElem hk
  obtain ⟨A', d, h4, h5⟩ := h3 k _ hx
  exact ⟨xs[k], b, o, A', d, hx, h1, h2, h4, h5⟩
end

/-! ### the two kinds: structs of three integers and a []int; []int alone -/
def hdN (x : Nest) : List Int := [x.a, x.b, x.c]
theorem NAt.g {w : World} {b o : Nat} {x : Nest} {A : Option Addr} {d : Nat} (h : NAt w b o x A d) : GAt hdN Nest.l 3 w b o x A d :=
  ⟨fun j q hq => by
    match j, hq with
    | 0, hq => simp [hdN] at hq; subst hq; exact h.ca
    | 1, hq => simp [hdN] at hq; subst hq; exact h.cb
    | 2, hq => simp [hdN] at hq; subst hq; exact h.cc
    | j + 3, hq => simp [hdN] at hq, h.cl⟩
theorem GAt.n {w : World} {b o : Nat} {x : Nest} {A : Option Addr} {d : Nat} (h : GAt hdN Nest.l 3 w b o x A d) : NAt w b o x A d :=
  ⟨h.ch 0 _ rfl, h.ch 1 _ rfl, h.ch 2 _ rfl, h.ct⟩
theorem NlO.g {lo hi : Nat} {w : World} {A : Option Addr} {xs : List Nest} (h : NlO lo hi w A xs) : GlO hdN Nest.l 3 lo hi w A xs := fun hn => by
  obtain ⟨b, o, g, S, D, h1, h2⟩ := h hn
  exact ⟨b, o, g, S, D, h1, h2.size, h2.hlo, h2.hhi, h2.frozen, fun i x hx => (h2.cell i x hx).g, h2.own, h2.rng, h2.inj⟩
theorem GlO.n {lo hi : Nat} {w : World} {A : Option Addr} {xs : List Nest} (h : GlO hdN Nest.l 3 lo hi w A xs) : NlO lo hi w A xs := fun hn => by
  obtain ⟨b, o, g, S, D, h1, h2⟩ := h hn
  exact ⟨b, o, g, S, D, h1, h2.size, h2.hlo, h2.hhi, h2.frozen, fun i x hx => (h2.cell i x hx).n, h2.own, h2.rng, h2.inj⟩
theorem Gl.n {w : World} {A : Option Addr} {xs : List Nest} (h : Gl hdN Nest.l 3 w A xs) : Nl w A xs := fun hn => by
  obtain ⟨b, o, h1, h2, h3⟩ := h hn
  refine ⟨b, o, h1, h2, fun i x hx => ?_⟩
  obtain ⟨A', d, h4, h5⟩ := h3 i x hx
  exact ⟨A', d, h4.n, h5⟩
def nohd (x : List Int) : List Int := []
def slf (x : List Int) : List Int := x

/-! ### marks -/
def offG {α : Type} (tl : α → List Int) (p : Nat) (xs : List α) : Nat → Nat
  | 0 => 0
  | i + 1 => offG tl p xs i + p + (match xs[i]? with | none => 0 | some x => (tl x).length)
theorem offG_step {α : Type} {tl : α → List Int} {p : Nat} {xs : List α} {i : Nat} {x : α} (h : xs[i]? = some x) : offG tl p xs (i + 1) = offG tl p xs i + p + (tl x).length := by
  rw [offG, h]
theorem offG_mono {α : Type} {tl : α → List Int} {p : Nat} {xs : List α} {i : Nat} : ∀ {k : Nat}, i ≤ k → offG tl p xs i ≤ offG tl p xs k
  | 0, h => by rw [Nat.le_zero.1 h]; exact Nat.le_refl _
  | k + 1, h => by
    rcases Nat.lt_or_ge i (k + 1) with h1 | h1
    · have := offG_mono (tl := tl) (p := p) (xs := xs) (i := i) (k := k) (by omega)
      rw [offG]
      omega
    · rw [show i = k + 1 from by omega]
      exact Nat.le_refl _
theorem offN_take (xs : List Nest) : ∀ k, offG Nest.l 3 xs k ≤ 3 * k + lsum (xs.take k)
  | 0 => by simp [offG]
  | k + 1 => by
    have ih := offN_take xs k
    rcases hx : xs[k]? with _ | x
    · rw [offG, hx, show xs.take (k + 1) = xs.take k by rw [List.take_add_one, hx]; simp]
      simp only [Nat.add_zero]
      omega
    · rw [offG_step hx, lsum_take hx]
      omega
theorem offN_le (xs : List Nest) : offG Nest.l 3 xs xs.length ≤ 3 * wt xs := by
  have := offN_take xs xs.length
  rw [List.take_length] at this
  unfold wt
  omega
structure GMark {α : Type} (tl : α → List Int) (p b o lo hi : Nat) (g : Nat → Nat) (S : Nat → Option Addr) (D : Nat → Nat) (xs : List α) (k : Nat) (k0 : Int) (w wr : World) : Prop where
  size : b < wr.heap.size
  hlo : lo ≤ b
  hhi : b < hi
  frozen : ∀ j, wr.frozen? ⟨b, j, none⟩ = false
  there : ∀ i x, xs[i]? = some x → ∀ j, j < p → ∃ u, wr.cell? ⟨b, o + i * (p + 1) + j, none⟩ = some u
  tail : ∀ i x, xs[i]? = some x → wr.cell? ⟨b, o + i * (p + 1) + p, none⟩ = some (.slice (S i) (tl x).length (D i))
  done : ∀ i x, i < k → xs[i]? = some x → (∀ j : Nat, j < p → wr.cell? ⟨b, o + i * (p + 1) + j, none⟩ = some (.int .i64 (k0 + (offG tl p xs i : Int) + j))) ∧ Num (g i) (g i + 1) wr (S i) (tl x).length (k0 + (offG tl p xs i : Int) + p)
  rest : ∀ i x, k ≤ i → xs[i]? = some x → FlO one 1 (g i) (g i + 1) wr (S i) (tl x)
  rng : ∀ i x, xs[i]? = some x → tl x ≠ [] → lo ≤ g i ∧ g i < hi ∧ g i ≠ b
  inj : ∀ i j x y, xs[i]? = some x → xs[j]? = some y → tl x ≠ [] → tl y ≠ [] → g i = g j → i = j
  touch : Touch lo hi w wr
def GNum {α : Type} (tl : α → List Int) (p lo hi : Nat) (w : World) (A : Option Addr) (xs : List α) (k0 : Int) : Prop :=
  xs ≠ [] → ∃ (b o : Nat) (g : Nat → Nat) (S : Nat → Option Addr) (D : Nat → Nat), A = some ⟨b, o, none⟩ ∧ b < w.heap.size ∧ lo ≤ b ∧ b < hi ∧
    (∀ i x, xs[i]? = some x → (∀ j : Nat, j < p → w.cell? ⟨b, o + i * (p + 1) + j, none⟩ = some (.int .i64 (k0 + (offG tl p xs i : Int) + j))) ∧ w.cell? ⟨b, o + i * (p + 1) + p, none⟩ = some (.slice (S i) (tl x).length (D i)) ∧ Num (g i) (g i + 1) w (S i) (tl x).length (k0 + (offG tl p xs i : Int) + p)) ∧
    ∀ i x, xs[i]? = some x → tl x ≠ [] → lo ≤ g i ∧ g i < hi
section
variable {α : Type} {hd tl : α → List Int} {p b o lo hi k : Nat} {k0 : Int} {g : Nat → Nat} {S : Nat → Option Addr} {D : Nat → Nat} {w w' wr w1 w2 : World} {A : Option Addr} {xs : List α}
theorem GOwn.mark (h : GOwn hd tl p lo hi b o g S D xs w) (hp : ∀ x, (hd x).length = p) (k0 : Int) : GMark tl p b o lo hi g S D xs 0 k0 w w :=
  ⟨h.size, h.hlo, h.hhi, h.frozen, fun i x hx j hj => ⟨_, (h.cell i x hx).ch j _ (List.getElem?_eq_getElem (by rw [hp]; exact hj))⟩, fun i x hx => (h.cell i x hx).ct, fun i x hi => by omega, fun i x _ hx => h.own i x hx, h.rng, h.inj, Touch.refl _ _ _⟩
theorem Num.len_zero {n : Nat} {lo hi lo' hi' : Nat} (h : n = 0) : Num lo hi w A n k0 := fun hn => absurd hn (by omega)
/-- the next element's inner slice, with bounds that are empty where it is -/
theorem GMark.inner (h : GMark tl p b o lo hi g S D xs k k0 w wr) {x : α} (hx : xs[k]? = some x) : ∃ l u, (tl x ≠ [] → l = g k ∧ u = g k + 1) ∧ (tl x = [] → l = 0 ∧ u = 0) ∧ FlO one 1 l u wr (S k) (tl x) := by
  by_cases hl : tl x = []
  · exact ⟨0, 0, fun h => absurd hl h, fun _ => ⟨rfl, rfl⟩, by rw [hl]; exact FlO.nil⟩
  · exact ⟨g k, g k + 1, fun _ => ⟨rfl, rfl⟩, fun h => absurd h hl, h.rest k x (Nat.le_refl _) hx⟩
theorem FlO.touch' {β : Type} {f : β → List Int} {sz lo hi l u : Nat} {ys : List β} (h : FlO f sz lo hi w A ys) (ht : Touch l u w w') (ho : ys ≠ [] → hi ≤ l ∨ u ≤ lo) : FlO f sz lo hi w' A ys := fun hn => h.touch ht (ho hn) hn
theorem Num.touch' {n l u : Nat} (h : Num lo hi w A n k0) (ht : Touch l u w w') (ho : 0 < n → hi ≤ l ∨ u ≤ lo) : Num lo hi w' A n k0 := fun hn => h.touch ht (ho hn) hn
theorem GMark.step {x : α} {l u : Nat} (h : GMark tl p b o lo hi g S D xs k k0 w wr) (hx : xs[k]? = some x) (hlu : tl x ≠ [] → l = g k ∧ u = g k + 1) (hlz : tl x = [] → l = 0 ∧ u = 0)
    (vs : List Value) (hvl : vs.length = p) (hvs : ∀ j : Nat, j < p → vs[j]? = some (.int .i64 (k0 + (offG tl p xs k : Int) + j))) (hw1 : w1 = setRow wr b (o + k * (p + 1)) vs)
    (hT : Touch l u w1 w2) (hN : Num l u w2 (S k) (tl x).length (k0 + (offG tl p xs k : Int) + p)) : GMark tl p b o lo hi g S D xs (k + 1) k0 w w2 := by
  have hth : ∀ j, j < vs.length → ∃ u, wr.cell? ⟨b, o + k * (p + 1) + j, none⟩ = some u := fun j hj => h.there k x hx j (by omega)
  have hlo := h.hlo
  have hhi := h.hhi
  have hT1 := setRow_touch b (Nat.le_refl b) (Nat.lt_succ_self b) vs wr (o + k * (p + 1))
  have hsame := setRow_same b vs wr (o + k * (p + 1)) hth
  have hother := fun o' => setRow_other b b o' vs wr (o + k * (p + 1))
  have hfz : ∀ j, (setRow wr b (o + k * (p + 1)) vs).frozen? ⟨b, j, none⟩ = wr.frozen? ⟨b, j, none⟩ := fun j => setRow_frozen _ _ _ _ _
  have hsz : (setRow wr b (o + k * (p + 1)) vs).heap.size = wr.heap.size := setRow_size _ _ _ _
  rw [← hw1] at hT1 hsame hother hfz hsz
  have hb1 : b < w1.heap.size := by rw [hsz]; exact h.size
  have hbo : b < l ∨ u ≤ b := by
    by_cases hl : tl x = []
    · have := hlz hl; omega
    · have := hlu hl; have := h.rng k x hx hl; omega
  have hT2 : ∀ j, w2.cell? ⟨b, j, none⟩ = w1.cell? ⟨b, j, none⟩ := fun j => hT.cell hb1 hbo
  have hne : ∀ i y, xs[i]? = some y → i ≠ k → ∀ o', o' < p + 1 → o + i * (p + 1) + o' < o + k * (p + 1) ∨ o + k * (p + 1) + vs.length ≤ o + i * (p + 1) + o' := fun i y hy hik o' ho' => by
    rcases Nat.lt_or_gt_of_ne hik with h1 | h1
    · have := Nat.mul_le_mul_right (p + 1) (show i + 1 ≤ k from h1)
      rw [Nat.add_mul, Nat.one_mul] at this
      omega
    · have := Nat.mul_le_mul_right (p + 1) (show k + 1 ≤ i from h1)
      rw [Nat.add_mul, Nat.one_mul] at this
      omega
  have hgne : ∀ i y, xs[i]? = some y → i ≠ k → tl y ≠ [] → g i + 1 ≤ l ∨ u ≤ g i := fun i y hy hik hl => by
    by_cases hlx : tl x = []
    · have := hlz hlx; omega
    · have := hlu hlx
      have h1 : g i ≠ g k := fun e => hik (h.inj i k y x hy hx hl hlx e)
      omega
  refine ⟨Nat.lt_of_lt_of_le hb1 hT.size, hlo, hhi, fun j => (hT.frozen hb1 hbo).trans ((hfz j).trans (h.frozen j)), fun i y hy j hj => ?_, fun i y hy => ?_, fun i y hi hy => ?_, fun i y hi hy => ?_, h.rng, h.inj, ?_⟩
  · rw [hT2]
    by_cases e : i = k
    · subst e
      rw [hsame j _ (hvs j hj)]
      exact ⟨_, rfl⟩
    · rw [hother _ (Or.inr (hne i y hy e j (by omega)))]
      exact h.there i y hy j hj
  · rw [hT2]
    by_cases e : i = k
    · subst e
      rw [hother _ (Or.inr (Or.inr (by omega)))]
      exact h.tail i y hy
    · rw [hother _ (Or.inr (hne i y hy e p (by omega)))]
      exact h.tail i y hy
  · by_cases e : i = k
    · subst e
      rw [hx] at hy
      cases hy
      refine ⟨fun j hj => by rw [hT2]; exact hsame j _ (hvs j hj), fun hn => ?_⟩
      have hl : tl x ≠ [] := fun e => by rw [e] at hn; simp at hn
      obtain ⟨e1, e2⟩ := hlu hl
      subst e1 e2
      exact hN hn
    · obtain ⟨h1, h2⟩ := h.done i y (by omega) hy
      refine ⟨fun j hj => by rw [hT2, hother _ (Or.inr (hne i y hy e j (by omega)))]; exact h1 j hj, ?_⟩
      have hly : 0 < (tl y).length → tl y ≠ [] := fun h e => by rw [e] at h; simp at h
      refine (h2.touch' hT1 fun hn => ?_).touch' hT fun hn => hgne i y hy e (hly hn)
      have := h.rng i y hy (hly hn)
      omega
  · refine ((h.rest i y (by omega) hy).touch' hT1 fun hn => ?_).touch' hT fun hn => hgne i y hy (by omega) hn
    have := h.rng i y hy hn
    omega
  · refine (h.touch.trans (hT1.mono hlo (by omega))).trans ?_
    by_cases hl : tl x = []
    · obtain ⟨e1, e2⟩ := hlz hl
      subst e1 e2
      exact ⟨hT.os, hT.tape, hT.output, hT.size, fun i hi _ => hT.block i hi (Or.inr (Nat.zero_le _))⟩
    · obtain ⟨e1, e2⟩ := hlu hl
      subst e1 e2
      have := h.rng k x hx hl
      exact hT.mono this.1 (by omega)
theorem GMark.num (h : GMark tl p b o lo hi g S D xs k k0 w wr) (hk : xs.length ≤ k) : GNum tl p lo hi wr (some ⟨b, o, none⟩) xs k0 := fun _ =>
  ⟨b, o, g, S, D, rfl, h.size, h.hlo, h.hhi, fun i x hx => by
    have := h.done i x (Nat.lt_of_lt_of_le (lt_of_get hx) hk) hx
    exact ⟨this.1, h.tail i x hx, this.2⟩, fun i x hx hl => by have := h.rng i x hx hl; omega⟩
theorem GNum.nil : GNum tl p lo hi w A ([] : List α) k0 := fun h => absurd rfl h
theorem GNum.touch {l u : Nat} (h : GNum tl p lo hi w A xs k0) (ht : Touch l u w w') (ho : hi ≤ l ∨ u ≤ lo) : GNum tl p lo hi w' A xs k0 := fun hn => by
  obtain ⟨b, o, g, S, D, h1, h2, h3, h4, h5, h6⟩ := h hn
  have hbo : b < l ∨ u ≤ b := by omega
  refine ⟨b, o, g, S, D, h1, Nat.lt_of_lt_of_le h2 ht.size, h3, h4, fun i x hx => ?_, h6⟩
  obtain ⟨q1, q2, q3⟩ := h5 i x hx
  refine ⟨fun j hj => (ht.cell h2 hbo).trans (q1 j hj), (ht.cell h2 hbo).trans q2, q3.touch' ht fun hn' => ?_⟩
  have := h6 i x hx (fun e => by rw [e] at hn'; simp at hn')
  omega
theorem GNum.ext (h : GNum tl p lo hi w A xs k0) (hb : Below w.heap.size w w') : GNum tl p lo hi w' A xs k0 := fun hn => by
  obtain ⟨b, o, g, S, D, h1, h2, h3, h4, h5, h6⟩ := h hn
  refine ⟨b, o, g, S, D, h1, Nat.lt_of_lt_of_le h2 hb.size, h3, h4, fun i x hx => ?_, h6⟩
  obtain ⟨q1, q2, q3⟩ := h5 i x hx
  exact ⟨fun j hj => (hb.cell (p := ⟨b, _, none⟩) h2).trans (q1 j hj), (hb.cell (p := ⟨b, _, none⟩) h2).trans q2, q3.ext hb⟩
end
end Go.Proofs.YtlagfeccdcjimaaDoor
