/- The place of a sheet that was changed most often: the plain law. -/
import Derived.Test.YtadcjfbcfiljkaaDoorPlaceH
namespace Go.Proofs.YtadcjfbcfiljkaaDoor
open Go.RowKit
set_option linter.unusedVariables false
set_option linter.unusedSimpArgs false

def bestTo (cnt : Int → Int) : Nat → Int × Int
  | 0 => (0, 0)
  | p + 1 => if (bestTo cnt p).2 < cnt p then ((p : Int), cnt p) else bestTo cnt p
def upd (cnt : Int → Int) (s : Int × Int) (p : Int) : Int × Int := if s.2 < cnt p ∨ (cnt p = s.2 ∧ p < s.1) then (p, cnt p) else s
def plc (ys : List Nest) : List Int := ys.flatMap Nest.l
/-- the least place with the greatest count among those of D, or (0, 0) -/
def BestOf (cnt : Int → Int) (D : Int → Prop) (s : Int × Int) : Prop :=
  (s = (0, 0) ∧ ∀ p, D p → cnt p = 0) ∨ (0 < s.2 ∧ D s.1 ∧ cnt s.1 = s.2 ∧ ∀ p, D p → cnt p < s.2 ∨ (cnt p = s.2 ∧ s.1 ≤ p))
theorem bestTo_best (cnt : Int → Int) (h0 : ∀ p, 0 ≤ cnt p) : ∀ n : Nat, BestOf cnt (fun p => 0 ≤ p ∧ p < n) (bestTo cnt n)
  | 0 => .inl ⟨rfl, fun p hp => by omega⟩
  | n + 1 => by
    have ih := bestTo_best cnt h0 n
    have hn := h0 n
    rw [bestTo]
    rcases ih with ⟨h1, h2⟩ | ⟨h1, h2, h3, h4⟩
    · rw [h1]
      by_cases hq : (0 : Int) < cnt n
      · rw [if_pos hq]
        refine .inr ⟨hq, ⟨by omega, by show (n : Int) < ((n + 1 : Nat) : Int); omega⟩, rfl, fun p hp => ?_⟩
        by_cases e : p = n
        · subst e; exact .inr ⟨rfl, Int.le_refl _⟩
        · have := h2 p ⟨hp.1, by omega⟩
          exact .inl (by show cnt p < cnt n; omega)
      · rw [if_neg hq]
        refine .inl ⟨rfl, fun p hp => ?_⟩
        by_cases e : p = n
        · subst e; omega
        · exact h2 p ⟨hp.1, by omega⟩
    · by_cases hq : (bestTo cnt n).2 < cnt n
      · rw [if_pos hq]
        refine .inr ⟨by show (0 : Int) < cnt n; omega, ⟨by omega, by show (n : Int) < ((n + 1 : Nat) : Int); omega⟩, rfl, fun p hp => ?_⟩
        by_cases e : p = n
        · subst e; exact .inr ⟨rfl, Int.le_refl _⟩
        · have := h4 p ⟨hp.1, by omega⟩
          exact .inl (by show cnt p < cnt n; omega)
      · rw [if_neg hq]
        refine .inr ⟨h1, ⟨h2.1, by have := h2.2; omega⟩, h3, fun p hp => ?_⟩
        by_cases e : p = n
        · subst e
          have := h2.2
          omega
        · exact h4 p ⟨hp.1, by omega⟩
theorem upd_best (cnt : Int → Int) (h0 : ∀ p, 0 ≤ cnt p) (D : Int → Prop) (s : Int × Int) (q : Int) (hq : 0 < cnt q) (h : BestOf cnt D s) : BestOf cnt (fun p => D p ∨ p = q) (upd cnt s q) := by
  unfold upd
  rcases h with ⟨h1, h2⟩ | ⟨h1, h2, h3, h4⟩
  · rw [h1, if_pos (.inl hq)]
    refine .inr ⟨hq, .inr rfl, rfl, fun p hp => ?_⟩
    rcases hp with hp | hp
    · have := h2 p hp
      exact .inl (by show cnt p < cnt q; omega)
    · subst hp
      exact .inr ⟨rfl, Int.le_refl _⟩
  · by_cases hc : s.2 < cnt q ∨ (cnt q = s.2 ∧ q < s.1)
    · rw [if_pos hc]
      refine .inr ⟨hq, .inr rfl, rfl, fun p hp => ?_⟩
      show cnt p < cnt q ∨ (cnt p = cnt q ∧ q ≤ p)
      rcases hp with hp | hp
      · have := h4 p hp
        omega
      · subst hp
        exact .inr ⟨rfl, Int.le_refl _⟩
    · rw [if_neg hc]
      refine .inr ⟨h1, .inl h2, h3, fun p hp => ?_⟩
      rcases hp with hp | hp
      · exact h4 p hp
      · subst hp
        omega
theorem fold_best (cnt : Int → Int) (h0 : ∀ p, 0 ≤ cnt p) : ∀ (l : List Int) (D : Int → Prop) (s : Int × Int), (∀ q ∈ l, 0 < cnt q) → BestOf cnt D s → BestOf cnt (fun p => D p ∨ p ∈ l) (l.foldl (upd cnt) s)
  | [], D, s, _, h => by simpa using h
  | q :: l, D, s, hq, h => by
    have h1 := upd_best cnt h0 D s q (hq q List.mem_cons_self) h
    have h2 := fold_best cnt h0 l _ _ (fun p hp => hq p (List.mem_cons_of_mem _ hp)) h1
    rw [List.foldl_cons]
    have he : (fun p => (D p ∨ p = q) ∨ p ∈ l) = fun p => D p ∨ p ∈ q :: l := by
      funext p
      simp only [List.mem_cons, or_assoc]
    rwa [he] at h2
theorem best_unique (cnt : Int → Int) (D E : Int → Prop) (s t : Int × Int) (hDE : ∀ p, E p → D p) (hz : ∀ p, D p → ¬ E p → cnt p = 0) (h1 : BestOf cnt D s) (h2 : BestOf cnt E t) : t = s := by
  rcases h1 with ⟨a1, a2⟩ | ⟨a1, a2, a3, a4⟩
  · rcases h2 with ⟨b1, b2⟩ | ⟨b1, b2, b3, b4⟩
    · rw [a1, b1]
    · have := a2 _ (hDE _ b2)
      omega
  · have hE : E s.1 := by
      by_cases h : E s.1
      · exact h
      · have := hz _ a2 h
        omega
    rcases h2 with ⟨b1, b2⟩ | ⟨b1, b2, b3, b4⟩
    · have := b2 _ hE
      omega
    · have c1 := a4 _ (hDE _ b2)
      have c2 := b4 _ hE
      apply Prod.ext
      · omega
      · omega
theorem plc_mem {ys : List Nest} {p : Int} : p ∈ plc ys ↔ ∃ y ∈ ys, p ∈ y.l := by simp [plc]
theorem hist_pos {ys : List Nest} {p : Int} : 0 < (hist p ys).length ↔ p ∈ plc ys := by
  rw [plc_mem]
  unfold hist
  rw [List.length_map, List.length_pos_iff_exists_mem]
  constructor
  · rintro ⟨y, hy⟩
    have := List.mem_filter.1 hy
    exact ⟨y, this.1, by simpa using this.2⟩
  · rintro ⟨y, hy, hp⟩
    exact ⟨y, List.mem_filter.2 ⟨hy, by simpa using hp⟩⟩
def cntP (ys : List Nest) (p : Int) : Int := ((hist p ys).length : Int)
theorem rest_eq (ys : List Nest) (h : ∀ y ∈ ys, ∀ p ∈ y.l, 0 ≤ p ∧ p ≤ 999) : (plc ys).foldl (upd (cntP ys)) (0, 0) = bestTo (cntP ys) 1000 := by
  have h0 : ∀ p, 0 ≤ cntP ys p := fun p => by unfold cntP; omega
  have hp : ∀ p, 0 < cntP ys p ↔ p ∈ plc ys := fun p => by
    rw [← hist_pos]
    unfold cntP
    omega
  refine best_unique (cntP ys) _ _ _ _ ?_ ?_ (bestTo_best (cntP ys) h0 1000) (fold_best (cntP ys) h0 (plc ys) (fun _ => False) (0, 0) (fun q hq => (hp q).2 hq) (.inl ⟨rfl, fun p hp => hp.elim⟩))
  · rintro p (hp' | hp')
    · exact hp'.elim
    · obtain ⟨y, hy, hpy⟩ := plc_mem.1 hp'
      have := h y hy p hpy
      exact ⟨this.1, by show p < ((1000 : Nat) : Int); omega⟩
  · intro p _ hn
    have h1 : ¬ 0 < cntP ys p := fun h => hn (.inr ((hp p).1 h))
    have := h0 p
    omega
def ReOk (xs : List Nest) (sheet : Int) : Prop := Eds xs ∧ (1 ≤ sheet ∧ sheet ≤ 999)
def restS (xs : List Nest) (sheet : Int) : Int × Int := bestTo (cntP (ofS sheet xs)) 1000
theorem Eds.places {xs : List Nest} (h : Eds xs) {x : Nest} (hx : x ∈ xs) : ∀ p ∈ x.l, 0 ≤ p ∧ p ≤ 999 := by
  obtain ⟨i, hi⟩ := List.mem_iff_getElem?.1 hx
  have := (h.1 i x hi).1
  unfold IsEd AllR InR at this
  intro p hp
  obtain ⟨j, hj⟩ := List.mem_iff_getElem?.1 hp
  exact this.1 j p hj
theorem ofS_cons_t {a : Int} {x : Nest} {r : List Nest} (h : x.a = a) : ofS a (x :: r) = x :: ofS a r := by simp [ofS, h]
theorem ofS_cons_f {a : Int} {x : Nest} {r : List Nest} (h : x.a ≠ a) : ofS a (x :: r) = ofS a r := by simp [ofS, h]
theorem plc_cons (x : Nest) (r : List Nest) : plc (x :: r) = x.l ++ plc r := by simp [plc]
end Go.Proofs.YtadcjfbcfiljkaaDoor
