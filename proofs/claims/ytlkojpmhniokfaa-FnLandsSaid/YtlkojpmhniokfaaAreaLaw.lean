/- Sums over the neighbours of a sorted list, with and without repeated numbers. No Go text is spoken of here. -/
import Derived.Test.YtlkojpmhniokfaaSortI
import Derived.Test.YtlkojpmhniokfaaPut
import Derived.Test.YtlkojpmhniokfaaTypes
import Derived.Test.YtlkojpmhniokfaaZHas
namespace Go.Proofs.Ytlkojpmhniokfaa
open Go.RowKit
set_option linter.unusedVariables false
set_option linter.unusedSimpArgs false

def comp : List Int → List Int
  | [] => []
  | [a] => [a]
  | a :: b :: r => if a = b then comp (b :: r) else a :: comp (b :: r)
theorem comp_head : ∀ (l : List Int) (a : Int), ∃ r, comp (a :: l) = a :: r
  | [], a => ⟨[], rfl⟩
  | b :: l, a => by
    obtain ⟨r, hr⟩ := comp_head l b
    rw [comp]
    by_cases h : a = b
    · rw [if_pos h, hr, h]; exact ⟨r, rfl⟩
    · rw [if_neg h]; exact ⟨_, rfl⟩
theorem comp_mem (x : Int) : ∀ l : List Int, x ∈ comp l ↔ x ∈ l
  | [] => by simp [comp]
  | [a] => by simp [comp]
  | a :: b :: r => by
    have ih := comp_mem x (b :: r)
    rw [comp]
    by_cases h : a = b
    · rw [if_pos h, ih]
      subst h
      simp
    · rw [if_neg h, List.mem_cons, ih]
      simp
theorem comp_strict : ∀ l : List Int, l.Pairwise (fun x y => x ≤ y) → Strict (comp l)
  | [], _ => by simp [comp, Strict]
  | [a], _ => by simp [comp, Strict]
  | a :: b :: r, h => by
    obtain ⟨h1, h2⟩ := List.pairwise_cons.1 h
    have ih := comp_strict (b :: r) h2
    rw [comp]
    by_cases e : a = b
    · rw [if_pos e]; exact ih
    · rw [if_neg e]
      refine List.pairwise_cons.2 ⟨fun y hy => ?_, ih⟩
      have hb := h1 b List.mem_cons_self
      rcases List.mem_cons.1 ((comp_mem y (b :: r)).1 hy) with hyb | hyr
      · omega
      · have := (List.pairwise_cons.1 h2).1 y hyr
        omega
theorem comp_sort (l : List Int) : comp (l.mergeSort leI) = putAll l :=
  (putAll_of_strict (comp_strict _ (sort_sorted l)) fun a => by rw [comp_mem, (sort_perm l).mem_iff]).symm
def adjSum (f : Int → Int → Int) : List Int → Int
  | a :: b :: r => f a b + adjSum f (b :: r)
  | _ => 0
theorem adj_comp {f : Int → Int → Int} (h : ∀ a, f a a = 0) : ∀ l : List Int, adjSum f (comp l) = adjSum f l
  | [] => rfl
  | [a] => rfl
  | a :: b :: r => by
    have ih := adj_comp h (b :: r)
    rw [comp]
    by_cases e : a = b
    · rw [if_pos e, ih, adjSum, e, h]
      omega
    · obtain ⟨r', hr⟩ := comp_head r b
      rw [if_neg e, hr, adjSum, adjSum, ← ih, hr]
theorem fold_comp {σ : Type} {F : σ → Int → σ} (h : ∀ s a, F (F s a) a = F s a) : ∀ (l : List Int) (s : σ), (comp l).foldl F s = l.foldl F s
  | [], _ => rfl
  | [a], _ => rfl
  | a :: b :: r, s => by
    have ih := fold_comp h (b :: r)
    rw [comp]
    by_cases e : a = b
    · subst e
      rw [if_pos rfl, ih]
      simp only [List.foldl_cons]
      rw [h]
    · rw [if_neg e, List.foldl_cons, ih]
      rfl
theorem adj_zero {f : Int → Int → Int} (h : ∀ a b, f a b = 0) : ∀ l : List Int, adjSum f l = 0
  | [] => rfl
  | [a] => rfl
  | a :: b :: r => by rw [adjSum, h, adj_zero h (b :: r)]; rfl
theorem adj_congr {f g : Int → Int → Int} (h : ∀ a b, f a b = g a b) (l : List Int) : adjSum f l = adjSum g l := by
  have : f = g := by funext a b; exact h a b
  rw [this]
theorem adj_step {f : Int → Int → Int} {l : List Int} {k : Nat} {a b : Int} (ha : l[k]? = some a) (hb : l[k + 1]? = some b) : adjSum f (l.drop k) = f a b + adjSum f (l.drop (k + 1)) := by
  rw [drop_get ha, drop_get hb, adjSum]
theorem adj_end {f : Int → Int → Int} {l : List Int} {k : Nat} (h : l.length ≤ k + 1) : adjSum f (l.drop k) = 0 := by
  have h1 : (l.drop k).length ≤ 1 := by rw [List.length_drop]; omega
  rcases hl : l.drop k with _ | ⟨a, _ | ⟨b, r⟩⟩
  · rfl
  · rfl
  · rw [hl] at h1; exact absurd h1 (by simp)
def cellA (d : Int → Int → Int) (a a' b b' : Int) : Int := if 0 < d a b then (a' - a) * (b' - b) else 0
def rowA (d : Int → Int → Int) (ys : List Int) (a a' : Int) : Int := adjSum (fun b b' => cellA d a a' b b') ys
def areaL (d : Int → Int → Int) (xs ys : List Int) : Int := adjSum (rowA d ys) xs
theorem cellA_same (d : Int → Int → Int) (a b b' : Int) : cellA d a a b b' = 0 := by unfold cellA; split <;> simp
theorem cellA_same2 (d : Int → Int → Int) (a a' b : Int) : cellA d a a' b b = 0 := by unfold cellA; split <;> simp
theorem areaL_comp (d : Int → Int → Int) (xs ys : List Int) : areaL d (comp xs) (comp ys) = areaL d xs ys := by
  unfold areaL
  rw [adj_comp (fun a => by unfold rowA; exact adj_zero (fun b b' => cellA_same d a b b') _)]
  exact adj_congr (fun a a' => by unfold rowA; exact adj_comp (fun b => cellA_same2 d a a' b) ys) xs
def linesX (zs : List Zone) : List Int := zs.flatMap fun z => [z.west, z.east]
def linesY (zs : List Zone) : List Int := zs.flatMap fun z => [z.south, z.north]
def cntZ (zs : List Zone) (x y : Int) : Int := ((zs.filter (zHas x y)).length : Int)
def areaZ (zs : List Zone) : Int := areaL (cntZ zs) (putAll (linesX zs)) (putAll (linesY zs))
theorem areaZ_sort (zs : List Zone) : areaL (cntZ zs) ((linesX zs).mergeSort leI) ((linesY zs).mergeSort leI) = areaZ zs := by
  unfold areaZ
  rw [← comp_sort, ← comp_sort, areaL_comp]
/-- zones of whatever id -/
def ZB (z : Zone) : Prop := 0 ≤ z.west ∧ z.west < z.east ∧ z.east ≤ 9999 ∧ 0 ≤ z.south ∧ z.south < z.north ∧ z.north ≤ 9999
theorem linesX_snoc (zs : List Zone) (z : Zone) : linesX (zs ++ [z]) = linesX zs ++ [z.west, z.east] := by simp [linesX]
theorem linesY_snoc (zs : List Zone) (z : Zone) : linesY (zs ++ [z]) = linesY zs ++ [z.south, z.north] := by simp [linesY]
theorem linesX_len (zs : List Zone) : (linesX zs).length = 2 * zs.length := by
  induction zs with
  | nil => rfl
  | cons z r ih => simp only [linesX, List.flatMap_cons, List.length_append, List.length_cons] at ih ⊢; rw [ih]; simp; omega
theorem linesY_len (zs : List Zone) : (linesY zs).length = 2 * zs.length := by
  induction zs with
  | nil => rfl
  | cons z r ih => simp only [linesY, List.flatMap_cons, List.length_append, List.length_cons] at ih ⊢; rw [ih]; simp; omega
theorem linesX_bd {zs : List Zone} (h : ∀ z ∈ zs, ZB z) : ∀ a ∈ linesX zs, 0 ≤ a ∧ a ≤ 9999 := fun a ha => by
  obtain ⟨z, hz, hza⟩ := List.mem_flatMap.1 ha
  have := h z hz
  unfold ZB at this
  simp at hza
  omega
theorem linesY_bd {zs : List Zone} (h : ∀ z ∈ zs, ZB z) : ∀ a ∈ linesY zs, 0 ≤ a ∧ a ≤ 9999 := fun a ha => by
  obtain ⟨z, hz, hza⟩ := List.mem_flatMap.1 ha
  have := h z hz
  unfold ZB at this
  simp at hza
  omega
theorem cntZ_step {zs : List Zone} {x y : Int} {k : Nat} {z : Zone} (hx : zs[k]? = some z) : cntZ (zs.take (k + 1)) x y = cntZ (zs.take k) x y + if zHas x y z = true then 1 else 0 := by
  unfold cntZ
  rw [take_get hx, List.filter_append]
  by_cases h : zHas x y z = true
  · rw [if_pos h]; simp [List.filter_cons, h]
  · rw [if_neg h]; simp [List.filter_cons, h]
theorem cntZ_le (zs : List Zone) (x y : Int) : 0 ≤ cntZ zs x y ∧ cntZ zs x y ≤ zs.length := by
  unfold cntZ
  have := List.length_filter_le (zHas x y) zs
  omega
/-- the widths and heights that are added up -/
theorem cellA_bd (d : Int → Int → Int) {a a' b b' : Int} (h1 : 0 ≤ a) (h2 : a ≤ a') (h3 : a' ≤ 9999) (h4 : 0 ≤ b) (h5 : b ≤ b') (h6 : b' ≤ 9999) : 0 ≤ cellA d a a' b b' ∧ cellA d a a' b b' ≤ 100000000 := by
  unfold cellA
  split
  · have h7 : 0 ≤ a' - a := by omega
    have h8 : 0 ≤ b' - b := by omega
    refine ⟨Int.mul_nonneg h7 h8, ?_⟩
    have h9 : (a' - a) * (b' - b) ≤ 9999 * 9999 := Int.mul_le_mul (by omega) (by omega) h8 (by decide)
    omega
  · omega
theorem area_bd (d : Int → Int → Int) {a a' b b' : Int} (h1 : 0 ≤ a) (h2 : a ≤ a') (h3 : a' ≤ 9999) (h4 : 0 ≤ b) (h5 : b ≤ b') (h6 : b' ≤ 9999) : 0 ≤ (a' - a) * (b' - b) ∧ (a' - a) * (b' - b) ≤ 100000000 := by
  have h7 : 0 ≤ a' - a := by omega
  have h8 : 0 ≤ b' - b := by omega
  refine ⟨Int.mul_nonneg h7 h8, ?_⟩
  have h9 : (a' - a) * (b' - b) ≤ 9999 * 9999 := Int.mul_le_mul (by omega) (by omega) h8 (by decide)
  omega
theorem sorted_adj {l : List Int} (h : l.Pairwise fun x y => x ≤ y) {k : Nat} {a b : Int} (ha : l[k]? = some a) (hb : l[k + 1]? = some b) : a ≤ b := by
  rw [List.pairwise_iff_getElem] at h
  have h1 := lt_of_get ha
  have h2 := lt_of_get hb
  have h3 := h k (k + 1) h1 h2 (by omega)
  rw [List.getElem?_eq_getElem h1] at ha
  rw [List.getElem?_eq_getElem h2] at hb
  cases ha
  cases hb
  exact h3
end Go.Proofs.Ytlkojpmhniokfaa
