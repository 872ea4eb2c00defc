/- Areas as sums over unit squares. No condition. -/
import Derived.Test.YtlkojpmhniokfaaAreaLaw
namespace Go.Proofs.Ytlkojpmhniokfaa
open Go.RowKit
set_option linter.unusedVariables false
set_option linter.unusedSimpArgs false

/-- a sum over the numbers below n -/
def uS (f : Int → Int) : Nat → Int
  | 0 => 0
  | n + 1 => uS f n + f n
theorem uS_le {f g : Int → Int} : ∀ n : Nat, (∀ i : Nat, i < n → f i ≤ g i) → uS f n ≤ uS g n
  | 0, _ => Int.le_refl _
  | n + 1, h => by
    have h1 := uS_le n fun i hi => h i (by omega)
    have h2 := h n (by omega)
    rw [uS, uS]; omega
theorem uS_congr {f g : Int → Int} (n : Nat) (h : ∀ i : Nat, i < n → f i = g i) : uS f n = uS g n :=
  Int.le_antisymm (uS_le n fun i hi => Int.le_of_eq (h i hi)) (uS_le n fun i hi => Int.le_of_eq (h i hi).symm)
theorem uS_add (f g : Int → Int) : ∀ n, uS (fun x => f x + g x) n = uS f n + uS g n
  | 0 => rfl
  | n + 1 => by rw [uS, uS, uS, uS_add f g n]; omega
theorem uS_sub (f g : Int → Int) : ∀ n, uS (fun x => f x - g x) n = uS f n - uS g n
  | 0 => rfl
  | n + 1 => by rw [uS, uS, uS, uS_sub f g n]; omega
theorem uS_const (c : Int) {f : Int → Int} (a : Nat) : ∀ d : Nat, (∀ i : Nat, a ≤ i → i < a + d → f i = c) → uS f (a + d) = uS f a + c * d
  | 0, _ => by simp
  | d + 1, h => by
    have h1 := uS_const c a d fun i hi hj => h i hi (by omega)
    have h2 := h (a + d) (by omega) (by omega)
    rw [show a + (d + 1) = (a + d) + 1 from rfl, uS, h1, h2, Int.natCast_add, Int.mul_add]
    simp; omega
theorem adj_unit {f : Int → Int} (M : Nat) : ∀ l : List Int, l.Pairwise (fun x y => x ≤ y) → (∀ x ∈ l, 0 ≤ x ∧ x ≤ M) →
    (∀ x a, a ∈ l → a ≤ x → (∀ b ∈ l, b ≤ a ∨ x < b) → f x = f a) → (∀ x, (∀ b ∈ l, b ≤ x) → f x = 0) → ∀ a r, l = a :: r → adjSum (fun a a' => f a * (a' - a)) l + uS f a.toNat = uS f M
  | [], _, _, _, _, a, r, e => by cases e
  | [b], _, hb, hc, hz, a, r, e => by
    injection e with e1 e2
    subst e1
    have h1 := hb b List.mem_cons_self
    have h2 := uS_const 0 (f := f) b.toNat (M - b.toNat) fun i hi hj => hz i fun y hy => by
      have : y = b := by simpa using hy
      omega
    rw [show b.toNat + (M - b.toNat) = M by omega] at h2
    rw [adjSum]; omega
    all_goals (intros; simp_all)
  | b :: b' :: t, hs, hb, hc, hz, a, r, e => by
    injection e with e1 e2
    subst e1
    obtain ⟨s1, s2⟩ := List.pairwise_cons.1 hs
    have h1 := hb b List.mem_cons_self
    have h2 := hb b' (List.mem_cons_of_mem _ List.mem_cons_self)
    have h3 := s1 b' List.mem_cons_self
    have ih := adj_unit M (b' :: t) s2 (fun x hx => hb x (List.mem_cons_of_mem _ hx)) (fun x c hm hl hq => hc x c (List.mem_cons_of_mem _ hm) hl fun y hy => by
        rcases List.mem_cons.1 hy with rfl | hy
        · exact .inl (s1 c hm)
        · exact hq y hy) (fun x hx => hz x fun y hy => by
        rcases List.mem_cons.1 hy with rfl | hy
        · exact Int.le_trans h3 (hx b' List.mem_cons_self)
        · exact hx y hy) b' t rfl
    have h4 := uS_const (f b) (f := f) b.toNat (b'.toNat - b.toNat) fun i hi hj => hc i b List.mem_cons_self (by omega) fun y hy => by
        rcases List.mem_cons.1 hy with rfl | hy
        · exact .inl (Int.le_refl _)
        · rcases List.mem_cons.1 hy with rfl | hy
          · right; omega
          · have := (List.pairwise_cons.1 s2).1 y hy
            right; omega
    rw [show b.toNat + (b'.toNat - b.toNat) = b'.toNat by omega, show ((b'.toNat - b.toNat : Nat) : Int) = b' - b by omega] at h4
    rw [adjSum]; omega
theorem adj_unit' {f : Int → Int} (M : Nat) {l : List Int} (hs : l.Pairwise (fun x y => x ≤ y)) (hb : ∀ x ∈ l, 0 ≤ x ∧ x ≤ M)
    (hc : ∀ x a, a ∈ l → a ≤ x → (∀ b ∈ l, b ≤ a ∨ x < b) → f x = f a) (hz : ∀ x, (∀ b ∈ l, b ≤ x) → f x = 0) (hy : ∀ x, (∀ b ∈ l, x < b) → f x = 0) : adjSum (fun a a' => f a * (a' - a)) l = uS f M := by
  cases l with
  | nil =>
    have h := uS_const 0 (f := f) 0 M fun i _ _ => hz i fun b hb => by simp at hb
    rw [Nat.zero_add] at h
    rw [h, adjSum]; simp [uS]
    all_goals (intros; simp_all)
  | cons a r =>
    have h := adj_unit M (a :: r) hs hb hc hz a r rfl
    have h1 := hb a List.mem_cons_self
    have h2 := uS_const 0 (f := f) 0 a.toNat fun i _ hj => hy i fun b hb => by
      rcases List.mem_cons.1 hb with rfl | hb
      · omega
      · have := (List.pairwise_cons.1 hs).1 b hb; omega
    rw [Nat.zero_add] at h2
    simp [uS] at h2
    omega
/-- whether one of the zones has a square, as a number -/
def indZ (zs : List Zone) (x y : Int) : Int := if 0 < cntZ zs x y then 1 else 0
theorem indZ_bd (zs : List Zone) (x y : Int) : 0 ≤ indZ zs x y ∧ indZ zs x y ≤ 1 := by unfold indZ; split <;> omega
theorem indZ_one {zs : List Zone} {x y : Int} : indZ zs x y = 1 ↔ ∃ z ∈ zs, zHas x y z = true := by
  unfold indZ cntZ
  constructor
  · intro h
    have h2 : 0 < (zs.filter (zHas x y)).length := by
      split at h
      · omega
      · omega
    obtain ⟨z, hz⟩ := List.exists_mem_of_length_pos h2
    obtain ⟨h3, h4⟩ := List.mem_filter.1 hz
    exact ⟨z, h3, h4⟩
  · rintro ⟨z, h3, h4⟩
    have : 0 < (zs.filter (zHas x y)).length := List.length_pos_of_mem (List.mem_filter.2 ⟨h3, h4⟩)
    rw [if_pos (by omega)]
theorem indZ_zero {zs : List Zone} {x y : Int} : indZ zs x y = 0 ↔ ∀ z ∈ zs, zHas x y z = false := by
  have h := indZ_bd zs x y
  constructor
  · intro h0 z hz
    cases hq : zHas x y z
    · rfl
    · have := indZ_one.2 ⟨z, hz, hq⟩; omega
  · intro h0
    rcases (by omega : indZ zs x y = 0 ∨ indZ zs x y = 1) with h1 | h1
    · exact h1
    · obtain ⟨z, hz, hq⟩ := indZ_one.1 h1
      rw [h0 z hz] at hq; cases hq
theorem indZ_same {zs : List Zone} {x y x' y' : Int} (h : ∀ z ∈ zs, (zHas x y z = true ↔ zHas x' y' z = true)) : indZ zs x y = indZ zs x' y' := by
  have h1 := indZ_bd zs x y
  have h2 := indZ_bd zs x' y'
  have h3 : indZ zs x y = 1 ↔ indZ zs x' y' = 1 := by
    rw [indZ_one, indZ_one]
    exact ⟨fun ⟨z, a, b⟩ => ⟨z, a, (h z a).1 b⟩, fun ⟨z, a, b⟩ => ⟨z, a, (h z a).2 b⟩⟩
  omega
theorem zHas_iff {x y : Int} {z : Zone} : zHas x y z = true ↔ z.west ≤ x ∧ x < z.east ∧ z.south ≤ y ∧ y < z.north := by unfold zHas; simp
theorem lineX_mem {zs : List Zone} {z : Zone} (h : z ∈ zs) : z.west ∈ putAll (linesX zs) ∧ z.east ∈ putAll (linesX zs) :=
  ⟨(putAll_mem _ _).2 (List.mem_flatMap.2 ⟨z, h, by simp⟩), (putAll_mem _ _).2 (List.mem_flatMap.2 ⟨z, h, by simp⟩)⟩
theorem lineY_mem {zs : List Zone} {z : Zone} (h : z ∈ zs) : z.south ∈ putAll (linesY zs) ∧ z.north ∈ putAll (linesY zs) :=
  ⟨(putAll_mem _ _).2 (List.mem_flatMap.2 ⟨z, h, by simp⟩), (putAll_mem _ _).2 (List.mem_flatMap.2 ⟨z, h, by simp⟩)⟩
theorem uS_zero {f : Int → Int} (n : Nat) (h : ∀ i : Nat, i < n → f i = 0) : uS f n = 0 := by
  have := uS_const 0 (f := f) 0 n fun i _ hj => h i (by omega)
  rw [Nat.zero_add] at this
  rw [this]; simp [uS]
/-- the area as a sum over unit squares -/
def uA (zs : List Zone) : Int := uS (fun x => uS (fun y => indZ zs x y) 10000) 10000
theorem area_unit {zs : List Zone} (hz : ∀ z ∈ zs, ZB z) : areaZ zs = uA zs := by
  have hX := fun a (h : a ∈ putAll (linesX zs)) => linesX_bd hz a ((putAll_mem _ _).1 h)
  have hY := fun a (h : a ∈ putAll (linesY zs)) => linesY_bd hz a ((putAll_mem _ _).1 h)
  have hrow : ∀ a a', rowA (cntZ zs) (putAll (linesY zs)) a a' = uS (fun y => indZ zs a y) 10000 * (a' - a) := fun a a' => by
    have h := adj_unit' (f := fun y => indZ zs a y) 10000 ((putAll_strict (linesY zs)).imp (fun h => Int.le_of_lt h)) (fun x hx => by have := hY x hx; omega)
      (fun y b hb hby hq => indZ_same fun z hzz => by
        obtain ⟨m1, m2⟩ := lineY_mem hzz
        have q1 := hq _ m1
        have q2 := hq _ m2
        rw [zHas_iff, zHas_iff]; omega)
      (fun y hq => indZ_zero.2 fun z hzz => by
        have q2 := hq _ (lineY_mem hzz).2
        cases h : zHas a y z
        · rfl
        · rw [zHas_iff] at h; omega)
      (fun y hq => indZ_zero.2 fun z hzz => by
        have q2 := hq _ (lineY_mem hzz).1
        cases h : zHas a y z
        · rfl
        · rw [zHas_iff] at h; omega)
    rw [← h]
    have hm : ∀ (c : Int) (F : Int → Int → Int) (l : List Int), adjSum F l * c = adjSum (fun b b' => F b b' * c) l := fun c F l => by
      induction l with
      | nil => simp [adjSum]
      | cons b t ih =>
        cases t with
        | nil => simp [adjSum]
        | cons b' t => rw [adjSum, adjSum, Int.add_mul, ih]
    rw [hm]
    unfold rowA
    refine adj_congr (fun b b' => ?_) _
    unfold cellA indZ
    by_cases h0 : 0 < cntZ zs a b
    · rw [if_pos h0, if_pos h0, Int.one_mul, Int.mul_comm]
    · rw [if_neg h0, if_neg h0]; simp
  unfold areaZ areaL uA
  rw [adj_congr (g := fun a a' => uS (fun y => indZ zs a y) 10000 * (a' - a)) hrow]
  exact adj_unit' (f := fun x => uS (fun y => indZ zs x y) 10000) 10000 ((putAll_strict (linesX zs)).imp (fun h => Int.le_of_lt h)) (fun x hx => by have := hX x hx; omega)
      (fun x a ha hax hq => uS_congr _ fun i _ => indZ_same fun z hzz => by
        obtain ⟨m1, m2⟩ := lineX_mem hzz
        have q1 := hq _ m1
        have q2 := hq _ m2
        rw [zHas_iff, zHas_iff]; omega)
      (fun x hq => uS_zero _ fun i _ => indZ_zero.2 fun z hzz => by
        have q2 := hq _ (lineX_mem hzz).2
        cases h : zHas x (i : Int) z
        · rfl
        · rw [zHas_iff] at h; omega)
      (fun x hq => uS_zero _ fun i _ => indZ_zero.2 fun z hzz => by
        have q2 := hq _ (lineX_mem hzz).1
        cases h : zHas x (i : Int) z
        · rfl
        · rw [zHas_iff] at h; omega)
def ownA (z : Zone) : Int := (z.east - z.west) * (z.north - z.south)
theorem area_own {z : Zone} (h : ZB z) : areaZ [z] = ownA z := by
  unfold ZB at h
  have h1 : linesX [z] = [z.west, z.east] := rfl
  have h2 : linesY [z] = [z.south, z.north] := rfl
  have h3 : cntZ [z] z.west z.south = 1 := by
    unfold cntZ
    have : zHas z.west z.south z = true := by rw [zHas_iff]; omega
    simp [List.filter_cons, this]
  have p2 : ∀ a b : Int, a < b → putAll [a, b] = [a, b] := fun a b hab => by simp [putAll, putI, hab]
  unfold areaZ areaL
  rw [h1, h2, p2 _ _ (by omega), p2 _ _ (by omega)]
  simp only [adjSum, rowA, cellA, h3]
  simp [ownA]
theorem uA_le {zs ys : List Zone} (h : ∀ x y, indZ zs x y ≤ indZ ys x y) : uA zs ≤ uA ys := uS_le _ fun i _ => uS_le _ fun j _ => h i j
theorem uA_le2 {zs ys ts : List Zone} (h : ∀ x y, indZ zs x y ≤ indZ ys x y + indZ ts x y) : uA zs ≤ uA ys + uA ts := by
  unfold uA
  rw [← uS_add]
  refine uS_le _ fun i _ => ?_
  rw [← uS_add]
  exact uS_le _ fun j _ => h i j
theorem indZ_mono {zs ys : List Zone} (h : ∀ z ∈ zs, z ∈ ys) (x y : Int) : indZ zs x y ≤ indZ ys x y := by
  have h1 := indZ_bd zs x y
  have h2 := indZ_bd ys x y
  rcases (by omega : indZ zs x y = 0 ∨ indZ zs x y = 1) with q | q
  · omega
  · obtain ⟨z, a, b⟩ := indZ_one.1 q
    have := indZ_one.2 ⟨z, h z a, b⟩; omega
theorem indZ_sub {zs ys ts : List Zone} (h : ∀ z ∈ zs, z ∈ ys ∨ z ∈ ts) (x y : Int) : indZ zs x y ≤ indZ ys x y + indZ ts x y := by
  have h1 := indZ_bd zs x y
  have h2 := indZ_bd ys x y
  have h3 := indZ_bd ts x y
  rcases (by omega : indZ zs x y = 0 ∨ indZ zs x y = 1) with q | q
  · omega
  · obtain ⟨z, a, b⟩ := indZ_one.1 q
    rcases h z a with k | k
    · have := indZ_one.2 ⟨z, k, b⟩; omega
    · have := indZ_one.2 ⟨z, k, b⟩; omega
theorem area_le {zs ys : List Zone} (hz : ∀ z ∈ zs, ZB z) (hy : ∀ z ∈ ys, ZB z) (h : ∀ z ∈ zs, z ∈ ys) : areaZ zs ≤ areaZ ys := by
  rw [area_unit hz, area_unit hy]; exact uA_le (indZ_mono h)
theorem area_le2 {zs ys ts : List Zone} (hz : ∀ z ∈ zs, ZB z) (hy : ∀ z ∈ ys, ZB z) (ht : ∀ z ∈ ts, ZB z) (h : ∀ z ∈ zs, z ∈ ys ∨ z ∈ ts) : areaZ zs ≤ areaZ ys + areaZ ts := by
  rw [area_unit hz, area_unit hy, area_unit ht]; exact uA_le2 (indZ_sub h)
/-- the zones' own areas, added up -/
def ownTo : List Zone → Int
  | [] => 0
  | z :: r => ownA z + ownTo r
theorem area_sum : ∀ {zs : List Zone}, (∀ z ∈ zs, ZB z) → areaZ zs ≤ ownTo zs
  | [], _ => by decide
  | z :: r, h => by
    have h1 := area_sum (zs := r) fun x hx => h x (List.mem_cons_of_mem _ hx)
    have h2 := area_le2 (zs := z :: r) (ys := [z]) (ts := r) h (fun x hx => by rw [List.mem_singleton.1 hx]; exact h z List.mem_cons_self) (fun x hx => h x (List.mem_cons_of_mem _ hx)) (fun x hx => by
      rcases List.mem_cons.1 hx with rfl | hx
      · exact .inl (by simp)
      · exact .inr hx)
    rw [area_own (h z List.mem_cons_self)] at h2
    rw [ownTo]; omega
theorem ownTo_snoc : ∀ (l : List Zone) (z : Zone), ownTo (l ++ [z]) = ownTo l + ownA z
  | [], z => by simp [ownTo]
  | x :: r, z => by rw [List.cons_append, ownTo, ownTo_snoc r z, ownTo]; omega
theorem ownTo_step {zs : List Zone} {k : Nat} {z : Zone} (hx : zs[k]? = some z) : ownTo (zs.take (k + 1)) = ownTo (zs.take k) + ownA z := by
  rw [take_get hx, ownTo_snoc]
theorem ownA_bd {z : Zone} (h : ZB z) : 0 ≤ ownA z ∧ ownA z ≤ 100000000 := by
  unfold ZB at h
  exact area_bd (fun _ _ => 0) h.1 (by omega) h.2.2.1 h.2.2.2.1 (by omega) h.2.2.2.2.2
theorem ownTo_bd : ∀ {zs : List Zone}, (∀ z ∈ zs, ZB z) → 0 ≤ ownTo zs ∧ ownTo zs ≤ 100000000 * (zs.length : Int)
  | [], _ => by simp [ownTo]
  | z :: r, h => by
    have h1 := ownTo_bd (zs := r) fun x hx => h x (List.mem_cons_of_mem _ hx)
    have h2 := ownA_bd (h z List.mem_cons_self)
    rw [ownTo, List.length_cons, Int.natCast_add, Int.mul_add]
    simp only [Int.natCast_one, Int.mul_one]
    omega
/-- the list without its k-th zone -/
def wZ (zs : List Zone) (k : Nat) : List Zone := zs.take k ++ zs.drop (k + 1)
theorem wZ_mem {zs : List Zone} {k : Nat} {z : Zone} : z ∈ wZ zs k ↔ ∃ i, i ≠ k ∧ zs[i]? = some z := by
  unfold wZ
  rw [List.mem_append]
  constructor
  · rintro (h | h)
    · obtain ⟨i, hi⟩ := List.getElem?_of_mem h
      have hl : i < k := by
        rcases Nat.lt_or_ge i k with q | q
        · exact q
        · rw [List.getElem?_eq_none (by rw [List.length_take]; omega)] at hi; cases hi
      exact ⟨i, by omega, by rwa [List.getElem?_take_of_lt hl] at hi⟩
    · obtain ⟨i, hi⟩ := List.getElem?_of_mem h
      rw [List.getElem?_drop] at hi
      exact ⟨_, by omega, hi⟩
  · rintro ⟨i, hne, hi⟩
    rcases Nat.lt_or_ge i k with q | q
    · left
      exact List.mem_of_getElem? (i := i) (by rw [List.getElem?_take_of_lt q]; exact hi)
    · right
      exact List.mem_of_getElem? (i := i - (k + 1)) (by rw [List.getElem?_drop, show k + 1 + (i - (k + 1)) = i by omega]; exact hi)
theorem wZ_sub {zs : List Zone} {k : Nat} {z : Zone} (h : z ∈ wZ zs k) : z ∈ zs := by
  obtain ⟨i, _, hi⟩ := wZ_mem.1 h
  exact List.mem_of_getElem? hi
/-- what is in one zone alone is at most that zone's own area, and at least nothing -/
theorem alone_own {zs : List Zone} (hz : ∀ z ∈ zs, ZB z) {k : Nat} {z : Zone} (hk : zs[k]? = some z) : 0 ≤ areaZ zs - areaZ (wZ zs k) ∧ areaZ zs - areaZ (wZ zs k) ≤ ownA z := by
  have hw : ∀ y ∈ wZ zs k, ZB y := fun y hy => hz y (wZ_sub hy)
  have hb := hz z (List.mem_of_getElem? hk)
  have h1 := area_le hw hz (fun y hy => wZ_sub hy)
  have h2 := area_le2 (zs := zs) (ys := wZ zs k) (ts := [z]) hz hw (fun x hx => by rw [List.mem_singleton.1 hx]; exact hb) (fun y hy => by
    obtain ⟨i, hi⟩ := List.getElem?_of_mem hy
    by_cases e : i = k
    · subst e
      rw [hk] at hi
      injection hi with hi
      exact .inr (by simp [hi])
    · exact .inl (wZ_mem.2 ⟨i, e, hi⟩))
  rw [area_own hb] at h2
  omega
noncomputable def aloTo (zs : List Zone) : Nat → Int
  | 0 => 0
  | k + 1 => aloTo zs k + (areaZ zs - areaZ (wZ zs k))
def aloP (zs : List Zone) (x y : Int) : Nat → Int
  | 0 => 0
  | k + 1 => aloP zs x y k + (indZ zs x y - indZ (wZ zs k) x y)
theorem aloP_bd (zs : List Zone) (x y : Int) : ∀ m, m ≤ zs.length → (aloP zs x y m = 0) ∨ (aloP zs x y m = 1 ∧ indZ zs x y = 1 ∧ ∃ k < m, indZ (wZ zs k) x y = 0)
  | 0, _ => .inl rfl
  | m + 1, hm => by
    have ih := aloP_bd zs x y m (by omega)
    have h1 := indZ_bd zs x y
    have h2 := indZ_bd (wZ zs m) x y
    have h3 := indZ_mono (fun z (hz : z ∈ wZ zs m) => wZ_sub hz) x y
    rw [aloP]
    rcases (by omega : indZ zs x y - indZ (wZ zs m) x y = 0 ∨ (indZ zs x y = 1 ∧ indZ (wZ zs m) x y = 0)) with q | ⟨q1, q2⟩
    · rw [q]
      rcases ih with h | ⟨a, b, k, hk, c⟩
      · exact .inl (by omega)
      · exact .inr ⟨by omega, b, k, by omega, c⟩
    · rcases ih with h | ⟨a, b, k, hk, c⟩
      · exact .inr ⟨by omega, q1, m, by omega, q2⟩
      · exfalso
        obtain ⟨z, hz, hq⟩ := indZ_one.1 b
        obtain ⟨i, hi⟩ := List.getElem?_of_mem hz
        by_cases e : i = k
        · have := indZ_zero.1 q2 z (wZ_mem.2 ⟨i, by omega, hi⟩)
          rw [hq] at this; cases this
        · have := indZ_zero.1 c z (wZ_mem.2 ⟨i, e, hi⟩)
          rw [hq] at this; cases this
theorem aloTo_unit {zs : List Zone} (hz : ∀ z ∈ zs, ZB z) : ∀ m, aloTo zs m = uS (fun x => uS (fun y => aloP zs x y m) 10000) 10000
  | 0 => by rw [uS_zero _ fun i _ => uS_zero _ fun j _ => rfl]; rfl
  | m + 1 => by
    rw [aloTo, aloTo_unit hz m, area_unit hz, area_unit (zs := wZ zs m) (fun y hy => hz y (wZ_sub hy))]
    unfold uA
    rw [← uS_sub, ← uS_add]
    refine uS_congr _ fun i _ => ?_
    rw [← uS_sub, ← uS_add]
    rfl
/-- what is in one zone alone, added up, is at most the area of all -/
theorem alone_sum {zs : List Zone} (hz : ∀ z ∈ zs, ZB z) : aloTo zs zs.length ≤ areaZ zs := by
  rw [aloTo_unit hz, area_unit hz]
  refine uS_le _ fun i _ => uS_le _ fun j _ => ?_
  have h := indZ_bd zs i j
  rcases aloP_bd zs i j zs.length (Nat.le_refl _) with q | ⟨q, r, _⟩ <;> omega
theorem aloTo_bd {zs : List Zone} (hz : ∀ z ∈ zs, ZB z) : ∀ m, m ≤ zs.length → 0 ≤ aloTo zs m ∧ aloTo zs m ≤ 100000000 * (m : Int)
  | 0, _ => by simp [aloTo]
  | m + 1, hm => by
    have h1 := aloTo_bd hz m (by omega)
    have h2 := alone_own hz (List.getElem?_eq_getElem (show m < zs.length by omega))
    have h3 := ownA_bd (hz _ (List.getElem_mem (show m < zs.length by omega)))
    rw [aloTo]
    omega
end Go.Proofs.Ytlkojpmhniokfaa
