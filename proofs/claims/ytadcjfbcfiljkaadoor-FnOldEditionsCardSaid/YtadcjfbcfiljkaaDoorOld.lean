/- Which sheets' current editions are old: the plain law. -/
import Derived.Test.YtadcjfbcfiljkaaDoorPut
import Derived.Test.YtadcjfbcfiljkaaDoorSortI
import Derived.Test.YtadcjfbcfiljkaaDoorCur
namespace Go.Proofs.YtadcjfbcfiljkaaDoor
open Go.RowKit
set_option linter.unusedVariables false
set_option linter.unusedSimpArgs false

/-- what is collected off the first k of a list, by a test of place and element -/
def colTo (P : Nat → Nest → Bool) (xs : List Nest) : Nat → List Int
  | 0 => []
  | k + 1 => match xs[k]? with
    | none => colTo P xs k
    | some x => if P k x = true then colTo P xs k ++ [x.a] else colTo P xs k
theorem colTo_t {P : Nat → Nest → Bool} {xs : List Nest} {k : Nat} {x : Nest} (hx : xs[k]? = some x) (h : P k x = true) : colTo P xs (k + 1) = colTo P xs k ++ [x.a] := by
  rw [colTo, hx]
  simp only []
  rw [if_pos h]
theorem colTo_f {P : Nat → Nest → Bool} {xs : List Nest} {k : Nat} {x : Nest} (hx : xs[k]? = some x) (h : P k x = false) : colTo P xs (k + 1) = colTo P xs k := by
  rw [colTo, hx]
  simp only []
  rw [if_neg (by rw [h]; simp)]
theorem colTo_len (P : Nat → Nest → Bool) (xs : List Nest) : ∀ k, (colTo P xs k).length ≤ k
  | 0 => by simp [colTo]
  | k + 1 => by
    have ih := colTo_len P xs k
    rw [colTo]
    split
    · omega
    · split
      · simp; omega
      · omega
theorem colTo_eq {P Q : Nat → Nest → Bool} {xs : List Nest} : ∀ k, (∀ i x, i < k → xs[i]? = some x → P i x = Q i x) → colTo P xs k = colTo Q xs k
  | 0, _ => rfl
  | k + 1, h => by
    have ih := colTo_eq k fun i x hi hx => h i x (by omega) hx
    rw [colTo, colTo, ih]
    rcases hx : xs[k]? with _ | x
    · rfl
    · simp only []
      rw [h k x (by omega) hx]
theorem colTo_mem {P : Nat → Nest → Bool} {xs : List Nest} {a : Int} : ∀ k, a ∈ colTo P xs k → ∃ i x, i < k ∧ xs[i]? = some x ∧ P i x = true ∧ x.a = a
  | 0, h => by simp [colTo] at h
  | k + 1, h => by
    rw [colTo] at h
    rcases hx : xs[k]? with _ | x
    · rw [hx] at h
      obtain ⟨i, y, h1, h2⟩ := colTo_mem k h
      exact ⟨i, y, by omega, h2⟩
    · rw [hx] at h
      simp only [] at h
      split at h
      · rename_i hp
        rcases List.mem_append.1 h with h | h
        · obtain ⟨i, y, h1, h2⟩ := colTo_mem k h
          exact ⟨i, y, by omega, h2⟩
        · simp at h
          exact ⟨k, x, by omega, hx, hp, h.symm⟩
      · obtain ⟨i, y, h1, h2⟩ := colTo_mem k h
        exact ⟨i, y, by omega, h2⟩
theorem colTo_nodup {P : Nat → Nest → Bool} {xs : List Nest} (hu : ∀ i j x y, xs[i]? = some x → xs[j]? = some y → P i x = true → P j y = true → x.a = y.a → i = j) : ∀ k, (colTo P xs k).Nodup
  | 0 => by simp [colTo]
  | k + 1 => by
    have ih := colTo_nodup hu k
    rw [colTo]
    rcases hx : xs[k]? with _ | x
    · exact ih
    · simp only []
      split
      · rename_i hp
        rw [List.nodup_append]
        refine ⟨ih, by simp, fun a ha b hb => ?_⟩
        simp at hb
        subst hb
        rintro rfl
        obtain ⟨i, y, h1, h2, h3, h4⟩ := colTo_mem k ha
        have := hu i k y x h2 hx h3 hp h4
        omega
      · exact ih
theorem onI_pa (a day : Int) (xs : List Nest) : ∀ k, k ≤ xs.length → onI a day xs k = -1 ∨ ∃ (j : Nat) (l : Nest), onI a day xs k = j ∧ xs[j]? = some l ∧ l.a = a
  | 0, _ => .inl rfl
  | k + 1, hk => by
    have hx : xs[k]? = some (xs[k]'(by omega)) := List.getElem?_eq_getElem (by omega)
    generalize xs[k]'(by omega) = x at hx
    have ih := onI_pa a day xs k (by omega)
    by_cases h : x.a = a ∧ x.c ≤ day
    · exact .inr ⟨k, x, onI_t hx h, hx, h.1⟩
    · rw [onI_f hx h]
      exact ih
theorem num_lt {xs : List Nest} (h : Eds xs) {i j : Nat} {x y : Nest} (hx : xs[i]? = some x) (hy : xs[j]? = some y) (ha : x.a = y.a) (hij : i < j) : x.b < y.b := by
  have h1 := (h.1 i x hx).2.2.1
  have h2 := (h.1 j y hy).2.2.1
  rw [← ha] at h2
  have hpre : (ofS x.a (xs.take (i + 1))).length ≤ (ofS x.a (xs.take j)).length := by
    have h3 : xs.take j = xs.take (i + 1) ++ (xs.take j).drop (i + 1) := by
      conv => lhs; rw [← List.take_append_drop (i + 1) (xs.take j)]
      rw [List.take_take, Nat.min_eq_left (by omega)]
    rw [h3]
    unfold ofS
    rw [List.filter_append, List.length_append]
    omega
  rw [take_get hx, ofS_snoc_t rfl, List.length_append] at hpre
  simp only [List.length_cons, List.length_nil] at hpre
  omega
theorem num_inj {xs : List Nest} (h : Eds xs) {i j : Nat} {x y : Nest} (hx : xs[i]? = some x) (hy : xs[j]? = some y) (ha : x.a = y.a) (hb : x.b = y.b) : i = j := by
  rcases Nat.lt_trichotomy i j with hlt | he | hgt
  · have := num_lt h hx hy ha hlt
    omega
  · exact he
  · have := num_lt h hy hx ha.symm hgt
    omega
def oldI (xs : List Nest) (day m : Int) (i : Nat) (x : Nest) : Bool := decide (x.b = curN day (ofS x.a xs) ∧ m ≤ day - x.c)
def oldP (xs : List Nest) (day m : Int) (i : Nat) (x : Nest) : Bool := decide (onI x.a day xs xs.length = i ∧ m ≤ day - x.c)
theorem old_same {xs : List Nest} (h : Eds xs) (day m : Int) {i : Nat} {x : Nest} (hx : xs[i]? = some x) : oldI xs day m i x = oldP xs day m i x := by
  have hb := (h.1 i x hx).1.2.2.2.2.1
  have hp := onI_p x.a day xs xs.length (Nat.le_refl _)
  have hpa := onI_pa x.a day xs xs.length (Nat.le_refl _)
  rw [List.take_length] at hp
  unfold oldI oldP
  congr 1
  apply propext
  constructor
  · rintro ⟨h1, h2⟩
    refine ⟨?_, h2⟩
    rcases hp with ⟨h3, h4⟩ | ⟨j, l, h3, _, h4, h5⟩
    · omega
    · rcases hpa with h6 | ⟨j', l', h6, h7, h8⟩
      · omega
      · rw [h3] at h6
        obtain rfl : j = j' := by omega
        rw [h4] at h7
        cases h7
        have := num_inj h hx h4 h8.symm (by omega)
        rw [h3, this]
  · rintro ⟨h1, h2⟩
    refine ⟨?_, h2⟩
    rcases hp with ⟨h3, h4⟩ | ⟨j, l, h3, _, h4, h5⟩
    · omega
    · obtain rfl : i = j := by omega
      rw [hx] at h4
      cases h4
      exact h5.symm
def oldL (xs : List Nest) (day m : Int) : List Int := colTo (oldP xs day m) xs xs.length
def oldS (xs : List Nest) (day m : Int) : List Int := putAll (oldL xs day m)
theorem old_sorted {xs : List Nest} (h : Eds xs) (day m : Int) : (colTo (oldI xs day m) xs xs.length).mergeSort leI = oldS xs day m := by
  have he : colTo (oldI xs day m) xs xs.length = oldL xs day m := colTo_eq _ fun i x _ hx => old_same h day m hx
  rw [he]
  refine (putAll_of_strict ?_ fun a => (sort_perm _).mem_iff).symm
  have hn : (oldL xs day m).Nodup := colTo_nodup (fun i j x y hx hy hpx hpy ha => by
    unfold oldP at hpx hpy
    simp only [decide_eq_true_eq] at hpx hpy
    rw [← ha] at hpy
    have h1 := hpx.1
    have h2 := hpy.1
    omega) _
  have hs := sort_sorted (oldL xs day m)
  have hn2 : ((oldL xs day m).mergeSort leI).Nodup := (sort_perm _).nodup_iff.2 hn
  unfold Strict
  rw [List.pairwise_iff_getElem] at hs ⊢
  unfold List.Nodup at hn2
  rw [List.pairwise_iff_getElem] at hn2
  intro i j hi hj hij
  have h1 := hs i j hi hj hij
  have h2 := hn2 i j hi hj hij
  omega
theorem oldS_len (xs : List Nest) (day m : Int) : (oldS xs day m).length ≤ xs.length := Nat.le_trans (putAll_len _) (colTo_len _ _ _)
def OdOk (xs : List Nest) (day m : Int) : Prop := Eds xs ∧ (0 ≤ day ∧ day ≤ 4000) ∧ (0 ≤ m ∧ m ≤ 4000)
end Go.Proofs.YtadcjfbcfiljkaaDoor
