/- The last edition of a sheet taken out of a list: the plain law. -/
import Derived.Test.YtadcjfbcfiljkaaDelEd
import Derived.Test.YtadcjfbcfiljkaaEds
import Derived.Test.YtadcjfbcfiljkaaLst
namespace Go.Proofs.Ytadcjfbcfiljkaa
open Go.RowKit
set_option linter.unusedVariables false
set_option linter.unusedSimpArgs false

theorem ofS_append (a : Int) (xs ys : List Nest) : ofS a (xs ++ ys) = ofS a xs ++ ofS a ys := by simp [ofS]
theorem split_at {α : Type} {xs : List α} {j : Nat} {l : α} (h : xs[j]? = some l) : xs = xs.take j ++ l :: xs.drop (j + 1) := by
  rw [← drop_get h, List.take_append_drop]
def dropS (sheet : Int) (xs : List Nest) : List Nest := xs.filter fun x => !delB sheet ((ofS sheet xs).length : Int) x
def DrOk (xs : List Nest) (sheet : Int) : Prop := Eds xs ∧ ofS sheet xs ≠ []
theorem drop_eq {xs : List Nest} {sheet : Int} {j : Nat} {l : Nest} (h : Eds xs) (hj : xs[j]? = some l) (hl : (ofS sheet xs).getLast? = some l) : dropS sheet xs = xs.take j ++ xs.drop (j + 1) := by
  have hb := StTo.last (k := xs.length) (fun j e _ hx => h.1 j e hx) sheet l (by rw [List.take_length]; exact hl)
  rw [List.take_length] at hb
  have hst := (h.1 j l hj).2.2.1
  rw [hb.2] at hst
  have hsp := split_at hj
  have hof : ofS sheet xs = ofS sheet (xs.take j) ++ l :: ofS sheet (xs.drop (j + 1)) := by
    conv => lhs; rw [hsp]
    rw [ofS_append]
    simp [ofS, hb.2]
  have hlen := congrArg List.length hof
  rw [List.length_append, List.length_cons] at hlen
  have hnil : ofS sheet (xs.drop (j + 1)) = [] := List.length_eq_zero_iff.1 (by omega)
  unfold dropS
  generalize hc : ((ofS sheet xs).length : Int) = cnt
  conv => lhs; rw [hsp]
  rw [List.filter_append, List.filter_cons_of_neg (by rw [delB_t hb.2 (by rw [hb.1, hc])]; simp)]
  congr 1
  · rw [List.filter_eq_self]
    intro x hx
    obtain ⟨i, hi⟩ := List.mem_iff_getElem?.1 hx
    have hij := lt_of_get hi
    rw [List.length_take] at hij
    have hi' : xs[i]? = some x := by
      rw [List.getElem?_take] at hi
      split at hi
      · exact hi
      · cases hi
    by_cases ha : x.a = sheet
    · have hsi := (h.1 i x hi').2.2.1
      rw [ha] at hsi
      have hpre : (ofS sheet (xs.take (i + 1))).length ≤ (ofS sheet (xs.take j)).length := by
        have h1 : xs.take j = xs.take (i + 1) ++ (xs.take j).drop (i + 1) := by
          conv => lhs; rw [← List.take_append_drop (i + 1) (xs.take j)]
          rw [List.take_take, Nat.min_eq_left (by omega)]
        rw [h1, ofS_append, List.length_append]
        omega
      rw [take_get hi', ofS_snoc_t ha, List.length_append] at hpre
      simp only [List.length_cons, List.length_nil] at hpre
      rw [delB_f2 (by omega)]
      rfl
    · rw [delB_f1 ha]
      rfl
  · rw [List.filter_eq_self]
    intro x hx
    by_cases ha : x.a = sheet
    · have : x ∈ ofS sheet (xs.drop (j + 1)) := List.mem_filter.2 ⟨hx, by simp [ha]⟩
      rw [hnil] at this
      simp at this
    · rw [delB_f1 ha]
      rfl
theorem dropS_wt (xs : List Nest) (sheet : Int) : wt (dropS sheet xs) ≤ wt xs := by
  have h : ∀ (p : Nest → Bool) (l : List Nest), lsum (l.filter p) ≤ lsum l := fun p l => by
    induction l with
    | nil => simp [lsum]
    | cons x r ih =>
      by_cases hp : p x = true
      · rw [List.filter_cons_of_pos hp, lsum, lsum]; omega
      · rw [List.filter_cons_of_neg hp, lsum]; omega
  unfold wt dropS
  have h1 := h (fun x => !delB sheet ((ofS sheet xs).length : Int) x) xs
  have h2 := List.length_filter_le (fun x => !delB sheet ((ofS sheet xs).length : Int) x) xs
  omega
theorem dr_wt (xs : List Nest) (sheet : Int) (h : wt xs ≤ 1048576) : wt (sel (DrOk xs sheet) (dropS sheet xs)) ≤ 1048576 := by
  by_cases ho : DrOk xs sheet
  · rw [sel_t ho]
    exact Nat.le_trans (dropS_wt xs sheet) h
  · rw [sel_f ho]
    simp [wt, lsum]
end Go.Proofs.Ytadcjfbcfiljkaa
