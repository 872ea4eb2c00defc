/- Editions: what the law asks of a new one. No condition. -/
import Derived.Test.YtadcjfbcfiljkaaNewEd
import Derived.Test.YtadcjfbcfiljkaaDropLaw
import Derived.Test.YtadcjfbcfiljkaaCsD
import Derived.Test.YtadcjfbcfiljkaaPlaceH
import Derived.Test.YtadcjfbcfiljkaaCur
namespace Go.Proofs.Ytadcjfbcfiljkaa
open Go.RowKit
set_option linter.unusedVariables false
set_option linter.unusedSimpArgs false

theorem adj_pw {α : Type} {R : α → α → Prop} (tr : ∀ a b c, R a b → R b c → R a c) : ∀ xs : List α, (∀ (i : Nat) (x y : α), xs[i]? = some x → xs[i + 1]? = some y → R x y) → xs.Pairwise R
  | [], _ => List.Pairwise.nil
  | [x], _ => by simp
  | x :: y :: r, h => by
    have ih := adj_pw tr (y :: r) fun i a b ha hb => h (i + 1) a b (by simpa using ha) (by simpa using hb)
    have hxy : R x y := h 0 x y rfl rfl
    refine List.Pairwise.cons (fun z hz => ?_) ih
    rcases List.mem_cons.1 hz with rfl | hz
    · exact hxy
    · exact tr _ _ _ hxy ((List.pairwise_cons.1 ih).1 z hz)
/-- what the law asks of a new edition -/
theorem ed_facts {xs : List Nest} {s d : Int} {ch : List Int} (h : NeOk xs s d ch) :
    (CurOk (xs ++ [newE xs s d ch]) s d ∧ curN d (ofS s (xs ++ [newE xs s d ch])) = ((ofS s xs).length : Int) + 1)
    ∧ (DrOk (xs ++ [newE xs s d ch]) s ∧ dropS s (xs ++ [newE xs s d ch]) = xs)
    ∧ (1 < ((ofS s xs).length : Int) + 1 → CsOk (xs ++ [newE xs s d ch]) s (((ofS s xs).length : Int) + 1 - 1) d ∧ sinceL s (((ofS s xs).length : Int) + 1 - 1) d (xs ++ [newE xs s d ch]) = ch)
    ∧ (∀ p ∈ ch, PhOk (xs ++ [newE xs s d ch]) s p ∧ ((ofS s xs).length : Int) + 1 ∈ hist p (ofS s (xs ++ [newE xs s d ch])))
    ∧ (ofS s xs).length ≤ 15 := by
  obtain ⟨h1, h2⟩ := h
  obtain ⟨e, he⟩ : ∃ e, e = newE xs s d ch := ⟨_, rfl⟩
  have ea : e.a = s := by rw [he]; rfl
  have eb : e.b = ((ofS s xs).length : Int) + 1 := by rw [he]; rfl
  have ec : e.c = d := by rw [he]; rfl
  have el : e.l = ch := by rw [he]; rfl
  rw [← he] at h2 ⊢
  have hx : (xs ++ [e])[xs.length]? = some e := by simp
  obtain ⟨⟨i1, i2, i3, i4, i5, i6, i7⟩, _⟩ := h2.1 xs.length e hx
  rw [ea] at i4
  rw [ec] at i6
  rw [el] at i1 i2
  have hof : ofS s (xs ++ [e]) = ofS s xs ++ [e] := ofS_snoc_t ea
  have hlast : (ofS s (xs ++ [e])).getLast? = some e := by rw [hof]; simp
  refine ⟨⟨⟨h2, i4, i6⟩, ?_⟩, ⟨⟨h2, by rw [hof]; simp⟩, ?_⟩, fun hn => ⟨⟨h2, i6, by omega, by rw [hof, List.length_append]; simp; omega⟩, ?_⟩, fun p hp => ⟨⟨h2, i4, ?_⟩, ?_⟩, Nat.le_trans (ofS_len s xs) h1.2⟩
  · rw [hof]
    unfold curN
    rw [List.foldl_append]
    show curF d _ e = _
    rw [curF, if_pos (by omega), eb]
  · rw [drop_eq h2 hx hlast]
    simp
  · unfold sinceL sinceF
    rw [List.filter_append, List.filter_eq_nil_iff.2 (fun x hx' => ?_), List.filter_cons_of_pos (by simp only [decide_eq_true_eq]; omega), List.filter_nil]
    · simp only [List.nil_append, List.flatMap_cons, List.flatMap_nil, List.append_nil, el]
      exact putAll_of_strict (adj_pw (R := fun a b : Int => a < b) (fun a b c h k => Int.lt_trans h k) ch i2) (fun a => Iff.rfl)
    · simp only [decide_eq_true_eq]
      rintro ⟨q1, q2, _⟩
      have := ((cs_found h1 s x.b).2 ⟨x, hx', q1, rfl⟩).2
      omega
  · obtain ⟨i, hi⟩ := List.getElem?_of_mem hp
    exact i1 i p hi
  · rw [hof, hist_t (by rw [el]; exact hp), eb]
    simp
theorem appE_wt (xs : List Nest) (sheet day : Int) (ch : List Int) : wt (sel (NeOk xs sheet day ch) (xs ++ [newE xs sheet day ch])) ≤ 1048576 := ne_wt xs sheet day ch
end Go.Proofs.Ytadcjfbcfiljkaa
