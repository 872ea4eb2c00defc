/- What the law FnLate asks of loans. No condition. -/
import Derived.Test.YtnikeelpcokffaaDoorPrlD
import Derived.Test.YtnikeelpcokffaaDoorDysD
import Derived.Test.YtnikeelpcokffaaDoorWho
import Derived.Test.YtnikeelpcokffaaDoorFine
import Derived.Test.YtnikeelpcokffaaDoorLoanS
import Derived.Test.YtnikeelpcokffaaDoorMgL
namespace Go.Proofs.YtnikeelpcokffaaDoor
open Go.RowKit
set_option linter.unusedVariables false
set_option linter.unusedSimpArgs false

theorem late_who {xs : List Loan} {day s : Int} (h : LtOk xs day) (hs : s ∈ putAll (lateS day xs)) : WhOk xs s day ∧ whoL s day xs ≠ 0 := by
  rw [← late_sorted h.1, List.mem_mergeSort] at hs
  unfold lateS at hs
  obtain ⟨x, hx, rfl⟩ := List.mem_map.1 hs
  obtain ⟨hx1, hx2⟩ := List.mem_filter.1 hx
  have hl := tb_true hx2
  obtain ⟨i, hi⟩ := List.mem_iff_getElem?.1 hx1
  have hlo := (h.1.1 i x hi).1
  refine ⟨⟨h.1, hlo.1, h.2⟩, ?_⟩
  have key : ∀ (l : List Loan), (∀ y ∈ l, IsLo y) → (∃ y ∈ l, Mw x.sheet day y) → whoL x.sheet day l ≠ 0 := by
    intro l
    induction l with
    | nil => intro _ ⟨y, hy, _⟩; simp at hy
    | cons z r ih =>
      intro hl ⟨y, hy, hm⟩
      by_cases q : Mw x.sheet day z
      · rw [whoL_t q]
        have := (hl z List.mem_cons_self).2.1
        omega
      · rw [whoL_f q]
        refine ih (fun a ha => hl a (List.mem_cons_of_mem _ ha)) ?_
        rcases List.mem_cons.1 hy with e | e
        · subst e; exact absurd hm q
        · exact ⟨y, e, hm⟩
  refine key xs (lns_lo h.1) ⟨x, hx1, rfl, ?_⟩
  unfold Late at hl
  unfold IsLo at hlo
  unfold OpenL
  omega
theorem prl_law {xs : List Loan} {s day days : Int} (h : PrOk xs s day days) : (LtOk (prlL s days xs) day ∧ s ∉ putAll (lateS day (prlL s days xs))) ∧ (FnOk (prlL s days xs) s day ∧ fineL s day (prlL s days xs) = 0) := by
  obtain ⟨⟨h1, h2, h3, h5⟩, h6, h4⟩ := h
  obtain ⟨k, x, hk, hx, hp⟩ := idx_at rfl h2
  obtain ⟨e1, e2⟩ := prl_at (d := days) (day := day) hk hx
  rw [e1] at h4 ⊢
  have h6' := e2.1 h6
  have hpx : x.sheet = s ∧ x.back = -1 := by unfold opB at hp; simpa using hp
  have hk2 : (xs.set k (setDue days x))[k]? = some (setDue days x) := set_get hx
  have hoth : ∀ (m : Nat) (y : Loan), m ≠ k → (xs.set k (setDue days x))[m]? = some y → xs[m]? = some y := fun m y hm hy => by
    rwa [List.getElem?_set_ne (Ne.symm hm)] at hy
  have hlast : ∀ (m : Nat) (y : Loan), k < m → (xs.set k (setDue days x))[m]? = some y → y.sheet ≠ s := fun m y hm hy he => by
    have hy2 := hoth m y (by omega) hy
    exact (h1.1 m y hy2).2.2 k x hm hx ⟨hpx.1.trans he.symm, .inl hpx.2⟩
  refine ⟨⟨⟨h4, h3⟩, ?_⟩, ⟨h4, h3, setDue days x, List.mem_of_getElem? hk2, hpx.1⟩, ?_⟩
  · rw [← late_sorted h4, List.mem_mergeSort]
    intro hs
    unfold lateS at hs
    obtain ⟨y, hy, hys⟩ := List.mem_map.1 hs
    obtain ⟨hy1, hy2⟩ := List.mem_filter.1 hy
    have hl := tb_true hy2
    obtain ⟨m, hm⟩ := List.mem_iff_getElem?.1 hy1
    unfold Late at hl
    rcases Nat.lt_trichotomy m k with hlt | heq | hgt
    · have hy3 := hoth m y (by omega) hm
      have hc := (h1.1 k x hx).2.2 m y hlt hy3
      have hyI := (h1.1 m y hy3).1
      unfold IsLo at hyI
      refine hc ⟨hys.trans hpx.1.symm, ?_⟩
      omega
    · subst heq
      rw [hk2] at hm
      cases hm
      simp only [setDue] at hl
      omega
    · exact hlast m y hgt hm hys
  · unfold fineL
    rw [lastS_at hk2 hpx.1 hlast]
    show fineV day (setDue days x) = 0
    unfold fineV setDue
    rw [if_pos hpx.2]
    show min 1000 (10 * max 0 (day - (x.due + days))) = 0
    omega
theorem days_law {xs : List Loan} {s day : Int} (h : WhOk xs s day) (hd : day < 4000) : WhOk xs s (day + 1) ∧ dlS s day xs ≤ dlS s (day + 1) xs ∧ dlS s (day + 1) xs ≤ dlS s day xs + 1 :=
  ⟨⟨h.1, h.2.1, by have := h.2.2; omega⟩, dlS_next xs (lns_lo h.1) (who_one h.1 s day)⟩
end Go.Proofs.YtnikeelpcokffaaDoor
