/- How long a sheet was lent: the words. No condition. -/
import Derived.Test.YtnikeelpcokffaaDoorWho
namespace Go.Proofs.YtnikeelpcokffaaDoor
open Go.RowKit
set_option linter.unusedVariables false
set_option linter.unusedSimpArgs false

def dlV (s day : Int) (x : Loan) : Int := if x.sheet = s ∧ x.out ≤ day then (if x.back < 0 ∨ day < x.back then day - x.out else x.back - x.out) else 0
def dlS (s day : Int) : List Loan → Int
  | [] => 0
  | x :: r => dlV s day x + dlS s day r
theorem dlS_snoc (s day : Int) : ∀ (l : List Loan) (x : Loan), dlS s day (l ++ [x]) = dlS s day l + dlV s day x
  | [], x => by simp [dlS]
  | y :: r, x => by rw [List.cons_append, dlS, dlS, dlS_snoc s day r x]; omega
theorem dlV_bd {s day : Int} {x : Loan} (h : IsLo x) (hd : 0 ≤ day ∧ day ≤ 4000) : 0 ≤ dlV s day x ∧ dlV s day x ≤ 4000 := by
  unfold IsLo at h
  unfold dlV
  split
  · split <;> omega
  · omega
theorem dlS_bd {s day : Int} (hd : 0 ≤ day ∧ day ≤ 4000) : ∀ (l : List Loan), (∀ x ∈ l, IsLo x) → 0 ≤ dlS s day l ∧ dlS s day l ≤ 4000 * (l.length : Int)
  | [], _ => by simp [dlS]
  | x :: r, h => by
    have h1 := dlV_bd (s := s) (h x List.mem_cons_self) hd
    have h2 := dlS_bd (s := s) hd r (fun y hy => h y (List.mem_cons_of_mem _ hy))
    rw [dlS, List.length_cons]
    omega
theorem dlV_no {s day : Int} {x : Loan} (h : IsLo x) (hm : ¬ Mw s day x) : dlV s (day + 1) x = dlV s day x := by
  unfold IsLo at h
  have hm2 : x.sheet = s → ¬ OpenL day x := fun a b => hm ⟨a, b⟩
  unfold OpenL at hm2
  unfold dlV
  by_cases hs : x.sheet = s
  · have := hm2 hs
    split <;> split <;> (try split) <;> (try split) <;> omega
  · rw [if_neg fun q => hs q.1, if_neg fun q => hs q.1]
theorem dlV_yes {s day : Int} {x : Loan} (h : IsLo x) (hm : Mw s day x) : dlV s (day + 1) x = dlV s day x + 1 := by
  unfold IsLo at h
  obtain ⟨hs, ho⟩ := hm
  unfold OpenL at ho
  unfold dlV
  split <;> split <;> (try split) <;> (try split) <;> omega
theorem dlS_no {s day : Int} : ∀ (l : List Loan), (∀ x ∈ l, IsLo x) → (∀ x ∈ l, ¬ Mw s day x) → dlS s (day + 1) l = dlS s day l
  | [], _, _ => rfl
  | x :: r, h, hm => by
    rw [dlS, dlS, dlV_no (h x List.mem_cons_self) (hm x List.mem_cons_self), dlS_no r (fun y hy => h y (List.mem_cons_of_mem _ hy)) fun y hy => hm y (List.mem_cons_of_mem _ hy)]
theorem dlS_next {s day : Int} : ∀ (l : List Loan), (∀ x ∈ l, IsLo x) → l.Pairwise (fun p x => ¬ (Mw s day p ∧ Mw s day x)) → dlS s day l ≤ dlS s (day + 1) l ∧ dlS s (day + 1) l ≤ dlS s day l + 1
  | [], _, _ => by simp [dlS]
  | x :: r, h, hp => by
    obtain ⟨h1, h2⟩ := List.pairwise_cons.1 hp
    have hr := fun y hy => h y (List.mem_cons_of_mem x hy)
    by_cases hm : Mw s day x
    · rw [dlS, dlS, dlV_yes (h x List.mem_cons_self) hm, dlS_no r hr fun y hy q => h1 y hy ⟨hm, q⟩]
      omega
    · have := dlS_next r hr h2
      rw [dlS, dlS, dlV_no (h x List.mem_cons_self) hm]
      omega
theorem lns_lo {xs : List Loan} (h : Lns xs) : ∀ x ∈ xs, IsLo x := fun x hx => by
  obtain ⟨i, hi⟩ := List.mem_iff_getElem?.1 hx
  exact (h.1 i x hi).1
end Go.Proofs.YtnikeelpcokffaaDoor
