/- What the laws ask of loans. No condition. -/
import Derived.Test.YtpmhbkfcddbenaaLendI
import Derived.Test.YtpmhbkfcddbenaaRetD
import Derived.Test.YtpmhbkfcddbenaaWho
import Derived.Test.YtpmhbkfcddbenaaFine
import Derived.Test.YtpmhbkfcddbenaaOpnI
import Derived.Test.YtpmhbkfcddbenaaLoanS
namespace Go.Proofs.Ytpmhbkfcddbenaa
open Go.RowKit
set_option linter.unusedVariables false
set_option linter.unusedSimpArgs false

theorem whoL_none {s day : Int} : ∀ (xs : List Loan), (∀ x ∈ xs, ¬ Mw s day x) → whoL s day xs = 0
  | [], _ => rfl
  | x :: r, h => by rw [whoL_f (h x List.mem_cons_self)]; exact whoL_none r fun y hy => h y (List.mem_cons_of_mem _ hy)
theorem whoL_snoc {s day : Int} {y : Loan} (hy : Mw s day y) : ∀ (xs : List Loan), (∀ x ∈ xs, ¬ Mw s day x) → whoL s day (xs ++ [y]) = y.reader
  | [], _ => by rw [List.nil_append, whoL_t hy]
  | x :: r, h => by rw [List.cons_append, whoL_f (h x List.mem_cons_self)]; exact whoL_snoc hy r fun y hy => h y (List.mem_cons_of_mem _ hy)
theorem lend_facts {xs : List Loan} {s r day days : Int} (h : LeOk xs s r day days) :
    (WhOk xs s day ∧ whoL s day xs = 0) ∧ (WhOk (xs ++ [lentX s r day days]) s day ∧ whoL s day (xs ++ [lentX s r day days]) = r) ∧ (OlOk (xs ++ [lentX s r day days]) r day ∧ s ∈ (openS r day (xs ++ [lentX s r day days])).mergeSort leI) := by
  obtain ⟨h1, h2, h3, h4⟩ := h
  have hl := h4.1 xs.length (lentX s r day days) (by simp)
  have hI := hl.1
  have hs : 1 ≤ s ∧ s ≤ 999 := hI.1
  have hr : 1 ≤ r ∧ r ≤ 999 := hI.2.1
  have hno : ∀ x ∈ xs, ¬ Mw s day x := fun x hx hm => by
    obtain ⟨i, hi⟩ := List.mem_iff_getElem?.1 hx
    have hi2 : (xs ++ [lentX s r day days])[i]? = some x := by rw [List.getElem?_append_left (lt_of_get hi)]; exact hi
    have hc := hl.2.2 i x (lt_of_get hi) hi2
    have hx1 := (h1.1 i x hi).1
    obtain ⟨e1, e2⟩ := hm
    unfold OpenL at e2
    unfold IsLo at hx1
    refine hc ⟨e1, ?_⟩
    show x.back = -1 ∨ day < x.back
    omega
  have hop : OpenL day (lentX s r day days) := by
    show day ≤ day ∧ ((-1 : Int) < 0 ∨ day < -1)
    omega
  refine ⟨⟨⟨h1, hs, h2⟩, whoL_none xs hno⟩, ⟨⟨h4, hs, h2⟩, whoL_snoc ⟨rfl, hop⟩ xs hno⟩, ⟨⟨h4, hr, h2⟩, ?_⟩⟩
  exact (List.mem_mergeSort).2 (openS_mem (x := lentX s r day days) (by simp) ⟨rfl, hop⟩)
theorem return_facts {ys : List Loan} {s d : Int} (h : RtOk ys s d) :
    (WhOk (retL s d ys) s d ∧ whoL s d (retL s d ys) = 0) ∧ (FnOk (retL s d ys) s d ∧ fineL s d (retL s d ys) = retF s d ys) := by
  obtain ⟨⟨h1, h2, h3⟩, h4⟩ := h
  obtain ⟨k, x, hk, hx, hp⟩ := idx_at rfl h2
  obtain ⟨e1, e2⟩ := ret_at (d := d) hk hx
  rw [e1] at h4 ⊢
  rw [e2]
  have hpx : x.sheet = s ∧ x.back = -1 := by unfold opB at hp; simpa using hp
  have hk2 : (ys.set k (setBack d x))[k]? = some (setBack d x) := set_get hx
  have hS := (h4.1 k _ hk2).1
  have hs : 1 ≤ s ∧ s ≤ 999 := hpx.1 ▸ hS.1
  have hod : x.out ≤ d := by
    have := hS.2.2.2.2.2
    simp only [setBack] at this
    omega
  -- what stands at another place
  have hoth : ∀ (m : Nat) (y : Loan), m ≠ k → (ys.set k (setBack d x))[m]? = some y → ys[m]? = some y := fun m y hm hy => by
    rwa [List.getElem?_set_ne (Ne.symm hm)] at hy
  have hlast : ∀ (m : Nat) (y : Loan), k < m → (ys.set k (setBack d x))[m]? = some y → y.sheet ≠ s := fun m y hm hy he => by
    have hy2 := hoth m y (by omega) hy
    exact (h1.1 m y hy2).2.2 k x hm hx ⟨hpx.1.trans he.symm, .inl hpx.2⟩
  refine ⟨⟨⟨h4, hs, h3⟩, whoL_none _ fun y hy hm => ?_⟩, ⟨h4, h3, setBack d x, List.mem_of_getElem? hk2, hpx.1⟩, ?_⟩
  · obtain ⟨m, hy2⟩ := List.mem_iff_getElem?.1 hy
    obtain ⟨m1, m2⟩ := hm
    unfold OpenL at m2
    rcases Nat.lt_trichotomy m k with hlt | heq | hgt
    · have hy3 := hoth m y (by omega) hy2
      have hc := (h1.1 k x hx).2.2 m y hlt hy3
      have hyI := (h1.1 m y hy3).1
      unfold IsLo at hyI
      refine hc ⟨m1.trans hpx.1.symm, ?_⟩
      omega
    · subst heq
      rw [hk2] at hy2
      cases hy2
      simp only [setBack] at m2
      omega
    · exact hlast m y hgt hy2 m1
  · unfold fineL
    rw [lastS_at hk2 hpx.1 hlast]
set_option maxHeartbeats 400000 in
theorem specAreLoans_any (A : Option Addr) (c : Nat) (xs : List Loan) (w : World) (hn : xs.length ≤ 1048576) (hcap : xs.length ≤ c) (hcm : c ≤ 9223372036854775807) (hA : Fl Loan.ints 5 w A xs) :
    Calls Try.prog 19 #[.slice A xs.length c] w fun e w' => e = .returned (.bool (tb (Lns xs))) ∧ Below w.heap.size w w' := by
  have H := Lib.hid (l11Good_any A c xs w hn hcap hcm hA)
  go_enter Try.func19, Try.ntmps19
  go_wp2_with fail
  refine (H.out).mono ?_
  rintro e w1 ⟨rfl, hb1⟩
  go_wp2
  go_ret
  exact ⟨rfl, hb1⟩
end Go.Proofs.Ytpmhbkfcddbenaa
