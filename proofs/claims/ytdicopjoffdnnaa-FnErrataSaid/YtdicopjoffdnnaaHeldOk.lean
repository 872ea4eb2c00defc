/- Which copies are valid: what an erratum concerns, and the words of the law. -/
import Derived.Test.YtdicopjoffdnnaaFindE
import Derived.Test.YtdicopjoffdnnaaRising
import Derived.Test.YtdicopjoffdnnaaErrataOk
namespace Go.Proofs.Ytdicopjoffdnnaa
open Go.RowKit
set_option linter.unusedVariables false
set_option linter.unusedSimpArgs false

def Con (e : Erratum) (x : Nest) : Prop := e.sheet = x.b ∧ (e.frm ≤ x.c ∧ x.c ≤ e.til)
def SlipOk (xs : List Erratum) (h : Nest) (id : Int) : Prop := ∃ (j : Nat) (e : Erratum), idxB (fun x => decide (x.id = id)) 0 xs = (j : Int) ∧ xs[j]? = some e ∧ Con e h
def HI (xs : List Erratum) (hs : List Nest) (k : Nat) (h : Nest) : Prop :=
  (1 ≤ h.a ∧ h.a ≤ 999) ∧ (1 ≤ h.b ∧ h.b ≤ 999) ∧ (1 ≤ h.c ∧ h.c ≤ 9) ∧ Rising h.l ∧ (∀ m p, k = m + 1 → hs[m]? = some p → p.a < h.a) ∧ ∀ (m : Nat) (id : Int), h.l[m]? = some id → SlipOk xs h id
def HeldOk (xs : List Erratum) (hs : List Nest) : Prop := Errs xs ∧ (∀ k h, hs[k]? = some h → HI xs hs k h) ∧ hs.length ≤ 10
theorem slip_range {xs : List Erratum} (h : Errs xs) {x : Nest} {id : Int} (hs : SlipOk xs x id) : 1 ≤ id ∧ id ≤ 99 := by
  obtain ⟨j, e, h1, h2, h3⟩ := hs
  rcases idxB_p (fun x : Erratum => decide (x.id = id)) xs 0 with ⟨h4, _⟩ | ⟨j', e', h4, h5, h6⟩
  · omega
  · have hj : j = j' := by omega
    subst hj
    rw [h2] at h5
    cases h5
    have h7 : e.id = id := by simpa using h6
    have h8 := h.1.1 j e h2
    unfold IsErr at h8
    omega
theorem HI.range {xs : List Erratum} (h : Errs xs) {hs : List Nest} {k : Nat} {x : Nest} (hi : HI xs hs k x) : AllR 1 99 x.l := fun i id hid => slip_range h (hi.2.2.2.2.2 i id hid)
theorem isRising_t (A : Option Addr) (c : Nat) (xs : List Int) (w : World) (hn : xs.length ≤ 1152921504606846976) (hA : Fl one 1 w A xs) (h : Rising xs) :
    Calls Try.prog 44 #[.slice A xs.length c] w fun e w' => e = .returned (.bool true) ∧ Below w.heap.size w w' := by
  have := isRising_any A c xs w hn hA; rwa [tb_t h] at this
theorem isRising_f (A : Option Addr) (c : Nat) (xs : List Int) (w : World) (hn : xs.length ≤ 1152921504606846976) (hA : Fl one 1 w A xs) (h : ¬ Rising xs) :
    Calls Try.prog 44 #[.slice A xs.length c] w fun e w' => e = .returned (.bool false) ∧ Below w.heap.size w w' := by
  have := isRising_any A c xs w hn hA; rwa [tb_f h] at this
theorem l1Ris_t (A : Option Addr) (c : Nat) (xs : List Int) (w : World) (hn : xs.length ≤ 1152921504606846976) (hA : Fl one 1 w A xs) (h : Good (InR 1 99) Lt xs) :
    Calls Try.prog 57 #[.slice A xs.length c, .int .i64 1, .int .i64 99] w fun e w' => e = .returned (.bool true) ∧ Below w.heap.size w w' := by
  have := l1Rising_any A c xs 1 99 w hn hA; rwa [tb_t h] at this
theorem l1Ris_f (A : Option Addr) (c : Nat) (xs : List Int) (w : World) (hn : xs.length ≤ 1152921504606846976) (hA : Fl one 1 w A xs) (h : ¬ Good (InR 1 99) Lt xs) :
    Calls Try.prog 57 #[.slice A xs.length c, .int .i64 1, .int .i64 99] w fun e w' => e = .returned (.bool false) ∧ Below w.heap.size w w' := by
  have := l1Rising_any A c xs 1 99 w hn hA; rwa [tb_f h] at this
set_option maxHeartbeats 400000 in
theorem concerns_any (e : Erratum) (x : Nest) (A : Option Addr) (d : Nat) (w : World) :
    Calls Try.prog 46 #[.agg #[.int .i64 e.id, .int .i64 e.sheet, .int .i64 e.frm, .int .i64 e.til, .int .i64 e.day], .agg #[.int .i64 x.a, .int .i64 x.b, .int .i64 x.c, .slice A x.l.length d]] w fun r w' => r = .returned (.bool (tb (Con e x))) ∧ Below w.heap.size w w' := by
  by_cases hs : e.sheet = x.b
  · have HS := Lib.hid hs
    by_cases hw : e.frm ≤ x.c ∧ x.c ≤ e.til
    · go_enter Try.func46, Try.ntmps46
      go_wp2_with fail
      refine (within_t x.c e.frm e.til _ hw).mono ?_
      rintro e w1 ⟨rfl, rfl⟩
      go_wp2
      go_ret
      exact ⟨ret_bool (tb_t ⟨HS.out, hw⟩).symm, by go_grown⟩
    · go_enter Try.func46, Try.ntmps46
      go_wp2_with fail
      refine (within_f x.c e.frm e.til _ hw).mono ?_
      rintro e w1 ⟨rfl, rfl⟩
      go_wp2
      go_ret
      exact ⟨ret_bool (tb_f (fun h => hw h.2)).symm, by go_grown⟩
  · have HS := Lib.hid hs
    go_enter Try.func46, Try.ntmps46
    go_wp2
    go_ret
    exact ⟨ret_bool (tb_f (fun h => HS.out h.1)).symm, by go_grown⟩
theorem concerns_t (e : Erratum) (x : Nest) (A : Option Addr) (d : Nat) (w : World) (h : Con e x) :
    Calls Try.prog 46 #[.agg #[.int .i64 e.id, .int .i64 e.sheet, .int .i64 e.frm, .int .i64 e.til, .int .i64 e.day], .agg #[.int .i64 x.a, .int .i64 x.b, .int .i64 x.c, .slice A x.l.length d]] w fun r w' => r = .returned (.bool true) ∧ Below w.heap.size w w' := by
  have := concerns_any e x A d w; rwa [tb_t h] at this
theorem concerns_f (e : Erratum) (x : Nest) (A : Option Addr) (d : Nat) (w : World) (h : ¬ Con e x) :
    Calls Try.prog 46 #[.agg #[.int .i64 e.id, .int .i64 e.sheet, .int .i64 e.frm, .int .i64 e.til, .int .i64 e.day], .agg #[.int .i64 x.a, .int .i64 x.b, .int .i64 x.c, .slice A x.l.length d]] w fun r w' => r = .returned (.bool false) ∧ Below w.heap.size w w' := by
  have := concerns_any e x A d w; rwa [tb_f h] at this
set_option maxHeartbeats 400000 in
theorem l19Concerns_any (e : Erratum) (x : Nest) (A : Option Addr) (d : Nat) (w : World) :
    Calls Try.prog 51 #[.agg #[.int .i64 e.id, .int .i64 e.sheet, .int .i64 e.frm, .int .i64 e.til, .int .i64 e.day], .agg #[.int .i64 x.a, .int .i64 x.b, .int .i64 x.c, .slice A x.l.length d]] w fun r w' => r = .returned (.bool (tb (Con e x))) ∧ Below w.heap.size w w' := by
  by_cases hs : e.sheet = x.b
  · have HS := Lib.hid hs
    by_cases hw : e.frm ≤ x.c ∧ x.c ≤ e.til
    · go_enter Try.func51, Try.ntmps51
      go_wp2_with fail
      refine (l1In_t x.c e.frm e.til _ hw).mono ?_
      rintro e w1 ⟨rfl, rfl⟩
      go_wp2
      go_ret
      exact ⟨ret_bool (tb_t ⟨HS.out, hw⟩).symm, by go_grown⟩
    · go_enter Try.func51, Try.ntmps51
      go_wp2_with fail
      refine (l1In_f x.c e.frm e.til _ hw).mono ?_
      rintro e w1 ⟨rfl, rfl⟩
      go_wp2
      go_ret
      exact ⟨ret_bool (tb_f (fun h => hw h.2)).symm, by go_grown⟩
  · have HS := Lib.hid hs
    go_enter Try.func51, Try.ntmps51
    go_wp2
    go_ret
    exact ⟨ret_bool (tb_f (fun h => HS.out h.1)).symm, by go_grown⟩
theorem l19Concerns_t (e : Erratum) (x : Nest) (A : Option Addr) (d : Nat) (w : World) (h : Con e x) :
    Calls Try.prog 51 #[.agg #[.int .i64 e.id, .int .i64 e.sheet, .int .i64 e.frm, .int .i64 e.til, .int .i64 e.day], .agg #[.int .i64 x.a, .int .i64 x.b, .int .i64 x.c, .slice A x.l.length d]] w fun r w' => r = .returned (.bool true) ∧ Below w.heap.size w w' := by
  have := l19Concerns_any e x A d w; rwa [tb_t h] at this
theorem l19Concerns_f (e : Erratum) (x : Nest) (A : Option Addr) (d : Nat) (w : World) (h : ¬ Con e x) :
    Calls Try.prog 51 #[.agg #[.int .i64 e.id, .int .i64 e.sheet, .int .i64 e.frm, .int .i64 e.til, .int .i64 e.day], .agg #[.int .i64 x.a, .int .i64 x.b, .int .i64 x.c, .slice A x.l.length d]] w fun r w' => r = .returned (.bool false) ∧ Below w.heap.size w w' := by
  have := l19Concerns_any e x A d w; rwa [tb_f h] at this
end Go.Proofs.Ytdicopjoffdnnaa
