/- Loans: the words. -/
import Derived.Test.YtnikeelpcokffaaDoorFamLoan
import Derived.Test.YtnikeelpcokffaaDoorWithin
import Derived.Test.YtnikeelpcokffaaDoorSortI
import Derived.Test.YtnikeelpcokffaaDoorPut
import Derived.Test.YtnikeelpcokffaaDoorLst
namespace Go.Proofs.YtnikeelpcokffaaDoor
open Go.RowKit
set_option linter.unusedVariables false
set_option linter.unusedSimpArgs false

def IsLo (x : Loan) : Prop := (1 ≤ x.sheet ∧ x.sheet ≤ 999) ∧ (1 ≤ x.reader ∧ x.reader ≤ 999) ∧ (0 ≤ x.out ∧ x.out ≤ 4000) ∧ (0 ≤ x.due ∧ x.due ≤ 4000) ∧ x.out ≤ x.due ∧ (x.back = -1 ∨ (0 ≤ x.back ∧ x.back ≤ 4000) ∧ x.out ≤ x.back)
def Cl (p x : Loan) : Prop := p.sheet = x.sheet ∧ (p.back = -1 ∨ x.out < p.back)
def LoI (xs : List Loan) (k : Nat) (x : Loan) : Prop := IsLo x ∧ (∀ m p, k = m + 1 → xs[m]? = some p → p.out ≤ x.out) ∧ ∀ (m : Nat) (p : Loan), m < k → xs[m]? = some p → ¬ Cl p x
def Lns (xs : List Loan) : Prop := (∀ (k : Nat) (x : Loan), xs[k]? = some x → LoI xs k x) ∧ xs.length ≤ 15
def Late (day : Int) (x : Loan) : Prop := x.out ≤ day ∧ (x.back = -1 ∨ day < x.back) ∧ x.due < day
theorem eq_tb {b : Bool} {p : Prop} (h : b = true ↔ p) : b = tb p := by
  by_cases hp : p
  · rw [tb_t hp]; exact h.2 hp
  · rw [tb_f hp]; exact Bool.eq_false_iff.2 fun e => hp (h.1 e)
def OpenL (day : Int) (x : Loan) : Prop := x.out ≤ day ∧ (x.back < 0 ∨ day < x.back)
set_option maxHeartbeats 400000 in
theorem isLoan_any (x : Loan) (w : World) :
    Calls Tryd.prog 53 #[.agg #[.int .i64 x.sheet, .int .i64 x.reader, .int .i64 x.out, .int .i64 x.due, .int .i64 x.back]] w fun e w' => e = .returned (.bool (tb (IsLo x))) ∧ Below w.heap.size w w' := by
  go_enter Tryd.func53, Tryd.ntmps53
  go_wp2
  all_goals
    go_ret
    refine ⟨ret_bool ?_, by go_grown⟩
    first | exact (tb_t (by unfold IsLo; omega)).symm | exact (tb_f (by unfold IsLo; omega)).symm | exact eq_tb (by simp; unfold IsLo; omega) | (refine eq_tb ?_; show (decide (x.back = -1) || decide (x.out ≤ x.back)) = true ↔ _; rw [Bool.or_eq_true, decide_eq_true_eq, decide_eq_true_eq]; unfold IsLo; omega) | (refine eq_tb ?_; show decide (x.back = -1) = true ↔ _; rw [decide_eq_true_eq]; unfold IsLo; omega) | (trace_state; fail)
theorem isLoan_t (x : Loan) (h : IsLo x) (w : World) :
    Calls Tryd.prog 53 #[.agg #[.int .i64 x.sheet, .int .i64 x.reader, .int .i64 x.out, .int .i64 x.due, .int .i64 x.back]] w fun e w' => e = .returned (.bool true) ∧ Below w.heap.size w w' := by
  have := isLoan_any x w; rwa [tb_t h] at this
theorem isLoan_f (x : Loan) (h : ¬ IsLo x) (w : World) :
    Calls Tryd.prog 53 #[.agg #[.int .i64 x.sheet, .int .i64 x.reader, .int .i64 x.out, .int .i64 x.due, .int .i64 x.back]] w fun e w' => e = .returned (.bool false) ∧ Below w.heap.size w w' := by
  have := isLoan_any x w; rwa [tb_f h] at this
set_option maxHeartbeats 400000 in
theorem l11One_any (x : Loan) (w : World) :
    Calls Tryd.prog 55 #[.agg #[.int .i64 x.sheet, .int .i64 x.reader, .int .i64 x.out, .int .i64 x.due, .int .i64 x.back]] w fun e w' => e = .returned (.bool (tb (IsLo x))) ∧ Below w.heap.size w w' := by
  go_enter Tryd.func55, Tryd.ntmps55
  go_wp2
  all_goals
    go_ret
    refine ⟨ret_bool ?_, by go_grown⟩
    first | exact (tb_t (by unfold IsLo; omega)).symm | exact (tb_f (by unfold IsLo; omega)).symm | exact eq_tb (by simp; unfold IsLo; omega) | (refine eq_tb ?_; show (decide (x.back = -1) || decide (x.out ≤ x.back)) = true ↔ _; rw [Bool.or_eq_true, decide_eq_true_eq, decide_eq_true_eq]; unfold IsLo; omega) | (refine eq_tb ?_; show decide (x.back = -1) = true ↔ _; rw [decide_eq_true_eq]; unfold IsLo; omega) | (trace_state; fail)
theorem l11One_t (x : Loan) (h : IsLo x) (w : World) :
    Calls Tryd.prog 55 #[.agg #[.int .i64 x.sheet, .int .i64 x.reader, .int .i64 x.out, .int .i64 x.due, .int .i64 x.back]] w fun e w' => e = .returned (.bool true) ∧ Below w.heap.size w w' := by
  have := l11One_any x w; rwa [tb_t h] at this
theorem l11One_f (x : Loan) (h : ¬ IsLo x) (w : World) :
    Calls Tryd.prog 55 #[.agg #[.int .i64 x.sheet, .int .i64 x.reader, .int .i64 x.out, .int .i64 x.due, .int .i64 x.back]] w fun e w' => e = .returned (.bool false) ∧ Below w.heap.size w w' := by
  have := l11One_any x w; rwa [tb_f h] at this
set_option maxHeartbeats 400000 in
theorem isLate_any (x : Loan) (day : Int) (w : World) :
    Calls Tryd.prog 33 #[.agg #[.int .i64 x.sheet, .int .i64 x.reader, .int .i64 x.out, .int .i64 x.due, .int .i64 x.back], .int .i64 day] w fun e w' => e = .returned (.bool (tb (Late day x))) ∧ Below w.heap.size w w' := by
  go_enter Tryd.func33, Tryd.ntmps33
  go_wp2
  all_goals
    go_ret
    refine ⟨ret_bool ?_, by go_grown⟩
    first | exact (tb_t (by unfold Late; omega)).symm | exact (tb_f (by unfold Late; omega)).symm | exact tb_dec (by unfold Late; omega)
set_option maxHeartbeats 400000 in
theorem l11IsOpen_any (x : Loan) (day : Int) (w : World) :
    Calls Tryd.prog 36 #[.agg #[.int .i64 x.sheet, .int .i64 x.reader, .int .i64 x.out, .int .i64 x.due, .int .i64 x.back], .int .i64 day] w fun e w' => e = .returned (.bool (tb (OpenL day x))) ∧ Below w.heap.size w w' := by
  go_enter Tryd.func36, Tryd.ntmps36
  go_wp2
  all_goals
    go_ret
    refine ⟨ret_bool ?_, by go_grown⟩
    first | exact (tb_t (by unfold OpenL; omega)).symm | exact (tb_f (by unfold OpenL; omega)).symm | exact eq_tb (by simp only [beq_iff_eq, decide_eq_true_eq, Bool.or_eq_true, Bool.and_eq_true]; unfold OpenL; omega)
theorem l11IsOpen_t (x : Loan) (day : Int) (w : World) (h : OpenL day x) :
    Calls Tryd.prog 36 #[.agg #[.int .i64 x.sheet, .int .i64 x.reader, .int .i64 x.out, .int .i64 x.due, .int .i64 x.back], .int .i64 day] w fun e w' => e = .returned (.bool true) ∧ Below w.heap.size w w' := by
  have := l11IsOpen_any x day w; rwa [tb_t h] at this
theorem l11IsOpen_f (x : Loan) (day : Int) (w : World) (h : ¬ OpenL day x) :
    Calls Tryd.prog 36 #[.agg #[.int .i64 x.sheet, .int .i64 x.reader, .int .i64 x.out, .int .i64 x.due, .int .i64 x.back], .int .i64 day] w fun e w' => e = .returned (.bool false) ∧ Below w.heap.size w w' := by
  have := l11IsOpen_any x day w; rwa [tb_f h] at this
/-- the sheets of those that are late -/
noncomputable def lateS (day : Int) (xs : List Loan) : List Int := (xs.filter fun x => tb (Late day x)).map fun x => x.sheet
theorem lateS_t {day : Int} {ys : List Loan} {x : Loan} (h : Late day x) : lateS day (ys ++ [x]) = lateS day ys ++ [x.sheet] := by simp [lateS, tb_t h]
theorem lateS_f {day : Int} {ys : List Loan} {x : Loan} (h : ¬ Late day x) : lateS day (ys ++ [x]) = lateS day ys := by simp [lateS, tb_f h]
theorem lateS_len (day : Int) (ys : List Loan) : (lateS day ys).length ≤ ys.length := by unfold lateS; rw [List.length_map]; exact List.length_filter_le _ _
theorem lateS_nodup {xs : List Loan} (h : Lns xs) (day : Int) : (lateS day xs).Nodup := by
  unfold lateS
  have hp : xs.Pairwise fun p x => ¬ Cl p x := by
    rw [List.pairwise_iff_getElem]
    intro i j hi hj hij
    exact (h.1 j _ (List.getElem?_eq_getElem hj)).2.2 i _ hij (List.getElem?_eq_getElem hi)
  unfold List.Nodup
  rw [List.pairwise_map]
  refine (hp.filter _).imp_of_mem ?_
  intro a b ha hb hcl e
  have h1 := tb_true (List.mem_filter.1 ha).2
  have h2 := tb_true (List.mem_filter.1 hb).2
  unfold Late at h1 h2
  apply hcl
  refine ⟨e, ?_⟩
  omega
theorem late_sorted {xs : List Loan} (h : Lns xs) (day : Int) : (lateS day xs).mergeSort leI = putAll (lateS day xs) := by
  refine (putAll_of_strict ?_ fun a => (sort_perm _).mem_iff).symm
  have hs := sort_sorted (lateS day xs)
  have hn2 : ((lateS day xs).mergeSort leI).Nodup := (sort_perm _).nodup_iff.2 (lateS_nodup h day)
  unfold Strict
  rw [List.pairwise_iff_getElem] at hs ⊢
  unfold List.Nodup at hn2
  rw [List.pairwise_iff_getElem] at hn2
  intro i j hi hj hij
  have h1 := hs i j hi hj hij
  have h2 := hn2 i j hi hj hij
  omega
def LtOk (xs : List Loan) (day : Int) : Prop := Lns xs ∧ (0 ≤ day ∧ day ≤ 4000)
end Go.Proofs.YtnikeelpcokffaaDoor
