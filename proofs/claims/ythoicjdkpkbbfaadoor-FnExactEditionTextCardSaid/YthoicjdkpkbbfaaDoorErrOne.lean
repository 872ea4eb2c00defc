/- One erratum: is it valid; the words of its text. No condition. -/
import Derived.Test.YthoicjdkpkbbfaaDoorProg
import Derived.Test.YthoicjdkpkbbfaaDoorBase
import Derived.Test.YthoicjdkpkbbfaaDoorBase2
import Derived.Test.YthoicjdkpkbbfaaDoorTypes
import Derived.Test.YthoicjdkpkbbfaaDoorNum
namespace Go.Proofs.YthoicjdkpkbbfaaDoor
open Go.RowKit
set_option linter.unusedVariables false
set_option linter.unusedSimpArgs false

noncomputable def selt (p : Prop) (q : ByteArray) : ByteArray := @ite _ p (Classical.propDecidable p) q ⟨#[]⟩
theorem selt_t {p : Prop} {q : ByteArray} (h : p) : selt p q = q := by simp [selt, h]
theorem selt_f {p : Prop} {q : ByteArray} (h : ¬ p) : selt p q = ⟨#[]⟩ := by simp [selt, h]
def IsErr (e : Erratum) : Prop := 1 ≤ e.id ∧ e.id ≤ 99 ∧ 1 ≤ e.sheet ∧ e.sheet ≤ 999 ∧ 1 ≤ e.frm ∧ e.frm ≤ e.til ∧ e.til ≤ 9 ∧ 0 ≤ e.day ∧ e.day ≤ 4000
set_option maxHeartbeats 400000 in
theorem isErratum_any (x : Erratum) (w : World) :
    Calls Tryd.prog 15 #[.agg #[.int .i64 x.id, .int .i64 x.sheet, .int .i64 x.frm, .int .i64 x.til, .int .i64 x.day]] w fun e w' => e = .returned (.bool (tb (IsErr x))) ∧ Below w.heap.size w w' := by
  go_enter Tryd.func15, Tryd.ntmps15
  go_wp2
  all_goals
    go_ret
    refine ⟨ret_bool ?_, by go_grown⟩
    first | exact (tb_t (by unfold IsErr; omega)).symm | exact (tb_f (by unfold IsErr; omega)).symm | exact tb_dec (by unfold IsErr; omega)
theorem isErratum_t (x : Erratum) (h : IsErr x) (w : World) :
    Calls Tryd.prog 15 #[.agg #[.int .i64 x.id, .int .i64 x.sheet, .int .i64 x.frm, .int .i64 x.til, .int .i64 x.day]] w fun e w' => e = .returned (.bool true) ∧ Below w.heap.size w w' := by
  have := isErratum_any x w; rwa [tb_t h] at this
theorem isErratum_f (x : Erratum) (h : ¬ IsErr x) (w : World) :
    Calls Tryd.prog 15 #[.agg #[.int .i64 x.id, .int .i64 x.sheet, .int .i64 x.frm, .int .i64 x.til, .int .i64 x.day]] w fun e w' => e = .returned (.bool false) ∧ Below w.heap.size w w' := by
  have := isErratum_any x w; rwa [tb_f h] at this
set_option maxHeartbeats 400000 in
theorem l19One_any (x : Erratum) (w : World) :
    Calls Tryd.prog 13 #[.agg #[.int .i64 x.id, .int .i64 x.sheet, .int .i64 x.frm, .int .i64 x.til, .int .i64 x.day]] w fun e w' => e = .returned (.bool (tb (IsErr x))) ∧ Below w.heap.size w w' := by
  go_enter Tryd.func13, Tryd.ntmps13
  go_wp2
  all_goals
    go_ret
    refine ⟨ret_bool ?_, by go_grown⟩
    first | exact (tb_t (by unfold IsErr; omega)).symm | exact (tb_f (by unfold IsErr; omega)).symm | exact tb_dec (by unfold IsErr; omega)
theorem l19One_t (x : Erratum) (h : IsErr x) (w : World) :
    Calls Tryd.prog 13 #[.agg #[.int .i64 x.id, .int .i64 x.sheet, .int .i64 x.frm, .int .i64 x.til, .int .i64 x.day]] w fun e w' => e = .returned (.bool true) ∧ Below w.heap.size w w' := by
  have := l19One_any x w; rwa [tb_t h] at this
theorem l19One_f (x : Erratum) (h : ¬ IsErr x) (w : World) :
    Calls Tryd.prog 13 #[.agg #[.int .i64 x.id, .int .i64 x.sheet, .int .i64 x.frm, .int .i64 x.til, .int .i64 x.day]] w fun e w' => e = .returned (.bool false) ∧ Below w.heap.size w w' := by
  have := l19One_any x w; rwa [tb_f h] at this
theorem toErratum_any (x : Erratum) (w : World) :
    Calls Tryd.prog 6 #[.agg #[.int .i64 x.id, .int .i64 x.sheet, .int .i64 x.frm, .int .i64 x.til, .int .i64 x.day]] w fun e w' => e = .returned (.agg #[.int .i64 x.id, .int .i64 x.sheet, .int .i64 x.frm, .int .i64 x.til, .int .i64 x.day]) ∧ Below w.heap.size w w' := by
  go_enter Tryd.func6, Tryd.ntmps6
  go_wp2
  refine bodyPost_ret (v := .agg #[.int .i64 x.id, .int .i64 x.sheet, .int .i64 x.frm, .int .i64 x.til, .int .i64 x.day]) (by simp [results, Tryd.results6, go_sem]) rfl ⟨rfl, by go_grown⟩
def errB (a b c d e : Nat) : ByteArray := ⟨#[101]⟩ ++ dig a ++ ⟨#[32, 115, 104, 101, 101, 116, 32]⟩ ++ dig b ++ ⟨#[32, 101, 100, 105, 116, 105, 111, 110, 115, 32]⟩ ++ dig c ++ ⟨#[45]⟩ ++ dig d ++ ⟨#[32, 111, 110, 32]⟩ ++ dig e
def errT (x : Erratum) : ByteArray := errB x.id.toNat x.sheet.toNat x.frm.toNat x.til.toNat x.day.toNat
end Go.Proofs.YthoicjdkpkbbfaaDoor
