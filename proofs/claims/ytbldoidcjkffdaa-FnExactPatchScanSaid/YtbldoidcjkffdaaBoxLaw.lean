/- The laws' own functions over structs that hold a slice: what is left of the size; the marks. -/
import Derived.Test.YtbldoidcjkffdaaFamScan
import Derived.Test.YtbldoidcjkffdaaBase2
namespace Go.Proofs.Ytbldoidcjkffdaa
open Go.RowKit
set_option linter.unusedVariables false
set_option linter.unusedSimpArgs false
theorem held_below {W w' : World} (h : Below W.heap.size W w' ∧ ∀ b o, b < W.heap.size → w'.cell? ⟨b, o, none⟩ = W.cell? ⟨b, o, none⟩) : Below W.heap.size W w' := h.1
theorem cls_next {W w w' : World} {R : Prop} (h : Below W.heap.size W w ∧ R) (hb : Below w.heap.size w w') : Below W.heap.size W w' ∧ ∀ b o, b < W.heap.size → w'.cell? ⟨b, o, none⟩ = W.cell? ⟨b, o, none⟩ := cls_of (ext_trans h.1 hb)
theorem alloc_lt {W w' : World} {o : Obj} (h : Below (W.alloc o).heap.size (W.alloc o) w') : W.heap.size < w'.heap.size := by have := h.size; simp at this; omega
theorem alloc_lt' {W w' : World} {o : Obj} (h : Below (W.alloc o).drew.heap.size (W.alloc o).drew w') : W.heap.size < w'.heap.size := by
  have := h.size
  have h2 : (W.alloc o).drew.heap.size = W.heap.size + 1 := by show (W.alloc o).heap.size = _; simp
  omega
theorem fcell {W w1 : World} (hb : Below W.heap.size W w1) : ∀ b o, b < W.heap.size → w1.frozen? ⟨b, o, none⟩ = W.frozen? ⟨b, o, none⟩ :=
  fun b o h => hb.frozen (p := ⟨b, o, none⟩) h
set_option maxHeartbeats 400000 in
theorem szScanG_no (rows cols : Int) (A : Option Addr) (n c : Nat) (w : World) (left : Int) (h0 : 0 ≤ left) (h1 : left ≤ 1048576) (hn : n ≤ 9223372036854775807) (h : left < (n : Int)) :
    Calls Try.prog 10 #[.agg #[.int .i64 rows, .int .i64 cols, .slice A n c], .int .i64 left] w fun e w' => e = .returned (.int .i64 (-1)) ∧ Below w.heap.size w w' := by
  go_enter Try.func10, Try.ntmps10
  go_wp2_with fail
  refine (szTileS_no A n c _ left h0 h1 hn h).mono ?_
  rintro e w1 ⟨rfl, rfl⟩
  go_wp2
  go_ret
  exact ⟨rfl, by go_grown⟩
set_option maxHeartbeats 400000 in
theorem szScanG_ok (rows cols : Int) (A : Option Addr) (n c : Nat) (w : World) (left : Int) (h0 : 0 ≤ left) (h1 : left ≤ 1048576) (hn : n ≤ 9223372036854775807) (h : (n : Int) ≤ left) :
    Calls Try.prog 10 #[.agg #[.int .i64 rows, .int .i64 cols, .slice A n c], .int .i64 left] w fun e w' => e = .returned (.int .i64 (left - n)) ∧ Below w.heap.size w w' := by
  have hd : ¬ left - (n : Int) < 0 := by omega
  go_enter Try.func10, Try.ntmps10
  go_wp2_with fail
  refine (szTileS_ok A n c _ left h0 h1 hn h).mono ?_
  rintro e w1 ⟨rfl, rfl⟩
  go_wp2
  go_ret
  exact ⟨rfl, by go_grown⟩
end Go.Proofs.Ytbldoidcjkffdaa
