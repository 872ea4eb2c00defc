/- The laws' own functions over scans: the copy and the comparison. -/
import Derived.Test.YtbldoidcjkffdaaFamTile
namespace Go.Proofs.Ytbldoidcjkffdaa
open Go.RowKit
set_option linter.unusedVariables false
set_option linter.unusedSimpArgs false

set_option maxHeartbeats 400000 in
theorem szScan_no (rows cols : Int) (A : Option Addr) (n c : Nat) (w : World) (hn : n ≤ 9223372036854775807) (h : 1048576 < (n : Int)) :
    Calls Try.prog 10 #[.agg #[.int .i64 rows, .int .i64 cols, .slice A n c], .int .i64 1048576] w fun e w' => e = .returned (.int .i64 (-1)) ∧ Below w.heap.size w w' := by
  go_enter Try.func10, Try.ntmps10
  go_wp2_with fail
  refine (szTileS_no A n c _ 1048576 (by omega) (by omega) hn h).mono ?_
  rintro e w1 ⟨rfl, rfl⟩
  go_wp2
  go_ret
  exact ⟨rfl, by go_grown⟩
set_option maxHeartbeats 400000 in
theorem szScan_ok (rows cols : Int) (A : Option Addr) (n c : Nat) (w : World) (hn : n ≤ 9223372036854775807) (h : (n : Int) ≤ 1048576) :
    Calls Try.prog 10 #[.agg #[.int .i64 rows, .int .i64 cols, .slice A n c], .int .i64 1048576] w fun e w' => e = .returned (.int .i64 (1048576 - n)) ∧ Below w.heap.size w w' := by
  have h0 : ¬ (1048576 : Int) - (n : Int) < 0 := by omega
  go_enter Try.func10, Try.ntmps10
  go_wp2_with fail
  refine (szTileS_ok A n c _ 1048576 (by omega) (by omega) hn h).mono ?_
  rintro e w1 ⟨rfl, rfl⟩
  go_wp2
  go_ret
  exact ⟨rfl, by go_grown⟩

set_option maxHeartbeats 1000000 in
theorem toScan_any (rows cols : Int) (A : Option Addr) (c : Nat) (xs : List Tile) (w : World) (hn : xs.length ≤ 1048576) (hA : Fl Tile.ints 3 w A xs) :
    Calls Try.prog 12 #[.agg #[.int .i64 rows, .int .i64 cols, .slice A xs.length c]] w fun e w' => ∃ B, e = .returned (.agg #[.int .i64 rows, .int .i64 cols, .slice (some ⟨B, 0, none⟩) xs.length xs.length]) ∧ FlO Tile.ints 3 w.heap.size w'.heap.size w' (some ⟨B, 0, none⟩) xs ∧ Below w.heap.size w w' := by
  obtain ⟨n, hnn⟩ : ∃ n, n = List.length xs := ⟨_, rfl⟩
  have hto := fun W hW => toTileS_any A c xs W hn hW
  rw [← hnn] at hn hto ⊢
  clear hnn
  have HT := Lib.hid hto
  clear hto
  go_enter Try.func12, Try.ntmps12
  go_wp2_with fail
  refine (HT.out _ (hA.ext (by go_grown))).mono ?_
  rintro e w1 ⟨B, rfl, hF, hb1⟩
  have hx1 : Below w.heap.size w w1 := ext_trans (by go_grown) hb1
  have hlo := hF.mono (lo' := w.heap.size) (by simp <;> omega) (Nat.le_refl _)
  have hz1 : w.heap.size + 3 ≤ w1.heap.size := by have := hb1.size; simp at this; omega
  have hzz : w.heap.size + 1 + 1 < w1.heap.size := by omega
  have hzy : w.heap.size + 1 < w1.heap.size := by omega
  have hzx : w.heap.size < w1.heap.size := by omega
  have hc1 := bcell hb1
  have hf1 : ∀ b o, b < w.heap.size + 1 + 1 + 1 → w1.frozen? ⟨b, o, none⟩ = World.frozen? _ ⟨b, o, none⟩ := fun b o h => hb1.frozen (p := ⟨b, o, none⟩) (by simpa using h)
  go_wp2
  have hT : Touch (w.heap.size + 1) (w.heap.size + 3) w1 w1 := Touch.refl _ _ _
  have hT2 : Touch (w.heap.size + 1) (w.heap.size + 3) w1 _ := (((hT.set (p := ⟨w.heap.size + 1 + 1, 2, none⟩) (by simp <;> omega) (by simp <;> omega) (Value.slice (some { block := B, off := 0 }) n n)).set
    (p := ⟨w.heap.size + 1, 0, none⟩) (by simp) (by simp) (Value.int IntKind.i64 rows)).set
    (p := ⟨w.heap.size + 1, 1, none⟩) (by simp) (by simp) (Value.int IntKind.i64 cols)).set (p := ⟨w.heap.size + 1, 2, none⟩) (by simp) (by simp) (Value.slice (some { block := B, off := 0 }) n n)
  refine bodyPost_ret (v := .agg #[.int .i64 rows, .int .i64 cols, .slice (some ⟨B, 0, none⟩) n n]) (by simp [results, Try.results12, go_sem, hc1, hzx, hzy, hzz]) rfl ⟨B, rfl, ?_, ?_⟩
  · exact (hF.touch hT2 (Or.inr (by simp <;> omega))).mono (by simp <;> omega) (by simp [setCell_size])
  · exact hT2.below hx1 (by omega)

set_option maxHeartbeats 1000000 in
theorem eqScan_same (rows cols : Int) (A B : Option Addr) (c d : Nat) (xs : List Tile) (w : World) (hn : xs.length ≤ 1152921504606846976) (hA : Fl Tile.ints 3 w A xs) (hB : Fl Tile.ints 3 w B xs) :
    Calls Try.prog 14 #[.agg #[.int .i64 rows, .int .i64 cols, .slice A xs.length c], .agg #[.int .i64 rows, .int .i64 cols, .slice B xs.length d]] w fun e w' => e = .returned (.bool true) ∧ Below w.heap.size w w' := by
  go_enter Try.func14, Try.ntmps14
  go_wp2_with fail
  refine (eqTileS_same A B c d xs _ hn (hA.ext (by go_grown)) (hB.ext (by go_grown))).mono ?_
  rintro e w1 ⟨rfl, hb1⟩
  have hx1 : Below w.heap.size w w1 := ext_trans (by go_grown) hb1
  have hz1 : w.heap.size + 2 ≤ w1.heap.size := by have := hb1.size; simp at this; omega
  have hc1 := bcell hb1
  go_wp2
  go_ret
  exact ⟨rfl, hx1⟩

end Go.Proofs.Ytbldoidcjkffdaa
