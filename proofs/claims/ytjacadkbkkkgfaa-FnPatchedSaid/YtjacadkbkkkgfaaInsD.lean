/- Rows of tiles into which one is laid. -/
import Derived.Test.YtjacadkbkkkgfaaCopyK
import Derived.Test.YtjacadkbkkkgfaaFamTile
import Derived.Test.YtjacadkbkkkgfaaOwn2
import Derived.Lib.Overlaps
import Derived.Lib.AppendZerosOnto
namespace Go.Proofs.Ytjacadkbkkkgfaa
open Go.RowKit
set_option linter.unusedVariables false
set_option linter.unusedSimpArgs false

theorem own_row {lo : Nat} {e : TypeId} {w : World} {v : Value} {xs : List Tile} (h : OwnF Tile.ints 3 lo e w v xs) (hn : xs ≠ []) : ∃ g cap cur, v = .slice (some ⟨g, 0, none⟩) xs.length cap ∧ lo ≤ g ∧ w.heap[g]? = some (.cells (List.toArray cur) e (0, 0)) ∧ xs.length ≤ cap ∧ cap ≤ maxLen ∧ cur.length = cap * 3 ∧ cur.take (xs.length * 3) = row Tile.ints xs := by
  rcases h.2 with ⟨_, h0⟩ | ⟨g, cap, cur, hv, hg, hh, h1, h2, h3, h4⟩
  · exact absurd (List.length_eq_zero_iff.1 h0) hn
  · exact ⟨g, cap, cur.toList, hv, hg, by simpa using hh, h1, h2, by simpa using h3, h4⟩
theorem own_of_row {lo g cap : Nat} {e : TypeId} {w : World} {ys : List Tile} {cur : List Value} (hg : lo ≤ g) (hh : w.heap[g]? = some (.cells cur.toArray e (0, 0))) (h1 : ys.length ≤ cap) (h2 : cap ≤ maxLen) (h3 : cur.length = cap * 3) (h4 : cur.take (ys.length * 3) = row Tile.ints ys) :
    OwnF Tile.ints 3 lo e w (.slice (some ⟨g, 0, none⟩) ys.length cap) ys :=
  ⟨row_length Tile.ints_length ys, .inr ⟨g, cap, cur.toArray, rfl, hg, hh, h1, h2, by simpa using h3, by simpa using h4⟩⟩
theorem row_app (xs ys : List Tile) : row Tile.ints (xs ++ ys) = row Tile.ints xs ++ row Tile.ints ys := by simp [row]
theorem row_one (t : Tile) : row Tile.ints [t] = [Value.int .i64 t.row, .int .i64 t.col, .int .i64 t.sum] := rfl
theorem row_cell1 (xs : List Tile) : ∀ v ∈ row Tile.ints xs, v.oneCell' = true := by
  intro u hu
  obtain ⟨y, _, hy⟩ := List.mem_flatMap.1 hu
  obtain ⟨q, _, rfl⟩ := List.mem_map.1 hy
  rfl
theorem row_take (xs : List Tile) (k : Nat) (hk : k ≤ xs.length) : (row Tile.ints xs).take (k * 3) = row Tile.ints (xs.take k) := by
  have h : row Tile.ints xs = row Tile.ints (xs.take k) ++ row Tile.ints (xs.drop k) := by rw [← row_app, List.take_append_drop]
  rw [h, List.take_append_of_le_length (by rw [row_length Tile.ints_length, List.length_take]; omega)]
  exact List.take_of_length_le (by rw [row_length Tile.ints_length, List.length_take]; omega)
theorem row_drop (xs : List Tile) (k : Nat) (hk : k ≤ xs.length) : (row Tile.ints xs).drop (k * 3) = row Tile.ints (xs.drop k) := by
  have h : row Tile.ints xs = row Tile.ints (xs.take k) ++ row Tile.ints (xs.drop k) := by rw [← row_app, List.take_append_drop]
  rw [h, List.drop_append_of_le_length (by rw [row_length Tile.ints_length, List.length_take]; omega), List.drop_of_length_le (by rw [row_length Tile.ints_length, List.length_take]; omega), List.nil_append]
/-- the two copies that shift a row and lay an element into the gap -/
theorem ins_row {cur X Y D : List Value} {k n m : Nat} (hX : X.length = k * 3) (hY : Y.length = 3) (hD : D.length = m * 3) (hcur : cur.take (n * 3) = X ++ D) (hn : n = k + m) (hl : (n + 1) * 3 ≤ cur.length) :
    (splice (splice cur ((k + 1) * 3) D) (k * 3) Y).take ((n + 1) * 3) = X ++ (Y ++ D) := by
  have hXc : cur.take (k * 3) = X := by
    have h := congrArg (List.take (k * 3)) hcur
    rw [List.take_take, Nat.min_eq_left (show k * 3 ≤ n * 3 by omega), List.take_append_of_le_length (show k * 3 ≤ X.length by omega), List.take_of_length_le (show X.length ≤ k * 3 by omega)] at h
    exact h
  obtain ⟨Z, hZ, hZl⟩ : ∃ Z, cur.take ((k + 1) * 3) = X ++ Z ∧ Z.length = 3 := by
    refine ⟨(cur.take ((k + 1) * 3)).drop (k * 3), ?_, by rw [List.length_drop, List.length_take]; omega⟩
    rw [← hXc]
    conv => lhs; rw [← List.take_append_drop (k * 3) (cur.take ((k + 1) * 3)), List.take_take, Nat.min_eq_left (show k * 3 ≤ (k + 1) * 3 by omega)]
  unfold splice
  rw [hZ]
  have e1 : (X ++ Z ++ (D ++ cur.drop ((k + 1) * 3 + D.length))).take (k * 3) = X := by
    rw [List.append_assoc, List.take_append_of_le_length (by omega), List.take_of_length_le (by omega)]
  have e2 : (X ++ Z ++ (D ++ cur.drop ((k + 1) * 3 + D.length))).drop (k * 3 + Y.length) = D ++ cur.drop ((k + 1) * 3 + D.length) := by
    rw [List.drop_append_of_le_length (by rw [List.length_append]; omega), List.drop_of_length_le (by rw [List.length_append]; omega), List.nil_append]
  rw [e1, e2, ← List.append_assoc, ← List.append_assoc, List.take_append_of_le_length (by simp only [List.length_append]; omega), List.take_of_length_le (by simp only [List.length_append]; omega), List.append_assoc]
/-- the same in the other order, into a new row -/
theorem ins_row' {cur X Y D : List Value} {k n m : Nat} (hX : X.length = k * 3) (hY : Y.length = 3) (hD : D.length = m * 3) (hcur : cur.take (k * 3) = X) (hn : n = k + m) (hl : (n + 1) * 3 ≤ cur.length) :
    (splice (splice cur (k * 3) Y) ((k + 1) * 3) D).take ((n + 1) * 3) = X ++ (Y ++ D) := by
  unfold splice
  rw [hcur]
  have e1 : (X ++ (Y ++ cur.drop (k * 3 + Y.length))).take ((k + 1) * 3) = X ++ Y := by
    rw [← List.append_assoc, List.take_append_of_le_length (by simp only [List.length_append]; omega), List.take_of_length_le (by simp only [List.length_append]; omega)]
  rw [e1, ← List.append_assoc, List.take_append_of_le_length (by simp only [List.length_append]; omega), List.take_of_length_le (by simp only [List.length_append]; omega), List.append_assoc]
theorem cells_of {w : World} {g off : Nat} {e : TypeId} {cur cs : List Value} (hg : w.heap[g]? = some (.cells cur.toArray e (0, 0))) (h : cur.drop off = cs ∨ ∃ m, (cur.drop off).take m = cs) : ∀ j v, cs[j]? = some v → w.cell? ((⟨g, off, none⟩ : Addr).add j) = some v := by
  intro j v hj
  have hc : cur[off + j]? = some v := by
    rcases h with h | ⟨m, h⟩
    · rw [← h, List.getElem?_drop] at hj; exact hj
    · rw [← h, List.getElem?_take] at hj
      split at hj
      · rw [List.getElem?_drop] at hj; exact hj
      · cases hj
  have ha : (⟨g, off, none⟩ : Addr).add j = ⟨g, off + j, none⟩ := by unfold Addr.add; split <;> simp_all
  rw [ha]
  simp [World.cell?, hg, hc]
end Go.Proofs.Ytjacadkbkkkgfaa
