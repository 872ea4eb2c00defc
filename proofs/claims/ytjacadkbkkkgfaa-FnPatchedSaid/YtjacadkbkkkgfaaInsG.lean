/- slices.Insert of one tile, whatever the room. -/
import Derived.Test.YtjacadkbkkkgfaaInsW
namespace Go.Proofs.Ytjacadkbkkkgfaa
open Go.RowKit
set_option linter.unusedVariables false
set_option linter.unusedSimpArgs false

set_option maxHeartbeats 4000000 in
set_option maxRecDepth 100000 in
theorem insert_grow (lo g cap n k : Nat) (cur : List Value) (xs : List Tile) (t : Tile) (b : Nat) (w : World) (hnn : n = xs.length) (hk : k < n) (hn : n ≤ 1048576) (hlo : lo ≤ w.heap.size) (hg : lo ≤ g) (hh : w.heap[g]? = some (.cells cur.toArray 39 (0, 0))) (hnc : n ≤ cap) (hroom : cap < n + 1) (hcl : cur.length = cap * 3) (hcr : cur.take (n * 3) = row Tile.ints xs)
    (hb : w.heap[b]? = some (.cells #[.int .i64 t.row, .int .i64 t.col, .int .i64 t.sum] 39 (0, 0))) :
    Calls Try.prog 65 #[.slice (some ⟨g, 0, none⟩) n cap, .int .i64 (k : Int), .slice (some ⟨b, 0, none⟩) 1 1] w fun e w' => ∃ v', e = .returned v' ∧ OwnF Tile.ints 3 lo 39 w' v' (xs.take k ++ t :: xs.drop k) ∧ Below lo w w' := by
  obtain ⟨i0, hi, hz0, hz1, hz2⟩ := info_parts infoTile
  have hgl : g < w.heap.size := (Array.getElem?_eq_some_iff.1 hh).1
  have hbl : b < w.heap.size := (Array.getElem?_eq_some_iff.1 hb).1
  have hDl : (row Tile.ints (xs.drop k)).length = (n - k) * 3 := by rw [row_length Tile.ints_length, List.length_drop, ← hnn]
  have hXl : (row Tile.ints (xs.take k)).length = k * 3 := by rw [row_length Tile.ints_length, List.length_take, ← hnn, Nat.min_eq_left (show k ≤ n by omega)]
  have hsrcD : ∃ m, (cur.drop (k * 3)).take m = row Tile.ints (xs.drop k) := ⟨(n - k) * 3, by
    have e : (cur.drop (k * 3)).take ((n - k) * 3) = (cur.take (n * 3)).drop (k * 3) := by rw [List.drop_take]; congr 1; omega
    rw [e, hcr, row_drop xs k (by omega)]⟩
  have hsrcX : (cur.drop 0).take (k * 3) = row Tile.ints (xs.take k) := by
    have e : (cur.drop 0).take (k * 3) = (cur.take (n * 3)).take (k * 3) := by rw [List.drop_zero, List.take_take, Nat.min_eq_left (show k * 3 ≤ n * 3 by omega)]
    rw [e, hcr, row_take xs k (by omega)]
  have hlen2 : (xs.take k ++ t :: xs.drop k).length = n + 1 := by rw [List.length_append, List.length_cons, List.length_take, List.length_drop, ← hnn]; omega
  have hrow2 : row Tile.ints (xs.take k ++ t :: xs.drop k) = row Tile.ints (xs.take k) ++ (row Tile.ints [t] ++ row Tile.ints (xs.drop k)) := by rw [row_app, ← row_app [t]]; rfl
  obtain ⟨m1, hm1⟩ : ∃ m1, m1 = n + 1 - k := ⟨_, rfl⟩
  have hold : (Builtin.firstCells i0.size k (.slice (some ⟨g, 0, none⟩) k cap)).run Try.prog w.drew = .ok (row Tile.ints (xs.take k)).toArray w.drew := by
    show (loadCells ⟨g, 0, none⟩ (k * i0.size)).run Try.prog w.drew = _
    rw [hz1, ← hXl]
    exact run_loadCells_list (P := Try.prog) w.drew ⟨g, 0, none⟩ _ (cells_of (w := w.drew) hh (.inr ⟨_, hsrcX⟩))
  have hrz : ∀ ty, (Builtin.append_ #[24, 3] ty #[.slice (some ⟨g, 0, none⟩) k cap, .int .i64 (m1 : Int)]).run Try.prog w = _ := fun ty =>
    Lib.run_append_grow_zeros (P := Try.prog) w 24 3 ty 39 i0 _ .i64 .i64 Try.underlying24 Try.underlying3 hi hz0 (some ⟨g, 0, none⟩) k cap _ hold m1 (by omega) (by rw [hz1]; decide) (by omega) (by omega) (by rw [hz2]; omega) (growslice_fits (by omega) (by rw [hz2]; omega))
  have hkm : k + m1 = n + 1 := by omega
  have hG := grownCap_le_maxLen w (k + m1) cap 39 (by unfold maxLen; omega)
  have hGn := grownCap_ge w (k + m1) cap 39
  obtain ⟨G, hGG⟩ : ∃ G, G = grownCap w (k + m1) cap 39 := ⟨_, rfl⟩
  rw [← hGG] at hrz hG hGn
  rw [hkm] at hrz hGn
  have hG63 : G ≤ 9223372036854775807 := by unfold maxLen at hG; omega
  obtain ⟨cur2, hcur2⟩ : ∃ c2, c2 = ((row Tile.ints (xs.take k)).toArray ++ Builtin.zeroCells (Value.agg (Array.replicate 3 (.int .i64 0))).cells m1 ++ Builtin.zeroCells (Value.agg (Array.replicate 3 (.int .i64 0))).cells (G - (n + 1))).toList := ⟨_, rfl⟩
  have hcl2 : cur2.length = G * 3 := by
    rw [hcur2]
    simp only [Array.length_toList, Array.size_append, List.size_toArray, size_zeroCells, hXl, Value.cells]
    simp
    omega
  have hcx2 : cur2.take (k * 3) = row Tile.ints (xs.take k) := by
    rw [hcur2]
    simp only [Array.toList_append, List.append_assoc]
    rw [List.take_append_of_le_length (by simp [hXl]), List.take_of_length_le (by simp [hXl])]
  obtain ⟨W2, hW2⟩ : ∃ W2, W2 = w.drew.alloc (.cells cur2.toArray 39) := ⟨_, rfl⟩
  have hrz2 : ∀ ty, (Builtin.append_ #[24, 3] ty #[.slice (some ⟨g, 0, none⟩) k cap, .int .i64 (m1 : Int)]).run Try.prog w = .ok (.slice (some ⟨w.heap.size, 0, none⟩) (n + 1) G) W2 := fun ty => by
    rw [hrz ty, hW2, hcur2]
  have hh2 : W2.heap[w.heap.size]? = some (.cells cur2.toArray 39 (0, 0)) := by rw [hW2]; exact heap_alloc_new w.drew _
  have hbW : Below w.heap.size w W2 := by rw [hW2]; exact ext_trans (ext_drew w) (ext_alloc _ _)
  obtain ⟨g2, hg2⟩ : ∃ g2, g2 = w.heap.size := ⟨_, rfl⟩
  rw [← hg2] at hrz2 hh2 hbW hgl hbl hlo
  have hb2 : W2.heap[b]? = some (.cells #[.int .i64 t.row, .int .i64 t.col, .int .i64 t.sum] 39 (0, 0)) := (hbW.block b hbl).trans hb
  have hgg2 : W2.heap[g]? = some (.cells cur.toArray 39 (0, 0)) := (hbW.block g hgl).trans hh
  obtain ⟨D, hD⟩ : ∃ D, D = row Tile.ints (xs.drop k) := ⟨_, rfl⟩
  obtain ⟨Y, hY⟩ : ∃ Y, Y = row Tile.ints [t] := ⟨_, rfl⟩
  have hYb : Y = [Value.int .i64 t.row, .int .i64 t.col, .int .i64 t.sum] := by rw [hY]; rfl
  have hYl : Y.length = 3 := by rw [hYb]; rfl
  have hfin := ins_row' (cur := cur2) (X := row Tile.ints (xs.take k)) (Y := Y) (D := row Tile.ints (xs.drop k)) (k := k) (n := n) (m := n - k) hXl hYl hDl hcx2 (by omega) (by rw [hcl2]; omega)
  have hDc := row_cell1 (xs.drop k)
  have hYc := row_cell1 [t]
  rw [← hD] at hDl hfin hsrcD hrow2 hDc
  rw [← hY] at hrow2 hYc
  have hYs : ∀ j v, Y[j]? = some v → W2.cell? ((⟨b, 0, none⟩ : Addr).add j) = some v := cells_of (cur := Y) (by rw [hYb]; exact hb2) (.inl rfl)
  obtain ⟨w3, hcp1, hg3, hot3, hb3⟩ := copyK_ex (P := Try.prog) W2 24 24 39 3 g2 (k * 3) (n + 1 - k) ⟨b, 0, none⟩ 1 1 cur2 39 Y Try.underlying24 i0 hi hz1 (by simp only [Nat.min_def]; split <;> omega) hh2 (by rw [hYl]) hYs (by rw [hYl, hcl2]; omega) hYc
  have hs3 : (splice cur2 (k * 3) Y).length = G * 3 := by rw [length_splice _ _ _ (by rw [hYl, hcl2]; omega), hcl2]
  have hgg3 : w3.heap[g]? = some (.cells cur.toArray 39 (0, 0)) := (hot3 g (by omega)).trans hgg2
  obtain ⟨w4, hcp2, hg4, hot4, hb4⟩ := copyK_ex (P := Try.prog) w3.drew 24 24 39 3 g2 ((k + 1) * 3) (n - k) ⟨g, k * 3, none⟩ (n - k) (n - k) (splice cur2 (k * 3) Y) 39 D Try.underlying24 i0 hi hz1 (by simp only [Nat.min_def]; split <;> omega) hg3.out hDl (cells_of (w := w3.drew) hgg3 (.inr hsrcD)) (by rw [hDl, hs3]; omega) hDc
  have hs4 : (splice (splice cur2 (k * 3) Y) ((k + 1) * 3) D).length = G * 3 := by rw [length_splice _ _ _ (by rw [hDl, hs3]; omega), hs3]
  have HRZ := Lib.hid hrz2
  have HFIN := Lib.hid hfin
  have HL2 := Lib.hid hlen2
  have HR2 := Lib.hid hrow2
  have HG4 := Lib.hid hg4.out
  have HS4 := Lib.hid hs4
  have HBW := Lib.hid hbW
  have HB3 := Lib.hid hb3
  have HB4 := Lib.hid hb4
  have HGM := Lib.hid hG
  have hz2' : ¬ ((k : Int) = (n : Int)) := by omega
  have hw1 : IntKind.i64.wrap ((k : Int) + 1) = (k : Int) + 1 := by rw [IntKind.wrap_i64]; omega
  have hsub : (n : Int) + 1 - (k : Int) = (m1 : Int) := by omega
  have q1 : (0 : Int) ≤ (k : Int) := by omega
  have q2 : (k : Int) ≤ (n : Int) := by omega
  have q3 : (0 : Int) ≤ (k : Int) + 1 := by omega
  have q4 : (k : Int) + 1 ≤ (n : Int) + 1 := by omega
  have q5 : (k : Int) ≤ (n : Int) + 1 := by omega
  have q6 : (cap : Int) < (n : Int) + 1 := by omega
  have q7 : ¬ cap = k := by omega
  have q8 : ¬ G = k := by omega
  have q9 : ¬ G = k + 1 := by omega
  have q10 : (n : Int) ≤ (cap : Int) := by omega
  have q11 : (k : Int) ≤ (cap : Int) := by omega
  have q12 : (n : Int) + 1 ≤ (G : Int) := by omega
  have q13 : ((k : Int) + 1).toNat = k + 1 := by omega
  clear hold hrz hrz2 hfin hlen2 hrow2 hg4 hs4 hbW hb3 hb4 hG hGG hkm hm1 hDl hXl hsrcD hsrcX hcl2 hcx2 hcur2 hW2 hh2 hg2 hb2 hgg2 hD hY hYb hYl hDc hYc hYs hg3 hot3 hot4 hs3 hgg3 hcl hcr hh hb hnn
  go_enter Try.func65, Try.ntmps65
  go_wp2_with (at_builtin; refine Lib.wpList_append_run _ rfl _ _ _ _ rfl _ _ rfl rfl _ _ (HRZ.out _) ?_)
  go_region_law (fail)
  go_wp2
  go_ret
  have hlen := HL2.out
  refine ⟨_, rfl, ?_, ?_⟩
  · rw [← hlen]
    exact own_of_row hlo HG4.out (by rw [hlen]; exact hGn) HGM.out HS4.out (by rw [hlen, HR2.out]; exact HFIN.out)
  · exact (((HBW.out.mono hlo).trans (HB3.out.mono hlo)).drew).trans (HB4.out.mono hlo)
theorem insert_any (lo : Nat) (v : Value) (xs : List Tile) (k : Nat) (t : Tile) (b : Nat) (w : World) (hown : OwnF Tile.ints 3 lo 39 w v xs) (hk : k ≤ xs.length) (hn : xs.length ≤ 1048576) (hlo : lo ≤ w.heap.size)
    (hb : w.heap[b]? = some (.cells #[.int .i64 t.row, .int .i64 t.col, .int .i64 t.sum] 39 (0, 0))) (hbg : v.ownBlock ≠ some b) :
    Calls Try.prog 65 #[v, .int .i64 (k : Int), .slice (some ⟨b, 0, none⟩) 1 1] w fun e w' => ∃ v', e = .returned v' ∧ OwnF Tile.ints 3 lo 39 w' v' (xs.take k ++ t :: xs.drop k) ∧ Below lo w w' := by
  by_cases hkn : k = xs.length
  · have hF : Fl Tile.ints 3 w (some ⟨b, 0, none⟩) [t] := fun _ => ⟨b, 0, rfl, (Array.getElem?_eq_some_iff.1 hb).1, fun i x hx j q hq => by
      have hi0 : i = 0 := by have := lt_of_get hx; simp at this; exact this
      subst hi0
      simp only [List.getElem?_cons_zero, Option.some.injEq] at hx
      subst hx
      have hj := lt_of_get hq
      match j, hj with
      | 0, _ => simp [Tile.ints] at hq; simp [World.cell?, hb, hq]
      | 1, _ => simp [Tile.ints] at hq; simp [World.cell?, hb, hq]
      | 2, _ => simp [Tile.ints] at hq; simp [World.cell?, hb, hq]⟩
    have hv : ∃ A c, v = .slice A xs.length c ∧ xs.length ≤ c ∧ c ≤ 9223372036854775807 := by
      rcases hown.2 with ⟨rfl, h0⟩ | ⟨g, cap, cur, rfl, _, _, h1, h2, _⟩
      · exact ⟨none, 0, by rw [h0], by omega, by omega⟩
      · exact ⟨_, cap, rfl, h1, by unfold maxLen at h2; omega⟩
    obtain ⟨A, c, rfl, h1, h2⟩ := hv
    have h := insert_end lo A c xs xs.length t b w rfl hown h1 h2 hn hlo hF
    rw [hkn, List.take_length, List.drop_length]
    exact h
  · obtain ⟨g, cap, cur, rfl, hg, hh, h1, h2, h3, h4⟩ := own_row hown (fun e => by rw [e] at hk hkn; simp at hk hkn; omega)
    have hne : b ≠ g := fun e => hbg (by rw [e]; rfl)
    by_cases hr : xs.length + 1 ≤ cap
    · exact insert_room lo g cap xs.length k cur xs t b w rfl (by omega) hn hg hh hr h2 h3 h4 hb hne
    · exact insert_grow lo g cap xs.length k cur xs t b w rfl (by omega) hn hlo hg hh h1 (by omega) h3 h4 hb
end Go.Proofs.Ytjacadkbkkkgfaa
