/- slices.Insert of one tile. -/
import Derived.Test.YtjacadkbkkkgfaaInsD
import Derived.Laws.Externs
import Derived.Deep.RegionLaw
namespace Go.Proofs.Ytjacadkbkkkgfaa
open Go.RowKit
set_option linter.unusedVariables false
set_option linter.unusedSimpArgs false

set_option maxHeartbeats 4000000 in
set_option maxRecDepth 100000 in
theorem insert_end (lo : Nat) (A : Option Addr) (c : Nat) (xs : List Tile) (n : Nat) (t : Tile) (b : Nat) (w : World) (hnn : n = xs.length) (hown : OwnF Tile.ints 3 lo 39 w (.slice A n c) xs) (hc : n ≤ c) (hcm : c ≤ 9223372036854775807) (hn : n ≤ 1048576) (hlo : lo ≤ w.heap.size) (hb : Fl Tile.ints 3 w (some ⟨b, 0, none⟩) [t]) :
    Calls Try.prog 65 #[.slice A n c, .int .i64 (n : Int), .slice (some ⟨b, 0, none⟩) 1 1] w fun e w' => ∃ v', e = .returned v' ∧ OwnF Tile.ints 3 lo 39 w' v' (xs ++ [t]) ∧ Below lo w w' := by
  obtain ⟨i0, hi, hz0, hz1, hz2⟩ := info_parts infoTile
  have h1 : (n : Int) ≤ (c : Int) := by omega
  have h2 : (0 : Int) ≤ (n : Int) := by omega
  have HN := Lib.hid hnn
  clear hnn
  rcases A with _ | ⟨g, o, s⟩
  · go_enter Try.func65, Try.ntmps65
    go_wp2_with (at_builtin; refine wpList_append_all (f := Tile.ints) rfl _ _ _ rfl lo i0 _ 3 24 Try.underlying24 hi hz0 hz1 hz2 rfl (by decide) _ xs rfl hown (some ⟨b, 0, none⟩) 1 [t] rfl hb (fun _ => rfl) ?_ (by decide) hlo ?_; (have := HN.out; simp; omega); intro v5 w5 hown5 hg5 hb5)
    go_ret
    exact ⟨_, rfl, hown5, hb5⟩
  · by_cases hcn : c = n
    · subst hcn
      go_enter Try.func65, Try.ntmps65
      go_wp2_with (at_builtin; refine wpList_append_all (f := Tile.ints) rfl _ _ _ rfl lo i0 _ 3 24 Try.underlying24 hi hz0 hz1 hz2 rfl (by decide) _ xs rfl hown (some ⟨b, 0, none⟩) 1 [t] rfl hb (fun _ => rfl) ?_ (by decide) hlo ?_; (have := HN.out; simp; omega); intro v5 w5 hown5 hg5 hb5)
      go_ret
      exact ⟨_, rfl, hown5, hb5⟩
    · go_enter Try.func65, Try.ntmps65
      go_wp2_with (at_builtin; refine wpList_append_all (f := Tile.ints) rfl _ _ _ rfl lo i0 _ 3 24 Try.underlying24 hi hz0 hz1 hz2 rfl (by decide) _ xs rfl hown (some ⟨b, 0, none⟩) 1 [t] rfl hb (fun _ => rfl) ?_ (by decide) hlo ?_; (have := HN.out; simp; omega); intro v5 w5 hown5 hg5 hb5)
      go_ret
      exact ⟨_, rfl, hown5, hb5⟩
set_option maxHeartbeats 4000000 in
set_option maxRecDepth 100000 in
theorem insert_room (lo g cap n k : Nat) (cur : List Value) (xs : List Tile) (t : Tile) (b : Nat) (w : World) (hnn : n = xs.length) (hk : k < n) (hn : n ≤ 1048576) (hg : lo ≤ g) (hh : w.heap[g]? = some (.cells cur.toArray 39 (0, 0))) (hroom : n + 1 ≤ cap) (hcap : cap ≤ maxLen) (hcl : cur.length = cap * 3) (hcr : cur.take (n * 3) = row Tile.ints xs)
    (hb : w.heap[b]? = some (.cells #[.int .i64 t.row, .int .i64 t.col, .int .i64 t.sum] 39 (0, 0))) (hbg : b ≠ g) :
    Calls Try.prog 65 #[.slice (some ⟨g, 0, none⟩) n cap, .int .i64 (k : Int), .slice (some ⟨b, 0, none⟩) 1 1] w fun e w' => ∃ v', e = .returned v' ∧ OwnF Tile.ints 3 lo 39 w' v' (xs.take k ++ t :: xs.drop k) ∧ Below lo w w' := by
  obtain ⟨i0, hi, hz0, hz1, hz2⟩ := info_parts infoTile
  have hsz : ∀ w, (Go.sizeOf 39).run Try.prog w = .ok 3 w := fun w => by simp [sizeOf, typeInfo, hi, hz1]
  have hov : ∀ lb cb, (callFunc 70 #[.slice (some ⟨b, 0, none⟩) 1 1, .slice (some ⟨g, (k + 1) * 3, none⟩) lb cb]).run Try.prog w = .ok (.value (.bool false)) w := fun lb cb => by
    rw [run_callFunc_extern (fn := Try.f70) (by kernel_rfl) (by kernel_rfl) (by kernel_rfl) (by kernel_rfl) (e := Extern.SlicesOverlaps.overlaps #[24, 24] #[4]) (by kernel_rfl),
      Lib.run_overlaps_apart w 24 4 39 Try.underlying24 3 hsz ⟨b, 0, none⟩ ⟨g, (k + 1) * 3, none⟩ 1 1 lb cb hbg 39 39 3 cur.length (by simp [World.shape?, hb]) (by simp [World.shape?, hh]) (by omega) (by simp [World.frozen?, hb]) (by simp [World.frozen?, hb])]
    rfl
  have hDl : (row Tile.ints (xs.drop k)).length = (n - k) * 3 := by rw [row_length Tile.ints_length, List.length_drop, ← hnn]
  have hXl : (row Tile.ints (xs.take k)).length = k * 3 := by rw [row_length Tile.ints_length, List.length_take, ← hnn, Nat.min_eq_left (show k ≤ n by omega)]
  have hsp : row Tile.ints xs = row Tile.ints (xs.take k) ++ row Tile.ints (xs.drop k) := by rw [← row_app, List.take_append_drop]
  have hfin := ins_row (cur := cur) (X := row Tile.ints (xs.take k)) (Y := row Tile.ints [t]) (D := row Tile.ints (xs.drop k)) (k := k) (n := n) (m := n - k) hXl rfl hDl (by rw [hcr, hsp]) (by omega) (by rw [hcl]; omega)
  have hsrcD : ∃ m, (cur.drop (k * 3)).take m = row Tile.ints (xs.drop k) := ⟨(n - k) * 3, by
    have e : (cur.drop (k * 3)).take ((n - k) * 3) = (cur.take (n * 3)).drop (k * 3) := by rw [List.drop_take]; congr 1; omega
    rw [e, hcr, row_drop xs k (by omega)]⟩
  have hlen2 : (xs.take k ++ t :: xs.drop k).length = n + 1 := by rw [List.length_append, List.length_cons, List.length_take, List.length_drop, ← hnn]; omega
  have hrow2 : row Tile.ints (xs.take k ++ t :: xs.drop k) = row Tile.ints (xs.take k) ++ (row Tile.ints [t] ++ row Tile.ints (xs.drop k)) := by rw [row_app, ← row_app [t]]; rfl
  have hDc := row_cell1 (xs.drop k)
  have hYc := row_cell1 [t]
  have hcap63 : cap ≤ 9223372036854775807 := by unfold maxLen at hcap; omega
  obtain ⟨D, hD⟩ : ∃ D, D = row Tile.ints (xs.drop k) := ⟨_, rfl⟩
  obtain ⟨Y, hY⟩ : ∃ Y, Y = row Tile.ints [t] := ⟨_, rfl⟩
  have hYb : Y = [Value.int .i64 t.row, .int .i64 t.col, .int .i64 t.sum] := by rw [hY]; rfl
  rw [← hD] at hDl hfin hsrcD hrow2 hDc
  rw [← hY] at hfin hrow2 hYc
  have HOV := Lib.hid hov
  have HDL := Lib.hid hDl
  have HFIN := Lib.hid hfin
  have HSD := Lib.hid hsrcD
  have HL2 := Lib.hid hlen2
  have HR2 := Lib.hid hrow2
  have HDC := Lib.hid hDc
  have HYC := Lib.hid hYc
  have HCL := Lib.hid hcl
  have HH := Lib.hid hh
  have HBB := Lib.hid hb
  have HYB := Lib.hid hYb
  have HCP := Lib.hid hcap
  have hz2' : ¬ ((k : Int) = (n : Int)) := by omega
  have hw1 : IntKind.i64.wrap ((k : Int) + 1) = (k : Int) + 1 := by rw [IntKind.wrap_i64]; omega
  have q1 : (0 : Int) ≤ (k : Int) := by omega
  have q2 : (k : Int) ≤ (n : Int) := by omega
  have q3 : (0 : Int) ≤ (k : Int) + 1 := by omega
  have q4 : (k : Int) + 1 ≤ (n : Int) + 1 := by omega
  have q5 : (k : Int) ≤ (n : Int) + 1 := by omega
  have q6 : (n : Int) + 1 ≤ (cap : Int) := by omega
  have q7 : ¬ cap = k + 1 := by omega
  have q8 : ¬ cap = k := by omega
  have q9 : ((k : Int) + 1).toNat = k + 1 := by omega
  have q10 : ((n : Int) + 1).toNat = n + 1 := by omega
  obtain ⟨w2, hcp1, hg2, hot2, hb2⟩ := copyK_ex (P := Try.prog) w.drew 24 24 39 3 g ((k + 1) * 3) (n - k) ⟨g, k * 3, none⟩ (n + 1 - k) (n - k) cur 39 D Try.underlying24 i0 hi hz1 (by simp only [Nat.min_def]; split <;> omega) hh hDl (cells_of (w := w.drew) hh (.inr hsrcD)) (by rw [hDl, hcl]; omega) hDc
  have hbk : w2.heap[b]? = some (.cells #[.int .i64 t.row, .int .i64 t.col, .int .i64 t.sum] 39 (0, 0)) := (hot2 b hbg).trans hb
  have hYs : ∀ j v, Y[j]? = some v → w2.cell? ((⟨b, 0, none⟩ : Addr).add j) = some v := cells_of (cur := Y) (by rw [hYb]; exact hbk) (.inl rfl)
  have hYl : Y.length = 3 := by rw [hYb]; rfl
  have hsl : (splice cur ((k + 1) * 3) D).length = cap * 3 := by rw [length_splice _ _ _ (by rw [hDl, hcl]; omega), hcl]
  obtain ⟨w3, hcp2, hg3, hot3, hb3⟩ := copyK_ex (P := Try.prog) w2 24 24 39 3 g (k * 3) (n + 1 - k) ⟨b, 0, none⟩ 1 1 (splice cur ((k + 1) * 3) D) 39 Y Try.underlying24 i0 hi hz1 (by simp only [Nat.min_def]; split <;> omega) hg2.out (by rw [hYl]) hYs (by rw [hYl, hsl]; omega) hYc
  have hs3 : (splice (splice cur ((k + 1) * 3) D) (k * 3) Y).length = cap * 3 := by rw [length_splice _ _ _ (by rw [hYl, hsl]; omega), hsl]
  have HS3 := Lib.hid hs3
  have HB2 := Lib.hid hb2
  have HB3 := Lib.hid hb3
  clear hov hDl hXl hsp hfin hsrcD hlen2 hrow2 hDc hYc hcl hh hb hcr hD hY hYb hcap hnn hbk hYs hYl hsl hs3 hot2 hot3 hb2 hb3 hg2
  go_enter Try.func65, Try.ntmps65
  have hov2 := HOV.out
  go_wp2_with (simp only [hov2])
  clear hov2
  go_region_law (fail)
  go_wp2
  go_ret
  have hlen := HL2.out
  refine ⟨_, rfl, ?_, ?_⟩
  · rw [← hlen]
    exact own_of_row hg hg3.out (by rw [hlen]; exact hroom) HCP.out HS3.out (by rw [hlen, HR2.out]; exact HFIN.out)
  · exact ((Below.refl _ _).drew.trans (HB2.out.mono hg)).trans (HB3.out.mono hg)
end Go.Proofs.Ytjacadkbkkkgfaa
