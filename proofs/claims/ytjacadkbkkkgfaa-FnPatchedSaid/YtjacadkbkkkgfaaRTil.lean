/- The laws' comparisons of tiles and scans. No condition. -/
import Derived.Test.YtjacadkbkkkgfaaFamScan
import Derived.Test.YtjacadkbkkkgfaaScanV
import Derived.Test.YtjacadkbkkkgfaaBoxLaw
namespace Go.Proofs.Ytjacadkbkkkgfaa
open Go.RowKit
set_option linter.unusedVariables false
set_option linter.unusedSimpArgs false

set_option maxHeartbeats 1000000 in
set_option maxRecDepth 100000 in
theorem rTiles_same (A B : Option Addr) (c d : Nat) (xs : List Tile) (w : World) (hn : xs.length ≤ 1152921504606846976) (hA : Fl Tile.ints 3 w A xs) (hB : Fl Tile.ints 3 w B xs) :
    Calls Try.prog 43 #[.slice A xs.length c, .slice B xs.length d] w fun e w' => e = .returned (.bool true) ∧ Below w.heap.size w w' := by
  obtain ⟨n, hnn⟩ : ∃ n, n = xs.length := ⟨_, rfl⟩
  rw [← hnn] at hn ⊢
  have hN := Lib.hid hnn
  clear hnn
  go_enter Try.func43, Try.ntmps43
  go_wp2
  go_loopw [5] (fun i wr => ∃ k : Nat, k ≤ n ∧ i = .int .i64 k ∧ Below w.heap.size w wr) (fun i _ => n - (intOf i).toNat)
  case atStart => exact ⟨0, by omega, rfl, Below.refl _ _⟩
  case round =>
    obtain ⟨k, hk, rfl, hbr⟩ := hrel
    by_cases hlt : k < n
    · obtain ⟨x, b, o, hx, rfl, hb, hc⟩ := ((hA.ext hbr).at_ (k := k) (by rw [← hN.out]; exact hlt))
      obtain ⟨y, b', o', hy, rfl, hb', hc'⟩ := ((hB.ext hbr).at_ (k := k) (by rw [← hN.out]; exact hlt))
      obtain rfl : x = y := by rw [hx] at hy; exact Option.some.inj hy
      clear hx hy
      have c0 : World.cell? wr ⟨b, o + k * 3, none⟩ = some (.int .i64 x.row) := hc 0 _ rfl
      have c1 : World.cell? wr ⟨b, o + k * 3 + 1, none⟩ = some (.int .i64 x.col) := hc 1 _ rfl
      have c2 : World.cell? wr ⟨b, o + k * 3 + 2, none⟩ = some (.int .i64 x.sum) := hc 2 _ rfl
      have d0 : World.cell? wr ⟨b', o' + k * 3, none⟩ = some (.int .i64 x.row) := hc' 0 _ rfl
      have d1 : World.cell? wr ⟨b', o' + k * 3 + 1, none⟩ = some (.int .i64 x.col) := hc' 1 _ rfl
      have d2 : World.cell? wr ⟨b', o' + k * 3 + 2, none⟩ = some (.int .i64 x.sum) := hc' 2 _ rfl
      clear hc hc' hA hB
      have hpc := plus_cell wr
      have hk0 : (0 : Int) ≤ (k : Int) := by omega
      have hk1 : (k : Int) < (n : Int) := by omega
      go_wp2_with fail
      refine wp_region_grow (by kernel_rfl) (by kernel_rfl) ?_
      repeat (go_big_quiet_step ((first | (fail))))
      refine wpQuiet_nil ?_
      intro w1 hb1
      go_wp2
      go_roundw
      case rel => exact ⟨k + 1, by omega, by go_num, ext_trans hbr hb1⟩
      case measure => simp [intOf]; omega
    · have hkn : k = n := by omega
      subst hkn
      go_wp2
      go_ret
      exact ⟨rfl, hbr⟩
set_option maxHeartbeats 1000000 in
set_option maxRecDepth 100000 in
theorem rScan_same (rows cols : Int) (A B : Option Addr) (c d : Nat) (xs : List Tile) (w : World) (hn : xs.length ≤ 1152921504606846976) (hA : Fl Tile.ints 3 w A xs) (hB : Fl Tile.ints 3 w B xs) :
    Calls Try.prog 9 #[.agg #[.int .i64 rows, .int .i64 cols, .slice A xs.length c], .agg #[.int .i64 rows, .int .i64 cols, .slice B xs.length d]] w fun e w' => e = .returned (.bool true) ∧ Below w.heap.size w w' := by
  obtain ⟨V0, hV0, hB0, hz0, hu0, hf0⟩ := box_world w #[Value.int .i64 rows, .int .i64 cols, .slice A xs.length c] 26
  have hv0 : Var3 V0 w.heap.size (.int .i64 rows) (.int .i64 cols) (.slice A xs.length c) := hV0 ▸ var3_box w _ _ _ _
  obtain ⟨V1, hV1, hB1, hz1, hu1, hf1⟩ := box_world V0 #[Value.int .i64 rows, .int .i64 cols, .slice B xs.length d] 26
  have hv1 : Var3 V1 V0.heap.size (.int .i64 rows) (.int .i64 cols) (.slice B xs.length d) := hV1 ▸ var3_box V0 _ _ _ _
  have h0 := hv0.ext hB1
  have hbb := ext_trans hB0 hB1
  have HT := Lib.hid (fun W (hb : Below V1.heap.size V1 W) => rTiles_same A B c d xs W hn ((hA.ext hbb).ext hb) ((hB.ext hbb).ext hb))
  obtain ⟨m, hm⟩ : ∃ m, m = xs.length := ⟨_, rfl⟩
  rw [← hm] at HT h0 hv1 hV0 hV1 ⊢
  have a0 := h0.c0
  have a1 := h0.c1
  have a2 := h0.c2
  have al := h0.lt
  have b0 := hv1.c0
  have b1 := hv1.c1
  have b2 := hv1.c2
  have bl := hv1.lt
  have HB := Lib.hid hbb
  clear hu0 hf0 hu1 hf1 h0 hv0 hv1 hA hB hbb hm hB0 hB1
  have e0 : (rows == rows) = true := by simp
  have e1 : (cols == cols) = true := by simp
  go_enter Try.func9, Try.ntmps9
  go_wp2_with fail
  clear hV0 hV1
  ((with_reducible refine (HT.out _ (Below.refl _ _)).mono ?_); rintro e w1 ⟨rfl, hb1⟩)
  go_wp2
  go_ret
  exact ⟨rfl, ext_trans HB.out hb1⟩
end Go.Proofs.Ytjacadkbkkkgfaa
