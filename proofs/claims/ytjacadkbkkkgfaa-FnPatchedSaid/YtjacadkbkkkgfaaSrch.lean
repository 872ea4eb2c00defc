/- A binary search over tiles. -/
import Derived.Test.YtjacadkbkkkgfaaScanOk
import Derived.Test.YtjacadkbkkkgfaaLst
namespace Go.Proofs.Ytjacadkbkkkgfaa
open Go.RowKit
set_option linter.unusedVariables false
set_option linter.unusedSimpArgs false

theorem tileLt_trans' {a b c : Tile} (h : TileLt a b) (k : TileLt b c) : TileLt a c := by unfold TileLt at *; omega
/-- where a binary search ends -/
def SrchQ (xs : List Tile) (t : Tile) (w : World) (e : Ending) (w' : World) : Prop :=
  ∃ k : Nat, k ≤ xs.length ∧ e = .returned (.tuple #[.int .i64 (k : Int), .bool (tb (∃ z, xs[k]? = some z ∧ cmpTile z t = 0))]) ∧ (∀ m z, m < k → xs[m]? = some z → TileLt z t) ∧ (∀ m z, k ≤ m → xs[m]? = some z → ¬ TileLt z t) ∧ Below w.heap.size w w'
set_option maxHeartbeats 2000000 in
set_option maxRecDepth 100000 in
theorem search_any (A : Option Addr) (c : Nat) (xs : List Tile) (t : Tile) (w : World) (hn : xs.length ≤ 1048576) (hA : Fl Tile.ints 3 w A xs) (hs : xs.Pairwise TileLt) :
    Calls Try.prog 64 #[.slice A xs.length c, .agg #[.int .i64 t.row, .int .i64 t.col, .int .i64 t.sum], .func (.func 63) #[] #[]] w (SrchQ xs t w) := by
  obtain ⟨V0, hV0, hB0, hz0, hv, _⟩ := box_world w #[Value.int .i64 t.row, .int .i64 t.col, .int .i64 t.sum] 39
  have v0 : World.cell? V0 ⟨w.heap.size, 0, none⟩ = some (.int .i64 t.row) := hv 0
  have v1 : World.cell? V0 ⟨w.heap.size, 1, none⟩ = some (.int .i64 t.col) := hv 1
  have v2 : World.cell? V0 ⟨w.heap.size, 2, none⟩ = some (.int .i64 t.sum) := hv 2
  have hct := fun (x : Tile) W => compareTiles_any x t W
  have HCT := Lib.hid hct
  have hsm : ∀ (i j : Nat) (x y : Tile), i < j → xs[i]? = some x → xs[j]? = some y → TileLt x y := fun i j x y hij hx hy => by
    obtain ⟨h1, h2⟩ := List.getElem?_eq_some_iff.1 hx
    obtain ⟨h3, h4⟩ := List.getElem?_eq_some_iff.1 hy
    subst h2 h4
    exact List.pairwise_iff_getElem.1 hs i j h1 h3 hij
  have HSM := Lib.hid hsm
  obtain ⟨n, hnn⟩ : ∃ n, n = xs.length := ⟨_, rfl⟩
  rw [← hnn] at hn ⊢
  have HN := Lib.hid hnn
  clear hnn hv hct hsm hs
  go_enter Try.func64, Try.ntmps64
  go_wp2
  go_loopw [9, 10] (fun iv jv wr => ∃ i j : Nat, i ≤ j ∧ j ≤ n ∧ iv = .int .i64 i ∧ jv = .int .i64 j ∧ Below V0.heap.size V0 wr ∧ Hid (∀ m z, m < i → xs[m]? = some z → TileLt z t) ∧ Hid (∀ m z, j ≤ m → xs[m]? = some z → ¬ TileLt z t)) (fun iv jv _ => (intOf jv - intOf iv).toNat)
  case atStart => exact ⟨0, n, by omega, by omega, rfl, rfl, Below.refl _ _, fun m z h => absurd h (by omega), fun m z h hz => absurd (lt_of_get hz) (by rw [← HN.out]; omega)⟩
  case round =>
    obtain ⟨i, j, hij, hj, rfl, rfl, hbr, hlo, hhi⟩ := hrel
    have hbx := ext_trans hB0 hbr
    have f0 := (hbr.cell (p := ⟨w.heap.size, 0, none⟩) hz0).trans v0
    have f1 := (hbr.cell (p := ⟨w.heap.size, 1, none⟩) hz0).trans v1
    have f2 := (hbr.cell (p := ⟨w.heap.size, 2, none⟩) hz0).trans v2
    have hzr : w.heap.size < wr.heap.size := Nat.lt_of_lt_of_le hz0 hbr.size
    have hpc := plus_cell wr
    by_cases hlt : i < j
    · obtain ⟨h, hh⟩ : ∃ h : Nat, ((i : Int) + (j : Int)) / 2 = (h : Int) := ⟨(i + j) / 2, by omega⟩
      have hh1 : i ≤ h := by omega
      have hh2 : h < j := by omega
      obtain ⟨z, b, o, hx, hAe, hbb, hc⟩ := (hA.ext hbx).at_ (k := h) (by rw [← HN.out]; omega)
      subst hAe
      have c0 : World.cell? wr ⟨b, o + h * 3, none⟩ = some (.int .i64 z.row) := hc 0 _ rfl
      have c1 : World.cell? wr ⟨b, o + h * 3 + 1, none⟩ = some (.int .i64 z.col) := hc 1 _ rfl
      have c2 : World.cell? wr ⟨b, o + h * 3 + 2, none⟩ = some (.int .i64 z.sum) := hc 2 _ rfl
      have hcl := cmpTile_lt z t
      have hcz := HCT.out z
      obtain ⟨C, hC⟩ : ∃ C, C = cmpTile z t := ⟨_, rfl⟩
      rw [← hC] at hcl
      simp only [← hC] at hcz
      have HX := Lib.hid hx
      have HCZ := Lib.hid hcz
      have HCL := Lib.hid hcl
      have hk0 : (0 : Int) ≤ (h : Int) := by omega
      have hk1 : (h : Int) < (n : Int) := by omega
      clear hc hx hcl hcz hC
      by_cases hp : C < 0
      · go_wp2_with fail
        refine wp_region_grow (by kernel_rfl) (by kernel_rfl) ?_
        repeat (go_big_quiet_step ((first | (go_at_call 63; exact quiet_below (HCZ.out _)))))
        refine wpQuiet_nil ?_
        intro w1 hb1
        have hz : TileLt z t := HCL.out.1 hp
        have HZ := Lib.hid hz
        clear hz
        go_wp2
        go_roundw
        case rel => exact ⟨h + 1, j, by omega, hj, by go_num, rfl, ext_trans hbr hb1, fun m y hm hy => by
          by_cases e : m = h
          · subst e; rw [HX.out] at hy; cases hy; exact HZ.out
          · exact tileLt_trans' (HSM.out m h y z (by omega) hy HX.out) HZ.out, hhi.out⟩
        case measure => simp [intOf]; omega
      · have hz : ¬ TileLt z t := fun q => hp (HCL.out.2 q)
        have HZ := Lib.hid hz
        clear hz
        go_wp2_with fail
        refine wp_region_grow (by kernel_rfl) (by kernel_rfl) ?_
        repeat (go_big_quiet_step ((first | (go_at_call 63; exact quiet_below (HCZ.out _)))))
        refine wpQuiet_nil ?_
        intro w1 hb1
        go_wp2
        go_roundw
        case rel => exact ⟨i, h, by omega, by omega, rfl, rfl, ext_trans hbr hb1, hlo.out, fun m y hm hy hq => by
          by_cases e : m = h
          · subst e; rw [HX.out] at hy; cases hy; exact HZ.out hq
          · exact HZ.out (tileLt_trans' (HSM.out h m z y (by omega) HX.out hy) hq)⟩
        case measure => simp [intOf]; omega
    · have hij2 : i = j := by omega
      subst hij2
      by_cases hin : i < n
      · obtain ⟨z, b, o, hx, hAe, hbb, hc⟩ := (hA.ext hbx).at_ (k := i) (by rw [← HN.out]; exact hin)
        subst hAe
        have c0 : World.cell? wr ⟨b, o + i * 3, none⟩ = some (.int .i64 z.row) := hc 0 _ rfl
        have c1 : World.cell? wr ⟨b, o + i * 3 + 1, none⟩ = some (.int .i64 z.col) := hc 1 _ rfl
        have c2 : World.cell? wr ⟨b, o + i * 3 + 2, none⟩ = some (.int .i64 z.sum) := hc 2 _ rfl
        have hcz := HCT.out z
        obtain ⟨C, hC⟩ : ∃ C, C = cmpTile z t := ⟨_, rfl⟩
        simp only [← hC] at hcz
        have HX := Lib.hid hx
        have HCZ := Lib.hid hcz
        have HC := Lib.hid hC
        have hk0 : (0 : Int) ≤ (i : Int) := by omega
        have hk1 : (i : Int) < (n : Int) := by omega
        have hkd : decide (i < n) = true := by simpa using hin
        clear hc hx hcz hC
        by_cases hp : C = 0
        · have hpb : (C == 0) = true := by simp [hp]
          have HP := Lib.hid hp
          clear hp
          go_wp2_with fail
          refine wp_region_grow (by kernel_rfl) (by kernel_rfl) ?_
          repeat (go_big_quiet_step ((first | (go_at_call 63; exact quiet_below (HCZ.out _)))))
          refine wpQuiet_nil ?_
          intro w1 hb1
          go_wp2
          go_ret2
          exact ⟨i, by rw [← HN.out]; omega, by rw [tb_t ⟨z, HX.out, by rw [← HC.out]; exact HP.out⟩]; rfl, hlo.out, hhi.out, ext_trans hbx hb1⟩
        · have hpb : (C == 0) = false := by simp [hp]
          have HP := Lib.hid hp
          clear hp
          go_wp2_with fail
          refine wp_region_grow (by kernel_rfl) (by kernel_rfl) ?_
          repeat (go_big_quiet_step ((first | (go_at_call 63; exact quiet_below (HCZ.out _)))))
          refine wpQuiet_nil ?_
          intro w1 hb1
          go_wp2
          go_ret2
          exact ⟨i, by rw [← HN.out]; omega, by rw [tb_f (by rintro ⟨z', h1, h2⟩; rw [HX.out] at h1; cases h1; exact HP.out (by rw [HC.out]; exact h2))]; rfl, hlo.out, hhi.out, ext_trans hbx hb1⟩
      · have hkd : decide (i < n) = false := by simpa using hin
        have hkn : ¬ (i : Int) < (n : Int) := by omega
        have hno : xs[i]? = none := List.getElem?_eq_none (by rw [← HN.out]; omega)
        have HNO := Lib.hid hno
        clear hno
        go_wp2_with fail
        refine wp_region_grow (by kernel_rfl) (by kernel_rfl) ?_
        repeat (go_big_quiet_step ((first | fail)))
        refine wpQuiet_nil ?_
        intro w1 hb1
        go_wp2
        go_ret2
        exact ⟨i, by rw [← HN.out]; omega, by rw [tb_f (by rintro ⟨z', h1, _⟩; rw [HNO.out] at h1; cases h1)]; rfl, hlo.out, hhi.out, ext_trans hbx hb1⟩
end Go.Proofs.Ytjacadkbkkkgfaa
