/- The seal of a scan: the program's and the reference's. -/
import Derived.Test.YtjacadkbkkkgfaaScanOk
import Derived.Test.YtjacadkbkkkgfaaBase2
namespace Go.Proofs.Ytjacadkbkkkgfaa
open Go.RowKit
set_option linter.unusedVariables false
set_option linter.unusedSimpArgs false
def seal1 (a : Int) (t : Tile) : Int := (31 * a + t.sum) % 65521
def sealN (xs : List Tile) : Int := xs.foldl seal1 7
theorem seal_in (xs : List Tile) (h : ∀ x ∈ xs, 0 ≤ x.sum) : 0 ≤ sealN xs ∧ sealN xs < 65521 := by
  unfold sealN
  have : ∀ (ys : List Tile) (a : Int), (∀ x ∈ ys, 0 ≤ x.sum) → 0 ≤ a ∧ a < 65521 → 0 ≤ ys.foldl seal1 a ∧ ys.foldl seal1 a < 65521 := by
    intro ys
    induction ys with
    | nil => intro a _ h; exact h
    | cons y ys ih =>
      intro a h1 h2
      have hy := h1 y (by simp)
      refine ih _ (fun x hx => h1 x (by simp [hx])) ?_
      unfold seal1
      omega
  exact this xs 7 h (by decide)
theorem seal_step {xs : List Tile} {k : Nat} {x : Tile} (hx : xs[k]? = some x) : sealN (xs.take (k + 1)) = (31 * sealN (xs.take k) + x.sum) % 65521 := by
  unfold sealN
  rw [take_get hx, List.foldl_append]
  rfl

set_option maxHeartbeats 1000000 in
set_option maxRecDepth 100000 in
theorem sealOf_any (rows cols : Int) (A : Option Addr) (c : Nat) (xs : List Tile) (w : World) (hn : xs.length ≤ 1048576) (hA : Fl Tile.ints 3 w A xs) :
    Calls Try.prog 27 #[.agg #[.int .i64 rows, .int .i64 cols, .slice A xs.length c]] w fun e w' => e = .returned (.tuple #[.int .i64 (seli (Scn rows cols xs) (sealN xs)), .bool (tb (Scn rows cols xs))]) ∧ Below w.heap.size w w' := by
  obtain ⟨n, hnn⟩ : ∃ n, n = List.length xs := ⟨_, rfl⟩
  have hgood := fun W hW => isScan_any rows cols A c xs W (by omega) hW
  rw [← hnn] at hn hgood ⊢
  have hN := Lib.hid hnn
  have HG := Lib.hid hgood
  clear hnn hgood
  obtain ⟨W0, hW0, hB0, hz0, hc0, _⟩ := box_world w #[Value.int .i64 rows, Value.int .i64 cols, Value.slice A n c] 26
  have ea : World.cell? W0 ⟨w.heap.size, 0, none⟩ = some (.int .i64 rows) := hc0 0
  have eb : World.cell? W0 ⟨w.heap.size, 1, none⟩ = some (.int .i64 cols) := hc0 1
  have ec : World.cell? W0 ⟨w.heap.size, 2, none⟩ = some (.slice A n c) := hc0 2
  clear hc0
  by_cases hs : Scn rows cols xs
  · have HS := Lib.hid hs
    clear hs
    rw [tb_t HS.out, seli_t HS.out]
    go_enter Try.func27, Try.ntmps27
    go_wp2_with fail
    refine (HG.out W0 (hA.ext hB0)).mono ?_
    rintro e w1 ⟨rfl, hb1⟩
    rw [tb_t HS.out]
    have hx1 := ext_trans hB0 hb1
    have hr1 := bcell hb1
    have hzz : w.heap.size < w1.heap.size := Nat.lt_of_lt_of_le hz0 hb1.size
    go_wp2_with fail
    go_loopw [4, 13] (fun v i wr => ∃ k : Nat, k ≤ n ∧ i = .int .i64 k ∧ v = .int .i64 (sealN (xs.take k)) ∧ Below w1.heap.size w1 wr) (fun _ i _ => n - (intOf i).toNat)
    case atStart => exact ⟨0, by omega, rfl, rfl, Below.refl _ _⟩
    case round =>
      obtain ⟨k, hk, rfl, rfl, hbr1⟩ := hrel
      have hcr := bcell hbr1
      have hbr := ext_trans hx1 hbr1
      have hzr := hbr1.size
      by_cases hlt : k < n
      · have hAr := hA.ext hbr
        obtain ⟨z, b, o, hx, rfl, hbb, hc⟩ := hAr.at_ (k := k) (by rw [← hN.out]; exact hlt)
        have hP : TileOk rows cols z := HS.out.1.1 k z hx
        have hst := seal_step hx
        have hin := seal_in (xs.take k) (fun x hx => by
          obtain ⟨i, hi, he⟩ := List.getElem_of_mem (List.mem_of_mem_take hx)
          exact (HS.out.1.1 i x (by rw [List.getElem?_eq_getElem hi, he])).2.2.2.2.1)
        generalize sealN (xs.take k) = q at hst hin ⊢
        obtain ⟨hq0, hq1⟩ := hin
        have hs0 := hP.2.2.2.2.1
        have hs1 := hP.2.2.2.2.2
        have c0 : World.cell? wr ⟨b, o + k * 3, none⟩ = some (.int .i64 z.row) := hc 0 _ rfl
        have c1 : World.cell? wr ⟨b, o + k * 3 + 1, none⟩ = some (.int .i64 z.col) := hc 1 _ rfl
        have c2 : World.cell? wr ⟨b, o + k * 3 + 2, none⟩ = some (.int .i64 z.sum) := hc 2 _ rfl
        have HST := Lib.hid hst
        clear hst hP hx hc hA hAr
        have hk0 : (0 : Int) ≤ (k : Int) := by omega
        have hk1 : (k : Int) < (n : Int) := by omega
        go_wp2
        go_roundw
        case rel => exact ⟨k + 1, by omega, by go_num, by rw [HST.out], by first | exact hbr1 | exact hbr1.alloc hzr _⟩
        case measure => simp [intOf]; omega
      · have hkn : k = n := by omega
        subst hkn
        rw [take_all (by rw [← hN.out]; exact Nat.le_refl _)]
        go_wp2
        go_ret2
        exact ⟨rfl, hbr⟩
  · go_enter Try.func27, Try.ntmps27
    go_wp2_with fail
    refine (HG.out W0 (hA.ext hB0)).mono ?_
    rintro e w1 ⟨rfl, hb1⟩
    rw [tb_f hs]
    go_wp2
    go_ret2
    exact ⟨ret_ib (seli_f hs).symm (tb_f hs).symm, ext_trans hB0 hb1⟩
set_option maxHeartbeats 1000000 in
set_option maxRecDepth 100000 in
theorem specSealOf_any (rows cols : Int) (A : Option Addr) (c : Nat) (xs : List Tile) (w : World) (hn : xs.length ≤ 1048576) (hA : Fl Tile.ints 3 w A xs) :
    Calls Try.prog 28 #[.agg #[.int .i64 rows, .int .i64 cols, .slice A xs.length c]] w fun e w' => e = .returned (.tuple #[.int .i64 (seli (Scn rows cols xs) (sealN xs)), .bool (tb (Scn rows cols xs))]) ∧ Below w.heap.size w w' := by
  obtain ⟨n, hnn⟩ : ∃ n, n = List.length xs := ⟨_, rfl⟩
  have hgood := fun W hW => l17Good_any rows cols A c xs W (by omega) hW
  rw [← hnn] at hn hgood ⊢
  have hN := Lib.hid hnn
  have HG := Lib.hid hgood
  clear hnn hgood
  obtain ⟨W0, hW0, hB0, hz0, hc0, _⟩ := box_world w #[Value.int .i64 rows, Value.int .i64 cols, Value.slice A n c] 26
  have ea : World.cell? W0 ⟨w.heap.size, 0, none⟩ = some (.int .i64 rows) := hc0 0
  have eb : World.cell? W0 ⟨w.heap.size, 1, none⟩ = some (.int .i64 cols) := hc0 1
  have ec : World.cell? W0 ⟨w.heap.size, 2, none⟩ = some (.slice A n c) := hc0 2
  clear hc0
  by_cases hs : Scn rows cols xs
  · have HS := Lib.hid hs
    clear hs
    rw [tb_t HS.out, seli_t HS.out]
    go_enter Try.func28, Try.ntmps28
    go_wp2_with fail
    refine (HG.out W0 (hA.ext hB0)).mono ?_
    rintro e w1 ⟨rfl, hb1⟩
    rw [tb_t HS.out]
    have hx1 := ext_trans hB0 hb1
    have hr1 := bcell hb1
    have hzz : w.heap.size < w1.heap.size := Nat.lt_of_lt_of_le hz0 hb1.size
    go_wp2_with fail
    go_loopw [4, 5] (fun v i wr => ∃ k : Nat, k ≤ n ∧ i = .int .i64 k ∧ v = .int .i64 (sealN (xs.take k)) ∧ Below w1.heap.size w1 wr) (fun _ i _ => n - (intOf i).toNat)
    case atStart => exact ⟨0, by omega, rfl, rfl, Below.refl _ _⟩
    case round =>
      obtain ⟨k, hk, rfl, rfl, hbr1⟩ := hrel
      have hcr := bcell hbr1
      have hbr := ext_trans hx1 hbr1
      have hzr := hbr1.size
      by_cases hlt : k < n
      · have hAr := hA.ext hbr
        obtain ⟨z, b, o, hx, rfl, hbb, hc⟩ := hAr.at_ (k := k) (by rw [← hN.out]; exact hlt)
        have hP : TileOk rows cols z := HS.out.1.1 k z hx
        have hst := seal_step hx
        have hin := seal_in (xs.take k) (fun x hx => by
          obtain ⟨i, hi, he⟩ := List.getElem_of_mem (List.mem_of_mem_take hx)
          exact (HS.out.1.1 i x (by rw [List.getElem?_eq_getElem hi, he])).2.2.2.2.1)
        generalize sealN (xs.take k) = q at hst hin ⊢
        obtain ⟨hq0, hq1⟩ := hin
        have hs0 := hP.2.2.2.2.1
        have hs1 := hP.2.2.2.2.2
        have c0 : World.cell? wr ⟨b, o + k * 3, none⟩ = some (.int .i64 z.row) := hc 0 _ rfl
        have c1 : World.cell? wr ⟨b, o + k * 3 + 1, none⟩ = some (.int .i64 z.col) := hc 1 _ rfl
        have c2 : World.cell? wr ⟨b, o + k * 3 + 2, none⟩ = some (.int .i64 z.sum) := hc 2 _ rfl
        have HST := Lib.hid hst
        clear hst hP hx hc hA hAr
        have hk0 : (0 : Int) ≤ (k : Int) := by omega
        have hk1 : (k : Int) < (n : Int) := by omega
        go_wp2
        go_roundw
        case rel => exact ⟨k + 1, by omega, by go_num, by rw [HST.out], by first | exact hbr1 | exact hbr1.alloc hzr _⟩
        case measure => simp [intOf]; omega
      · have hkn : k = n := by omega
        subst hkn
        rw [take_all (by rw [← hN.out]; exact Nat.le_refl _)]
        go_wp2
        go_ret2
        exact ⟨rfl, hbr⟩
  · go_enter Try.func28, Try.ntmps28
    go_wp2_with fail
    refine (HG.out W0 (hA.ext hB0)).mono ?_
    rintro e w1 ⟨rfl, hb1⟩
    rw [tb_f hs]
    go_wp2
    go_ret2
    exact ⟨ret_ib (seli_f hs).symm (tb_f hs).symm, ext_trans hB0 hb1⟩
end Go.Proofs.Ytjacadkbkkkgfaa
