/- Which scans are alike: both sides. -/
import Derived.Test.YtjacadkbkkkgfaaScanG
namespace Go.Proofs.Ytjacadkbkkkgfaa
open Go.RowKit
set_option linter.unusedVariables false
set_option linter.unusedSimpArgs false

set_option maxHeartbeats 1000000 in
set_option maxRecDepth 100000 in
theorem areAlike_any (ra ca rb cb : Int) (A : Option Addr) (c : Nat) (xs : List Tile) (B : Option Addr) (d : Nat) (ys : List Tile) (w : World) (hn : xs.length ≤ 1048576) (hA : Fl Tile.ints 3 w A xs) (hm : ys.length ≤ 1048576) (hB : Fl Tile.ints 3 w B ys) :
    Calls Try.prog 38 #[.agg #[.int .i64 ra, .int .i64 ca, .slice A xs.length c], .agg #[.int .i64 rb, .int .i64 cb, .slice B ys.length d]] w fun e w' => e = .returned (.bool (tb (AlikeS ra ca xs rb cb ys))) ∧ Below w.heap.size w w' := by
  obtain ⟨V0, hV0, hBV0, hzV0, hcV0, _⟩ := box_world w #[Value.int .i64 ra, Value.int .i64 ca, .slice A xs.length c] 26
  have g0 : World.cell? V0 ⟨(World.heap w).size, 0, none⟩ = some (.int .i64 ra) := hcV0 0
  have g1 : World.cell? V0 ⟨(World.heap w).size, 1, none⟩ = some (.int .i64 ca) := hcV0 1
  have g2 : World.cell? V0 ⟨(World.heap w).size, 2, none⟩ = some (.slice A xs.length c) := hcV0 2
  clear hcV0
  obtain ⟨V1, hV1, hBV1, hzV1, hcV1, _⟩ := box_world V0 #[Value.int .i64 rb, Value.int .i64 cb, .slice B ys.length d] 26
  have b0 : World.cell? V1 ⟨(World.heap V0).size, 0, none⟩ = some (.int .i64 rb) := hcV1 0
  have b1 : World.cell? V1 ⟨(World.heap V0).size, 1, none⟩ = some (.int .i64 cb) := hcV1 1
  have b2 : World.cell? V1 ⟨(World.heap V0).size, 2, none⟩ = some (.slice B ys.length d) := hcV1 2
  clear hcV1
  have a0 := (hBV1.cell (p := ⟨w.heap.size, 0, none⟩) hzV0).trans g0
  have a1 := (hBV1.cell (p := ⟨w.heap.size, 1, none⟩) hzV0).trans g1
  have a2 := (hBV1.cell (p := ⟨w.heap.size, 2, none⟩) hzV0).trans g2
  have hB1 := ext_trans hBV0 hBV1
  have hza : w.heap.size < V1.heap.size := Nat.lt_of_lt_of_le hzV0 hBV1.size
  have hw1 : w.heap.size ≤ V1.heap.size := hB1.size
  have hg1 := isScan_any ra ca A c xs V1 (by omega) (hA.ext hB1)
  have hg2 := fun W hW => isScan_any rb cb B d ys W (by omega) (Fl.ext hB hW)
  have hal : AlikeS ra ca xs rb cb ys ↔ Scn ra ca xs ∧ Scn rb cb ys ∧ ra = rb ∧ ca = cb := Iff.rfl
  generalize AlikeS ra ca xs rb cb ys = Q at hal ⊢
  generalize Scn ra ca xs = P1 at hg1 hal
  generalize Scn rb cb ys = P2 at hg2 hal
  generalize xs.length = n at *
  generalize ys.length = m at *
  have HAL := Lib.hid hal
  have HG2 := Lib.hid hg2
  clear hal hg2
  by_cases h1 : P1
  · rw [tb_t h1] at hg1
    have H1 := Lib.hid h1
    have HG1 := Lib.hid hg1
    clear h1 hg1
    go_enter Try.func38, Try.ntmps38
    go_wp2_with fail
    ((with_reducible refine (HG1.out).mono ?_); rintro e w1 ⟨rfl, hb1⟩)
    have p0 := (hb1.cell (p := ⟨w.heap.size, 0, none⟩) hza).trans a0
    have p1 := (hb1.cell (p := ⟨w.heap.size, 1, none⟩) hza).trans a1
    have p2 := (hb1.cell (p := ⟨w.heap.size, 2, none⟩) hza).trans a2
    have q0 := (hb1.cell (p := ⟨V0.heap.size, 0, none⟩) hzV1).trans b0
    have q1 := (hb1.cell (p := ⟨V0.heap.size, 1, none⟩) hzV1).trans b1
    have q2 := (hb1.cell (p := ⟨V0.heap.size, 2, none⟩) hzV1).trans b2
    have hx1 := ext_trans hB1 hb1
    have hg := HG2.out w1 hx1
    have hzw1 : w.heap.size < w1.heap.size := Nat.lt_of_lt_of_le hza hb1.size
    have hzw2 : V0.heap.size < w1.heap.size := Nat.lt_of_lt_of_le hzV1 hb1.size
    by_cases h2 : P2
    · rw [tb_t h2] at hg
      have H2 := Lib.hid h2
      have HG := Lib.hid hg
      clear h2 hg
      go_wp2_with fail
      ((with_reducible refine (HG.out).mono ?_); rintro e w2 ⟨rfl, hb2⟩)
      have s0 := (hb2.cell (p := ⟨w.heap.size, 0, none⟩) hzw1).trans p0
      have s1 := (hb2.cell (p := ⟨w.heap.size, 1, none⟩) hzw1).trans p1
      have s2 := (hb2.cell (p := ⟨w.heap.size, 2, none⟩) hzw1).trans p2
      have t0 := (hb2.cell (p := ⟨V0.heap.size, 0, none⟩) hzw2).trans q0
      have t1 := (hb2.cell (p := ⟨V0.heap.size, 1, none⟩) hzw2).trans q1
      have t2 := (hb2.cell (p := ⟨V0.heap.size, 2, none⟩) hzw2).trans q2
      have hx2 := ext_trans hx1 hb2
      by_cases h3 : ra = rb
      · by_cases h4 : ca = cb
        · have HQ := Lib.hid (HAL.out.2 ⟨H1.out, H2.out, h3, h4⟩)
          have h3b : (ra == rb) = true := by simp [h3]
          have h4b : (ca == cb) = true := by simp [h4]
          clear h3 h4
          go_wp2
          go_ret
          exact ⟨ret_bool (tb_t HQ.out).symm, hx2⟩
        · have HQ : Hid (¬ Q) := fun h => h4 (HAL.out.1 h).2.2.2
          have h3b : (ra == rb) = true := by simp [h3]
          have h4b : (ca == cb) = false := by simp [h4]
          clear h3 h4
          go_wp2
          go_ret
          exact ⟨ret_bool (tb_f HQ.out).symm, hx2⟩
      · have HQ : Hid (¬ Q) := fun h => h3 (HAL.out.1 h).2.2.1
        have h3b : (ra == rb) = false := by simp [h3]
        clear h3
        go_wp2
        go_ret
        exact ⟨ret_bool (tb_f HQ.out).symm, hx2⟩
    · rw [tb_f h2] at hg
      have HQ : Hid (¬ Q) := fun h => h2 (HAL.out.1 h).2.1
      have HG := Lib.hid hg
      clear h2 hg
      go_wp2_with fail
      ((with_reducible refine (HG.out).mono ?_); rintro e w2 ⟨rfl, hb2⟩)
      have hx2 := ext_trans hx1 hb2
      go_wp2
      go_ret
      exact ⟨ret_bool (tb_f HQ.out).symm, hx2⟩
  · rw [tb_f h1] at hg1
    have HQ : Hid (¬ Q) := fun h => h1 (HAL.out.1 h).1
    have HG1 := Lib.hid hg1
    clear h1 hg1
    go_enter Try.func38, Try.ntmps38
    go_wp2_with fail
    ((with_reducible refine (HG1.out).mono ?_); rintro e w1 ⟨rfl, hb1⟩)
    go_wp2
    go_ret
    exact ⟨ret_bool (tb_f HQ.out).symm, (ext_trans hB1 hb1)⟩
set_option maxHeartbeats 1000000 in
set_option maxRecDepth 100000 in
theorem l17Alike_any (ra ca rb cb : Int) (A : Option Addr) (c : Nat) (xs : List Tile) (B : Option Addr) (d : Nat) (ys : List Tile) (w : World) (hn : xs.length ≤ 1048576) (hA : Fl Tile.ints 3 w A xs) (hm : ys.length ≤ 1048576) (hB : Fl Tile.ints 3 w B ys) :
    Calls Try.prog 41 #[.agg #[.int .i64 ra, .int .i64 ca, .slice A xs.length c], .agg #[.int .i64 rb, .int .i64 cb, .slice B ys.length d]] w fun e w' => e = .returned (.bool (tb (AlikeS ra ca xs rb cb ys))) ∧ Below w.heap.size w w' := by
  obtain ⟨V0, hV0, hBV0, hzV0, hcV0, _⟩ := box_world w #[Value.int .i64 ra, Value.int .i64 ca, .slice A xs.length c] 26
  have g0 : World.cell? V0 ⟨(World.heap w).size, 0, none⟩ = some (.int .i64 ra) := hcV0 0
  have g1 : World.cell? V0 ⟨(World.heap w).size, 1, none⟩ = some (.int .i64 ca) := hcV0 1
  have g2 : World.cell? V0 ⟨(World.heap w).size, 2, none⟩ = some (.slice A xs.length c) := hcV0 2
  clear hcV0
  obtain ⟨V1, hV1, hBV1, hzV1, hcV1, _⟩ := box_world V0 #[Value.int .i64 rb, Value.int .i64 cb, .slice B ys.length d] 26
  have b0 : World.cell? V1 ⟨(World.heap V0).size, 0, none⟩ = some (.int .i64 rb) := hcV1 0
  have b1 : World.cell? V1 ⟨(World.heap V0).size, 1, none⟩ = some (.int .i64 cb) := hcV1 1
  have b2 : World.cell? V1 ⟨(World.heap V0).size, 2, none⟩ = some (.slice B ys.length d) := hcV1 2
  clear hcV1
  have a0 := (hBV1.cell (p := ⟨w.heap.size, 0, none⟩) hzV0).trans g0
  have a1 := (hBV1.cell (p := ⟨w.heap.size, 1, none⟩) hzV0).trans g1
  have a2 := (hBV1.cell (p := ⟨w.heap.size, 2, none⟩) hzV0).trans g2
  have hB1 := ext_trans hBV0 hBV1
  have hza : w.heap.size < V1.heap.size := Nat.lt_of_lt_of_le hzV0 hBV1.size
  have hw1 : w.heap.size ≤ V1.heap.size := hB1.size
  have hg1 := l17Good_any ra ca A c xs V1 (by omega) (hA.ext hB1)
  have hg2 := fun W hW => l17Good_any rb cb B d ys W (by omega) (Fl.ext hB hW)
  have hal : AlikeS ra ca xs rb cb ys ↔ Scn ra ca xs ∧ Scn rb cb ys ∧ ra = rb ∧ ca = cb := Iff.rfl
  generalize AlikeS ra ca xs rb cb ys = Q at hal ⊢
  generalize Scn ra ca xs = P1 at hg1 hal
  generalize Scn rb cb ys = P2 at hg2 hal
  generalize xs.length = n at *
  generalize ys.length = m at *
  have HAL := Lib.hid hal
  have HG2 := Lib.hid hg2
  clear hal hg2
  by_cases h1 : P1
  · rw [tb_t h1] at hg1
    have H1 := Lib.hid h1
    have HG1 := Lib.hid hg1
    clear h1 hg1
    go_enter Try.func41, Try.ntmps41
    go_wp2_with fail
    ((with_reducible refine (HG1.out).mono ?_); rintro e w1 ⟨rfl, hb1⟩)
    have p0 := (hb1.cell (p := ⟨w.heap.size, 0, none⟩) hza).trans a0
    have p1 := (hb1.cell (p := ⟨w.heap.size, 1, none⟩) hza).trans a1
    have p2 := (hb1.cell (p := ⟨w.heap.size, 2, none⟩) hza).trans a2
    have q0 := (hb1.cell (p := ⟨V0.heap.size, 0, none⟩) hzV1).trans b0
    have q1 := (hb1.cell (p := ⟨V0.heap.size, 1, none⟩) hzV1).trans b1
    have q2 := (hb1.cell (p := ⟨V0.heap.size, 2, none⟩) hzV1).trans b2
    have hx1 := ext_trans hB1 hb1
    have hg := HG2.out w1 hx1
    have hzw1 : w.heap.size < w1.heap.size := Nat.lt_of_lt_of_le hza hb1.size
    have hzw2 : V0.heap.size < w1.heap.size := Nat.lt_of_lt_of_le hzV1 hb1.size
    by_cases h2 : P2
    · rw [tb_t h2] at hg
      have H2 := Lib.hid h2
      have HG := Lib.hid hg
      clear h2 hg
      go_wp2_with fail
      ((with_reducible refine (HG.out).mono ?_); rintro e w2 ⟨rfl, hb2⟩)
      have s0 := (hb2.cell (p := ⟨w.heap.size, 0, none⟩) hzw1).trans p0
      have s1 := (hb2.cell (p := ⟨w.heap.size, 1, none⟩) hzw1).trans p1
      have s2 := (hb2.cell (p := ⟨w.heap.size, 2, none⟩) hzw1).trans p2
      have t0 := (hb2.cell (p := ⟨V0.heap.size, 0, none⟩) hzw2).trans q0
      have t1 := (hb2.cell (p := ⟨V0.heap.size, 1, none⟩) hzw2).trans q1
      have t2 := (hb2.cell (p := ⟨V0.heap.size, 2, none⟩) hzw2).trans q2
      have hx2 := ext_trans hx1 hb2
      by_cases h3 : ra = rb
      · by_cases h4 : ca = cb
        · have HQ := Lib.hid (HAL.out.2 ⟨H1.out, H2.out, h3, h4⟩)
          have h3b : (ra == rb) = true := by simp [h3]
          have h4b : (ca == cb) = true := by simp [h4]
          clear h3 h4
          go_wp2
          go_ret
          exact ⟨ret_bool (tb_t HQ.out).symm, hx2⟩
        · have HQ : Hid (¬ Q) := fun h => h4 (HAL.out.1 h).2.2.2
          have h3b : (ra == rb) = true := by simp [h3]
          have h4b : (ca == cb) = false := by simp [h4]
          clear h3 h4
          go_wp2
          go_ret
          exact ⟨ret_bool (tb_f HQ.out).symm, hx2⟩
      · have HQ : Hid (¬ Q) := fun h => h3 (HAL.out.1 h).2.2.1
        have h3b : (ra == rb) = false := by simp [h3]
        clear h3
        go_wp2
        go_ret
        exact ⟨ret_bool (tb_f HQ.out).symm, hx2⟩
    · rw [tb_f h2] at hg
      have HQ : Hid (¬ Q) := fun h => h2 (HAL.out.1 h).2.1
      have HG := Lib.hid hg
      clear h2 hg
      go_wp2_with fail
      ((with_reducible refine (HG.out).mono ?_); rintro e w2 ⟨rfl, hb2⟩)
      have hx2 := ext_trans hx1 hb2
      go_wp2
      go_ret
      exact ⟨ret_bool (tb_f HQ.out).symm, hx2⟩
  · rw [tb_f h1] at hg1
    have HQ : Hid (¬ Q) := fun h => h1 (HAL.out.1 h).1
    have HG1 := Lib.hid hg1
    clear h1 hg1
    go_enter Try.func41, Try.ntmps41
    go_wp2_with fail
    ((with_reducible refine (HG1.out).mono ?_); rintro e w1 ⟨rfl, hb1⟩)
    go_wp2
    go_ret
    exact ⟨ret_bool (tb_f HQ.out).symm, (ext_trans hB1 hb1)⟩
end Go.Proofs.Ytjacadkbkkkgfaa
