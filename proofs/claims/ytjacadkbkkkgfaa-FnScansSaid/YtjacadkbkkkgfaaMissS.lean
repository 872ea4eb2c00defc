/- MissingTiles: the reference's side. -/
import Derived.Test.YtjacadkbkkkgfaaScanG
namespace Go.Proofs.Ytjacadkbkkkgfaa
open Go.RowKit
set_option linter.unusedVariables false
set_option linter.unusedSimpArgs false

set_option maxHeartbeats 2000000 in
set_option maxRecDepth 100000 in
theorem specMissingTiles_any (rows cols : Int) (A : Option Addr) (cc : Nat) (xs : List Tile) (w : World) (hn : xs.length ≤ 1048576) (hA : Fl Tile.ints 3 w A xs) :
    Calls Try.prog 26 #[.agg #[.int .i64 rows, .int .i64 cols, .slice A xs.length cc]] w (RetS w (sel (Scn rows cols xs) (gridS (missP xs) rows cols)) (tb (Scn rows cols xs))) := by
  obtain ⟨i0, hi, hz0, hz1, hz2⟩ := info_parts infoRows
  obtain ⟨V0, hV0, hBV0, hzV0, hcV0, _⟩ := box_world w #[Value.int .i64 rows, Value.int .i64 cols, .slice A xs.length cc] 26
  have g0 : World.cell? V0 ⟨(World.heap w).size, 0, none⟩ = some (.int .i64 rows) := hcV0 0
  have g1 : World.cell? V0 ⟨(World.heap w).size, 1, none⟩ = some (.int .i64 cols) := hcV0 1
  have g2 : World.cell? V0 ⟨(World.heap w).size, 2, none⟩ = some (.slice A xs.length cc) := hcV0 2
  clear hcV0
  obtain ⟨V1, hV1, hBV1, hzV1', _, _⟩ := box_world V0 #[] 50
  have hown1 : OwnG nohd slf 0 V0.heap.size 50 3 V1 (.slice (some ⟨V0.heap.size, 0, none⟩) 0 0) [] := hV1 ▸ OwnG.empty (Nat.le_refl _)
  have e0 := (hBV1.cell (p := ⟨w.heap.size, 0, none⟩) hzV0).trans g0
  have e1 := (hBV1.cell (p := ⟨w.heap.size, 1, none⟩) hzV0).trans g1
  have e2 := (hBV1.cell (p := ⟨w.heap.size, 2, none⟩) hzV0).trans g2
  have hB0W := ext_trans hBV0 hBV1
  have hzV1 : w.heap.size < V1.heap.size := Nat.lt_of_lt_of_le hzV0 hBV1.size
  have hzw0 : w.heap.size ≤ V0.heap.size := hBV0.size
  have hsc := l17Good_any rows cols A cc xs V1 (by omega) (hA.ext hB0W)
  have hat := fun (r c : Int) W hW => l17At_any rows cols A cc xs r c W hn hW
  have hpos := fun (h : Scn rows cols xs) => at_pos' h
  have hpp : ∀ r c, (missP xs r c ↔ sumAt r c xs < 0) := fun r c => Iff.rfl
  have hsd : Scn rows cols xs → Side rows cols := fun h => h.2
  obtain ⟨p, hp⟩ : ∃ p, p = missP xs := ⟨_, rfl⟩
  rw [← hp] at hpp ⊢
  clear hp
  have hgr : gridFrom p cols.toNat rows.toNat 0 = gridS p rows cols := rfl
  generalize gridS p rows cols = G at hgr ⊢
  generalize Scn rows cols xs = Q at hsc hsd hpos ⊢
  obtain ⟨n, hnn⟩ : ∃ n, n = List.length xs := ⟨_, rfl⟩
  rw [← hnn] at hV0 e2 g2 hsc hat ⊢
  have HAT := Lib.hid hat
  have HPP0 := Lib.hid hpp
  clear hat hpp hnn
  by_cases h : Q
  · rw [tb_t h, sel_t h]
    rw [tb_t h] at hsc
    have HS2 := Lib.hid hsc
    have HPOS := Lib.hid (hpos h)
    obtain ⟨s1, s2, s3, s4⟩ := hsd h
    obtain ⟨R, hR⟩ : ∃ R : Nat, rows = (R : Int) := ⟨rows.toNat, by omega⟩
    obtain ⟨C, hC⟩ : ∃ C : Nat, cols = (C : Int) := ⟨cols.toNat, by omega⟩
    subst hR hC
    rw [show ((R : Int)).toNat = R from by omega, show ((C : Int)).toNat = C from by omega] at hgr
    have HG0 := Lib.hid hgr
    have HPP : ∀ {r c : Int}, Hid (p r c ↔ sumAt r c xs < 0) := fun {r c} => HPP0.out r c
    clear hsc hpos hsd h hgr HPP0
    go_enter Try.func26, Try.ntmps26
    go_wp2_with fail
    ((with_reducible refine (HS2.out).mono ?_); rintro e w1 ⟨rfl, hb1⟩)
    go_wp2
    go_loopw [4, 5] (fun v i wr => ∃ (r : Nat) (ys : List (GV (List Int))), r ≤ R ∧ i = .int .i64 r ∧ Below V0.heap.size V0 wr ∧ OwnG nohd slf 0 V0.heap.size 50 3 wr v ys ∧ Hid (ys.map GV.x ++ gridFrom p C (R - r) r = G) ∧ ys.length ≤ 6 * r) (fun _ i _ => R - (intOf i).toNat)
    case atStart => exact ⟨0, [], by omega, rfl, ext_trans hBV1 hb1, hown1.ext hb1, HG0, by simp⟩
    case round =>
      obtain ⟨r, ys, hr, rfl, hbr, hown, hys, hyl⟩ := hrel
      have hzr := hbr.size
      have f0 := (hbr.cell (p := ⟨w.heap.size, 0, none⟩) hzV0).trans g0
      have f1 := (hbr.cell (p := ⟨w.heap.size, 1, none⟩) hzV0).trans g1
      have f2 := (hbr.cell (p := ⟨w.heap.size, 2, none⟩) hzV0).trans g2
      by_cases hlr : r < R
      · have hru : R - r = (R - r - 1) + 1 := by omega
        have hg1 := hys.out
        rw [hru, gridFrom] at hg1
        have HG1 := Lib.hid hg1
        have hr0 : (0 : Int) ≤ (r : Int) := by omega
        have hr1 : (r : Int) < (R : Int) := by omega
        clear hys hg1 hru
        go_wp2
        obtain ⟨wo, hwo⟩ : ∃ z, z = wr := ⟨_, rfl⟩
        subst hwo
        go_loopw [4, 6] (fun v i wr => ∃ (c : Nat) (ys : List (GV (List Int))), c ≤ C ∧ i = .int .i64 c ∧ Below V0.heap.size V0 wr ∧ OwnG nohd slf 0 V0.heap.size 50 3 wr v ys ∧ Hid (ys.map GV.x ++ (rowFrom p r (C - c) c ++ gridFrom p C (R - r - 1) ((r : Int) + 1)) = G) ∧ ys.length ≤ 6 * r + c) (fun _ i _ => C - (intOf i).toNat)
        case atStart => exact ⟨0, ys, by omega, rfl, hbr, hown, HG1.out, by omega⟩
        case round =>
          clear hyl HG1 hown hbr
          obtain ⟨c, ys, hc, rfl, hbr, hown, hys, hyl⟩ := hrel
          have hzr := hbr.size
          have f0 := (hbr.cell (p := ⟨w.heap.size, 0, none⟩) hzV0).trans g0
          have f1 := (hbr.cell (p := ⟨w.heap.size, 1, none⟩) hzV0).trans g1
          have f2 := (hbr.cell (p := ⟨w.heap.size, 2, none⟩) hzV0).trans g2
          by_cases hlc : c < C
          · have HCU : Hid (C - c = (C - (c + 1)) + 1) := (by omega : C - c = (C - (c + 1)) + 1)
            have hc0 : (0 : Int) ≤ (c : Int) := by omega
            have hc1 : (c : Int) < (C : Int) := by omega
            have hat := HAT.out r c wr (hA.ext (ext_trans hBV0 hbr))
            rcases HPOS.out r c with ⟨q1, q2⟩ | ⟨q1, q2⟩
            · have hP : ¬ p r c := fun h => by have := HPP.out.1 h; omega
              obtain ⟨a, ha⟩ : ∃ a, a = atI r c xs := ⟨_, rfl⟩
              rw [← ha] at hat q1
              have hal : ¬ a < 0 := by omega
              have HAX := Lib.hid hat
              have HP := Lib.hid hP
              clear hat hP ha q1 q2
              go_wp2_with fail
              ((with_reducible refine (HAX.out).mono ?_); rintro e w1 ⟨rfl, hb1⟩)
              have hbW := ext_trans hbr hb1
              have hownW := hown.ext hb1
              have hgoal := hys.out
              rw [HCU.out, rowFrom_f HP.out] at hgoal
              have HG := Lib.hid hgoal
              clear hgoal
              go_wp2
              go_roundw
              case rel => exact ⟨c + 1, ys, by omega, by go_num, hbW, hownW, HG.out, by omega⟩
              case measure => simp [intOf]; omega
            · have hP : p r c := HPP.out.2 (by omega)
              rw [q1] at hat
              have HAX := Lib.hid hat
              have HP := Lib.hid hP
              clear hat hP q1 q2
              go_wp2_with fail
              ((with_reducible refine (HAX.out).mono ?_); rintro e w1 ⟨rfl, hb1⟩)
              have hbW := ext_trans hbr hb1
              have hownW := hown.ext hb1
              have HF := Lib.hid (hownW.fresh (Nat.le_refl _))
              obtain ⟨L1, hL1, hBL, hzL, _, _⟩ := box_world w1 #[Value.int .i64 (r : Int), .int .i64 (c : Int)] 3
              have hlit : OwnF one 1 V0.heap.size 3 L1 (.slice (some ⟨(World.heap w1).size, 0, none⟩) 2 2) [(r : Int), (c : Int)] := hL1 ▸ OwnF.lit hbW.size [(r : Int), (c : Int)] (by simp [maxLen])
              have hownL := hownW.ext hBL
              have HLI := Lib.hid hlit
              have hbL := ext_trans hbW hBL
              have hszL : V0.heap.size ≤ L1.heap.size := hbL.size
              clear hlit hownW
              go_wp2_with (at_builtin; refine wpList_append_g (y := ⟨[(r : Int), (c : Int)], some ⟨(World.heap w1).size, 0, none⟩, 2⟩) (hd := nohd) (tl := slf) rfl _ _ _ rfl V0.heap.size 0 i0 _ 24 Try.underlying32 hi hz0 hz1 hz2 rfl (fun _ => rfl) _ ys rfl rfl hownL (by decide) HLI.out (fun _ z hz hl => HF.out z hz hl) (by omega) (by decide) hszL ?_; intro v' w8 hown8 hg8 hb8)
              have hgoal := hys.out
              rw [HCU.out, rowFrom_t HP.out] at hgoal
              have HG := Lib.hid hgoal
              clear hgoal
              go_roundw
              case rel => exact ⟨c + 1, _, by omega, by go_num, hbL.trans hb8, hown8, by
                show List.map GV.x (ys ++ [_]) ++ _ = _
                rw [List.map_append, List.append_assoc]; exact HG.out, by simp; omega⟩
              case measure => simp [intOf]; omega
          · have hcC : c = C := by omega
            subst hcC
            have hg2 := hys.out
            rw [Nat.sub_self] at hg2
            have HG2 := Lib.hid hg2
            clear hg2 hys
            go_wp2
            go_roundw
            case rel => exact ⟨r + 1, ys, by omega, by go_num, hbr, hown, HG2.out, by omega⟩
            case measure => simp [intOf]; omega
      · have hrR : r = R := by omega
        subst hrR
        have hg3 := hys.out
        rw [Nat.sub_self, gridFrom, List.append_nil] at hg3
        have HG3 := Lib.hid hg3
        clear hg3 hys
        go_wp2
        go_ret2
        obtain ⟨B, d, hv, hF⟩ := (hown.from_ hzw0).form (fun _ => rfl) (by decide)
        rw [HG3.out] at hv hF
        exact ⟨B, d, by rw [hv]; rfl, hF, ext_trans hBV0 hbr⟩
  · rw [tb_f h, sel_f h]
    rw [tb_f h] at hsc
    have HS2 := Lib.hid hsc
    clear hsc hpos hsd h hgr HPP0
    go_enter Try.func26, Try.ntmps26
    go_wp2_with fail
    ((with_reducible refine (HS2.out).mono ?_); rintro e w1 ⟨rfl, hb1⟩)
    go_wp2
    go_ret2
    exact ⟨_, 0, rfl, GlO.nil, ext_trans hB0W hb1⟩
end Go.Proofs.Ytjacadkbkkkgfaa
