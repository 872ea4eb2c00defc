/- OtherTiles: the reference's side. -/
import Derived.Test.YtjacadkbkkkgfaaAlike
namespace Go.Proofs.Ytjacadkbkkkgfaa
open Go.RowKit
set_option linter.unusedVariables false
set_option linter.unusedSimpArgs false

theorem Fl.get' {w : World} {A : Option Addr} {xs : List Tile} {i : Nat} {z : Tile} (h : Fl Tile.ints 3 w A xs) (hz : xs[i]? = some z) : ∃ (y : Tile) (b o : Nat), A = some ⟨b, o, none⟩ ∧ b < w.heap.size ∧ World.cell? w ⟨b, o + i * 3 + 2, none⟩ = some (.int .i64 z.sum) := by
  obtain ⟨b, o, h1, h2, h3⟩ := h (fun e => by rw [e] at hz; simp at hz)
  exact ⟨z, b, o, h1, h2, h3 i z hz 2 _ rfl⟩
set_option maxHeartbeats 4000000 in
set_option maxRecDepth 100000 in
theorem specOtherTiles_any (ra ca rb cb : Int) (A : Option Addr) (cc : Nat) (xs : List Tile) (B : Option Addr) (d : Nat) (ys : List Tile) (w : World) (hn : xs.length ≤ 1048576) (hA : Fl Tile.ints 3 w A xs) (hm : ys.length ≤ 1048576) (hB : Fl Tile.ints 3 w B ys) :
    Calls Try.prog 11 #[.agg #[.int .i64 ra, .int .i64 ca, .slice A xs.length cc], .agg #[.int .i64 rb, .int .i64 cb, .slice B ys.length d]] w (RetS w (sel (AlikeS ra ca xs rb cb ys) (gridS (otherP xs ys) ra ca)) (tb (AlikeS ra ca xs rb cb ys))) := by
  obtain ⟨i0, hi, hz0, hz1, hz2⟩ := info_parts infoRows
  obtain ⟨V0, hV0, hBV0, hzV0, hcV0, _⟩ := box_world w #[Value.int .i64 ra, Value.int .i64 ca, .slice A xs.length cc] 26
  have g0 : World.cell? V0 ⟨(World.heap w).size, 0, none⟩ = some (.int .i64 ra) := hcV0 0
  have g1 : World.cell? V0 ⟨(World.heap w).size, 1, none⟩ = some (.int .i64 ca) := hcV0 1
  have g2 : World.cell? V0 ⟨(World.heap w).size, 2, none⟩ = some (.slice A xs.length cc) := hcV0 2
  clear hcV0
  obtain ⟨V1, hV1, hBV1, hzV1, hcV1, _⟩ := box_world V0 #[Value.int .i64 rb, Value.int .i64 cb, .slice B ys.length d] 26
  have b0 : World.cell? V1 ⟨(World.heap V0).size, 0, none⟩ = some (.int .i64 rb) := hcV1 0
  have b1 : World.cell? V1 ⟨(World.heap V0).size, 1, none⟩ = some (.int .i64 cb) := hcV1 1
  have b2 : World.cell? V1 ⟨(World.heap V0).size, 2, none⟩ = some (.slice B ys.length d) := hcV1 2
  clear hcV1
  have a0 := (hBV1.cell (p := ⟨w.heap.size, 0, none⟩) hzV0).trans g0
  have a1 := (hBV1.cell (p := ⟨w.heap.size, 1, none⟩) hzV0).trans g1
  have a2 := (hBV1.cell (p := ⟨w.heap.size, 2, none⟩) hzV0).trans g2
  have hB1 := ext_trans hBV0 hBV1
  have hza : w.heap.size < V1.heap.size := Nat.lt_of_lt_of_le hzV0 hBV1.size
  have hw1 : w.heap.size ≤ V1.heap.size := hB1.size
  obtain ⟨V2, hV2, hBV2, hzV2, _, _⟩ := box_world V1 #[] 50
  have hown1 : OwnG nohd slf 0 V1.heap.size 50 3 V2 (.slice (some ⟨V1.heap.size, 0, none⟩) 0 0) [] := hV2 ▸ OwnG.empty (Nat.le_refl _)
  have y0 := (hBV2.cell (p := ⟨w.heap.size, 0, none⟩) hza).trans a0
  have y1 := (hBV2.cell (p := ⟨w.heap.size, 1, none⟩) hza).trans a1
  have y2 := (hBV2.cell (p := ⟨w.heap.size, 2, none⟩) hza).trans a2
  have kk0 := (hBV2.cell (p := ⟨V0.heap.size, 0, none⟩) hzV1).trans b0
  have kk1 := (hBV2.cell (p := ⟨V0.heap.size, 1, none⟩) hzV1).trans b1
  have kk2 := (hBV2.cell (p := ⟨V0.heap.size, 2, none⟩) hzV1).trans b2
  have hB2 := ext_trans hB1 hBV2
  have hsc := l17Alike_any ra ca rb cb A cc xs B d ys V2 hn (hA.ext hB2) hm (hB.ext hB2)
  have hx1 := fun (r c : Int) W hW => l17At_any ra ca A cc xs r c W hn hW
  have hx2 := fun (r c : Int) W hW => l17At_any rb cb B d ys r c W hm hW
  have hat1 := fun r c => at_some r c xs
  have hat2 := fun r c => at_some r c ys
  have hsd : AlikeS ra ca xs rb cb ys → Side ra ca ∧ (∀ (i : Nat) (z : Tile), xs[i]? = some z → 0 ≤ z.sum) ∧ ∀ (i : Nat) (z : Tile), ys[i]? = some z → 0 ≤ z.sum := fun h => ⟨h.1.2, fun i z hz => (h.1.1.1 i z hz).2.2.2.2.1, fun i z hz => (h.2.1.1.1 i z hz).2.2.2.2.1⟩
  have hpp : ∀ r c, (otherP xs ys r c ↔ sumAt r c xs ≠ sumAt r c ys) := fun r c => Iff.rfl
  obtain ⟨p, hp⟩ : ∃ p, p = otherP xs ys := ⟨_, rfl⟩
  rw [← hp] at hpp ⊢
  clear hp
  have hgr : gridFrom p ca.toNat ra.toNat 0 = gridS p ra ca := rfl
  generalize gridS p ra ca = G at hgr ⊢
  generalize AlikeS ra ca xs rb cb ys = Q at hsc hsd ⊢
  obtain ⟨n, hnn⟩ : ∃ n, n = List.length xs := ⟨_, rfl⟩
  obtain ⟨m, hmm⟩ : ∃ n, n = List.length ys := ⟨_, rfl⟩
  rw [← hnn] at hV0 g2 a2 y2 hsc hx1 ⊢
  rw [← hmm] at hV1 b2 kk2 hsc hx2 ⊢
  have HX1A := Lib.hid hx1
  have HX2A := Lib.hid hx2
  have HAT1 := Lib.hid hat1
  have HAT2 := Lib.hid hat2
  have HPP := Lib.hid hpp
  have HN := Lib.hid hnn
  have HM := Lib.hid hmm
  clear hx1 hx2 hat1 hat2 hpp hnn hmm
  by_cases h : Q
  · rw [tb_t h, sel_t h]
    rw [tb_t h] at hsc
    have HSC := Lib.hid hsc
    obtain ⟨⟨s1, s2, s3, s4⟩, hs1, hs2⟩ := hsd h
    have HS1 := Lib.hid hs1
    have HS2 := Lib.hid hs2
    obtain ⟨R, hR⟩ : ∃ R : Nat, ra = (R : Int) := ⟨ra.toNat, by omega⟩
    obtain ⟨C, hC⟩ : ∃ C : Nat, ca = (C : Int) := ⟨ca.toNat, by omega⟩
    subst hR hC
    rw [show ((R : Int)).toNat = R from by omega, show ((C : Int)).toNat = C from by omega] at hgr
    have HG0 := Lib.hid hgr
    clear hsc hsd h hgr hs1 hs2
    go_enter Try.func11, Try.ntmps11
    go_wp2_with fail
    ((with_reducible refine (HSC.out).mono ?_); rintro e w1 ⟨rfl, hb1⟩)
    go_wp2
    go_loopw [6, 7] (fun v i wr => ∃ (r : Nat) (ys : List (GV (List Int))), r ≤ R ∧ i = .int .i64 r ∧ Below V1.heap.size V1 wr ∧ OwnG nohd slf 0 V1.heap.size 50 3 wr v ys ∧ Hid (ys.map GV.x ++ gridFrom p C (R - r) r = G) ∧ ys.length ≤ 6 * r) (fun _ i _ => R - (intOf i).toNat)
    case atStart => exact ⟨0, [], by omega, rfl, ext_trans hBV2 hb1, hown1.ext hb1, HG0, by simp⟩
    case round =>
      obtain ⟨r, ys, hr, rfl, hbr, hown, hys, hyl⟩ := hrel
      have hzr := hbr.size
      have f0 := (hbr.cell (p := ⟨w.heap.size, 0, none⟩) hza).trans a0
      have f1 := (hbr.cell (p := ⟨w.heap.size, 1, none⟩) hza).trans a1
      have f2 := (hbr.cell (p := ⟨w.heap.size, 2, none⟩) hza).trans a2
      have h0 := (hbr.cell (p := ⟨V0.heap.size, 0, none⟩) hzV1).trans b0
      have h1 := (hbr.cell (p := ⟨V0.heap.size, 1, none⟩) hzV1).trans b1
      have h2 := (hbr.cell (p := ⟨V0.heap.size, 2, none⟩) hzV1).trans b2
      by_cases hlr : r < R
      · have hru : R - r = (R - r - 1) + 1 := by omega
        have hg1 := hys.out
        rw [hru, gridFrom] at hg1
        have HG1 := Lib.hid hg1
        have hr0 : (0 : Int) ≤ (r : Int) := by omega
        have hr1 : (r : Int) < (R : Int) := by omega
        clear hys hg1 hru
        go_wp2
        obtain ⟨wo, hwo⟩ : ∃ z, z = wr := ⟨_, rfl⟩
        subst hwo
        go_loopw [6, 8] (fun v i wr => ∃ (c : Nat) (ys : List (GV (List Int))), c ≤ C ∧ i = .int .i64 c ∧ Below V1.heap.size V1 wr ∧ OwnG nohd slf 0 V1.heap.size 50 3 wr v ys ∧ Hid (ys.map GV.x ++ (rowFrom p r (C - c) c ++ gridFrom p C (R - r - 1) ((r : Int) + 1)) = G) ∧ ys.length ≤ 6 * r + c) (fun _ i _ => C - (intOf i).toNat)
        case atStart => exact ⟨0, ys, by omega, rfl, hbr, hown, HG1.out, by omega⟩
        case round =>
          clear hyl HG1 hown hbr
          obtain ⟨c, ys, hc, rfl, hbr, hown, hys, hyl⟩ := hrel
          have hzr := hbr.size
          have f0 := (hbr.cell (p := ⟨w.heap.size, 0, none⟩) hza).trans a0
          have f1 := (hbr.cell (p := ⟨w.heap.size, 1, none⟩) hza).trans a1
          have f2 := (hbr.cell (p := ⟨w.heap.size, 2, none⟩) hza).trans a2
          have h0 := (hbr.cell (p := ⟨V0.heap.size, 0, none⟩) hzV1).trans b0
          have h1 := (hbr.cell (p := ⟨V0.heap.size, 1, none⟩) hzV1).trans b1
          have h2 := (hbr.cell (p := ⟨V0.heap.size, 2, none⟩) hzV1).trans b2
          have hzr1 : w.heap.size < wr.heap.size := Nat.lt_of_lt_of_le hza hzr
          have hzr2 : V0.heap.size < wr.heap.size := Nat.lt_of_lt_of_le hzV1 hzr
          have hpc := plus_cell wr
          by_cases hlc : c < C
          · have HCU : Hid (C - c = (C - (c + 1)) + 1) := (by omega : C - c = (C - (c + 1)) + 1)
            have hc0 : (0 : Int) ≤ (c : Int) := by omega
            have hc1 : (c : Int) < (C : Int) := by omega
            have hbw := ext_trans hB1 hbr
            have hx1 := HX1A.out r c
            have hx2 := HX2A.out r c
            rcases HAT1.out r c with ⟨q1, q2⟩ | ⟨i, z1, q1, q2, q3⟩
            · rcases HAT2.out r c with ⟨s1, s2⟩ | ⟨j, z2, s1, s2, s3⟩
              · have HP : Hid (¬ p r c) := fun h => (HPP.out r c).1 h (by rw [q2, s2])
                simp only [q1] at hx1
                simp only [s1] at hx2
                have HX1 := Lib.hid hx1
                have HX2 := Lib.hid hx2
                clear hx1 hx2 q1 q2 s1 s2
                go_wp2_with fail
                refine wp_region_grow (by kernel_rfl) (by kernel_rfl) ?_
                repeat (go_big_quiet_step ((first | (go_at_call 47; first | (with_reducible exact quiet_below (HX1.out _ (hA.ext (ext_trans hbw (plus_below _ _))))) | (with_reducible exact quiet_below (HX2.out _ (hB.ext (ext_trans hbw (plus_below _ _)))))))))
                refine wpQuiet_nil ?_
                intro w1 hb1
                obtain ⟨wa, hwa'⟩ : ∃ z, z = w1 := ⟨_, rfl⟩
                subst hwa'
                have hba := hb1
                clear hb1
                have hbW := ext_trans hbr hba
                have u0 := (hba.cell (p := ⟨w.heap.size, 0, none⟩) hzr1).trans f0
                have u1 := (hba.cell (p := ⟨w.heap.size, 1, none⟩) hzr1).trans f1
                have u2 := (hba.cell (p := ⟨w.heap.size, 2, none⟩) hzr1).trans f2
                have v0 := (hba.cell (p := ⟨V0.heap.size, 0, none⟩) hzr2).trans h0
                have v1 := (hba.cell (p := ⟨V0.heap.size, 1, none⟩) hzr2).trans h1
                have v2 := (hba.cell (p := ⟨V0.heap.size, 2, none⟩) hzr2).trans h2
                have hpca := plus_cell wa
                have hzza : w.heap.size < wa.heap.size := Nat.lt_of_lt_of_le hzr1 hba.size
                have hzzb : V0.heap.size < wa.heap.size := Nat.lt_of_lt_of_le hzr2 hba.size
                go_wp2_with fail
                refine wp_region_grow (by kernel_rfl) (by kernel_rfl) ?_
                repeat (go_big_quiet_step ((first | fail)))
                refine wpQuiet_nil ?_
                intro w1 hb1
                have hbW2 := ext_trans hbW hb1
                have hownW := hown.ext (ext_trans hba hb1)
                have hgoal := hys.out
                rw [HCU.out, rowFrom_f HP.out] at hgoal
                have HG := Lib.hid hgoal
                clear hgoal
                go_wp2
                go_roundw
                case rel => exact ⟨c + 1, ys, by omega, by go_num, hbW2, hownW, HG.out, by omega⟩
                case measure => simp [intOf]; omega
              · have hs := HS2.out j z2 s2
                have HP : Hid (p r c) := (HPP.out r c).2 (by rw [q2, s3]; omega)
                simp only [q1] at hx1
                simp only [s1] at hx2
                have hj0 : decide ((j : Int) < 0) = false := decide_eq_false (by omega)
                have HX1 := Lib.hid hx1
                have HX2 := Lib.hid hx2
                clear hx1 hx2 q1 q2 s1 s2 s3 hs
                go_wp2_with fail
                refine wp_region_grow (by kernel_rfl) (by kernel_rfl) ?_
                repeat (go_big_quiet_step ((first | (go_at_call 47; first | (with_reducible exact quiet_below (HX1.out _ (hA.ext (ext_trans hbw (plus_below _ _))))) | (with_reducible exact quiet_below (HX2.out _ (hB.ext (ext_trans hbw (plus_below _ _)))))))))
                refine wpQuiet_nil ?_
                intro w1 hb1
                obtain ⟨wa, hwa'⟩ : ∃ z, z = w1 := ⟨_, rfl⟩
                subst hwa'
                have hba := hb1
                clear hb1
                have hbW := ext_trans hbr hba
                have u0 := (hba.cell (p := ⟨w.heap.size, 0, none⟩) hzr1).trans f0
                have u1 := (hba.cell (p := ⟨w.heap.size, 1, none⟩) hzr1).trans f1
                have u2 := (hba.cell (p := ⟨w.heap.size, 2, none⟩) hzr1).trans f2
                have v0 := (hba.cell (p := ⟨V0.heap.size, 0, none⟩) hzr2).trans h0
                have v1 := (hba.cell (p := ⟨V0.heap.size, 1, none⟩) hzr2).trans h1
                have v2 := (hba.cell (p := ⟨V0.heap.size, 2, none⟩) hzr2).trans h2
                have hpca := plus_cell wa
                have hzza : w.heap.size < wa.heap.size := Nat.lt_of_lt_of_le hzr1 hba.size
                have hzzb : V0.heap.size < wa.heap.size := Nat.lt_of_lt_of_le hzr2 hba.size
                go_wp2_with fail
                refine wp_region_grow (by kernel_rfl) (by kernel_rfl) ?_
                repeat (go_big_quiet_step ((first | fail)))
                refine wpQuiet_nil ?_
                intro w1 hb1
                have hbW2 := ext_trans hbW hb1
                have hownW := hown.ext (ext_trans hba hb1)
                have HF := Lib.hid (hownW.fresh (Nat.le_refl _))
                obtain ⟨L1, hL1, hBL, hzL, _, _⟩ := box_world w1 #[Value.int .i64 (r : Int), .int .i64 (c : Int)] 3
                have hlit : OwnF one 1 V1.heap.size 3 L1 (.slice (some ⟨(World.heap w1).size, 0, none⟩) 2 2) [(r : Int), (c : Int)] := hL1 ▸ OwnF.lit hbW2.size [(r : Int), (c : Int)] (by simp [maxLen])
                have hownL := hownW.ext hBL
                have HLI := Lib.hid hlit
                have hbL := ext_trans hbW2 hBL
                have hszL : V1.heap.size ≤ L1.heap.size := hbL.size
                clear hlit hownW
                go_wp2_with (at_builtin; refine wpList_append_g (y := ⟨[(r : Int), (c : Int)], some ⟨(World.heap w1).size, 0, none⟩, 2⟩) (hd := nohd) (tl := slf) rfl _ _ _ rfl V1.heap.size 0 i0 _ 24 Try.underlying32 hi hz0 hz1 hz2 rfl (fun _ => rfl) _ ys rfl rfl hownL (by decide) HLI.out (fun _ z hz hl => HF.out z hz hl) (by omega) (by decide) hszL ?_; intro v' w8 hown8 hg8 hb8)
                have hgoal := hys.out
                rw [HCU.out, rowFrom_t HP.out] at hgoal
                have HG := Lib.hid hgoal
                clear hgoal
                go_roundw
                case rel => exact ⟨c + 1, _, by omega, by go_num, hbL.trans hb8, hown8, by
                  show List.map GV.x (ys ++ [_]) ++ _ = _
                  rw [List.map_append, List.append_assoc]; exact HG.out, by simp; omega⟩
                case measure => simp [intOf]; omega
            · rcases HAT2.out r c with ⟨s1, s2⟩ | ⟨j, z2, s1, s2, s3⟩
              · have hs := HS1.out i z1 q2
                have HP : Hid (p r c) := (HPP.out r c).2 (by rw [q3, s2]; omega)
                simp only [q1] at hx1
                simp only [s1] at hx2
                have hi0' : decide ((i : Int) < 0) = false := decide_eq_false (by omega)
                have HX1 := Lib.hid hx1
                have HX2 := Lib.hid hx2
                clear hx1 hx2 q1 q2 q3 s1 s2 hs
                go_wp2_with fail
                refine wp_region_grow (by kernel_rfl) (by kernel_rfl) ?_
                repeat (go_big_quiet_step ((first | (go_at_call 47; first | (with_reducible exact quiet_below (HX1.out _ (hA.ext (ext_trans hbw (plus_below _ _))))) | (with_reducible exact quiet_below (HX2.out _ (hB.ext (ext_trans hbw (plus_below _ _)))))))))
                refine wpQuiet_nil ?_
                intro w1 hb1
                obtain ⟨wa, hwa'⟩ : ∃ z, z = w1 := ⟨_, rfl⟩
                subst hwa'
                have hba := hb1
                clear hb1
                have hbW := ext_trans hbr hba
                have u0 := (hba.cell (p := ⟨w.heap.size, 0, none⟩) hzr1).trans f0
                have u1 := (hba.cell (p := ⟨w.heap.size, 1, none⟩) hzr1).trans f1
                have u2 := (hba.cell (p := ⟨w.heap.size, 2, none⟩) hzr1).trans f2
                have v0 := (hba.cell (p := ⟨V0.heap.size, 0, none⟩) hzr2).trans h0
                have v1 := (hba.cell (p := ⟨V0.heap.size, 1, none⟩) hzr2).trans h1
                have v2 := (hba.cell (p := ⟨V0.heap.size, 2, none⟩) hzr2).trans h2
                have hpca := plus_cell wa
                have hzza : w.heap.size < wa.heap.size := Nat.lt_of_lt_of_le hzr1 hba.size
                have hzzb : V0.heap.size < wa.heap.size := Nat.lt_of_lt_of_le hzr2 hba.size
                go_wp2_with fail
                refine wp_region_grow (by kernel_rfl) (by kernel_rfl) ?_
                repeat (go_big_quiet_step ((first | fail)))
                refine wpQuiet_nil ?_
                intro w1 hb1
                have hbW2 := ext_trans hbW hb1
                have hownW := hown.ext (ext_trans hba hb1)
                have HF := Lib.hid (hownW.fresh (Nat.le_refl _))
                obtain ⟨L1, hL1, hBL, hzL, _, _⟩ := box_world w1 #[Value.int .i64 (r : Int), .int .i64 (c : Int)] 3
                have hlit : OwnF one 1 V1.heap.size 3 L1 (.slice (some ⟨(World.heap w1).size, 0, none⟩) 2 2) [(r : Int), (c : Int)] := hL1 ▸ OwnF.lit hbW2.size [(r : Int), (c : Int)] (by simp [maxLen])
                have hownL := hownW.ext hBL
                have HLI := Lib.hid hlit
                have hbL := ext_trans hbW2 hBL
                have hszL : V1.heap.size ≤ L1.heap.size := hbL.size
                clear hlit hownW
                go_wp2_with (at_builtin; refine wpList_append_g (y := ⟨[(r : Int), (c : Int)], some ⟨(World.heap w1).size, 0, none⟩, 2⟩) (hd := nohd) (tl := slf) rfl _ _ _ rfl V1.heap.size 0 i0 _ 24 Try.underlying32 hi hz0 hz1 hz2 rfl (fun _ => rfl) _ ys rfl rfl hownL (by decide) HLI.out (fun _ z hz hl => HF.out z hz hl) (by omega) (by decide) hszL ?_; intro v' w8 hown8 hg8 hb8)
                have hgoal := hys.out
                rw [HCU.out, rowFrom_t HP.out] at hgoal
                have HG := Lib.hid hgoal
                clear hgoal
                go_roundw
                case rel => exact ⟨c + 1, _, by omega, by go_num, hbL.trans hb8, hown8, by
                  show List.map GV.x (ys ++ [_]) ++ _ = _
                  rw [List.map_append, List.append_assoc]; exact HG.out, by simp; omega⟩
                case measure => simp [intOf]; omega
              · have hpp := HPP.out r c
                rw [q3, s3] at hpp
                obtain ⟨y1, o1, p1, hAe, hob1, hcl1⟩ := Fl.get' hA q2
                obtain ⟨y2, o2, p2, hBe, hob2, hcl2⟩ := Fl.get' hB s2
                subst hAe hBe
                simp only [q1] at hx1
                simp only [s1] at hx2
                have hi0' : decide ((i : Int) < 0) = false := decide_eq_false (by omega)
                have hj0 : decide ((j : Int) < 0) = false := decide_eq_false (by omega)
                have hi1 : (0 : Int) ≤ (i : Int) := by omega
                have hj1 : (0 : Int) ≤ (j : Int) := by omega
                have hi2 : (i : Int) < (n : Int) := by have := lt_of_get q2; have := HN.out; omega
                have hj2 : (j : Int) < (m : Int) := by have := lt_of_get s2; have := HM.out; omega
                have HX1 := Lib.hid hx1
                have HX2 := Lib.hid hx2
                have HPX := Lib.hid hpp
                clear hx1 hx2 q1 q2 q3 s1 s2 s3 hpp
                by_cases hzz : z1.sum = z2.sum
                · have HP : Hid (¬ p r c) := fun h => HPX.out.1 h hzz
                  have hzb : (z1.sum != z2.sum) = false := by simp [hzz]
                  clear hzz
                  go_wp2_with fail
                  refine wp_region_grow (by kernel_rfl) (by kernel_rfl) ?_
                  repeat (go_big_quiet_step ((first | (go_at_call 47; first | (with_reducible exact quiet_below (HX1.out _ (hA.ext (ext_trans hbw (plus_below _ _))))) | (with_reducible exact quiet_below (HX2.out _ (hB.ext (ext_trans hbw (plus_below _ _)))))))))
                  refine wpQuiet_nil ?_
                  intro w1 hb1
                  obtain ⟨wa, hwa'⟩ : ∃ z, z = w1 := ⟨_, rfl⟩
                  subst hwa'
                  have hba := hb1
                  clear hb1
                  have hbW := ext_trans hbr hba
                  have u0 := (hba.cell (p := ⟨w.heap.size, 0, none⟩) hzr1).trans f0
                  have u1 := (hba.cell (p := ⟨w.heap.size, 1, none⟩) hzr1).trans f1
                  have u2 := (hba.cell (p := ⟨w.heap.size, 2, none⟩) hzr1).trans f2
                  have v0 := (hba.cell (p := ⟨V0.heap.size, 0, none⟩) hzr2).trans h0
                  have v1 := (hba.cell (p := ⟨V0.heap.size, 1, none⟩) hzr2).trans h1
                  have v2 := (hba.cell (p := ⟨V0.heap.size, 2, none⟩) hzr2).trans h2
                  have hpca := plus_cell wa
                  have hzza : w.heap.size < wa.heap.size := Nat.lt_of_lt_of_le hzr1 hba.size
                  have hzzb : V0.heap.size < wa.heap.size := Nat.lt_of_lt_of_le hzr2 hba.size
                  have hxa := ext_trans hbw hba
                  have m1 : World.cell? wa ⟨o1, p1 + i * 3 + 2, none⟩ = some (.int .i64 z1.sum) := (hxa.cell (p := ⟨o1, _, none⟩) hob1).trans hcl1
                  have m2 : World.cell? wa ⟨o2, p2 + j * 3 + 2, none⟩ = some (.int .i64 z2.sum) := (hxa.cell (p := ⟨o2, _, none⟩) hob2).trans hcl2
                  have n1 : o1 < wa.heap.size := Nat.lt_of_lt_of_le hob1 hxa.size
                  have n2 : o2 < wa.heap.size := Nat.lt_of_lt_of_le hob2 hxa.size
                  go_wp2_with fail
                  refine wp_region_grow (by kernel_rfl) (by kernel_rfl) ?_
                  repeat (go_big_quiet_step ((first | fail)))
                  refine wpQuiet_nil ?_
                  intro w1 hb1
                  have hbW2 := ext_trans hbW hb1
                  have hownW := hown.ext (ext_trans hba hb1)
                  have hgoal := hys.out
                  rw [HCU.out, rowFrom_f HP.out] at hgoal
                  have HG := Lib.hid hgoal
                  clear hgoal
                  go_wp2
                  go_roundw
                  case rel => exact ⟨c + 1, ys, by omega, by go_num, hbW2, hownW, HG.out, by omega⟩
                  case measure => simp [intOf]; omega
                · have HP : Hid (p r c) := HPX.out.2 hzz
                  have hzb : (z1.sum != z2.sum) = true := by simp [hzz]
                  clear hzz
                  go_wp2_with fail
                  refine wp_region_grow (by kernel_rfl) (by kernel_rfl) ?_
                  repeat (go_big_quiet_step ((first | (go_at_call 47; first | (with_reducible exact quiet_below (HX1.out _ (hA.ext (ext_trans hbw (plus_below _ _))))) | (with_reducible exact quiet_below (HX2.out _ (hB.ext (ext_trans hbw (plus_below _ _)))))))))
                  refine wpQuiet_nil ?_
                  intro w1 hb1
                  obtain ⟨wa, hwa'⟩ : ∃ z, z = w1 := ⟨_, rfl⟩
                  subst hwa'
                  have hba := hb1
                  clear hb1
                  have hbW := ext_trans hbr hba
                  have u0 := (hba.cell (p := ⟨w.heap.size, 0, none⟩) hzr1).trans f0
                  have u1 := (hba.cell (p := ⟨w.heap.size, 1, none⟩) hzr1).trans f1
                  have u2 := (hba.cell (p := ⟨w.heap.size, 2, none⟩) hzr1).trans f2
                  have v0 := (hba.cell (p := ⟨V0.heap.size, 0, none⟩) hzr2).trans h0
                  have v1 := (hba.cell (p := ⟨V0.heap.size, 1, none⟩) hzr2).trans h1
                  have v2 := (hba.cell (p := ⟨V0.heap.size, 2, none⟩) hzr2).trans h2
                  have hpca := plus_cell wa
                  have hzza : w.heap.size < wa.heap.size := Nat.lt_of_lt_of_le hzr1 hba.size
                  have hzzb : V0.heap.size < wa.heap.size := Nat.lt_of_lt_of_le hzr2 hba.size
                  have hxa := ext_trans hbw hba
                  have m1 : World.cell? wa ⟨o1, p1 + i * 3 + 2, none⟩ = some (.int .i64 z1.sum) := (hxa.cell (p := ⟨o1, _, none⟩) hob1).trans hcl1
                  have m2 : World.cell? wa ⟨o2, p2 + j * 3 + 2, none⟩ = some (.int .i64 z2.sum) := (hxa.cell (p := ⟨o2, _, none⟩) hob2).trans hcl2
                  have n1 : o1 < wa.heap.size := Nat.lt_of_lt_of_le hob1 hxa.size
                  have n2 : o2 < wa.heap.size := Nat.lt_of_lt_of_le hob2 hxa.size
                  go_wp2_with fail
                  refine wp_region_grow (by kernel_rfl) (by kernel_rfl) ?_
                  repeat (go_big_quiet_step ((first | fail)))
                  refine wpQuiet_nil ?_
                  intro w1 hb1
                  have hbW2 := ext_trans hbW hb1
                  have hownW := hown.ext (ext_trans hba hb1)
                  have HF := Lib.hid (hownW.fresh (Nat.le_refl _))
                  obtain ⟨L1, hL1, hBL, hzL, _, _⟩ := box_world w1 #[Value.int .i64 (r : Int), .int .i64 (c : Int)] 3
                  have hlit : OwnF one 1 V1.heap.size 3 L1 (.slice (some ⟨(World.heap w1).size, 0, none⟩) 2 2) [(r : Int), (c : Int)] := hL1 ▸ OwnF.lit hbW2.size [(r : Int), (c : Int)] (by simp [maxLen])
                  have hownL := hownW.ext hBL
                  have HLI := Lib.hid hlit
                  have hbL := ext_trans hbW2 hBL
                  have hszL : V1.heap.size ≤ L1.heap.size := hbL.size
                  clear hlit hownW
                  go_wp2_with (at_builtin; refine wpList_append_g (y := ⟨[(r : Int), (c : Int)], some ⟨(World.heap w1).size, 0, none⟩, 2⟩) (hd := nohd) (tl := slf) rfl _ _ _ rfl V1.heap.size 0 i0 _ 24 Try.underlying32 hi hz0 hz1 hz2 rfl (fun _ => rfl) _ ys rfl rfl hownL (by decide) HLI.out (fun _ z hz hl => HF.out z hz hl) (by omega) (by decide) hszL ?_; intro v' w8 hown8 hg8 hb8)
                  have hgoal := hys.out
                  rw [HCU.out, rowFrom_t HP.out] at hgoal
                  have HG := Lib.hid hgoal
                  clear hgoal
                  go_roundw
                  case rel => exact ⟨c + 1, _, by omega, by go_num, hbL.trans hb8, hown8, by
                    show List.map GV.x (ys ++ [_]) ++ _ = _
                    rw [List.map_append, List.append_assoc]; exact HG.out, by simp; omega⟩
                  case measure => simp [intOf]; omega
          · have hcC : c = C := by omega
            subst hcC
            have hg2 := hys.out
            rw [Nat.sub_self] at hg2
            have HG2 := Lib.hid hg2
            clear hg2 hys
            go_wp2
            go_roundw
            case rel => exact ⟨r + 1, ys, by omega, by go_num, hbr, hown, HG2.out, by omega⟩
            case measure => simp [intOf]; omega
      · have hrR : r = R := by omega
        subst hrR
        have hg3 := hys.out
        rw [Nat.sub_self, gridFrom, List.append_nil] at hg3
        have HG3 := Lib.hid hg3
        clear hg3 hys
        go_wp2
        go_ret2
        obtain ⟨B', d', hv, hF⟩ := (hown.from_ hw1).form (fun _ => rfl) (by decide)
        rw [HG3.out] at hv hF
        exact ⟨B', d', by rw [hv]; rfl, hF, ext_trans hB1 hbr⟩
  · rw [tb_f h, sel_f h]
    rw [tb_f h] at hsc
    have HSC := Lib.hid hsc
    clear hsc hsd h hgr
    go_enter Try.func11, Try.ntmps11
    go_wp2_with fail
    ((with_reducible refine (HSC.out).mono ?_); rintro e w1 ⟨rfl, hb1⟩)
    go_wp2
    go_ret2
    exact ⟨_, 0, rfl, GlO.nil, ext_trans hB2 hb1⟩
end Go.Proofs.Ytjacadkbkkkgfaa
