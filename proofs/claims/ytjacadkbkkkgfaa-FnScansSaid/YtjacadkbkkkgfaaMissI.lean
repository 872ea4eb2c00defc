/- MissingTiles: the program's side. -/
import Derived.Test.YtjacadkbkkkgfaaScanG
namespace Go.Proofs.Ytjacadkbkkkgfaa
open Go.RowKit
set_option linter.unusedVariables false
set_option linter.unusedSimpArgs false

set_option maxHeartbeats 2000000 in
set_option maxRecDepth 100000 in
theorem placesM_any (rows cols : Int) (v : Value) (hv : v.oneCell' = true) (p : Int → Int → Prop) (b1 : Nat) (w : World) (hs : Side rows cols)
    (hcall : ∀ (W : World) (r c : Int), Below w.heap.size w W → 0 ≤ r → r < rows → 0 ≤ c → c < cols → Calls Try.prog 62 #[.int .i64 r, .int .i64 c, .pointer (some ⟨b1, 0, none⟩)] W fun e w' => e = .returned (.bool (tb (p r c))) ∧ Below W.heap.size W w') :
    Calls Try.prog 44 #[.agg #[.int .i64 rows, .int .i64 cols, v], .func (.func 62) #[] #[.pointer (some ⟨b1, 0, none⟩)]] w (RetG w (gridS p rows cols)) := by
  obtain ⟨i0, hi, hz0, hz1, hz2⟩ := info_parts infoRows
  obtain ⟨s1, s2, s3, s4⟩ := hs
  obtain ⟨R, hR⟩ : ∃ R : Nat, rows = (R : Int) := ⟨rows.toNat, by omega⟩
  obtain ⟨C, hC⟩ : ∃ C : Nat, cols = (C : Int) := ⟨cols.toNat, by omega⟩
  subst hR hC
  obtain ⟨V0, hV0, hBV0, hzV0, hcV0, _⟩ := box_world w #[Value.int .i64 (R : Int), Value.int .i64 (C : Int), v] 26
  have e0 : World.cell? V0 ⟨w.heap.size, 0, none⟩ = some (.int .i64 (R : Int)) := hcV0 0
  have e1 : World.cell? V0 ⟨w.heap.size, 1, none⟩ = some (.int .i64 (C : Int)) := hcV0 1
  have hzw0 : w.heap.size ≤ V0.heap.size := hBV0.size
  have HC := Lib.hid hcall
  have hG0 : gridFrom p C R 0 = gridS p (R : Int) (C : Int) := by simp [gridS]
  generalize gridS p (R : Int) (C : Int) = G at hG0 ⊢
  have HG0 := Lib.hid hG0
  clear hcall hcV0 hG0
  go_enter Try.func44, Try.ntmps44
  go_wp2
  go_loopw [5, 10] (fun v i wr => ∃ (r : Nat) (ys : List (GV (List Int))), r ≤ R ∧ i = .int .i64 r ∧ Below V0.heap.size V0 wr ∧ OwnG nohd slf 0 V0.heap.size 50 3 wr v ys ∧ Hid (ys.map GV.x ++ gridFrom p C (R - r) r = G) ∧ ys.length ≤ 6 * r) (fun _ i _ => R - (intOf i).toNat)
  case atStart => exact ⟨0, [], by omega, rfl, Below.refl _ _, OwnG.none_, HG0, by simp⟩
  case round =>
    obtain ⟨r, ys, hr, rfl, hbr, hown, hys, hyl⟩ := hrel
    have hzr := hbr.size
    have f0 := (hbr.cell (p := ⟨w.heap.size, 0, none⟩) hzV0).trans e0
    have f1 := (hbr.cell (p := ⟨w.heap.size, 1, none⟩) hzV0).trans e1
    by_cases hlr : r < R
    · have hru : R - r = (R - r - 1) + 1 := by omega
      have hg1 := hys.out
      rw [hru, gridFrom] at hg1
      have HG1 := Lib.hid hg1
      have hr0 : (0 : Int) ≤ (r : Int) := by omega
      have hr1 : (r : Int) < (R : Int) := by omega
      clear hys hg1 hru
      go_wp2
      obtain ⟨wo, hwo⟩ : ∃ z, z = wr := ⟨_, rfl⟩
      subst hwo
      go_loopw [5, 15] (fun v i wr => ∃ (c : Nat) (ys : List (GV (List Int))), c ≤ C ∧ i = .int .i64 c ∧ Below V0.heap.size V0 wr ∧ OwnG nohd slf 0 V0.heap.size 50 3 wr v ys ∧ Hid (ys.map GV.x ++ (rowFrom p r (C - c) c ++ gridFrom p C (R - r - 1) ((r : Int) + 1)) = G) ∧ ys.length ≤ 6 * r + c) (fun _ i _ => C - (intOf i).toNat)
      case atStart => exact ⟨0, ys, by omega, rfl, hbr, hown, HG1.out, by omega⟩
      case round =>
        clear hyl HG1 hown hbr
        obtain ⟨c, ys, hc, rfl, hbr, hown, hys, hyl⟩ := hrel
        have hzr := hbr.size
        have f0 := (hbr.cell (p := ⟨w.heap.size, 0, none⟩) hzV0).trans e0
        have f1 := (hbr.cell (p := ⟨w.heap.size, 1, none⟩) hzV0).trans e1
        by_cases hlc : c < C
        · have HCU : Hid (C - c = (C - (c + 1)) + 1) := (by omega : C - c = (C - (c + 1)) + 1)
          have hc0 : (0 : Int) ≤ (c : Int) := by omega
          have hc1 : (c : Int) < (C : Int) := by omega
          have hcl := HC.out wr r c (ext_trans hBV0 hbr) hr0 hr1 hc0 hc1
          have HCL := Lib.hid hcl
          clear hcl
          go_wp2_with fail
          ((with_reducible refine (HCL.out).mono ?_); rintro e w1 ⟨rfl, hb1⟩)
          have hbW := ext_trans hbr hb1
          by_cases hP : p r c
          · rw [tb_t hP]
            have HP := Lib.hid hP
            clear hP
            have hownW := hown.ext hb1
            have HF := Lib.hid (hownW.fresh (Nat.le_refl _))
            obtain ⟨L1, hL1, hBL, hzL, _, _⟩ := box_world w1 #[Value.int .i64 (r : Int), .int .i64 (c : Int)] 3
            have hlit : OwnF one 1 V0.heap.size 3 L1 (.slice (some ⟨(World.heap w1).size, 0, none⟩) 2 2) [(r : Int), (c : Int)] := hL1 ▸ OwnF.lit hbW.size [(r : Int), (c : Int)] (by simp [maxLen])
            have hownL := hownW.ext hBL
            have HLI := Lib.hid hlit
            have hbL := ext_trans hbW hBL
            have hszL : V0.heap.size ≤ L1.heap.size := hbL.size
            clear hlit hownW
            go_wp2_with (at_builtin; refine wpList_append_g (y := ⟨[(r : Int), (c : Int)], some ⟨(World.heap w1).size, 0, none⟩, 2⟩) (hd := nohd) (tl := slf) rfl _ _ _ rfl V0.heap.size 0 i0 _ 24 Try.underlying32 hi hz0 hz1 hz2 rfl (fun _ => rfl) _ ys rfl rfl hownL (by decide) HLI.out (fun _ z hz hl => HF.out z hz hl) (by omega) (by decide) hszL ?_; intro v' w8 hown8 hg8 hb8)
            have hgoal := hys.out
            rw [HCU.out, rowFrom_t HP.out] at hgoal
            have HG := Lib.hid hgoal
            clear hgoal
            go_roundw
            case rel => exact ⟨c + 1, _, by omega, by go_num, hbL.trans hb8, hown8, by
              show List.map GV.x (ys ++ [_]) ++ _ = _
              rw [List.map_append, List.append_assoc]; exact HG.out, by simp; omega⟩
            case measure => simp [intOf]; omega
          · rw [tb_f hP]
            have HP := Lib.hid hP
            clear hP
            have hownW := hown.ext hb1
            have hgoal := hys.out
            rw [HCU.out, rowFrom_f HP.out] at hgoal
            have HG := Lib.hid hgoal
            clear hgoal
            go_wp2
            go_roundw
            case rel => exact ⟨c + 1, ys, by omega, by go_num, hbW, hownW, HG.out, by omega⟩
            case measure => simp [intOf]; omega
        · have hcC : c = C := by omega
          subst hcC
          have hg2 := hys.out
          rw [Nat.sub_self] at hg2
          have HG2 := Lib.hid hg2
          clear hg2 hys
          go_wp2
          go_roundw
          case rel => exact ⟨r + 1, ys, by omega, by go_num, hbr, hown, HG2.out, by omega⟩
          case measure => simp [intOf]; omega
    · have hrR : r = R := by omega
      subst hrR
      have hg3 := hys.out
      rw [Nat.sub_self, gridFrom, List.append_nil] at hg3
      have HG3 := Lib.hid hg3
      clear hg3 hys
      go_wp2
      go_ret
      obtain ⟨B, d, hv, hF⟩ := (hown.from_ hzw0).form (fun _ => rfl) (by decide)
      rw [HG3.out] at hv hF
      exact ⟨B, d, by rw [hv]; rfl, hF, ext_trans hBV0 hbr⟩
set_option maxHeartbeats 1000000 in
theorem missC_any (rows cols : Int) (A : Option Addr) (c : Nat) (xs : List Tile) (r k : Int) (b1 : Nat) (w : World) (hn : xs.length ≤ 1048576) (hA : Fl Tile.ints 3 w A xs)
    (hz1 : b1 < w.heap.size) (h0 : w.cell? ⟨b1, 0, none⟩ = some (.int .i64 rows)) (h1 : w.cell? ⟨b1, 1, none⟩ = some (.int .i64 cols)) (h2 : w.cell? ⟨b1, 2, none⟩ = some (.slice A xs.length c)) :
    Calls Try.prog 62 #[.int .i64 r, .int .i64 k, .pointer (some ⟨b1, 0, none⟩)] w fun e w' => e = .returned (.bool (tb (missP xs r k))) ∧ Below w.heap.size w w' := by
  have hsm := sumAtM_any rows cols A c xs r k w hn hA
  have hmp : missP xs r k ↔ sumAt r k xs < 0 := Iff.rfl
  generalize sumAt r k xs = S at hsm hmp
  generalize missP xs r k = Q at hmp ⊢
  generalize xs.length = n at *
  have HS := Lib.hid hsm
  have HQ := Lib.hid hmp
  clear hsm hmp hA
  by_cases h : S < 0
  · rw [tb_t (HQ.out.2 h)]
    go_enter Try.func62, Try.ntmps62
    go_wp2_with fail
    ((with_reducible refine (HS.out).mono ?_); rintro e w1 ⟨rfl, hb1⟩)
    go_wp2
    go_ret
    exact ⟨ret_bool (by first | rfl | (simp; omega)), hb1⟩
  · rw [tb_f (fun q => h (HQ.out.1 q))]
    go_enter Try.func62, Try.ntmps62
    go_wp2_with fail
    ((with_reducible refine (HS.out).mono ?_); rintro e w1 ⟨rfl, hb1⟩)
    go_wp2
    go_ret
    exact ⟨ret_bool (by first | rfl | (simp; omega)), hb1⟩
set_option maxHeartbeats 1000000 in
set_option maxRecDepth 100000 in
theorem missingTiles_any (rows cols : Int) (A : Option Addr) (c : Nat) (xs : List Tile) (w : World) (hn : xs.length ≤ 1048576) (hA : Fl Tile.ints 3 w A xs) :
    Calls Try.prog 23 #[.agg #[.int .i64 rows, .int .i64 cols, .slice A xs.length c]] w (RetS w (sel (Scn rows cols xs) (gridS (missP xs) rows cols)) (tb (Scn rows cols xs))) := by
  obtain ⟨V0, hV0, hBV0, hzV0, hcV0, _⟩ := box_world w #[Value.int .i64 rows, Value.int .i64 cols, .slice A xs.length c] 26
  have e0 : World.cell? V0 ⟨(World.heap w).size, 0, none⟩ = some (.int .i64 rows) := hcV0 0
  have e1 : World.cell? V0 ⟨(World.heap w).size, 1, none⟩ = some (.int .i64 cols) := hcV0 1
  have e2 : World.cell? V0 ⟨(World.heap w).size, 2, none⟩ = some (.slice A xs.length c) := hcV0 2
  clear hcV0
  have hmf : ∀ (fn : Fn) (first cap : Array Value) (w : World), (Instr.makeFunc fn first cap).run Try.prog w = .ok (.func fn first cap) w := fun _ _ _ _ => rfl
  have hsc := isScan_any rows cols A c xs V0 (by omega) (hA.ext hBV0)
  have hpl := fun (h : Side rows cols) W (hW : Below V0.heap.size V0 W) => placesM_any rows cols (.slice A xs.length c) rfl (missP xs) w.heap.size W h (fun V r k hV _ _ _ _ => missC_any rows cols A c xs r k w.heap.size V hn (((hA.ext hBV0).ext hW).ext hV) (Nat.lt_of_lt_of_le hzV0 (Nat.le_trans hW.size hV.size)) ((hV.cell (p := ⟨w.heap.size, 0, none⟩) (Nat.lt_of_lt_of_le hzV0 hW.size)).trans ((hW.cell (p := ⟨w.heap.size, 0, none⟩) hzV0).trans e0)) ((hV.cell (p := ⟨w.heap.size, 1, none⟩) (Nat.lt_of_lt_of_le hzV0 hW.size)).trans ((hW.cell (p := ⟨w.heap.size, 1, none⟩) hzV0).trans e1)) ((hV.cell (p := ⟨w.heap.size, 2, none⟩) (Nat.lt_of_lt_of_le hzV0 hW.size)).trans ((hW.cell (p := ⟨w.heap.size, 2, none⟩) hzV0).trans e2)))
  have hsd : Scn rows cols xs → Side rows cols := fun h => h.2
  generalize gridS (missP xs) rows cols = G at hpl ⊢
  generalize Side rows cols = SD at hpl hsd
  generalize Scn rows cols xs = Q at hsc hsd ⊢
  generalize xs.length = n at *
  have HS := Lib.hid hsc
  have HP := Lib.hid hpl
  have HD := Lib.hid hsd
  clear hsc hpl hsd
  by_cases h : Q
  · rw [tb_t h, sel_t h]
    have hs := HS.out
    rw [tb_t h] at hs
    have HS2 := Lib.hid hs
    have H := Lib.hid h
    clear hs h HS
    go_enter Try.func23, Try.ntmps23
    go_wp2_with fail
    ((with_reducible refine (HS2.out).mono ?_); rintro e w1 ⟨rfl, hb1⟩)
    have g0 := (hb1.cell (p := ⟨w.heap.size, 0, none⟩) hzV0).trans e0
    have g1 := (hb1.cell (p := ⟨w.heap.size, 1, none⟩) hzV0).trans e1
    have g2 := (hb1.cell (p := ⟨w.heap.size, 2, none⟩) hzV0).trans e2
    go_wp2_with fail
    ((with_reducible refine (HP.out (HD.out H.out) w1 hb1).mono ?_); rintro e w2 ⟨B, d, rfl, hF, hb2⟩)
    have hx := ext_trans hBV0 hb1
    go_wp2
    go_ret2
    exact ⟨B, d, rfl, hF.mono hx.size (Nat.le_refl _), ext_trans hx hb2⟩
  · rw [tb_f h, sel_f h]
    have hs := HS.out
    rw [tb_f h] at hs
    have HS2 := Lib.hid hs
    clear hs h HS
    go_enter Try.func23, Try.ntmps23
    go_wp2_with fail
    ((with_reducible refine (HS2.out).mono ?_); rintro e w1 ⟨rfl, hb1⟩)
    go_wp2
    go_ret2
    exact ⟨none, 0, rfl, GlO.nil, ext_trans hBV0 hb1⟩
end Go.Proofs.Ytjacadkbkkkgfaa
