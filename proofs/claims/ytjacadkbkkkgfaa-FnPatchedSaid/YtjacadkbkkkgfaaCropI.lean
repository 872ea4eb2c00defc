/- CropScan: the program's side. -/
import Derived.Test.YtjacadkbkkkgfaaFamTile
import Derived.Test.YtjacadkbkkkgfaaScanV
namespace Go.Proofs.Ytjacadkbkkkgfaa
open Go.RowKit
set_option linter.unusedVariables false
set_option linter.unusedSimpArgs false

set_option maxHeartbeats 4000000 in
set_option maxRecDepth 100000 in
theorem cropScan_any (R C : Int) (A : Option Addr) (cc : Nat) (xs : List Tile) (row col rows cols : Int) (w : World) (hn : xs.length ≤ 1048576) (hA : Fl Tile.ints 3 w A xs) :
    Calls Try.prog 17 #[.agg #[.int .i64 R, .int .i64 C, .slice A xs.length cc], .int .i64 row, .int .i64 col, .int .i64 rows, .int .i64 cols] w (RetSc w (seli (CropOk R C xs row col rows cols) rows) (seli (CropOk R C xs row col rows cols) cols) (sel (CropOk R C xs row col rows cols) (cropL row col rows cols xs)) (tb (CropOk R C xs row col rows cols))) := by
  obtain ⟨i0, hi, hz0, hz1, hz2⟩ := info_parts infoTile
  obtain ⟨V0, hV0, hBV0, hzV0, hcV0, _⟩ := box_world w #[Value.int .i64 R, Value.int .i64 C, .slice A xs.length cc] 26
  have g0 : World.cell? V0 ⟨(World.heap w).size, 0, none⟩ = some (.int .i64 R) := hcV0 0
  have g1 : World.cell? V0 ⟨(World.heap w).size, 1, none⟩ = some (.int .i64 C) := hcV0 1
  have g2 : World.cell? V0 ⟨(World.heap w).size, 2, none⟩ = some (.slice A xs.length cc) := hcV0 2
  clear hcV0
  obtain ⟨V1, hV1, hBV1, hzV1, _, _⟩ := box_world V0 #[Value.int .i64 0, .int .i64 0, .slice none 0 0] 26
  have hres : Var3 V1 V0.heap.size (.int .i64 0) (.int .i64 0) (.slice none 0 0) := hV1 ▸ var3_box V0 _ _ _ _
  have e0 := (hBV1.cell (p := ⟨w.heap.size, 0, none⟩) hzV0).trans g0
  have e1 := (hBV1.cell (p := ⟨w.heap.size, 1, none⟩) hzV0).trans g1
  have e2 := (hBV1.cell (p := ⟨w.heap.size, 2, none⟩) hzV0).trans g2
  have hB1 := ext_trans hBV0 hBV1
  have hza : w.heap.size < V1.heap.size := Nat.lt_of_lt_of_le hzV0 hBV1.size
  have hsc := isScan_any R C A cc xs V1 (by omega) (hA.ext hB1)
  have hsd : Scn R C xs → Side R C := fun h => h.2
  have hto : Scn R C xs → ∀ (i : Nat) (z : Tile), xs[i]? = some z → 0 ≤ z.row ∧ z.row ≤ 5 ∧ 0 ≤ z.col ∧ z.col ≤ 5 ∧ 0 ≤ z.sum ∧ z.sum ≤ 65520 := fun h i z hz => by
    have h1 := h.1.1 i z hz
    have h2 := h.2
    unfold TileOk at h1
    unfold Side at h2
    omega
  have hq := cropOk_iff R C xs row col rows cols
  generalize CropOk R C xs row col rows cols = Q at hq ⊢
  generalize Scn R C xs = P1 at hsc hsd hto hq
  obtain ⟨n, hnn⟩ : ∃ n, n = List.length xs := ⟨_, rfl⟩
  rw [← hnn] at hV0 g2 e2 hsc hn
  have HN := Lib.hid hnn
  have HQ := Lib.hid hq
  have HTO := Lib.hid hto
  have HRES := Lib.hid hres
  clear hq hnn hto hres
  rw [← HN.out]
  have HSC := Lib.hid hsc
  clear hsc
  go_enter Try.func17, Try.ntmps17
  go_wp2_with fail
  ((with_reducible refine (HSC.out).mono ?_); rintro e w1 ⟨rfl, hb1⟩)
  have pa0 := (hb1.cell (p := ⟨w.heap.size, 0, none⟩) hza).trans e0
  have pa1 := (hb1.cell (p := ⟨w.heap.size, 1, none⟩) hza).trans e1
  have pa2 := (hb1.cell (p := ⟨w.heap.size, 2, none⟩) hza).trans e2
  have hzpa : w.heap.size < w1.heap.size := Nat.lt_of_lt_of_le hza hb1.size
  by_cases h1 : P1
  · rw [tb_t h1]
    have hside := hsd h1
    unfold Side at hside
    obtain ⟨s1, s2, s3, s4⟩ := hside
    have K1 := Lib.hid h1
    clear h1 hsd
    by_cases h2 : 1 ≤ rows ∧ rows ≤ 6
    · go_wp2_with fail
      ((with_reducible refine (isSide_t rows w1 h2).mono ?_); rintro e w9 ⟨rfl, rfl⟩)
      have K2 := Lib.hid h2
      obtain ⟨x1a, x1b⟩ := h2
      by_cases h3 : 1 ≤ cols ∧ cols ≤ 6
      · go_wp2_with fail
        ((with_reducible refine (isSide_t cols w1 h3).mono ?_); rintro e w9 ⟨rfl, rfl⟩)
        have K3 := Lib.hid h3
        obtain ⟨x2a, x2b⟩ := h3
        go_wp2_with fail
        ((with_reducible refine (hasScan_any R C row col (.slice A n cc) w1 rfl).mono ?_); rintro e w4 ⟨rfl, hb4⟩)
        have pd0 := (hb4.cell (p := ⟨w.heap.size, 0, none⟩) hzpa).trans pa0
        have pd1 := (hb4.cell (p := ⟨w.heap.size, 1, none⟩) hzpa).trans pa1
        have pd2 := (hb4.cell (p := ⟨w.heap.size, 2, none⟩) hzpa).trans pa2
        have hzpd : w.heap.size < w4.heap.size := Nat.lt_of_lt_of_le hzpa hb4.size
        by_cases h4 : hasW R C row col
        · rw [tb_t h4]
          have K4 := Lib.hid h4
          have hu4 := h4
          unfold hasW at hu4
          rw [dec_eq (n := R) (by omega), dec_eq (n := C) (by omega)] at hu4
          obtain ⟨x3a, x3b, x3c, x3d⟩ := hu4
          clear h4
          go_wp2_with fail
          ((with_reducible refine (hasScan_any R C (row + rows - 1) (col + cols - 1) (.slice A n cc) w4 rfl).mono ?_); rintro e w5 ⟨rfl, hb5⟩)
          have pe0 := (hb5.cell (p := ⟨w.heap.size, 0, none⟩) hzpd).trans pd0
          have pe1 := (hb5.cell (p := ⟨w.heap.size, 1, none⟩) hzpd).trans pd1
          have pe2 := (hb5.cell (p := ⟨w.heap.size, 2, none⟩) hzpd).trans pd2
          have hzpe : w.heap.size < w5.heap.size := Nat.lt_of_lt_of_le hzpd hb5.size
          by_cases h5 : hasW R C (row + rows - 1) (col + cols - 1)
          · rw [tb_t h5]
            have K5 := Lib.hid h5
            have hu5 := h5
            unfold hasW at hu5
            rw [dec_eq (n := R) (by omega), dec_eq (n := C) (by omega)] at hu5
            obtain ⟨x4a, x4b, x4c, x4d⟩ := hu5
            clear h5
            have hQ : Hid Q := HQ.out.2 ⟨K1.out, K2.out, K3.out, K4.out, K5.out⟩
            have hbk := ext_trans hB1 (ext_trans (ext_trans hb1 hb4) hb5)
            have hrs := HRES.out.ext (ext_trans (ext_trans hb1 hb4) hb5)
            obtain ⟨Vg, hVg, hBVg, hzVg, _, _⟩ := box_world w5 #[Value.int .i64 rows, .int .i64 cols, .slice none 0 0] 26
            have hout : Var3 Vg (World.heap w5).size (.int .i64 rows) (.int .i64 cols) (.slice none 0 0) := hVg ▸ var3_box w5 _ _ _ _
            obtain ⟨g, hg⟩ : ∃ g, g = (World.heap w5).size := ⟨_, rfl⟩
            have hrlt := hrs.lt
            have hrs2 := hrs.ext hBVg
            rw [← hg] at hout hzVg hrlt
            have m0 := (hBVg.cell (p := ⟨w.heap.size, 0, none⟩) hzpe).trans pe0
            have m1 := (hBVg.cell (p := ⟨w.heap.size, 1, none⟩) hzpe).trans pe1
            have m2 := (hBVg.cell (p := ⟨w.heap.size, 2, none⟩) hzpe).trans pe2
            have hzw9 : w.heap.size < Vg.heap.size := Nat.lt_of_lt_of_le hzpe hBVg.size
            have hwg : w.heap.size < g := by omega
            have HTO2 := Lib.hid (HTO.out K1.out)
            have HRS := Lib.hid hrs2
            have HOUT := Lib.hid hout
            have HG := Lib.hid hg
            have HVG := Lib.hid hVg
            clear hrs hrs2 hout hVg hg
            go_wp2
            rw [HVG.out, ← HG.out]
            go_loopw [55] (fun i wr => ∃ (k : Nat) (v : Value), k ≤ n ∧ i = .int .i64 k ∧ Below g Vg wr ∧ Var3 wr g (.int .i64 rows) (.int .i64 cols) v ∧ OwnF Tile.ints 3 Vg.heap.size 39 wr v (cropL row col rows cols (xs.take k))) (fun i _ => n - (intOf i).toNat)
            case atStart => exact ⟨0, _, by omega, rfl, Below.refl _ _, HOUT.out, OwnF.none_⟩
            case round =>
              obtain ⟨k, v, hk, rfl, hT, hv3, hown⟩ := hrel
              have hbr : Below w.heap.size w wr := (ext_trans hbk hBVg).trans (hT.mono (by omega))
              have hgr := hT.size
              have n0 := (hT.cell (p := ⟨w.heap.size, 0, none⟩) hwg).trans m0
              have n1 := (hT.cell (p := ⟨w.heap.size, 1, none⟩) hwg).trans m1
              have n2 := (hT.cell (p := ⟨w.heap.size, 2, none⟩) hwg).trans m2
              have hzw : w.heap.size < wr.heap.size := Nat.lt_of_lt_of_le hzw9 hgr
              have q0 := hv3.c0
              have q1 := hv3.c1
              have q2 := hv3.c2
              have qz := hv3.fz
              have qlt := hv3.lt
              by_cases hlt : k < n
              · obtain ⟨x, bb, o, hx, hAe, hbb, hc⟩ := (hA.ext hbr).at_ (k := k) (by rw [← HN.out]; exact hlt)
                have c0 : World.cell? wr ⟨bb, o + k * 3, none⟩ = some (.int .i64 x.row) := hc 0 _ rfl
                have c1 : World.cell? wr ⟨bb, o + k * 3 + 1, none⟩ = some (.int .i64 x.col) := hc 1 _ rfl
                have c2 : World.cell? wr ⟨bb, o + k * 3 + 2, none⟩ = some (.int .i64 x.sum) := hc 2 _ rfl
                obtain ⟨t1, t2, t3, t4, t5, t6⟩ := HTO2.out k x hx
                have hlen : (cropL row col rows cols (xs.take k)).length ≤ 1048576 := Nat.le_trans (cropL_len _ _ _ _ _) (by rw [List.length_take, ← HN.out]; omega)
                have HT := Lib.hid (take_get hx)
                obtain ⟨U, hU, hBU, hzU, hu, _⟩ := box_world wr #[Value.int .i64 (x.row - row), .int .i64 (x.col - col), .int .i64 x.sum] 39
                have u0 : World.cell? U ⟨wr.heap.size, 0, none⟩ = some (.int .i64 (x.row - row)) := hu 0
                have u1 : World.cell? U ⟨wr.heap.size, 1, none⟩ = some (.int .i64 (x.col - col)) := hu 1
                have u2 : World.cell? U ⟨wr.heap.size, 2, none⟩ = some (.int .i64 x.sum) := hu 2
                have hv3U := hv3.ext hBU
                have y0 := hv3U.c0
                have y1 := hv3U.c1
                have y2 := hv3U.c2
                obtain ⟨B0, d0, hvv, _⟩ := hown.form (fun _ => rfl)
                have hownU := hown.ext hBU
                subst hAe hvv
                have hcall := hasScan_any rows cols (x.row - row) (x.col - col) (.slice B0 (cropL row col rows cols (xs.take k)).length d0) U rfl
                have hins : hasW rows cols (x.row - row) (x.col - col) ↔ InS rows cols (shiftT row col x) := by
                  unfold hasW InS shiftT
                  rw [dec_eq (n := rows) (by omega), dec_eq (n := cols) (by omega)]
                  simp only
                  omega
                rw [tb_iff hins] at hcall
                have HC := Lib.hid hcall
                have HV3 := Lib.hid hv3U
                have HOW := Lib.hid hownU
                have hTU : Below g Vg U := hT.trans (hBU.mono (by omega))
                clear hc hx hu hcall hins hv3 hown hv3U hownU hT
                have hk0 : (0 : Int) ≤ (k : Int) := by omega
                have hk1 : (k : Int) < (n : Int) := by omega
                go_wp2_with fail
                ((with_reducible refine (HC.out).mono ?_); rintro e w8 ⟨rfl, hb8⟩)
                have hv8 := HV3.out.ext hb8
                have hown8 := HOW.out.ext hb8
                have hT8 := hTU.trans (hb8.mono (by omega))
                have z0 := (hb8.cell (p := ⟨wr.heap.size, 0, none⟩) hzU).trans u0
                have z1 := (hb8.cell (p := ⟨wr.heap.size, 1, none⟩) hzU).trans u1
                have z2 := (hb8.cell (p := ⟨wr.heap.size, 2, none⟩) hzU).trans u2
                have hzU8 : wr.heap.size < w8.heap.size := Nat.lt_of_lt_of_le hzU hb8.size
                have x0 := hv8.c0
                have x1 := hv8.c1
                have x2 := hv8.c2
                have xlt := hv8.lt
                by_cases hP : InS rows cols (shiftT row col x)
                · rw [tb_t hP]
                  have HP := Lib.hid hP
                  have HV8 := Lib.hid hv8
                  have HT8 := Lib.hid hT8
                  have hsz8 := hT8.size
                  clear hP hv8 hT8
                  go_wp2_with (at_builtin; refine wpList_append_flat (f := Tile.ints) (y := shiftT row col x) rfl _ _ _ rfl Vg.heap.size i0 _ 3 24 Try.underlying24 hi hz0 hz1 hz2 rfl (by decide) _ _ rfl rfl hown8 rfl ?_ (by decide) ?_ ?_; omega; exact hsz8; intro v' w7 hown7 hg7 hb7; (obtain ⟨L, hL⟩ : ∃ L, L = cropL row col rows cols (xs.take k) ++ [shiftT row col x] := ⟨_, rfl⟩); rw [← hL] at hown7; (obtain ⟨B7, d7, hv7, _⟩ := hown7.form (fun _ => rfl)); subst hv7; have HL := Lib.hid hL; clear hL; have hv7 := HV8.out.below hb7 hzVg; have f0 := hv7.c0; have f1 := hv7.c1; have f2 := hv7.c2; have fz := hv7.fz; have flt := hv7.lt; have HV7 := Lib.hid hv7; have HOW7 := Lib.hid hown7; clear hv7 hown7)
                  go_roundw
                  case rel => exact ⟨k + 1, _, by omega, by go_num, below_set (HT8.out.trans (hb7.mono (Nat.le_of_lt hzVg))) ⟨g, 2, none⟩ _ (Nat.le_refl g), HV7.out.set2 _, by
                    rw [HT.out, cropL_t HP.out, ← HL.out]
                    exact HOW7.out.touch (Touch.of_set w7 ⟨g, 2, none⟩ _ (Nat.le_refl g) (Nat.lt_succ_self g)) (by omega)⟩
                  case measure => simp [intOf]; omega
                · rw [tb_f hP]
                  have HP := Lib.hid hP
                  clear hP
                  go_wp2
                  go_roundw
                  case rel => exact ⟨k + 1, _, by omega, by go_num, hT8, hv8, by rw [HT.out, cropL_f HP.out]; exact hown8⟩
                  case measure => simp [intOf]; omega
              · have hkn : k = n := by omega
                subst hkn
                rw [take_all (by rw [← HN.out]; exact Nat.le_refl _)] at hown
                obtain ⟨B9, d9, hv9, hF9⟩ := hown.form (fun _ => rfl)
                have hrr := HRS.out.below hT (by omega)
                have r0 := hrr.c0
                have r1 := hrr.c1
                have r2 := hrr.c2
                have rz := hrr.fz
                have rlt := hrr.lt
                have HF9 := Lib.hid hF9
                subst hv9
                clear hown hF9 hA
                go_wp2
                rw [seli_t hQ.out, seli_t hQ.out, sel_t hQ.out, tb_t hQ.out]
                refine bodyPost_ret (v := .tuple #[.agg #[.int .i64 rows, .int .i64 cols, .slice B9 (cropL row col rows cols xs).length d9], .bool true]) (by simp [results, Try.results17, go_sem, r0, r1, r2, rlt]) rfl ⟨B9, d9, rfl, ?_, ?_⟩
                · exact (HF9.out.touch (set3_touch wr V0.heap.size _ _ _) (by omega)).mono (by omega) (by simp [setCell_size])
                · exact (set3_touch wr V0.heap.size _ _ _).below hbr (Nat.le_of_lt hzV0)
          · rw [tb_f h5]
            have K5 := Lib.hid h5
            clear h5
            have hnq : Hid (¬ Q) := fun q => K5.out (HQ.out.1 q).2.2.2.2
            have hr := HRES.out.ext (ext_trans (ext_trans hb1 hb4) hb5)
            have r0 := hr.c0
            have r1 := hr.c1
            have r2 := hr.c2
            have rz := hr.fz
            have rlt := hr.lt
            go_wp2
            rw [seli_f hnq.out, seli_f hnq.out, sel_f hnq.out, tb_f hnq.out]
            refine bodyPost_ret (v := .tuple #[.agg #[.int .i64 0, .int .i64 0, .slice none 0 0], .bool false]) (by simp [results, Try.results17, go_sem, r0, r1, r2, rlt]) rfl ⟨none, 0, rfl, FlO.nil, ?_⟩
            exact (set3_touch w5 V0.heap.size _ _ _).below (ext_trans hB1 (ext_trans (ext_trans hb1 hb4) hb5)) (Nat.le_of_lt hzV0)
        · rw [tb_f h4]
          have K4 := Lib.hid h4
          clear h4
          have hnq : Hid (¬ Q) := fun q => K4.out (HQ.out.1 q).2.2.2.1
          have hr := HRES.out.ext (ext_trans hb1 hb4)
          have r0 := hr.c0
          have r1 := hr.c1
          have r2 := hr.c2
          have rz := hr.fz
          have rlt := hr.lt
          go_wp2
          rw [seli_f hnq.out, seli_f hnq.out, sel_f hnq.out, tb_f hnq.out]
          refine bodyPost_ret (v := .tuple #[.agg #[.int .i64 0, .int .i64 0, .slice none 0 0], .bool false]) (by simp [results, Try.results17, go_sem, r0, r1, r2, rlt]) rfl ⟨none, 0, rfl, FlO.nil, ?_⟩
          exact (set3_touch w4 V0.heap.size _ _ _).below (ext_trans hB1 (ext_trans hb1 hb4)) (Nat.le_of_lt hzV0)
      · go_wp2_with fail
        ((with_reducible refine (isSide_f cols w1 h3).mono ?_); rintro e w9 ⟨rfl, rfl⟩)
        have K3 := Lib.hid h3
        clear h3
        have hnq : Hid (¬ Q) := fun q => K3.out (HQ.out.1 q).2.2.1
        have hr := HRES.out.ext hb1
        have r0 := hr.c0
        have r1 := hr.c1
        have r2 := hr.c2
        have rz := hr.fz
        have rlt := hr.lt
        go_wp2
        rw [seli_f hnq.out, seli_f hnq.out, sel_f hnq.out, tb_f hnq.out]
        refine bodyPost_ret (v := .tuple #[.agg #[.int .i64 0, .int .i64 0, .slice none 0 0], .bool false]) (by simp [results, Try.results17, go_sem, r0, r1, r2, rlt]) rfl ⟨none, 0, rfl, FlO.nil, ?_⟩
        exact (set3_touch w1 V0.heap.size _ _ _).below (ext_trans hB1 hb1) (Nat.le_of_lt hzV0)
    · go_wp2_with fail
      ((with_reducible refine (isSide_f rows w1 h2).mono ?_); rintro e w9 ⟨rfl, rfl⟩)
      have K2 := Lib.hid h2
      clear h2
      have hnq : Hid (¬ Q) := fun q => K2.out (HQ.out.1 q).2.1
      have hr := HRES.out.ext hb1
      have r0 := hr.c0
      have r1 := hr.c1
      have r2 := hr.c2
      have rz := hr.fz
      have rlt := hr.lt
      go_wp2
      rw [seli_f hnq.out, seli_f hnq.out, sel_f hnq.out, tb_f hnq.out]
      refine bodyPost_ret (v := .tuple #[.agg #[.int .i64 0, .int .i64 0, .slice none 0 0], .bool false]) (by simp [results, Try.results17, go_sem, r0, r1, r2, rlt]) rfl ⟨none, 0, rfl, FlO.nil, ?_⟩
      exact (set3_touch w1 V0.heap.size _ _ _).below (ext_trans hB1 hb1) (Nat.le_of_lt hzV0)
  · rw [tb_f h1]
    have K1 := Lib.hid h1
    clear h1
    have hnq : Hid (¬ Q) := fun q => K1.out (HQ.out.1 q).1
    have hr := HRES.out.ext hb1
    have r0 := hr.c0
    have r1 := hr.c1
    have r2 := hr.c2
    have rz := hr.fz
    have rlt := hr.lt
    go_wp2
    rw [seli_f hnq.out, seli_f hnq.out, sel_f hnq.out, tb_f hnq.out]
    refine bodyPost_ret (v := .tuple #[.agg #[.int .i64 0, .int .i64 0, .slice none 0 0], .bool false]) (by simp [results, Try.results17, go_sem, r0, r1, r2, rlt]) rfl ⟨none, 0, rfl, FlO.nil, ?_⟩
    exact (set3_touch w1 V0.heap.size _ _ _).below (ext_trans hB1 hb1) (Nat.le_of_lt hzV0)
end Go.Proofs.Ytjacadkbkkkgfaa
