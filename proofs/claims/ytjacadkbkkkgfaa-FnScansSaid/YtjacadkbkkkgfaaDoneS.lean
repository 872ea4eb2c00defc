/- RowsDone: the reference's side. -/
import Derived.Test.YtjacadkbkkkgfaaDoneD
namespace Go.Proofs.Ytjacadkbkkkgfaa
open Go.RowKit
set_option linter.unusedVariables false
set_option linter.unusedSimpArgs false

set_option maxHeartbeats 4000000 in
set_option maxRecDepth 100000 in
theorem specRowsDone_any (rows cols : Int) (A : Option Addr) (cc : Nat) (xs : List Tile) (w : World) (hn : xs.length ≤ 1048576) (hA : Fl Tile.ints 3 w A xs) :
    Calls Try.prog 32 #[.agg #[.int .i64 rows, .int .i64 cols, .slice A xs.length cc]] w (RetL one 1 w (sel (Scn rows cols xs) (doneTo xs cols rows.toNat)) (tb (Scn rows cols xs))) := by
  obtain ⟨i0, hi, hz0, hz1, hz2⟩ := info_parts infoInt
  obtain ⟨V0, hV0, hBV0, hzV0, hcV0, _⟩ := box_world w #[Value.int .i64 rows, Value.int .i64 cols, .slice A xs.length cc] 26
  have g0 : World.cell? V0 ⟨(World.heap w).size, 0, none⟩ = some (.int .i64 rows) := hcV0 0
  have g1 : World.cell? V0 ⟨(World.heap w).size, 1, none⟩ = some (.int .i64 cols) := hcV0 1
  have g2 : World.cell? V0 ⟨(World.heap w).size, 2, none⟩ = some (.slice A xs.length cc) := hcV0 2
  clear hcV0
  obtain ⟨V1, hV1, hBV1, hzV1, _, _⟩ := box_world V0 #[] 3
  have hown1 : OwnF one 1 V0.heap.size 3 V1 (.slice (some ⟨V0.heap.size, 0, none⟩) 0 0) [] := hV1 ▸ OwnF.empty (Nat.le_refl _)
  have e0 := (hBV1.cell (p := ⟨w.heap.size, 0, none⟩) hzV0).trans g0
  have e1 := (hBV1.cell (p := ⟨w.heap.size, 1, none⟩) hzV0).trans g1
  have e2 := (hBV1.cell (p := ⟨w.heap.size, 2, none⟩) hzV0).trans g2
  have hB1 := ext_trans hBV0 hBV1
  have hw0 : w.heap.size ≤ V0.heap.size := hBV0.size
  have hsc := l17Good_any rows cols A cc xs V1 (by omega) (hA.ext hB1)
  have hat := fun (r c : Int) W hW => l17At_any rows cols A cc xs r c W hn hW
  have hsd : Scn rows cols xs → Side rows cols ∧ ∀ r, colCnt r xs cols.toNat = rowCnt r xs := fun h => ⟨h.2, fun r => scn_cnt h r⟩
  generalize Scn rows cols xs = Q at hsc hsd ⊢
  obtain ⟨n, hnn⟩ : ∃ n, n = List.length xs := ⟨_, rfl⟩
  rw [← hnn] at hV0 g2 e2 hsc hat hn ⊢
  have HAT := Lib.hid hat
  clear hnn hat
  by_cases h : Q
  · rw [tb_t h] at hsc
    have HSC := Lib.hid hsc
    obtain ⟨⟨s1, s2, s3, s4⟩, hcc⟩ := hsd h
    obtain ⟨R, hR⟩ : ∃ R : Nat, rows = (R : Int) := ⟨rows.toNat, by omega⟩
    obtain ⟨C, hC⟩ : ∃ C : Nat, cols = (C : Int) := ⟨cols.toNat, by omega⟩
    subst hR hC
    rw [show ((C : Int)).toNat = C from by omega] at hcc
    have HCC := Lib.hid hcc
    rw [show ((R : Int)).toNat = R from by omega, sel_t h, tb_t h]
    clear hsc hsd h hcc
    go_enter Try.func32, Try.ntmps32
    go_wp2_with fail
    ((with_reducible refine (HSC.out).mono ?_); rintro e w1 ⟨rfl, hb1⟩)
    go_wp2
    go_loopw [4, 5] (fun v i wr => ∃ r : Nat, r ≤ R ∧ i = .int .i64 r ∧ Below V0.heap.size V0 wr ∧ OwnF one 1 V0.heap.size 3 wr v (doneTo xs (C : Int) r)) (fun _ i _ => R - (intOf i).toNat)
    case atStart => exact ⟨0, by omega, rfl, ext_trans hBV1 hb1, hown1.ext hb1⟩
    case round =>
      rename_i v00 i00 wr
      obtain ⟨r, hr, rfl, hbr, hown⟩ := hrel
      have hzr := hbr.size
      have q0 := (hbr.cell (p := ⟨w.heap.size, 0, none⟩) hzV0).trans g0
      have q1 := (hbr.cell (p := ⟨w.heap.size, 1, none⟩) hzV0).trans g1
      have q2 := (hbr.cell (p := ⟨w.heap.size, 2, none⟩) hzV0).trans g2
      by_cases hlr : r < R
      · have hr0 : (0 : Int) ≤ (r : Int) := by omega
        have hr1 : (r : Int) < (R : Int) := by omega
        have hdl := doneTo_len xs (C : Int) r
        obtain ⟨v, hv⟩ : ∃ z, z = v00 := ⟨_, rfl⟩
        subst hv
        obtain ⟨B0, d0, hv0, _⟩ := hown.form one_length
        subst hv0
        obtain ⟨wo, hwo⟩ : ∃ z, z = wr := ⟨_, rfl⟩
        subst hwo
        obtain ⟨L, hL⟩ : ∃ L, L = doneTo xs (C : Int) r := ⟨_, rfl⟩
        rw [← hL] at hown hdl ⊢
        have HL := Lib.hid hL
        clear hL
        go_wp2
        go_loopw [6, 7] (fun s i wr => ∃ c : Nat, c ≤ C ∧ i = .int .i64 c ∧ s = .int .i64 (colCnt (r : Int) xs c : Int) ∧ Below V0.heap.size V0 wr ∧ OwnF one 1 V0.heap.size 3 wr (.slice B0 L.length d0) L) (fun _ i _ => C - (intOf i).toNat)
        case atStart => exact ⟨0, by omega, rfl, rfl, hbr, hown⟩
        case round =>
          clear hown hbr
          obtain ⟨c, hc, rfl, rfl, hbr, hown⟩ := hrel
          have hzr2 := hbr.size
          have m0 := (hbr.cell (p := ⟨w.heap.size, 0, none⟩) hzV0).trans g0
          have m1 := (hbr.cell (p := ⟨w.heap.size, 1, none⟩) hzV0).trans g1
          have m2 := (hbr.cell (p := ⟨w.heap.size, 2, none⟩) hzV0).trans g2
          have hcl := colCnt_le (r : Int) xs c
          by_cases hlc : c < C
          · have hc0 : (0 : Int) ≤ (c : Int) := by omega
            have hc1 : (c : Int) < (C : Int) := by omega
            have hat := HAT.out r c wr (hA.ext (ext_trans hBV0 hbr))
            obtain ⟨S, hS⟩ : ∃ S, S = colCnt (r : Int) xs c := ⟨_, rfl⟩
            rw [← hS] at hcl ⊢
            have HS := Lib.hid hS
            obtain ⟨a, ha⟩ : ∃ a, a = atI (r : Int) (c : Int) xs := ⟨_, rfl⟩
            rw [← ha] at hat
            have HA := Lib.hid ha
            have HATX := Lib.hid hat
            clear hat ha hS
            by_cases hp : 0 ≤ a
            · go_wp2_with fail
              ((with_reducible refine (HATX.out).mono ?_); rintro e w5 ⟨rfl, hb5⟩)
              go_wp2
              go_roundw
              case rel => exact ⟨c + 1, by omega, by go_num, by rw [colCnt, ← HA.out, if_pos hp, ← HS.out]; go_num, ext_trans hbr hb5, hown.ext hb5⟩
              case measure => simp [intOf]; omega
            · go_wp2_with fail
              ((with_reducible refine (HATX.out).mono ?_); rintro e w5 ⟨rfl, hb5⟩)
              go_wp2
              go_roundw
              case rel => exact ⟨c + 1, by omega, by go_num, by rw [colCnt, ← HA.out, if_neg (by omega), ← HS.out]; go_num, ext_trans hbr hb5, hown.ext hb5⟩
              case measure => simp [intOf]; omega
          · have hcC : c = C := by omega
            subst hcC
            rw [HCC.out] at hcl ⊢
            obtain ⟨M, hM⟩ : ∃ M, M = rowCnt (r : Int) xs := ⟨_, rfl⟩
            rw [← hM] at hcl ⊢
            have HM := Lib.hid hM
            clear hM
            by_cases hp : (M : Int) = (c : Int)
            · have HP := Lib.hid hp
              have hpb : ((M : Int) == (c : Int)) = true := by simp [hp]
              have hpn : M = c := by omega
              subst hpn
              clear hp
              go_wp2_with (at_builtin; refine wpList_append_flat (f := one) (y := (r : Int)) rfl _ _ _ rfl V0.heap.size i0 _ 1 8 Try.underlying50 hi hz0 hz1 hz2 rfl (by decide) _ _ rfl rfl hown rfl ?_ (by decide) ?_ ?_; omega; exact hzr2; intro v' w7 hown7 hg7 hb7)
              go_roundw
              case rel => exact ⟨r + 1, by omega, by go_num, hbr.trans hb7, by rw [doneTo_t (by rw [← HM.out]), ← HL.out]; exact hown7⟩
              case measure => simp [intOf]; omega
            · have hpb : ((M : Int) == (c : Int)) = false := by simp; omega
              have hpd : decide (M = c) = false := by simp; omega
              have HP := Lib.hid hp
              clear hp
              go_wp2
              go_roundw
              case rel => exact ⟨r + 1, by omega, by go_num, hbr, by rw [doneTo_f (by rw [← HM.out]; exact HP.out), ← HL.out]; exact hown⟩
              case measure => simp [intOf]; omega
      · have hrR : r = R := by omega
        subst hrR
        go_wp2
        go_ret2
        obtain ⟨B, d, hv, hF⟩ := (hown.from_ hw0).form one_length
        exact ⟨B, d, by rw [hv]; rfl, hF, ext_trans hBV0 hbr⟩
  · rw [tb_f h] at hsc
    have HSC := Lib.hid hsc
    rw [sel_f h, tb_f h]
    clear hsc hsd h
    go_enter Try.func32, Try.ntmps32
    go_wp2_with fail
    ((with_reducible refine (HSC.out).mono ?_); rintro e w1 ⟨rfl, hb1⟩)
    go_wp2
    go_ret2
    exact ⟨_, 0, rfl, FlO.nil, ext_trans hB1 hb1⟩
end Go.Proofs.Ytjacadkbkkkgfaa
