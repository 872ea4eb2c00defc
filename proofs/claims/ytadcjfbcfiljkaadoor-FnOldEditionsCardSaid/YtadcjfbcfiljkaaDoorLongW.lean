/- LongestCurrent on both sides. -/
import Derived.Test.YtadcjfbcfiljkaaDoorLongest
namespace Go.Proofs.YtadcjfbcfiljkaaDoor
open Go.RowKit
set_option linter.unusedVariables false
set_option linter.unusedSimpArgs false

theorem ofS_mem' {a : Int} {xs : List Nest} {x : Nest} (h : x ∈ ofS a xs) : x ∈ xs := (List.mem_filter.1 h).1
set_option maxHeartbeats 1000000 in
set_option maxRecDepth 100000 in
theorem longestCurrent_any (A : Option Addr) (c : Nat) (xs : List Nest) (sheet day : Int) (w : World) (hn : wt xs ≤ 1048576) (hcap : xs.length ≤ c) (hcm : c ≤ 9223372036854775807) (hA : Nl w A xs) :
    Calls Tryd.prog 6 #[.slice A xs.length c, .int .i64 sheet, .int .i64 day] w (fun e w' => e = .returned (.tuple #[.int .i64 (seli (CurOk xs sheet day) (longS xs sheet day).1), .int .i64 (seli (CurOk xs sheet day) (longS xs sheet day).2), .bool (tb ((CurOk xs sheet day) ∧ 0 < (longS xs sheet day).1))]) ∧ Below w.heap.size w w') := by
  have hare := areEditions_any A c xs w hn hcap hcm hA
  have hed := fun W hW => editionsOf_any A c xs sheet W (le22 (Nat.le_trans (wt_len xs) hn)) hW
  have hyl := Nat.le_trans (ofS_len sheet xs) (Nat.le_trans (wt_len xs) hn)
  have hdays : Eds xs → ∀ y ∈ ofS sheet xs, 0 ≤ y.c ∧ y.c ≤ 4000 := fun h y hy => h.days (ofS_mem' hy)
  obtain ⟨R, hR⟩ : ∃ R, longS xs sheet day = R := ⟨_, rfl⟩
  rw [hR]
  unfold longS at hR
  generalize ofS sheet xs = ys at hed hyl hR hdays
  generalize xs.length = m at hare hed hcap ⊢
  obtain ⟨n, hnn⟩ : ∃ n, n = List.length ys := ⟨_, rfl⟩
  rw [← hnn] at hyl
  have hN := Lib.hid hnn
  have HA := Lib.hid hare
  have HE := Lib.hid hed
  have HR := Lib.hid hR
  have HD := Lib.hid hdays
  clear hare hed hR hdays hnn
  go_enter Tryd.func6, Tryd.ntmps6
  go_wp2_with fail
  refine (HA.out).mono ?_
  rintro e w1 ⟨rfl, hb1⟩
  by_cases h1 : Eds xs
  · rw [tb_t h1]
    have H1 := Lib.hid h1
    clear h1
    by_cases h2 : 1 ≤ sheet ∧ sheet ≤ 999
    · go_wp2_with fail
      refine (isId_t sheet _ h2).mono ?_
      rintro e w9 ⟨rfl, rfl⟩
      by_cases h3 : 0 ≤ day ∧ day ≤ 4000
      · go_wp2_with fail
        refine (isDay_t day _ h3).mono ?_
        rintro e w9 ⟨rfl, rfl⟩
        have HO : Hid (CurOk xs sheet day) := ⟨H1.out, h2, h3⟩
        go_wp2_with fail
        refine (HE.out _ (hA.ext hb1)).mono ?_
        rintro e w2 ⟨B, d, rfl, hB, hb2⟩
        have hb12 := ext_trans hb1 hb2
        rw [← hN.out]
        go_wp2
        go_loopw [9, 10, 33] (fun b' m' i wr => ∃ (k : Nat) (s : Int × Int), k ≤ n ∧ i = .int .i64 k ∧ b' = .int .i64 s.1 ∧ m' = .int .i64 s.2 ∧ Below w2.heap.size w2 wr ∧ Hid (lgL day (ys.drop k) s = R)) (fun _ _ i _ => n - (intOf i).toNat)
        case atStart => exact ⟨0, (0, 0), by omega, rfl, rfl, rfl, Below.refl _ _, HR.out⟩
        case round =>
          obtain ⟨k, s, hk, rfl, rfl, rfl, hbr, hst⟩ := hrel
          by_cases hlt : k < n
          · have hBr := hB.ext hbr
            obtain ⟨x, b, o, A', d', hx, rfl, hb, hc, _⟩ := hBr.at_ (k := k) (by rw [← hN.out]; exact hlt)
            have hxd := HD.out H1.out x (List.mem_of_getElem? hx)
            have c0 : World.cell? wr ⟨b, o + k * 4, none⟩ = some (.int .i64 x.a) := hc.ca
            have c1 : World.cell? wr ⟨b, o + k * 4 + 1, none⟩ = some (.int .i64 x.b) := hc.cb
            have c2 : World.cell? wr ⟨b, o + k * 4 + 2, none⟩ = some (.int .i64 x.c) := hc.cc
            have c3 : World.cell? wr ⟨b, o + k * 4 + 3, none⟩ = some (.slice A' x.l.length d') := hc.cl
            have HX := Lib.hid hx
            obtain ⟨W0, hW0, hB0, hz0', hg, _⟩ := box_world wr #[Value.int .i64 x.a, .int .i64 x.b, .int .i64 x.c, .slice A' x.l.length d'] 33
            have g1 : World.cell? W0 ⟨wr.heap.size, 1, none⟩ = some (.int .i64 x.b) := hg 1
            have g2 : World.cell? W0 ⟨wr.heap.size, 2, none⟩ = some (.int .i64 x.c) := hg 2
            have hbW := ext_trans hbr hB0
            have hpc := plus_cell W0
            have hk0 : (0 : Int) ≤ (k : Int) := by omega
            have hk1 : (k : Int) < (n : Int) := by omega
            by_cases hk2 : k + 1 < n
            · have hk3 : (k : Int) + 1 < (n : Int) := by omega
              obtain ⟨y, hy⟩ : ∃ y, ys[k + 1]? = some y := ⟨_, List.getElem?_eq_getElem (by rw [← hN.out]; exact hk2)⟩
              obtain ⟨A2, d2, hdy, _⟩ := (hBr.ext hB0).get hy
              have d0 : World.cell? W0 ⟨b, o + (k + 1) * 4 + 2, none⟩ = some (.int .i64 y.c) := hdy.cc
              have hyd := HD.out H1.out y (List.mem_of_getElem? hy)
              have hnx : nxL day (ys.drop (k + 1)) = min day (y.c - 1) := by rw [drop_get hy]; rfl
              clear hg hx hc hB hA hBr hdy hy
              by_cases hmn : day ≤ y.c - 1
              · have HNX : Hid (nxL day (ys.drop (k + 1)) = day) := by unfold Hid; omega
                clear hnx
                by_cases hq : s.2 < day - x.c + 1
                · go_wp2_with fail
                  refine wp_region_grow (by kernel_rfl) (by kernel_rfl) ?_
                  repeat (go_big_quiet_step ((first | (fail))))
                  refine wpQuiet_nil ?_
                  intro w1 hb1
                  go_wp2
                  go_roundw
                  case rel => exact ⟨k + 1, (x.b, day - x.c + 1), by omega, by go_num, rfl, rfl, ext_trans hbW hb1, by unfold Hid; rw [← hst.out, drop_get HX.out, lgL, HNX.out, if_pos hq]⟩
                  case measure => simp [intOf]; omega
                · go_wp2
                  go_roundw
                  case rel => exact ⟨k + 1, s, by omega, by go_num, rfl, rfl, hbW, by unfold Hid; rw [← hst.out, drop_get HX.out, lgL, HNX.out, if_neg hq]⟩
                  case measure => simp [intOf]; omega
              · have HNX : Hid (nxL day (ys.drop (k + 1)) = y.c - 1) := by unfold Hid; omega
                clear hnx
                by_cases hq : s.2 < (y.c - 1) - x.c + 1
                · go_wp2_with fail
                  refine wp_region_grow (by kernel_rfl) (by kernel_rfl) ?_
                  repeat (go_big_quiet_step ((first | (fail))))
                  refine wpQuiet_nil ?_
                  intro w1 hb1
                  go_wp2
                  go_roundw
                  case rel => exact ⟨k + 1, (x.b, (y.c - 1) - x.c + 1), by omega, by go_num, rfl, rfl, ext_trans hbW hb1, by unfold Hid; rw [← hst.out, drop_get HX.out, lgL, HNX.out, if_pos hq]⟩
                  case measure => simp [intOf]; omega
                · go_wp2
                  go_roundw
                  case rel => exact ⟨k + 1, s, by omega, by go_num, rfl, rfl, hbW, by unfold Hid; rw [← hst.out, drop_get HX.out, lgL, HNX.out, if_neg hq]⟩
                  case measure => simp [intOf]; omega
            · have hk3 : ¬ (k : Int) + 1 < (n : Int) := by omega
              have HNX : Hid (nxL day (ys.drop (k + 1)) = day) := by unfold Hid; rw [drop_all (by rw [← hN.out]; omega)]; rfl
              clear hg hx hc hB hA hBr
              by_cases hq : s.2 < day - x.c + 1
              · go_wp2_with fail
                refine wp_region_grow (by kernel_rfl) (by kernel_rfl) ?_
                repeat (go_big_quiet_step ((first | (fail))))
                refine wpQuiet_nil ?_
                intro w1 hb1
                go_wp2
                go_roundw
                case rel => exact ⟨k + 1, (x.b, day - x.c + 1), by omega, by go_num, rfl, rfl, ext_trans hbW hb1, by unfold Hid; rw [← hst.out, drop_get HX.out, lgL, HNX.out, if_pos hq]⟩
                case measure => simp [intOf]; omega
              · go_wp2
                go_roundw
                case rel => exact ⟨k + 1, s, by omega, by go_num, rfl, rfl, hbW, by unfold Hid; rw [← hst.out, drop_get HX.out, lgL, HNX.out, if_neg hq]⟩
                case measure => simp [intOf]; omega
          · have hkn : k = n := by omega
            subst hkn
            go_wp2
            go_ret3
            have hs := hst.out
            rw [drop_all (by rw [← hN.out]; exact Nat.le_refl _)] at hs
            have hs2 : s = R := hs
            subst hs2
            exact ⟨ret_iib (seli_t HO.out).symm (seli_t HO.out).symm (tb_dec ⟨fun h => h.2, fun h => ⟨HO.out, h⟩⟩), ext_trans hb12 hbr⟩
      · go_wp2_with fail
        refine (isDay_f day _ h3).mono ?_
        rintro e w9 ⟨rfl, rfl⟩
        go_wp2
        go_ret3
        have hok : ¬ (CurOk xs sheet day) := fun h => h3 h.2.2
        exact ⟨ret_iib (seli_f hok).symm (seli_f hok).symm (tb_f (fun h => hok h.1)).symm, hb1⟩
    · go_wp2_with fail
      refine (isId_f sheet _ h2).mono ?_
      rintro e w9 ⟨rfl, rfl⟩
      go_wp2
      go_ret3
      have hok : ¬ (CurOk xs sheet day) := fun h => h2 h.2.1
      exact ⟨ret_iib (seli_f hok).symm (seli_f hok).symm (tb_f (fun h => hok h.1)).symm, hb1⟩
  · rw [tb_f h1]
    have H1 := Lib.hid h1
    clear h1
    go_wp2
    go_ret3
    have hok : ¬ (CurOk xs sheet day) := fun h => H1.out h.1
    exact ⟨ret_iib (seli_f hok).symm (seli_f hok).symm (tb_f (fun h => hok h.1)).symm, hb1⟩

set_option maxHeartbeats 1000000 in
set_option maxRecDepth 100000 in
theorem specLongestCurrent_any (A : Option Addr) (c : Nat) (xs : List Nest) (sheet day : Int) (w : World) (hn : wt xs ≤ 1048576) (hcap : xs.length ≤ c) (hcm : c ≤ 9223372036854775807) (hA : Nl w A xs) :
    Calls Tryd.prog 7 #[.slice A xs.length c, .int .i64 sheet, .int .i64 day] w (fun e w' => e = .returned (.tuple #[.int .i64 (seli (CurOk xs sheet day) (longS xs sheet day).1), .int .i64 (seli (CurOk xs sheet day) (longS xs sheet day).2), .bool (tb ((CurOk xs sheet day) ∧ 0 < (longS xs sheet day).1))]) ∧ Below w.heap.size w w') := by
  have hare := l18Good_any A c xs w hn hcap hcm hA
  have hdays : Eds xs → ∀ y ∈ xs, 0 ≤ y.c ∧ y.c ≤ 4000 := fun h y hy => h.days hy
  obtain ⟨R, hR⟩ : ∃ R, longS xs sheet day = R := ⟨_, rfl⟩
  rw [hR]
  have hR2 : Eds xs → spL sheet day xs (0, 0) = R := fun h => (sp_lg sheet day xs (0, 0) (Int.le_refl _) h.mono).trans hR
  have hn1 := Nat.le_trans (wt_len xs) hn
  obtain ⟨n, hnn⟩ : ∃ n, n = List.length xs := ⟨_, rfl⟩
  rw [← hnn] at hare hcap hn1 ⊢
  have hN := Lib.hid hnn
  have HA := Lib.hid hare
  have HR := Lib.hid hR2
  have HD := Lib.hid hdays
  clear hare hR hR2 hdays hnn
  go_enter Tryd.func7, Tryd.ntmps7
  go_wp2_with fail
  refine (HA.out).mono ?_
  rintro e w1 ⟨rfl, hb1⟩
  by_cases h1 : Eds xs
  · rw [tb_t h1]
    have H1 := Lib.hid h1
    clear h1
    by_cases h2 : 1 ≤ sheet ∧ sheet ≤ 999
    · go_wp2_with fail
      refine (l18Id_t sheet _ h2).mono ?_
      rintro e w9 ⟨rfl, rfl⟩
      by_cases h3 : 0 ≤ day ∧ day ≤ 4000
      · go_wp2_with fail
        refine (l2Day_t day _ h3).mono ?_
        rintro e w9 ⟨rfl, rfl⟩
        have HO : Hid (CurOk xs sheet day) := ⟨H1.out, h2, h3⟩
        go_wp2
        go_loop [9, 10, 11] (fun b' m' i => ∃ (k : Nat) (s : Int × Int), k ≤ n ∧ i = .int .i64 k ∧ b' = .int .i64 s.1 ∧ m' = .int .i64 s.2 ∧ Hid (spL sheet day (xs.drop k) s = R)) (fun _ _ i => n - (intOf i).toNat)
        case atStart => exact ⟨0, (0, 0), by omega, rfl, rfl, rfl, HR.out H1.out⟩
        case round =>
          obtain ⟨k, s, hk, rfl, rfl, rfl, hst⟩ := hrel
          by_cases hlt : k < n
          · have hAr := hA.ext hb1
            obtain ⟨x, b, o, A', d', hx, rfl, hb, hc, _⟩ := hAr.at_ (k := k) (by rw [← hN.out]; exact hlt)
            have hxd := HD.out H1.out x (List.mem_of_getElem? hx)
            have c0 : World.cell? w1 ⟨b, o + k * 4, none⟩ = some (.int .i64 x.a) := hc.ca
            have c1 : World.cell? w1 ⟨b, o + k * 4 + 1, none⟩ = some (.int .i64 x.b) := hc.cb
            have c2 : World.cell? w1 ⟨b, o + k * 4 + 2, none⟩ = some (.int .i64 x.c) := hc.cc
            have c3 : World.cell? w1 ⟨b, o + k * 4 + 3, none⟩ = some (.slice A' x.l.length d') := hc.cl
            have HX := Lib.hid hx
            clear hc hx
            have hk0 : (0 : Int) ≤ (k : Int) := by omega
            have hk1 : (k : Int) < (n : Int) := by omega
            by_cases hs : x.a = sheet
            · have HS := Lib.hid hs
              by_cases hd : x.c ≤ day
              · have hd' : ¬ day < x.c := by omega
                go_wp2_with fail
                go_loop [12, 13] (fun e' i => ∃ j : Nat, k ≤ j ∧ j < n ∧ i = .int .i64 j ∧ e' = .int .i64 (endL sheet day (xs.drop (j + 1)))) (fun _ i => (intOf i).toNat - k)
                case atStart => exact ⟨n - 1, by omega, by omega, by congr 1; omega, by rw [drop_all (by rw [← hN.out]; omega)]; rfl⟩
                case round =>
                  obtain ⟨j, hj1, hj2, rfl, rfl⟩ := hrel
                  by_cases hjk : k < j
                  · obtain ⟨y, hy⟩ : ∃ y, xs[j]? = some y := ⟨_, List.getElem?_eq_getElem (by rw [← hN.out]; exact hj2)⟩
                    obtain ⟨A2, d2, hdy, _⟩ := hAr.get hy
                    have y0 : World.cell? w1 ⟨b, o + j * 4, none⟩ = some (.int .i64 y.a) := hdy.ca
                    have y1 : World.cell? w1 ⟨b, o + j * 4 + 1, none⟩ = some (.int .i64 y.b) := hdy.cb
                    have y2 : World.cell? w1 ⟨b, o + j * 4 + 2, none⟩ = some (.int .i64 y.c) := hdy.cc
                    have y3 : World.cell? w1 ⟨b, o + j * 4 + 3, none⟩ = some (.slice A2 y.l.length d2) := hdy.cl
                    have hdr := drop_get hy
                    obtain ⟨i, rfl⟩ : ∃ i, j = i + 1 := ⟨j - 1, by omega⟩
                    have HDR := Lib.hid hdr
                    have hj0 : (0 : Int) ≤ (i : Int) + 1 := by omega
                    have hj3 : (i : Int) + 1 < (n : Int) := by omega
                    have hj4 : (k : Int) < (i : Int) + 1 := by omega
                    clear hdy hy hdr hAr hA
                    by_cases hq : y.a = sheet
                    · have HQ := Lib.hid hq
                      by_cases hr : y.c ≤ day
                      · have HRR := Lib.hid hr
                        go_wp2
                        go_round
                        case rel => exact ⟨i, by omega, by omega, by go_num, by rw [HDR.out, endL, if_pos ⟨HQ.out, HRR.out⟩]⟩
                        case measure => simp [intOf]; omega
                      · have HRR := Lib.hid hr
                        go_wp2
                        go_round
                        case rel => exact ⟨i, by omega, by omega, by go_num, by rw [HDR.out, endL, if_neg (fun h => HRR.out h.2)]⟩
                        case measure => simp [intOf]; omega
                    · have HQ := Lib.hid hq
                      go_wp2
                      go_round
                      case rel => exact ⟨i, by omega, by omega, by go_num, by rw [HDR.out, endL, if_neg (fun h => HQ.out h.1)]⟩
                      case measure => simp [intOf]; omega
                  · obtain rfl : j = k := by omega
                    have he := endL_le (sheet := sheet) (day := day) (r := xs.drop (j + 1)) (fun y hy => (HD.out H1.out y (List.mem_of_mem_drop hy)).1) (by omega)
                    obtain ⟨E, hE⟩ : ∃ E, E = endL sheet day (xs.drop (j + 1)) := ⟨_, rfl⟩
                    rw [← hE] at he ⊢
                    have HE := Lib.hid hE
                    clear hE
                    by_cases hq : s.2 < E - x.c
                    · have HQ := Lib.hid hq
                      go_wp2
                      go_round
                      case rel => exact ⟨j + 1, (x.b, E - x.c), by omega, by go_num, rfl, rfl, by unfold Hid; rw [← hst.out, drop_get HX.out, spL, ← HE.out, if_pos ⟨⟨HS.out, hd⟩, HQ.out⟩]⟩
                      case measure => simp [intOf]; omega
                    · have HQ := Lib.hid hq
                      go_wp2
                      go_round
                      case rel => exact ⟨j + 1, s, by omega, by go_num, rfl, rfl, by unfold Hid; rw [← hst.out, drop_get HX.out, spL, ← HE.out, if_neg (fun h => HQ.out h.2)]⟩
                      case measure => simp [intOf]; omega
              · have hd' : day < x.c := by omega
                go_wp2
                go_round
                case rel => exact ⟨k + 1, s, by omega, by go_num, rfl, rfl, by unfold Hid; rw [← hst.out, drop_get HX.out, spL, if_neg (fun h => hd h.1.2)]⟩
                case measure => simp [intOf]; omega
            · have HS := Lib.hid hs
              go_wp2
              go_round
              case rel => exact ⟨k + 1, s, by omega, by go_num, rfl, rfl, by unfold Hid; rw [← hst.out, drop_get HX.out, spL, if_neg (fun h => HS.out h.1.1)]⟩
              case measure => simp [intOf]; omega
          · have hkn : k = n := by omega
            subst hkn
            go_wp2
            go_ret3
            have hs := hst.out
            rw [drop_all (by rw [← hN.out]; exact Nat.le_refl _)] at hs
            have hs2 : s = R := hs
            subst hs2
            exact ⟨ret_iib (seli_t HO.out).symm (seli_t HO.out).symm (tb_dec ⟨fun h => h.2, fun h => ⟨HO.out, h⟩⟩), hb1⟩
      · go_wp2_with fail
        refine (l2Day_f day _ h3).mono ?_
        rintro e w9 ⟨rfl, rfl⟩
        go_wp2
        go_ret3
        have hok : ¬ (CurOk xs sheet day) := fun h => h3 h.2.2
        exact ⟨ret_iib (seli_f hok).symm (seli_f hok).symm (tb_f (fun h => hok h.1)).symm, hb1⟩
    · go_wp2_with fail
      refine (l18Id_f sheet _ h2).mono ?_
      rintro e w9 ⟨rfl, rfl⟩
      go_wp2
      go_ret3
      have hok : ¬ (CurOk xs sheet day) := fun h => h2 h.2.1
      exact ⟨ret_iib (seli_f hok).symm (seli_f hok).symm (tb_f (fun h => hok h.1)).symm, hb1⟩
  · rw [tb_f h1]
    have H1 := Lib.hid h1
    clear h1
    go_wp2
    go_ret3
    have hok : ¬ (CurOk xs sheet day) := fun h => H1.out h.1
    exact ⟨ret_iib (seli_f hok).symm (seli_f hok).symm (tb_f (fun h => hok h.1)).symm, hb1⟩
end Go.Proofs.YtadcjfbcfiljkaaDoor
