/- The great law FnLands. No condition. -/
import Derived.Test.YtlkojpmhniokfaaLaw
import Derived.Test.YtlkojpmhniokfaaOpen
import Derived.Test.YtlkojpmhniokfaaOpV
import Derived.Test.YtlkojpmhniokfaaDrLnd
import Derived.Test.YtlkojpmhniokfaaFamV
import Derived.Test.YtlkojpmhniokfaaLandOpen
import Derived.Test.YtlkojpmhniokfaaFreeI
import Derived.Test.YtlkojpmhniokfaaFreeS
import Derived.Test.YtlkojpmhniokfaaLndF
import Derived.Test.YtlkojpmhniokfaaStpW
import Derived.Test.YtlkojpmhniokfaaLst
import Derived.Lib.SmallJoins
import Derived.Deep.DeepCutAuto
import Derived.Deep.RegionLaw
namespace Go.Proofs.Ytlkojpmhniokfaa
open Go.ChangeShapes Go.WideShapes Go.ChangeAt Go.RowKit Go.Joins
set_option linter.unusedVariables false
set_option linter.unusedSimpArgs false

set_option maxHeartbeats 16000000 in
set_option maxRecDepth 100000 in
theorem fnLands_any (A : Option Addr) (n cap : Nat) (w : World) (hm : n ≤ 9223372036854775807) (hA : Bytes w A n) :
    Calls Try.prog 4 #[.slice A n cap] w fun e w' => e = .returned (.bool true) ∧ Below w.heap.size w w' := by
  by_cases hbig : 65536 < (n : Int)
  · go_enter Try.func4, Try.ntmps4
    go_wp2_with fail
    ((with_reducible refine (rBig_any A n cap w _ Iff.rfl).mono ?_); rintro e w9 ⟨rfl, rfl⟩)
    rw [tb_t hbig]
    go_wp2
    go_ret
    exact ⟨rfl, Below.refl _ _⟩
  · have hn16 : n ≤ 1099511627776 := by omega
    have hB := Below.refl w.heap.size w
    go_enter Try.func4, Try.ntmps4
    go_wp2_with fail
    ((with_reducible refine (rBig_any A n cap w _ Iff.rfl).mono ?_); rintro e w9 ⟨rfl, rfl⟩)
    rw [tb_f (show ¬ 65536 < (n : Int) by omega)]
    clear hbig hm
    go_wp2_with fail
    ((with_reducible refine (drawIsOpenSquare_any A n cap w hA hn16).mono ?_); rintro e w1 ⟨wi, hg, st, LA, ld, xs, px, py, rfl, hxl, hX, hb1⟩)
    replace hA := hA.ext hb1
    replace hB := ext_trans hB hb1
    have hz1 := hb1.size
    obtain ⟨xl, hxl2⟩ : ∃ z, z = xs.length := ⟨_, rfl⟩
    rw [← hxl2] at hxl ⊢
    obtain ⟨U1, hU1, hD1, hs1, hv1, _⟩ := box_world w1 #[Value.int .i64 wi, Value.int .i64 hg, Value.slice LA xl ld, Value.int .i64 st] 26
    replace hA := hA.ext hD1
    replace hX := hX.ext hD1
    replace hB := ext_trans hB hD1
    have hz2 := hD1.size
    have x_0 : World.cell? U1 ⟨(World.heap w1).size, 0, none⟩ = some (Value.int .i64 wi) := hv1 0
    have x_1 : World.cell? U1 ⟨(World.heap w1).size, 1, none⟩ = some (Value.int .i64 hg) := hv1 1
    have x_2 : World.cell? U1 ⟨(World.heap w1).size, 2, none⟩ = some (Value.slice LA xl ld) := hv1 2
    have x_3 : World.cell? U1 ⟨(World.heap w1).size, 3, none⟩ = some (Value.int .i64 st) := hv1 3
    have xh := hs1
    clear hv1
    have hI := fun W h => isOpenSquare_any wi hg st px py LA ld xs W (by rw [← hxl2]; omega) h
    have hJ := fun W h => specIsOpenSquare_any wi hg st px py LA ld xs W (by rw [← hxl2]; omega) h
    obtain ⟨fr, hg_fr⟩ : ∃ z, z = tb (Lnd wi hg st xs ∧ OpenSq wi hg xs px py) := ⟨_, rfl⟩
    obtain ⟨ok, hg_ok⟩ : ∃ z, z = tb (Lnd wi hg st xs ∧ InLand wi hg px py) := ⟨_, rfl⟩
    simp only [← hg_fr, ← hg_ok] at hI hJ
    have HI := Lib.hid hI
    have HJ := Lib.hid hJ
    have HG_fr := Lib.hid hg_fr
    have HG_ok := Lib.hid hg_ok
    clear hI hJ hg_fr hg_ok
    have z0 : (fr != fr) = false := by simp
    have z1 : (ok != ok) = false := by simp
    rw [← hxl2] at HI HJ
    have HXL := Lib.hid hxl2
    clear hxl2
    go_wp2_with fail
    clear hU1
    ((with_reducible refine (HI.out _ hX.fl).mono ?_); rintro e w3 ⟨rfl, hb3⟩)
    replace hA := hA.ext hb3
    replace hX := hX.ext hb3
    replace x_0 := (hb3.cell (p := ⟨(World.heap w1).size, 0, none⟩) xh).trans x_0
    replace x_1 := (hb3.cell (p := ⟨(World.heap w1).size, 1, none⟩) xh).trans x_1
    replace x_2 := (hb3.cell (p := ⟨(World.heap w1).size, 2, none⟩) xh).trans x_2
    replace x_3 := (hb3.cell (p := ⟨(World.heap w1).size, 3, none⟩) xh).trans x_3
    replace xh := Nat.lt_of_lt_of_le xh hb3.size
    replace hB := ext_trans hB hb3
    have hz3 := hb3.size
    go_wp2_with fail
    ((with_reducible refine (HJ.out _ hX.fl).mono ?_); rintro e w4 ⟨rfl, hb4⟩)
    replace hA := hA.ext hb4
    replace hX := hX.ext hb4
    replace x_0 := (hb4.cell (p := ⟨(World.heap w1).size, 0, none⟩) xh).trans x_0
    replace x_1 := (hb4.cell (p := ⟨(World.heap w1).size, 1, none⟩) xh).trans x_1
    replace x_2 := (hb4.cell (p := ⟨(World.heap w1).size, 2, none⟩) xh).trans x_2
    replace x_3 := (hb4.cell (p := ⟨(World.heap w1).size, 3, none⟩) xh).trans x_3
    replace xh := Nat.lt_of_lt_of_le xh hb4.size
    replace hB := ext_trans hB hb4
    have hz4 := hb4.size
    go_upto_if 60 with fail
    go_cut [] (fun wx => Below (World.heap w4).size w4 wx)
    case first =>
      by_cases hLO : Lnd wi hg st xs ∧ InLand wi hg px py
      · skip
        obtain rfl : ok = true := by rw [HG_ok.out, tb_t hLO]
        have hfr : fr = tb (OpenSq wi hg xs px py) := by rw [HG_fr.out]; exact tb_iff ⟨fun h => h.2, fun h => ⟨hLO.1, h⟩⟩
        have hop := open_barred (wide := wi) (high := hg) (px := px) (py := py) (xs := xs) hLO.2
        rw [← hfr] at hop
        have HOP := Lib.hid hop
        clear hop hfr hLO HI HJ HG_fr HG_ok z0 z1
        go_wp2_with fail
        go_loopw [10, 11] (fun bv iv wr => ∃ k : Nat, k ≤ xl ∧ bv = .bool (barred px py (xs.take k)) ∧ iv = .int .i64 (k : Int) ∧ Below (World.heap w4).size w4 wr) (fun _ iv _ => xl - (intOf iv).toNat)
        case atStart => exact ⟨0, by omega, by rw [List.take_zero, barred_nil], rfl, Below.refl _ _⟩
        case round =>
          obtain ⟨k, hk, rfl, rfl, hbr⟩ := hrel
          have y0 := (hbr.cell (p := ⟨(World.heap w1).size, 0, none⟩) xh).trans x_0
          have y1 := (hbr.cell (p := ⟨(World.heap w1).size, 1, none⟩) xh).trans x_1
          have y2 := (hbr.cell (p := ⟨(World.heap w1).size, 2, none⟩) xh).trans x_2
          have y3 := (hbr.cell (p := ⟨(World.heap w1).size, 3, none⟩) xh).trans x_3
          have yl := Nat.lt_of_lt_of_le xh hbr.size
          by_cases hlt : k < xl
          · obtain ⟨x, bq, oq, hx, hBe, hbq, hc⟩ := ((hX.fl.ext hbr).at_ (k := k) (by rw [← HXL.out]; exact hlt))
            subst hBe
            have c0 : World.cell? wr ⟨bq, oq + k * 4, none⟩ = some (.int .i64 x.a) := hc 0 _ rfl
            have c1 : World.cell? wr ⟨bq, oq + k * 4 + 1, none⟩ = some (.int .i64 x.b) := hc 1 _ rfl
            have c2 : World.cell? wr ⟨bq, oq + k * 4 + 2, none⟩ = some (.int .i64 x.c) := hc 2 _ rfl
            have c3 : World.cell? wr ⟨bq, oq + k * 4 + 3, none⟩ = some (.int .i64 x.d) := hc 3 _ rfl
            obtain ⟨V, hV, hXV, hzV, hg9, _⟩ := box_world wr #[Value.int .i64 x.a, .int .i64 x.b, .int .i64 x.c, .int .i64 x.d] 48
            have r0 : World.cell? V ⟨wr.heap.size, 0, none⟩ = some (.int .i64 x.a) := hg9 0
            have r1 : World.cell? V ⟨wr.heap.size, 1, none⟩ = some (.int .i64 x.b) := hg9 1
            have r2 : World.cell? V ⟨wr.heap.size, 2, none⟩ = some (.int .i64 x.c) := hg9 2
            have r3 : World.cell? V ⟨wr.heap.size, 3, none⟩ = some (.int .i64 x.d) := hg9 3
            have HBV := Lib.hid (ext_trans hbr hXV)
            have HX := Lib.hid hx
            have hk0 : (0 : Int) ≤ (k : Int) := by omega
            have hk1 : (k : Int) < (xl : Int) := by omega
            obtain ⟨bb, hbb⟩ : ∃ z, z = barred px py (xs.take k) := ⟨_, rfl⟩
            rw [← hbb]
            have HBB := Lib.hid hbb
            clear hg9 hc hx hbb
            cases bb
            · by_cases a1 : x.a ≤ px
              · by_cases a2 : px ≤ x.c
                · by_cases a3 : x.b ≤ py
                  · by_cases a4 : py ≤ x.d
                    · have HP : Hid (InBar px py x) := ⟨a1, a2, a3, a4⟩
                      go_wp2
                      go_roundw
                      case rel => exact ⟨k + 1, by omega, by rw [barred_t HX.out HP.out], by go_num, HBV.out⟩
                      case measure => simp [intOf]; omega
                    · have HP : Hid (¬ InBar px py x) := fun h => a4 h.2.2.2
                      go_wp2
                      go_roundw
                      case rel => exact ⟨k + 1, by omega, by rw [barred_f HX.out HP.out, ← HBB.out], by go_num, HBV.out⟩
                      case measure => simp [intOf]; omega
                  · have HP : Hid (¬ InBar px py x) := fun h => a3 h.2.2.1
                    go_wp2
                    go_roundw
                    case rel => exact ⟨k + 1, by omega, by rw [barred_f HX.out HP.out, ← HBB.out], by go_num, HBV.out⟩
                    case measure => simp [intOf]; omega
                · have HP : Hid (¬ InBar px py x) := fun h => a2 h.2.1
                  go_wp2
                  go_roundw
                  case rel => exact ⟨k + 1, by omega, by rw [barred_f HX.out HP.out, ← HBB.out], by go_num, HBV.out⟩
                  case measure => simp [intOf]; omega
              · have HP : Hid (¬ InBar px py x) := fun h => a1 h.1
                go_wp2
                go_roundw
                case rel => exact ⟨k + 1, by omega, by rw [barred_f HX.out HP.out, ← HBB.out], by go_num, HBV.out⟩
                case measure => simp [intOf]; omega
            · go_wp2
              go_roundw
              case rel => exact ⟨k + 1, by omega, by rw [barred_up HX.out HBB.out.symm], by go_num, HBV.out⟩
              case measure => simp [intOf]; omega
          · have hkn : xl = k := by omega
            have hop := HOP.out
            rw [show xs.take k = xs from take_all (by rw [← HXL.out]; omega)]
            obtain ⟨bb, hbb⟩ : ∃ z, z = barred px py xs := ⟨_, rfl⟩
            rw [← hbb] at hop ⊢
            subst hkn
            clear hbb
            go_wp2
            go_meet
            exact hbr
      · obtain rfl : ok = false := by rw [HG_ok.out, tb_f hLO]
        go_wp2
        go_meet
        exact Below.refl _ _
    case rest =>
      obtain ⟨w5, hwz⟩ : ∃ z, z = wc := ⟨_, rfl⟩
      subst hwz
      clear hX HI HJ HG_fr HG_ok z0 z1 HXL x_0 x_1 x_2 x_3 xh
      replace hA := hA.ext hcut
      replace hB := ext_trans hB hcut
      have hz5 := hcut.size
      go_wp2_with fail
      ((with_reducible refine (drawFreeSquares_any A n cap _ hA hn16).mono ?_); rintro e w6 ⟨wj, hj, sj, LB, le, ys, rfl, hyl, hY, hb6⟩)
      replace hA := hA.ext hb6
      replace hB := ext_trans hB hb6
      have hz6 := hb6.size
      obtain ⟨xl, hxl2⟩ : ∃ z, z = ys.length := ⟨_, rfl⟩
      rw [← hxl2] at hyl ⊢
      obtain ⟨U2, hU2, hD2, hs2, hv2, _⟩ := box_world w6 #[Value.int .i64 wj, Value.int .i64 hj, Value.slice LB xl le, Value.int .i64 sj] 26
      replace hA := hA.ext hD2
      replace hY := hY.ext hD2
      replace hB := ext_trans hB hD2
      have hz7 := hD2.size
      have y_0 : World.cell? U2 ⟨(World.heap w6).size, 0, none⟩ = some (Value.int .i64 wj) := hv2 0
      have y_1 : World.cell? U2 ⟨(World.heap w6).size, 1, none⟩ = some (Value.int .i64 hj) := hv2 1
      have y_2 : World.cell? U2 ⟨(World.heap w6).size, 2, none⟩ = some (Value.slice LB xl le) := hv2 2
      have y_3 : World.cell? U2 ⟨(World.heap w6).size, 3, none⟩ = some (Value.int .i64 sj) := hv2 3
      have yh := hs2
      clear hv2
      have hI := fun W h => freeSquares_any wj hj sj LB le ys W (by rw [← hxl2]; omega) h
      have hJ := fun W h => specFreeSquares_any wj hj sj LB le ys W (by rw [← hxl2]; omega) h
      have hK := fun W h => isLand_any wj hj sj LB le ys W (by rw [← hxl2]; omega) h
      obtain ⟨nn, hg_nn⟩ : ∃ z, z = seli (Lnd wj hj sj ys) (wj * hj - areaZ (implZ ys)) := ⟨_, rfl⟩
      obtain ⟨ok, hg_ok⟩ : ∃ z, z = tb (Lnd wj hj sj ys) := ⟨_, rfl⟩
      simp only [← hg_nn, ← hg_ok] at hI hJ hK
      have HI := Lib.hid hI
      have HJ := Lib.hid hJ
      have HK := Lib.hid hK
      have HG_nn := Lib.hid hg_nn
      have HG_ok := Lib.hid hg_ok
      clear hI hJ hK hg_nn hg_ok
      have z0 : (nn != nn) = false := by simp
      have z1 : (ok != ok) = false := by simp
      rw [← hxl2] at HI HJ HK
      have HXL := Lib.hid hxl2
      clear hxl2
      go_wp2_with fail
      clear hU2
      ((with_reducible refine (HI.out _ hY.fl).mono ?_); rintro e w8 ⟨rfl, hb8⟩)
      replace hA := hA.ext hb8
      replace hY := hY.ext hb8
      replace y_0 := (hb8.cell (p := ⟨(World.heap w6).size, 0, none⟩) yh).trans y_0
      replace y_1 := (hb8.cell (p := ⟨(World.heap w6).size, 1, none⟩) yh).trans y_1
      replace y_2 := (hb8.cell (p := ⟨(World.heap w6).size, 2, none⟩) yh).trans y_2
      replace y_3 := (hb8.cell (p := ⟨(World.heap w6).size, 3, none⟩) yh).trans y_3
      replace yh := Nat.lt_of_lt_of_le yh hb8.size
      replace hB := ext_trans hB hb8
      have hz8 := hb8.size
      go_wp2_with fail
      ((with_reducible refine (HJ.out _ hY.fl).mono ?_); rintro e w9 ⟨rfl, hb9⟩)
      replace hA := hA.ext hb9
      replace hY := hY.ext hb9
      replace y_0 := (hb9.cell (p := ⟨(World.heap w6).size, 0, none⟩) yh).trans y_0
      replace y_1 := (hb9.cell (p := ⟨(World.heap w6).size, 1, none⟩) yh).trans y_1
      replace y_2 := (hb9.cell (p := ⟨(World.heap w6).size, 2, none⟩) yh).trans y_2
      replace y_3 := (hb9.cell (p := ⟨(World.heap w6).size, 3, none⟩) yh).trans y_3
      replace yh := Nat.lt_of_lt_of_le yh hb9.size
      replace hB := ext_trans hB hb9
      have hz9 := hb9.size
      go_wp2_with fail
      ((with_reducible refine (HK.out _ hY.fl).mono ?_); rintro e w10 ⟨rfl, hb10⟩)
      replace hA := hA.ext hb10
      replace hY := hY.ext hb10
      replace y_0 := (hb10.cell (p := ⟨(World.heap w6).size, 0, none⟩) yh).trans y_0
      replace y_1 := (hb10.cell (p := ⟨(World.heap w6).size, 1, none⟩) yh).trans y_1
      replace y_2 := (hb10.cell (p := ⟨(World.heap w6).size, 2, none⟩) yh).trans y_2
      replace y_3 := (hb10.cell (p := ⟨(World.heap w6).size, 3, none⟩) yh).trans y_3
      replace yh := Nat.lt_of_lt_of_le yh hb10.size
      replace hB := ext_trans hB hb10
      have hz10 := hb10.size
      go_upto_if 127 with fail
      go_cut [] (fun wx => Below (World.heap w10).size w10 wx)
      case first =>
        by_cases hLd : Lnd wj hj sj ys
        · skip
          obtain rfl : ok = true := by rw [HG_ok.out, tb_t hLd]
          have hnn : nn = wj * hj - areaZ (implZ ys) := by rw [HG_nn.out, seli_t hLd]
          have hAR := areaZ_bd (zb_impl hLd) (by rw [implZ_len]; exact hLd.2.2.2.2.2.1)
          have hWH := wh_bd hLd.2.1 hLd.2.2.1 hLd.2.2.2.1 hLd.2.2.2.2.1
          have hsum := area_sizes hLd
          have hsz := fun (k : Nat) (x : Four) (hx : ys[k]? = some x) => size_area hLd (List.mem_of_getElem? hx)
          have hbd := fun (k : Nat) (x : Four) (hx : ys[k]? = some x) => size_bd hLd hx
          have hsb := fun (k : Nat) (hk : k ≤ ys.length) => sizes_bd hLd k hk
          obtain ⟨AR, hAR2⟩ : ∃ z, z = areaZ (implZ ys) := ⟨_, rfl⟩
          rw [← hAR2] at hnn hAR hsum
          simp only [← hAR2] at hsz
          have HNN := Lib.hid hnn
          have HSUM := Lib.hid hsum
          have HSZ := Lib.hid hsz
          have HBD := Lib.hid hbd
          have HSB := Lib.hid hsb
          clear hnn hsum hsz hbd hsb hAR2 hLd HI HJ HK HG_nn HG_ok z0 z1
          go_wp2_with fail
          go_loopw [18, 19, 20] (fun mv bv iv wr => ∃ (k : Nat) (m : Int), k ≤ xl ∧ mv = .int .i64 m ∧ 0 ≤ m ∧ m ≤ AR ∧ bv = .int .i64 (ownTo (implZ (ys.take k))) ∧ iv = .int .i64 (k : Int) ∧ Below (World.heap w10).size w10 wr) (fun _ _ iv _ => xl - (intOf iv).toNat)
          case atStart => exact ⟨0, 0, by omega, rfl, by omega, by omega, by simp [implZ, ownTo], rfl, Below.refl _ _⟩
          case round =>
            obtain ⟨k, m, hk, rfl, hm0, hmA, rfl, rfl, hbr⟩ := hrel
            have y0 := (hbr.cell (p := ⟨(World.heap w6).size, 0, none⟩) yh).trans y_0
            have y1 := (hbr.cell (p := ⟨(World.heap w6).size, 1, none⟩) yh).trans y_1
            have y2 := (hbr.cell (p := ⟨(World.heap w6).size, 2, none⟩) yh).trans y_2
            have y3 := (hbr.cell (p := ⟨(World.heap w6).size, 3, none⟩) yh).trans y_3
            have yl := Nat.lt_of_lt_of_le yh hbr.size
            have hs1 := HSB.out k (by rw [← HXL.out]; exact hk)
            by_cases hlt : k < xl
            · obtain ⟨x, bq, oq, hx, hBe, hbq, hc⟩ := ((hY.fl.ext hbr).at_ (k := k) (by rw [← HXL.out]; exact hlt))
              subst hBe
              have c0 : World.cell? wr ⟨bq, oq + k * 4, none⟩ = some (.int .i64 x.a) := hc 0 _ rfl
              have c1 : World.cell? wr ⟨bq, oq + k * 4 + 1, none⟩ = some (.int .i64 x.b) := hc 1 _ rfl
              have c2 : World.cell? wr ⟨bq, oq + k * 4 + 2, none⟩ = some (.int .i64 x.c) := hc 2 _ rfl
              have c3 : World.cell? wr ⟨bq, oq + k * 4 + 3, none⟩ = some (.int .i64 x.d) := hc 3 _ rfl
              obtain ⟨V, hV, hXV, hzV, hg9, _⟩ := box_world wr #[Value.int .i64 x.a, .int .i64 x.b, .int .i64 x.c, .int .i64 x.d] 48
              have r0 : World.cell? V ⟨wr.heap.size, 0, none⟩ = some (.int .i64 x.a) := hg9 0
              have r1 : World.cell? V ⟨wr.heap.size, 1, none⟩ = some (.int .i64 x.b) := hg9 1
              have r2 : World.cell? V ⟨wr.heap.size, 2, none⟩ = some (.int .i64 x.c) := hg9 2
              have r3 : World.cell? V ⟨wr.heap.size, 3, none⟩ = some (.int .i64 x.d) := hg9 3
              have HBV := Lib.hid (ext_trans hbr hXV)
              obtain ⟨⟨b1, b2, b3, b4, b5, b6⟩, b7, b8⟩ := HBD.out k x hx
              have h3 := sizes_step hx
              have h4 := HSZ.out k x hx
              unfold sizeF at h3 h4
              obtain ⟨s0, hs0⟩ : ∃ y, y = ownTo (implZ (ys.take k)) := ⟨_, rfl⟩
              rw [← hs0] at h3 hs1 ⊢
              have H3 := Lib.hid h3
              have H4 := Lib.hid h4
              have hk0 : (0 : Int) ≤ (k : Int) := by omega
              have hk1 : (k : Int) < (xl : Int) := by omega
              have hwp : IntKind.i64.wrap ((x.c - x.a + 1) * (x.d - x.b + 1)) = (x.c - x.a + 1) * (x.d - x.b + 1) := IntWalk.i64_in _ (by omega)
              have hws : IntKind.i64.wrap (s0 + (x.c - x.a + 1) * (x.d - x.b + 1)) = s0 + (x.c - x.a + 1) * (x.d - x.b + 1) := IntWalk.i64_in _ (by omega)
              clear hg9 hc hx hs0 h3 h4
              by_cases hmx : m < (x.c - x.a + 1) * (x.d - x.b + 1)
              · go_wp2
                go_roundw
                case rel => exact ⟨k + 1, _, by omega, rfl, b7, H4.out, by rw [H3.out], by go_num, HBV.out⟩
                case measure => simp [intOf]; omega
              · go_wp2
                go_roundw
                case rel => exact ⟨k + 1, m, by omega, rfl, hm0, hmA, by rw [H3.out], by go_num, HBV.out⟩
                case measure => simp [intOf]; omega
            · have hkn : xl = k := by omega
              have hsu := HSUM.out
              have hnn := HNN.out
              rw [show ys.take k = ys from take_all (by rw [← HXL.out]; omega)] at hs1 ⊢
              obtain ⟨s0, hs0⟩ : ∃ y, y = ownTo (implZ ys) := ⟨_, rfl⟩
              rw [← hs0] at hsu hs1 ⊢
              subst hkn
              subst hnn
              have hwr1 : IntKind.i64.wrap (wj * hj) = wj * hj := IntWalk.i64_in _ (by omega)
              have hwr2 : IntKind.i64.wrap (wj * hj - m) = wj * hj - m := IntWalk.i64_in _ (by omega)
              have hwr3 : IntKind.i64.wrap (wj * hj - s0) = wj * hj - s0 := IntWalk.i64_in _ (by omega)
              have g1 : ¬ wj * hj - m < wj * hj - AR := by omega
              have g2 : ¬ wj * hj - AR < wj * hj - s0 := by omega
              clear hs0
              go_wp2
              go_meet
              exact hbr
        · obtain rfl : ok = false := by rw [HG_ok.out, tb_f hLd]
          go_wp2
          go_meet
          exact Below.refl _ _
      case rest =>
        obtain ⟨w11, hwz⟩ : ∃ z, z = wc := ⟨_, rfl⟩
        subst hwz
        clear hY HI HJ HK HG_nn HG_ok z0 z1 HXL y_0 y_1 y_2 y_3 yh
        replace hA := hA.ext hcut
        replace hB := ext_trans hB hcut
        have hz11 := hcut.size
        go_wp2_with fail
        ((with_reducible refine (drawSteepLegs_any A n cap _ hA hn16).mono ?_); rintro e w12 ⟨wk, hk, sk, LC, lf, zs, RB, rd, ls, rfl, hzl, hrl, _, hZ, hR, hb12⟩)
        replace hA := hA.ext hb12
        replace hB := ext_trans hB hb12
        have hz12 := hb12.size
        obtain ⟨U3, hU3, hD3, hs3, hv3, _⟩ := box_world w12 #[Value.int .i64 wk, Value.int .i64 hk, Value.slice LC zs.length lf, Value.int .i64 sk] 26
        replace hA := hA.ext hD3
        replace hZ := hZ.ext hD3
        replace hR := hR.ext hD3
        replace hB := ext_trans hB hD3
        have hz13 := hD3.size
        have z_0 : World.cell? U3 ⟨(World.heap w12).size, 0, none⟩ = some (Value.int .i64 wk) := hv3 0
        have z_1 : World.cell? U3 ⟨(World.heap w12).size, 1, none⟩ = some (Value.int .i64 hk) := hv3 1
        have z_2 : World.cell? U3 ⟨(World.heap w12).size, 2, none⟩ = some (Value.slice LC zs.length lf) := hv3 2
        have z_3 : World.cell? U3 ⟨(World.heap w12).size, 3, none⟩ = some (Value.int .i64 sk) := hv3 3
        have zh := hs3
        clear hv3
        have hI := fun W h k => steepLegs_any wk hk sk LC lf zs RB rd ls W (by omega) h (by omega) k
        have hJ := fun W h k => specSteepLegs_any wk hk sk LC lf zs RB rd ls W (by omega) h (by omega) k
        obtain ⟨ps, hg_ps⟩ : ∃ z, z = sel (SlOk wk hk sk zs ls) (stpTo sk ls ls.length) := ⟨_, rfl⟩
        obtain ⟨ok, hg_ok⟩ : ∃ z, z = tb (SlOk wk hk sk zs ls) := ⟨_, rfl⟩
        simp only [← hg_ps, ← hg_ok] at hI hJ
        have HI := Lib.hid hI
        have HJ := Lib.hid hJ
        have HG_ps := Lib.hid hg_ps
        have HG_ok := Lib.hid hg_ok
        clear hI hJ hg_ps hg_ok
        have hpl : ps.length ≤ 1048576 := HG_ps.out ▸ Nat.le_trans (sel_len _ _) (Nat.le_trans (stpTo_len _ _ _) (by omega))
        have z1 : (ok == ok) = true := by simp
        go_wp2_with fail
        clear hU3
        ((with_reducible refine (HI.out _ hZ.fl hR.fl).mono ?_); rintro e w14 ⟨R1, d1, rfl, hR1, hb14⟩)
        replace hA := hA.ext hb14
        replace hZ := hZ.ext hb14
        replace hR := hR.ext hb14
        replace z_0 := (hb14.cell (p := ⟨(World.heap w12).size, 0, none⟩) zh).trans z_0
        replace z_1 := (hb14.cell (p := ⟨(World.heap w12).size, 1, none⟩) zh).trans z_1
        replace z_2 := (hb14.cell (p := ⟨(World.heap w12).size, 2, none⟩) zh).trans z_2
        replace z_3 := (hb14.cell (p := ⟨(World.heap w12).size, 3, none⟩) zh).trans z_3
        replace zh := Nat.lt_of_lt_of_le zh hb14.size
        replace hB := ext_trans hB hb14
        have hz14 := hb14.size
        go_wp2_with fail
        ((with_reducible refine (HJ.out _ hZ.fl hR.fl).mono ?_); rintro e w15 ⟨R2, d2, rfl, hR2, hb15⟩)
        replace hA := hA.ext hb15
        replace hZ := hZ.ext hb15
        replace hR := hR.ext hb15
        replace hR1 := hR1.ext hb15
        replace z_0 := (hb15.cell (p := ⟨(World.heap w12).size, 0, none⟩) zh).trans z_0
        replace z_1 := (hb15.cell (p := ⟨(World.heap w12).size, 1, none⟩) zh).trans z_1
        replace z_2 := (hb15.cell (p := ⟨(World.heap w12).size, 2, none⟩) zh).trans z_2
        replace z_3 := (hb15.cell (p := ⟨(World.heap w12).size, 3, none⟩) zh).trans z_3
        replace zh := Nat.lt_of_lt_of_le zh hb15.size
        replace hB := ext_trans hB hb15
        have hz15 := hb15.size
        go_wp2_with fail
        ((with_reducible refine (vInts_same _ _ _ _ ps _ (by omega) hR1.fl hR2.fl).mono ?_); rintro e w16 ⟨rfl, hb16⟩)
        replace hA := hA.ext hb16
        replace hZ := hZ.ext hb16
        replace hR := hR.ext hb16
        replace hR1 := hR1.ext hb16
        replace hR2 := hR2.ext hb16
        replace z_0 := (hb16.cell (p := ⟨(World.heap w12).size, 0, none⟩) zh).trans z_0
        replace z_1 := (hb16.cell (p := ⟨(World.heap w12).size, 1, none⟩) zh).trans z_1
        replace z_2 := (hb16.cell (p := ⟨(World.heap w12).size, 2, none⟩) zh).trans z_2
        replace z_3 := (hb16.cell (p := ⟨(World.heap w12).size, 3, none⟩) zh).trans z_3
        replace zh := Nat.lt_of_lt_of_le zh hb16.size
        replace hB := ext_trans hB hb16
        have hz16 := hb16.size
        go_wp2
        go_ret
        exact ⟨rfl, hB⟩

set_option maxRecDepth 100000 in
theorem FnLands_holds : Rows.FnLandsSaid :=
  OpenClaim.holds_of_wide 4 Try.f4 rfl rfl rfl rfl rfl rfl rfl ⟨rfl, rfl, rfl, rfl, rfl⟩ rfl rfl rfl rfl rfl (by kernel_rfl) Try.func4 (by kernel_rfl)
    (of_decide_eq_true (by kernel_rfl)) (by unfold Func.isWrapper; first | (rw [if_pos (by decide +kernel)]; kernel_rfl) | (rw [if_neg (by decide +kernel)]; exact ⟨rfl, rfl⟩))
    (fun os started H enc _ => by
      refine law_lifted (s := Rows.fnLandsSpec) (conds := []) os started H enc (by kernel_rfl) Try.func4 (by kernel_rfl) rfl rfl Try.underlying4
        (ChangeSpec.witness6 (enc := enc) (C := Try.checked) false ⟨#[], #[.slice none 0 0], []⟩ 8 (by kernel_rfl) (by kernel_rfl) (by kernel_rfl) (by kernel_rfl)) ?_
      intro W base args ds ps hval hA
      rw [Try.params4] at hA hval
      obtain ⟨v0, vs0, d0, ds0, p0, q0, hargs, rfl, rfl, h0, r0⟩ := trodAll_cons hA
      obtain ⟨rfl, rfl, rfl⟩ := trodAll_nil r0
      obtain rfl : args = #[v0] := by cases args; simp_all
      refine ⟨rfl, ?_⟩
      obtain ⟨A0, n0, c0, rfl, hm0, hb0⟩ := open_bytes Try.underlying22 Try.underlying5 (by kernel_rfl) (hval 0 22 v0 rfl rfl) h0
      exact fnLands_any A0 n0 c0 W hm0 hb0)
end Go.Proofs.Ytlkojpmhniokfaa
