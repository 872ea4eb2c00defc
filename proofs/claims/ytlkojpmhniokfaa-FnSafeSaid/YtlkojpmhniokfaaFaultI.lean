/- The first fault of a route: the program. -/
import Derived.Test.YtlkojpmhniokfaaFaultD
import Derived.Test.YtlkojpmhniokfaaLegM
import Derived.Test.YtlkojpmhniokfaaCut
namespace Go.Proofs.Ytlkojpmhniokfaa
open Go.RowKit
set_option linter.unusedVariables false
set_option linter.unusedSimpArgs false

set_option maxHeartbeats 4000000 in
set_option maxRecDepth 100000 in
theorem firstFault_any (wide high steep e0' n0' most : Int) (A : Option Addr) (c : Nat) (xs : List Four) (B : Option Addr) (d : Nat) (ls : List Leg) (w : World) (hn : xs.length ≤ 1048576) (hA : Fl Four.ints 4 w A xs) (hB : Fl Leg.ints 3 w B ls) (hd : ls.length ≤ d) (hdm : d ≤ 9223372036854775807)
    (hw : 1 ≤ wide ∧ wide ≤ 2000) (hh : 1 ≤ high ∧ high ≤ 2000) (hsp : 1 ≤ steep ∧ steep ≤ 100) (hR : Rt ls) (hI : InLand wide high e0' n0') (hmo : 0 ≤ most ∧ most ≤ 100000) :
    Calls Try.prog 31 #[.agg #[.int .i64 wide, .int .i64 high, .slice A xs.length c, .int .i64 steep], .int .i64 e0', .int .i64 n0', .slice B ls.length d, .int .i64 most] w fun r w' =>
      r = .returned (.tuple #[.int .i64 (faultL wide high steep most xs ls 0 e0' n0' 0).1, .int .i64 (faultL wide high steep most xs ls 0 e0' n0' 0).2]) ∧ Below w.heap.size w w' := by
  obtain ⟨V0, hV0, hC0, hz0, hcv, _⟩ := box_world w #[Value.int .i64 wide, .int .i64 high, .slice A xs.length c, .int .i64 steep] 26
  have e0 : World.cell? V0 ⟨w.heap.size, 0, none⟩ = some (.int .i64 wide) := hcv 0
  have e1 : World.cell? V0 ⟨w.heap.size, 1, none⟩ = some (.int .i64 high) := hcv 1
  have e2 : World.cell? V0 ⟨w.heap.size, 2, none⟩ = some (.slice A xs.length c) := hcv 2
  have e3 : World.cell? V0 ⟨w.heap.size, 3, none⟩ = some (.int .i64 steep) := hcv 3
  have hst := fun (x : Leg) (h : IsLeg x) W => isSteep_any wide high steep (.slice A xs.length c) rfl x h hsp W
  have hen := fun (e n a b : Int) ha hb he hnn W hW => enter_any wide high steep e n a b A c xs W hn (Fl.ext hA hW) hw hh ha hb he hnn
  have hleg := hR.1
  have hl12 := hR.2
  generalize hFL : faultL wide high steep most xs ls 0 e0' n0' 0 = R
  have HFL := Lib.hid hFL
  generalize xs.length = m at *
  obtain ⟨l, hll⟩ : ∃ l, l = List.length ls := ⟨_, rfl⟩
  rw [← hll] at hl12 hd ⊢
  have hN := Lib.hid hll
  have HST := Lib.hid hst
  have HEN := Lib.hid hen
  have HLEG := Lib.hid hleg
  unfold InLand at hI
  obtain ⟨i1, i2, i3, i4⟩ := hI
  clear hst hen hleg hcv hll hFL hR
  go_enter Try.func31, Try.ntmps31
  go_wp2
  go_loopw [1, 2, 19] (fun e' n' i wr => ∃ (k : Nat) (e n : Int), k ≤ l ∧ i = .int .i64 k ∧ e' = .int .i64 e ∧ n' = .int .i64 n ∧ 0 ≤ e ∧ e ≤ 2000 ∧ 0 ≤ n ∧ n ≤ 2000 ∧ Below V0.heap.size V0 wr ∧ Hid (faultL wide high steep most xs (ls.drop k) k e n (sumP (ls.take k)) = R)) (fun _ _ i _ => l - (intOf i).toNat)
  case atStart => exact ⟨0, e0', n0', by omega, rfl, rfl, rfl, by omega, by omega, by omega, by omega, Below.refl _ _, HFL.out⟩
  case round =>
    obtain ⟨k, e, n, hk, rfl, rfl, rfl, he1, he2, hn1, hn2, hbr, hst⟩ := hrel
    have hbx := ext_trans hC0 hbr
    by_cases hlt : k < l
    · obtain ⟨x, bb, o, hx, hAe, hbb, hc⟩ := (hB.ext hbx).at_ (k := k) (by rw [← hN.out]; exact hlt)
      subst hAe
      have c0 : World.cell? wr ⟨bb, o + k * 3, none⟩ = some (.int .i64 x.way) := hc 0 _ rfl
      have c1 : World.cell? wr ⟨bb, o + k * 3 + 1, none⟩ = some (.int .i64 x.units) := hc 1 _ rfl
      have c2 : World.cell? wr ⟨bb, o + k * 3 + 2, none⟩ = some (.int .i64 x.climb) := hc 2 _ rfl
      have hL := HLEG.out k x hx
      have hh2 := hst.out
      rw [drop_get hx] at hh2
      have HH := Lib.hid hh2
      have HL := Lib.hid hL
      have HT := Lib.hid (take_get hx)
      have hsx := HST.out x hL
      obtain ⟨W0, hW0, hB0, hz0', hg, _⟩ := box_world wr #[Value.int .i64 x.way, .int .i64 x.units, .int .i64 x.climb] 65
      have g0 : World.cell? W0 ⟨wr.heap.size, 0, none⟩ = some (.int .i64 x.way) := hg 0
      have g1 : World.cell? W0 ⟨wr.heap.size, 1, none⟩ = some (.int .i64 x.units) := hg 1
      have g2 : World.cell? W0 ⟨wr.heap.size, 2, none⟩ = some (.int .i64 x.climb) := hg 2
      have hbV := ext_trans hbr hB0
      have hbW := ext_trans hC0 hbV
      have f0 := (hbV.cell (p := ⟨w.heap.size, 0, none⟩) hz0).trans e0
      have f1 := (hbV.cell (p := ⟨w.heap.size, 1, none⟩) hz0).trans e1
      have f2 := (hbV.cell (p := ⟨w.heap.size, 2, none⟩) hz0).trans e2
      have f3 := (hbV.cell (p := ⟨w.heap.size, 3, none⟩) hz0).trans e3
      clear hc hx hh2 hL hg
      have hk0 : (0 : Int) ≤ (k : Int) := by omega
      have hk1 : (k : Int) < (l : Int) := by omega
      by_cases h1 : steep * x.units < absI x.climb
      · simp only [tb_t h1] at hsx
        have H1 := Lib.hid h1
        have HSX := Lib.hid hsx
        clear h1 hsx
        go_wp2_with fail
        ((with_reducible refine (HSX.out W0).mono ?_); rintro e w1 ⟨rfl, hb1⟩)
        go_wp2
        go_ret2
        have hr : R = (3, (k : Int)) := by rw [← HH.out, faultL_steep H1.out]
        exact ⟨by rw [hr]; rfl, ext_trans hbW hb1⟩
      · simp only [tb_f h1] at hsx
        have H1 := Lib.hid h1
        have hL := HL.out
        have hea := stepE_bd x.way
        have hnb := stepN_bd x.way
        have hun := fun W => unit_any x hL W
        obtain ⟨U, hU⟩ : ∃ U : Nat, x.units = (U : Int) := ⟨x.units.toNat, by unfold IsLeg at hL; omega⟩
        have hU9 : U ≤ 999 := by unfold IsLeg at hL; omega
        have hU1 : 1 ≤ U := by unfold IsLeg at hL; omega
        have hut : x.units.toNat = U := by omega
        obtain ⟨F, hF⟩ : ∃ F, walkF wide high xs (stepE x.way) (stepN x.way) x.units.toNat e n = F := ⟨_, rfl⟩
        have HF := Lib.hid hF
        rw [hut] at hF
        rw [hU] at g1
        simp only [hU] at hsx hun
        have HSX := Lib.hid hsx
        have hpb := partsL_bd hL
        generalize hEA : stepE x.way = a at hun hea hF
        generalize hNB : stepN x.way = b at hun hnb hF
        obtain ⟨ha1, ha2⟩ := hea
        obtain ⟨hb1', hb2'⟩ := hnb
        have HEA := Lib.hid hEA
        have HNB := Lib.hid hNB
        have HF2 := Lib.hid hF
        have HUN := Lib.hid hun
        have HU := Lib.hid hU
        clear h1 hsx hL hun hU hut hF hEA hNB
        go_wp2_with fail
        ((with_reducible refine (HSX.out W0).mono ?_); rintro e w1 ⟨rfl, hb1⟩)
        have p0 := (hb1.cell (p := ⟨wr.heap.size, 0, none⟩) hz0').trans g0
        have p1 := (hb1.cell (p := ⟨wr.heap.size, 1, none⟩) hz0').trans g1
        have p2 := (hb1.cell (p := ⟨wr.heap.size, 2, none⟩) hz0').trans g2
        have hz1 : wr.heap.size < w1.heap.size := Nat.lt_of_lt_of_le hz0' hb1.size
        go_wp2_with fail
        ((with_reducible refine (HUN.out w1).mono ?_); rintro e w2 ⟨rfl, hb2⟩)
        have q1 := (hb2.cell (p := ⟨wr.heap.size, 1, none⟩) hz1).trans p1
        have hbV2 := ext_trans (ext_trans hbV hb1) hb2
        obtain ⟨wo, hwo⟩ : ∃ z, z = wr := ⟨_, rfl⟩
        subst hwo
        go_wp2
        go_loopw [1, 2, 35] (fun e' n' i wj => ∃ (j : Nat) (ei ni : Int), j ≤ U ∧ i = .int .i64 j ∧ e' = .int .i64 ei ∧ n' = .int .i64 ni ∧ 0 ≤ ei ∧ ei ≤ 2000 ∧ 0 ≤ ni ∧ ni ≤ 2000 ∧ Below V0.heap.size V0 wj ∧ Hid (walkF wide high xs a b (U - j) ei ni = F) ∧ Hid (ei = e + a * (j : Int) ∧ ni = n + b * (j : Int))) (fun _ _ i _ => U - (intOf i).toNat)
        case atStart => exact ⟨0, e, n, by omega, rfl, rfl, rfl, he1, he2, hn1, hn2, hbV2, HF2.out, by simp, by simp⟩
        case round =>
          obtain ⟨j, ei, ni, hj, rfl, rfl, rfl, hei1, hei2, hni1, hni2, hbj, hwf, hpos⟩ := hrel
          have hbxj := ext_trans hC0 hbj
          have r0 := (hbj.cell (p := ⟨w.heap.size, 0, none⟩) hz0).trans e0
          have r1 := (hbj.cell (p := ⟨w.heap.size, 1, none⟩) hz0).trans e1
          have r2 := (hbj.cell (p := ⟨w.heap.size, 2, none⟩) hz0).trans e2
          have r3 := (hbj.cell (p := ⟨w.heap.size, 3, none⟩) hz0).trans e3
          by_cases hjl : j < U
          · have huj : U - j = (U - j - 1) + 1 := by omega
            have HUJ := Lib.hid huj
            have hen1 := HEN.out ei ni a b ⟨ha1, ha2⟩ ⟨hb1', hb2'⟩ ⟨by omega, by omega⟩ ⟨by omega, by omega⟩ wr hbxj
            obtain ⟨S, hS⟩ : ∃ S, stepF wide high xs ei ni a b = S := ⟨_, rfl⟩
            rw [hS] at hen1
            have HS := Lib.hid hS
            have HEN1 := Lib.hid hen1
            clear huj hS hen1
            have hj0 : (0 : Int) ≤ (j : Int) := by omega
            have hj1 : (j : Int) < (U : Int) := by omega
            go_wp2_with fail
            ((with_reducible refine (HEN1.out).mono ?_); rintro e w3 ⟨rfl, hb3⟩)
            by_cases hS0 : S = 0
            · have hin := stepF_in (HS.out.trans hS0)
              unfold InLand at hin
              obtain ⟨k1, k2, k3, k4⟩ := hin
              have HS0 := Lib.hid hS0
              subst hS0
              go_wp2
              go_roundw
              case rel => exact ⟨j + 1, ei + a, ni + b, by omega, by go_num, rfl, rfl, by omega, by omega, by omega, by omega, ext_trans hbj hb3, by have h := hwf.out; rw [HUJ.out, walkF_go HS.out] at h; rw [show U - (j + 1) = U - j - 1 from by omega]; exact h, by rw [hpos.out.1, show ((j + 1 : Nat) : Int) = (j : Int) + 1 from by omega, Int.mul_add]; omega, by rw [hpos.out.2, show ((j + 1 : Nat) : Int) = (j : Int) + 1 from by omega, Int.mul_add]; omega⟩
              case measure => simp [intOf]; omega
            · have hSb : (S != 0) = true := bne_iff_ne.2 hS0
              have HS0 := Lib.hid hS0
              clear hS0
              go_wp2
              go_ret2
              have hFS : F = S := by rw [← hwf.out, HUJ.out]; exact walkF_stop HS.out HS0.out
              have hr : R = (S, (k : Int)) := by rw [← HH.out, faultL_walk (Int.not_lt.2 H1.out) (HF.out.trans hFS) HS0.out]
              exact ⟨by rw [hr]; rfl, ext_trans hbxj hb3⟩
          · have hjU : j = U := by omega
            subst hjU
            have hF0 : F = 0 := by rw [← hwf.out, Nat.sub_self]; rfl
            have hmin := minutes_any (some ⟨bb, o, none⟩) d (ls.take (k + 1)) wr (by rw [List.length_take]; omega) (fun y hy => by obtain ⟨i, hi⟩ := List.getElem?_of_mem (List.mem_of_mem_take hy); exact HLEG.out i y hi) ((hB.ext hbxj).takeC (k + 1))
            rw [show (ls.take (k + 1)).length = k + 1 from by rw [List.length_take, ← hN.out]; omega] at hmin
            have hsm : sumP (ls.take (k + 1)) = sumP (ls.take k) + partsL x := by rw [HT.out, sumP_snoc]
            have hsb := sumP_bd (ls.take (k + 1)) (fun y hy => by obtain ⟨i, hi⟩ := List.getElem?_of_mem (List.mem_of_mem_take hy); exact HLEG.out i y hi)
            rw [show (ls.take (k + 1)).length = k + 1 from by rw [List.length_take, ← hN.out]; omega] at hsb
            generalize sumP (ls.take (k + 1)) = S at hmin hsm hsb
            have HSM := Lib.hid hsm
            have HMIN := Lib.hid hmin
            have HF0 := Lib.hid hF0
            clear hsm hmin hF0
            have hkd1 : (k : Int) + 1 ≤ (d : Int) := by omega
            have hkd2 : k + 1 ≤ d := by omega
            go_wp2_with fail
            ((with_reducible refine (HMIN.out).mono ?_); rintro e w4 ⟨rfl, hb4⟩)
            have hx4 := ext_trans hbxj hb4
            by_cases h3 : 150 * most < S
            · go_wp2
              go_ret2
              have hr : R = (4, (k : Int)) := by rw [← HH.out, faultL_late (Int.not_lt.2 H1.out) (HF.out.trans HF0.out) (by rw [← HSM.out]; exact h3)]
              exact ⟨by rw [hr]; rfl, hx4⟩
            · have hg := HH.out
              rw [faultL_go (Int.not_lt.2 H1.out) (HF.out.trans HF0.out) (by rw [← HSM.out]; exact h3), HEA.out, HNB.out, HU.out, ← hpos.out.1, ← hpos.out.2] at hg
              have HG := Lib.hid hg
              clear hg
              go_wp2
              go_roundw
              case rel => exact ⟨k + 1, ei, ni, by omega, by go_num, rfl, rfl, hei1, hei2, hni1, hni2, ext_trans hbj hb4, by rw [HT.out, sumP_snoc]; exact HG.out⟩
              case measure => simp [intOf]; omega
    · have hkn : k = l := by omega
      subst hkn
      have h := hst.out
      rw [drop_all (by rw [← hN.out]; exact Nat.le_refl _), faultL] at h
      have hR1 : R.1 = 0 := by rw [← h]
      have hR2 : R.2 = (k : Int) := by rw [← h]
      go_wp2
      go_ret2
      exact ⟨by rw [hR1, hR2]; rfl, hbx⟩
end Go.Proofs.Ytlkojpmhniokfaa
