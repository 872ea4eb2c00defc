/- The first fault of a route: the reference (under way). -/
import Derived.Test.YtlkojpmhniokfaaFaultD
namespace Go.Proofs.Ytlkojpmhniokfaa
open Go.RowKit
set_option linter.unusedVariables false
set_option linter.unusedSimpArgs false

def faultP (p : Int × Int) : Int := if p.1 = 0 then 0 else p.2
set_option maxHeartbeats 4000000 in
set_option maxRecDepth 100000 in
theorem l16Fault_any (wide high steep e0' n0' most : Int) (A : Option Addr) (c : Nat) (xs : List Four) (B : Option Addr) (d : Nat) (ls : List Leg) (w : World) (hn : xs.length ≤ 1048576) (hA : Fl Four.ints 4 w A xs) (hB : Fl Leg.ints 3 w B ls)
    (hw : 1 ≤ wide ∧ wide ≤ 2000) (hh : 1 ≤ high ∧ high ≤ 2000) (hsp : 1 ≤ steep ∧ steep ≤ 100) (hR : Rt ls) (hI : InLand wide high e0' n0') (hmo : 0 ≤ most ∧ most ≤ 100000) :
    Calls Try.prog 33 #[.agg #[.int .i64 wide, .int .i64 high, .slice A xs.length c, .int .i64 steep], .int .i64 e0', .int .i64 n0', .slice B ls.length d, .int .i64 most] w fun r w' =>
      r = .returned (.tuple #[.int .i64 (faultL wide high steep most xs ls 0 e0' n0' 0).1, .int .i64 (faultP (faultL wide high steep most xs ls 0 e0' n0' 0))]) ∧ Below w.heap.size w w' := by
  obtain ⟨V0, hV0, hC0, hz0, hcv, _⟩ := box_world w #[Value.int .i64 wide, .int .i64 high, .slice A xs.length c, .int .i64 steep] 26
  have e0 : World.cell? V0 ⟨w.heap.size, 0, none⟩ = some (.int .i64 wide) := hcv 0
  have e1 : World.cell? V0 ⟨w.heap.size, 1, none⟩ = some (.int .i64 high) := hcv 1
  have e2 : World.cell? V0 ⟨w.heap.size, 2, none⟩ = some (.slice A xs.length c) := hcv 2
  have e3 : World.cell? V0 ⟨w.heap.size, 3, none⟩ = some (.int .i64 steep) := hcv 3
  have hst := fun (x : Leg) (h : IsLeg x) W => l16Steep_any wide high steep (.slice A xs.length c) rfl x h hsp W
  have hwa := fun (e n : Int) (x : Leg) (h : IsLeg x) he hnn W hW => l16Walk_any wide high steep e n x A c xs W hn (Fl.ext hA hW) hw hh h he hnn
  have hleg := hR.1
  have hl12 := hR.2
  generalize hFL : faultL wide high steep most xs ls 0 e0' n0' 0 = R
  have HFL := Lib.hid hFL
  generalize xs.length = m at *
  obtain ⟨l, hll⟩ : ∃ l, l = List.length ls := ⟨_, rfl⟩
  rw [← hll] at hl12 ⊢
  have hN := Lib.hid hll
  have HST := Lib.hid hst
  have HWA := Lib.hid hwa
  have HLEG := Lib.hid hleg
  unfold InLand at hI
  obtain ⟨i1, i2, i3, i4⟩ := hI
  clear hst hwa hleg hcv hll hFL hR
  go_enter Try.func33, Try.ntmps33
  go_wp2
  go_loopw [1, 2, 12, 13] (fun e' n' s' i wr => ∃ (k : Nat) (e n s : Int), k ≤ l ∧ i = .int .i64 k ∧ e' = .int .i64 e ∧ n' = .int .i64 n ∧ s' = .int .i64 s ∧ 0 ≤ e ∧ e ≤ 2000 ∧ 0 ≤ n ∧ n ≤ 2000 ∧ 0 ≤ s ∧ s ≤ 300000 * (k : Int) ∧ Below V0.heap.size V0 wr ∧ Hid (faultL wide high steep most xs (ls.drop k) k e n s = R)) (fun _ _ _ i _ => l - (intOf i).toNat)
  case atStart => exact ⟨0, e0', n0', 0, by omega, rfl, rfl, rfl, rfl, by omega, by omega, by omega, by omega, by omega, by omega, Below.refl _ _, HFL.out⟩
  case round =>
    obtain ⟨k, e, n, s, hk, rfl, rfl, rfl, rfl, he1, he2, hn1, hn2, hs1, hs2, hbr, hst⟩ := hrel
    have hbx := ext_trans hC0 hbr
    by_cases hlt : k < l
    · obtain ⟨x, b, o, hx, hAe, hbb, hc⟩ := (hB.ext hbx).at_ (k := k) (by rw [← hN.out]; exact hlt)
      subst hAe
      have c0 : World.cell? wr ⟨b, o + k * 3, none⟩ = some (.int .i64 x.way) := hc 0 _ rfl
      have c1 : World.cell? wr ⟨b, o + k * 3 + 1, none⟩ = some (.int .i64 x.units) := hc 1 _ rfl
      have c2 : World.cell? wr ⟨b, o + k * 3 + 2, none⟩ = some (.int .i64 x.climb) := hc 2 _ rfl
      have hL := HLEG.out k x hx
      have hh2 := hst.out
      rw [drop_get hx] at hh2
      have HH := Lib.hid hh2
      have HL := Lib.hid hL
      have hsx := HST.out x hL
      have hwx := HWA.out e n x hL ⟨he1, he2⟩ ⟨hn1, hn2⟩
      have f0 := (hbr.cell (p := ⟨w.heap.size, 0, none⟩) hz0).trans e0
      have f1 := (hbr.cell (p := ⟨w.heap.size, 1, none⟩) hz0).trans e1
      have f2 := (hbr.cell (p := ⟨w.heap.size, 2, none⟩) hz0).trans e2
      have f3 := (hbr.cell (p := ⟨w.heap.size, 3, none⟩) hz0).trans e3
      have hpc := plus_cell wr
      have hzz : w.heap.size < wr.heap.size := Nat.lt_of_lt_of_le hz0 hbr.size
      clear hc hx hh2 hL
      have hk0 : (0 : Int) ≤ (k : Int) := by omega
      have hk1 : (k : Int) < (l : Int) := by omega
      by_cases h1 : steep * x.units < absI x.climb
      · simp only [tb_t h1] at hsx
        have H1 := Lib.hid h1
        have HSX := Lib.hid hsx
        clear h1 hsx hwx
        go_wp2_with fail
        refine wp_region_grow (by kernel_rfl) (by kernel_rfl) ?_
        repeat (go_big_quiet_step ((first | (go_at_call 39; exact quiet_below (HSX.out _)))))
        refine wpQuiet_nil ?_
        intro w1 hb1
        go_wp2
        go_ret2
        have hr : R = (3, (k : Int)) := by rw [← HH.out, faultL_steep H1.out]
        exact ⟨by rw [hr]; rfl, ext_trans hbx hb1⟩
      · simp only [tb_f h1] at hsx
        have H1 := Lib.hid h1
        have HSX := Lib.hid hsx
        obtain ⟨F, hF⟩ : ∃ F, walkF wide high xs (stepE x.way) (stepN x.way) x.units.toNat e n = F := ⟨_, rfl⟩
        simp only [hF] at hwx
        have HF := Lib.hid hF
        have HWX := Lib.hid hwx
        clear h1 hsx hwx hF
        go_wp2_with fail
        refine wp_region_grow (by kernel_rfl) (by kernel_rfl) ?_
        repeat (go_big_quiet_step ((first | (go_at_call 39; exact quiet_below (HSX.out _)))))
        refine wpQuiet_nil ?_
        intro w1 hb1
        obtain ⟨wa, hwa'⟩ : ∃ z, z = w1 := ⟨_, rfl⟩
        subst hwa'
        have hba := hb1
        clear hb1
        have hx1 := ext_trans hbx hba
        have g0 := ((ext_trans hbr hba).cell (p := ⟨w.heap.size, 0, none⟩) hz0).trans e0
        have g1 := ((ext_trans hbr hba).cell (p := ⟨w.heap.size, 1, none⟩) hz0).trans e1
        have g2 := ((ext_trans hbr hba).cell (p := ⟨w.heap.size, 2, none⟩) hz0).trans e2
        have g3 := ((ext_trans hbr hba).cell (p := ⟨w.heap.size, 3, none⟩) hz0).trans e3
        have d0 := (hba.cell (p := ⟨b, o + k * 3, none⟩) hbb).trans c0
        have d1 := (hba.cell (p := ⟨b, o + k * 3 + 1, none⟩) hbb).trans c1
        have d2 := (hba.cell (p := ⟨b, o + k * 3 + 2, none⟩) hbb).trans c2
        have hpc1 := plus_cell wa
        have hzz1 : w.heap.size < wa.heap.size := Nat.lt_of_lt_of_le hzz hba.size
        have hbb1 : b < wa.heap.size := Nat.lt_of_lt_of_le hbb hba.size
        go_wp2_with fail
        refine wp_region_grow (by kernel_rfl) (by kernel_rfl) ?_
        repeat (go_big_quiet_step ((first | (go_at_call 57; exact quiet_below (HWX.out _ (ext_trans hx1 (plus_below _ _)))))))
        refine wpQuiet_nil ?_
        intro w1 hb1
        by_cases hF0 : F = 0
        · subst hF0
          have q0 := (hb1.cell (p := ⟨b, o + k * 3, none⟩) hbb1).trans d0
          have q1 := (hb1.cell (p := ⟨b, o + k * 3 + 1, none⟩) hbb1).trans d1
          have q2 := (hb1.cell (p := ⟨b, o + k * 3 + 2, none⟩) hbb1).trans d2
          have hbb2 : b < w1.heap.size := Nat.lt_of_lt_of_le hbb1 hb1.size
          have hx2 := ext_trans hx1 hb1
          have hpa := l15Parts_any x HL.out w1
          have hpb := partsL_bd HL.out
          obtain ⟨PX, hPX⟩ : ∃ PX, partsL x = PX := ⟨_, rfl⟩
          rw [hPX] at hpa hpb
          have HPX := Lib.hid hPX
          have HPA := Lib.hid hpa
          clear hPX hpa
          go_wp2_with fail
          refine (HPA.out).mono ?_
          rintro e w2 ⟨rfl, hb2⟩
          have hx3 := ext_trans hx2 hb2
          have t0 := (hb2.cell (p := ⟨b, o + k * 3, none⟩) hbb2).trans q0
          have t1 := (hb2.cell (p := ⟨b, o + k * 3 + 1, none⟩) hbb2).trans q1
          have hbb3 : b < w2.heap.size := Nat.lt_of_lt_of_le hbb2 hb2.size
          by_cases h3 : 150 * most < s + PX
          · go_wp2
            go_ret2
            have hr : R = (4, (k : Int)) := by rw [← HH.out, faultL_late (Int.not_lt.2 H1.out) HF.out (by rw [HPX.out]; exact h3)]
            exact ⟨by rw [hr]; rfl, hx3⟩
          · have hst5 := l15Step_any x.way HL.out.1 w2
            have hLx := HL.out
            unfold IsLeg at hLx
            obtain ⟨_, ⟨p3, p4⟩, _⟩ := hLx
            have hend := walkF_end x.units.toNat e n (by omega) HF.out
            rw [show ((x.units.toNat : Nat) : Int) = x.units from by omega] at hend
            unfold InLand at hend
            have hg := HH.out
            rw [faultL_go (Int.not_lt.2 H1.out) HF.out (by rw [HPX.out]; exact h3), HPX.out] at hg
            generalize stepE x.way = EA at hst5 hend hg
            generalize stepN x.way = NB at hst5 hend hg
            obtain ⟨j1, j2, j3, j4⟩ := hend
            have m1 : IntKind.i64.wrap (EA * x.units) = EA * x.units := IntWalk.i64_in _ (by omega)
            have m2 : IntKind.i64.wrap (NB * x.units) = NB * x.units := IntWalk.i64_in _ (by omega)
            have m3 : IntKind.i64.wrap (e + EA * x.units) = e + EA * x.units := IntWalk.i64_in _ (by omega)
            have m4 : IntKind.i64.wrap (n + NB * x.units) = n + NB * x.units := IntWalk.i64_in _ (by omega)
            have HG := Lib.hid hg
            have HS5 := Lib.hid hst5
            clear hg hst5
            go_wp2_with fail
            refine (HS5.out).mono ?_
            rintro e w3 ⟨rfl, hb3⟩
            have u1 := (hb3.cell (p := ⟨b, o + k * 3 + 1, none⟩) hbb3).trans t1
            have hbV := ext_trans (ext_trans (ext_trans (ext_trans hbr hba) hb1) hb2) hb3
            go_wp2
            go_roundw
            case rel => exact ⟨k + 1, e + EA * x.units, n + NB * x.units, s + PX, by omega, by go_num, rfl, rfl, rfl, by omega, by omega, by omega, by omega, by omega, by omega, hbV, HG.out⟩
            case measure => simp [intOf]; omega
        · have hFb : (F != 0) = true := bne_iff_ne.2 hF0
          go_wp2
          go_ret2
          have hr : R = (F, (k : Int)) := by rw [← HH.out, faultL_walk (Int.not_lt.2 H1.out) HF.out hF0]
          exact ⟨by rw [hr, show faultP (F, (k : Int)) = (k : Int) from if_neg hF0]; rfl, ext_trans hx1 hb1⟩
    · have hkn : k = l := by omega
      subst hkn
      have h := hst.out
      rw [drop_all (by rw [← hN.out]; exact Nat.le_refl _), faultL] at h
      have hR1 : R.1 = 0 := by rw [← h]
      have hR2 : faultP R = 0 := by rw [← h]; rfl
      go_wp2
      go_ret2
      exact ⟨by rw [hR1, hR2]; rfl, hbx⟩
end Go.Proofs.Ytlkojpmhniokfaa
