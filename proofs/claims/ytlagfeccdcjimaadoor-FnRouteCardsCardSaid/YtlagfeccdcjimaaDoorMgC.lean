/- The closest route: the program's side. The closest route: the reference's side. No condition. -/
import Derived.Test.YtlagfeccdcjimaaDoorWayD
import Derived.Test.YtlagfeccdcjimaaDoorLegP
import Derived.Test.YtlagfeccdcjimaaDoorWithin
import Derived.Test.YtlagfeccdcjimaaDoorLst
import Derived.Test.YtlagfeccdcjimaaDoorBase2
import Derived.IntWalk
import Derived.Deep.DeepCutAuto
import Derived.Test.YtlagfeccdcjimaaDoorMxMn
namespace Go.Proofs.YtlagfeccdcjimaaDoor
open Go.RowKit
set_option linter.unusedVariables false
set_option linter.unusedSimpArgs false

def closeD (e n : Int) : List Leg := if 0 < min (absI e) (absI n) then [⟨wayOf (sgnI e) (sgnI n), min (absI e) (absI n), 0⟩] else []
def closeS (e n : Int) : List Leg := if absI n < absI e then [⟨wayOf (sgnI e) 0, absI e - absI n, 0⟩] else if absI e < absI n then [⟨wayOf 0 (sgnI n), absI n - absI e, 0⟩] else []
def closeL (e n : Int) : List Leg := closeD e n ++ closeS e n
def CkOk (e n : Int) : Prop := (-999 ≤ e ∧ e ≤ 999) ∧ (-999 ≤ n ∧ n ≤ 999)
theorem closeL_len (e n : Int) : (closeL e n).length ≤ 2 := by
  unfold closeL closeD closeS
  split <;> split <;> (try split) <;> simp
theorem sgn_mul (n : Int) : n * sgnI n = absI n := by
  unfold sgnI absI
  split
  · omega
  · split <;> omega
theorem sgn_abs (n : Int) : absI n * sgnI n = n := by
  unfold sgnI absI
  split
  · omega
  · split <;> omega
theorem sgn_zero {n : Int} (h : 0 < absI n) : sgnI n ≠ 0 := by
  unfold sgnI; unfold absI at h
  split <;> (try split) <;> omega
/-- what is left of a part when m units have been gone in its sign -/
theorem cl_rest {e m : Int} (h0 : 0 ≤ m) (h1 : m ≤ absI e) : absI (e - m * sgnI e) = absI e - m ∧ (m < absI e → sgnI (e - m * sgnI e) = sgnI e) ∧ (m * sgnI e = m ∨ m * sgnI e = -m ∨ m * sgnI e = 0) := by
  unfold sgnI absI at *
  by_cases a : e < 0
  · simp only [if_pos a] at h1 ⊢
    rw [show m * -1 = -m by omega]
    refine ⟨?_, fun h => ?_, ?_⟩
    · split <;> omega
    · rw [if_pos (by omega)]
    · omega
  · simp only [if_neg a] at h1 ⊢
    by_cases b : 0 < e
    · simp only [if_pos b] at h1 ⊢
      rw [Int.mul_one]
      refine ⟨?_, fun h => ?_, ?_⟩
      · split <;> omega
      · rw [if_neg (by omega), if_pos (by omega)]
      · omega
    · simp only [if_neg b] at h1 ⊢
      rw [Int.mul_zero, Int.sub_zero]
      refine ⟨?_, fun h => ?_, ?_⟩
      · rw [if_neg a]; omega
      · omega
      · omega
theorem absI_in {n m : Int} (h : absI n ≤ m) : -m ≤ n ∧ n ≤ m := by unfold absI at h; split at h <;> omega
theorem absI_zero {n : Int} (h : absI n = 0) : n = 0 := by unfold absI at h; split at h <;> omega
theorem absI_pos {n : Int} (h : 0 < absI n) : n ≠ 0 := by unfold absI at h; split at h <;> omega
set_option maxHeartbeats 1000000 in
set_option maxRecDepth 100000 in
theorem closest_any (ea no : Int) (w : World)  :
    Calls Tryd.prog 6 #[.int .i64 ea, .int .i64 no] w (RetL Leg.ints 3 w (sel (CkOk ea no) (closeL ea no)) (tb (CkOk ea no))) := by
  obtain ⟨i0, hi, hz0, hz1, hz2⟩ := info_parts infoLeg
  obtain ⟨s, hs⟩ : ∃ z, z = sgnI ea := ⟨_, rfl⟩
  obtain ⟨t, ht⟩ : ∃ z, z = sgnI no := ⟨_, rfl⟩
  obtain ⟨a, ha⟩ : ∃ z, z = absI ea := ⟨_, rfl⟩
  obtain ⟨b, hb⟩ : ∃ z, z = absI no := ⟨_, rfl⟩
  have hsb := sgnI_bd ea
  have htb := sgnI_bd no
  have hs0 := @sgn_zero ea
  have ht0 := @sgn_zero no
  rw [← hs] at hsb hs0
  rw [← ht] at htb ht0
  rw [← ha] at hs0
  rw [← hb] at ht0
  have HS := Lib.hid hs
  have HT := Lib.hid ht
  have HA := Lib.hid ha
  have HB := Lib.hid hb
  have hCL : closeL ea no = (if 0 < min a b then [⟨wayOf s t, min a b, 0⟩] else []) ++ (if b < a then [⟨wayOf s 0, a - b, 0⟩] else if a < b then [⟨wayOf 0 t, b - a, 0⟩] else []) := by rw [hs, ht, ha, hb]; rfl
  have HCL := Lib.hid hCL
  clear hCL
  have habs : CkOk ea no → (0 ≤ a ∧ a ≤ 999) ∧ (0 ≤ b ∧ b ≤ 999) := fun h => ⟨ha ▸ absI_bd h.1.1 h.1.2, hb ▸ absI_bd h.2.1 h.2.2⟩
  have hrX := fun (m : Int) (h0 : 0 ≤ m) (h1 : m ≤ a) => cl_rest (e := ea) h0 (ha ▸ h1)
  have hrY := fun (m : Int) (h0 : 0 ≤ m) (h1 : m ≤ b) => cl_rest (e := no) h0 (hb ▸ h1)
  simp only [← hs, ← ha] at hrX
  simp only [← ht, ← hb] at hrY
  have hAE := fun W (h : CkOk ea no) => abs_any ea h.1 W
  have hAN := fun W (h : CkOk ea no) => abs_any no h.2 W
  have hSE := fun W => sign_any ea W
  have hSN := fun W => sign_any no W
  simp only [← ha] at hAE
  simp only [← hb] at hAN
  simp only [← hs] at hSE
  simp only [← ht] at hSN
  have HRX := Lib.hid hrX
  have HRY := Lib.hid hrY
  have HAE := Lib.hid hAE
  have HAN := Lib.hid hAN
  have HSE := Lib.hid hSE
  have HSN := Lib.hid hSN
  have HABS := Lib.hid habs
  clear hrX hrY hAE hAN hSE hSN habs hs ht ha hb
  go_enter Tryd.func6, Tryd.ntmps6
  by_cases h1 : -999 ≤ ea ∧ ea ≤ 999
  · go_wp2_with fail
    refine (within_t ea (-999) 999 _ h1).mono ?_
    rintro e w9 ⟨rfl, rfl⟩
    by_cases h2 : -999 ≤ no ∧ no ≤ 999
    · go_wp2_with fail
      refine (within_t no (-999) 999 _ h2).mono ?_
      rintro e w9 ⟨rfl, rfl⟩
      have HO : Hid (CkOk ea no) := ⟨h1, h2⟩
      obtain ⟨⟨ha0, ha9⟩, ⟨hb0, hb9⟩⟩ := HABS.out HO.out
      go_wp2_with fail
      ((with_reducible refine (HAE.out _ HO.out).mono ?_); rintro e _ ⟨rfl, rfl⟩)
      go_wp2_with fail
      ((with_reducible refine (HAN.out _ HO.out).mono ?_); rintro e _ ⟨rfl, rfl⟩)
      obtain ⟨m, hm⟩ : ∃ z, z = min a b := ⟨_, rfl⟩
      have hm0 : 0 ≤ m := by omega
      have hma : m ≤ a := by omega
      have hmb : m ≤ b := by omega
      have hmm : m = a ∨ m = b := by omega
      obtain ⟨x1, x2, x3⟩ := HRX.out m hm0 hma
      obtain ⟨y1, y2, y3⟩ := HRY.out m hm0 hmb
      obtain ⟨P, hP⟩ : ∃ z, z = m * s := ⟨_, rfl⟩
      obtain ⟨Q, hQ⟩ : ∃ z, z = m * t := ⟨_, rfl⟩
      rw [← hP] at x1 x2 x3
      rw [← hQ] at y1 y2 y3
      obtain ⟨X, hX⟩ : ∃ z, z = ea - P := ⟨_, rfl⟩
      obtain ⟨Y, hY⟩ : ∃ z, z = no - Q := ⟨_, rfl⟩
      rw [← hX] at x1 x2
      rw [← hY] at y1 y2
      have hmin : min a b = m := hm.symm
      have hea := HO.out.1
      have hno := HO.out.2
      have w1 : IntKind.i64.wrap (m * s) = P := by rw [← hP]; exact IntWalk.i64_in _ (by omega)
      have w2 : IntKind.i64.wrap (m * t) = Q := by rw [← hQ]; exact IntWalk.i64_in _ (by omega)
      have w3 : IntKind.i64.wrap (ea - P) = X := by rw [hX]; exact IntWalk.i64_in _ (by omega)
      have w4 : IntKind.i64.wrap (no - Q) = Y := by rw [hY]; exact IntWalk.i64_in _ (by omega)
      have hXi : -999 ≤ X ∧ X ≤ 999 := absI_in (by rw [x1]; omega)
      have hYi : -999 ≤ Y ∧ Y ≤ 999 := absI_in (by rw [y1]; omega)
      have HX1 := Lib.hid x1
      have HX2 := Lib.hid x2
      have HY1 := Lib.hid y1
      have HY2 := Lib.hid y2
      have HMN := Lib.hid hmin
      have ho0 : OwnF Leg.ints 3 w.heap.size 52 w (.slice none 0 0) ([] : List Leg) := OwnF.none_
      have hxz := Below.refl w.heap.size w
      have HMM := Lib.hid hmm
      have HIF := Lib.hid (show (if b < a then b else a) = m from by rw [hm]; split <;> omega)
      clear x1 x2 x3 y1 y2 y3 hP hQ hX hY hmm hm hmin
      go_upto_region 5 with fail
      rw [HIF.out]
      by_cases hmp : 0 < m
      · skip
        have hWT := Lib.hid (fun W => wayTo_any s t hsb htb (by have := hs0 (by omega); omega) W)
        obtain ⟨wd, hwd⟩ : ∃ z, z = wayOf s t := ⟨_, rfl⟩
        rw [← hwd] at hWT
        have HWD := Lib.hid hwd
        clear hwd
        go_wp2_with fail
        ((with_reducible refine (HSE.out _).mono ?_); rintro e _ ⟨rfl, rfl⟩)
        go_wp2_with fail
        ((with_reducible refine (HSN.out _).mono ?_); rintro e _ ⟨rfl, rfl⟩)
        go_wp2_with fail
        ((with_reducible refine (hWT.out _).mono ?_); rintro e wq1 ⟨rfl, hq1⟩)
        have hxq1 := ext_trans hxz hq1
        have hoq1 := ho0.ext hq1
        go_wp2_with (at_builtin; refine wpList_append_flat (f := Leg.ints) (y := ⟨wd, m, 0⟩) rfl _ _ _ rfl w.heap.size i0 _ 3 24 Tryd.underlying26 hi hz0 hz1 hz2 rfl (by decide) _ _ rfl rfl hoq1 rfl ?_ (by decide) ?_ ?_; simp; exact hxq1.size; intro v1 w1 hown1 hg1 hb1)
        have hx1 := hxq1.trans hb1
        clear hg1
        go_wp2_with fail
        ((with_reducible refine (HSE.out _).mono ?_); rintro e _ ⟨rfl, rfl⟩)
        go_wp2_with fail
        ((with_reducible refine (HSN.out _).mono ?_); rintro e _ ⟨rfl, rfl⟩)
        rcases Int.lt_trichotomy a b with hab | hab | hab
        · skip
          have hYn : Y ≠ 0 := absI_pos (by rw [HY1.out]; have := HMM.out; omega)
          have hX0 : X = 0 := absI_zero (by rw [HX1.out]; have := HMM.out; omega)
          subst hX0
          have hYe : (Y != 0) = true := by simp [hYn]
          have hsY := HY2.out (by have := HMM.out; omega)
          have HM2 := Lib.hid (show m = a from by have := HMM.out; omega)
          have hSX := Lib.hid (show ∀ W, Calls Tryd.prog 26 #[.int .i64 (0)] W fun e w' => e = .returned (.int .i64 (0)) ∧ W = w' from fun W => by have := sign_any (0) W; exact this)
          have hSY := Lib.hid (show ∀ W, Calls Tryd.prog 26 #[.int .i64 (Y)] W fun e w' => e = .returned (.int .i64 (t)) ∧ W = w' from fun W => by have := sign_any (Y) W; rwa [hsY] at this)
          have hAX := Lib.hid (show ∀ W, Calls Tryd.prog 24 #[.int .i64 (0)] W fun e w' => e = .returned (.int .i64 (0)) ∧ W = w' from fun W => by have := abs_any (0) (by omega) W; exact this)
          have hAY := Lib.hid (show ∀ W, Calls Tryd.prog 24 #[.int .i64 (Y)] W fun e w' => e = .returned (.int .i64 (b - a)) ∧ W = w' from fun W => by have := abs_any (Y) (by omega) W; rwa [HY1.out, HM2.out] at this)
          have hWW := Lib.hid (fun W => wayTo_any 0 t (by omega) (by omega) (by have := ht0 (by omega); omega) W)
          obtain ⟨wz, hwz⟩ : ∃ z, z = wayOf 0 t := ⟨_, rfl⟩
          rw [← hwz] at hWW
          have HWZ := Lib.hid hwz
          clear hwz
          have hwu : IntKind.i64.wrap (b - a) = b - a := IntWalk.i64_in _ (by omega)
          clear hsY hYn
          go_wp2_with fail
          ((with_reducible refine (hSX.out _).mono ?_); rintro e _ ⟨rfl, rfl⟩)
          go_wp2_with fail
          ((with_reducible refine (hSY.out _).mono ?_); rintro e _ ⟨rfl, rfl⟩)
          go_wp2_with fail
          ((with_reducible refine (hWW.out _).mono ?_); rintro e wq2 ⟨rfl, hq2⟩)
          go_wp2_with fail
          ((with_reducible refine (hAX.out _).mono ?_); rintro e _ ⟨rfl, rfl⟩)
          go_wp2_with fail
          ((with_reducible refine (hAY.out _).mono ?_); rintro e _ ⟨rfl, rfl⟩)
          have hxq2 := ext_trans hx1 hq2
          have hoq2 := hown1.ext hq2
          go_wp2_with (at_builtin; refine wpList_append_flat (f := Leg.ints) (y := ⟨wz, b - a, 0⟩) rfl _ _ _ rfl w.heap.size i0 _ 3 24 Tryd.underlying26 hi hz0 hz1 hz2 rfl (by decide) _ _ rfl rfl hoq2 rfl ?_ (by decide) ?_ ?_; simp; exact hxq2.size; intro v2 w2 hown2 hg2 hb2)
          have hx2 := hxq2.trans hb2
          clear hg2
          go_wp2
          go_ret2
          obtain ⟨B, d, hv, hF⟩ := hown2.form (fun _ => rfl)
          subst hv
          have hcl : closeL ea no = [⟨wd, m, 0⟩] ++ [⟨wz, b - a, 0⟩] := by rw [HCL.out, HMN.out, if_pos hmp, if_neg (by omega), if_pos hab, ← HWZ.out, ← HWD.out]
          rw [sel_t HO.out, tb_t HO.out, hcl]
          exact ⟨B, d, rfl, hF.mono (Nat.le_refl _) (Nat.le_refl _), hx2⟩
        · skip
          have HAB := Lib.hid hab
          have HM2 := Lib.hid (show m = a from by have := HMM.out; omega)
          have hX0 : X = 0 := absI_zero (by rw [HX1.out, HM2.out]; omega)
          have hY0 : Y = 0 := absI_zero (by rw [HY1.out, HM2.out]; omega)
          clear hab
          subst hX0
          subst hY0
          go_wp2
          go_ret2
          obtain ⟨B, d, hv, hF⟩ := hown1.form (fun _ => rfl)
          subst hv
          have hcl : closeL ea no = [⟨wd, m, 0⟩] := by rw [HCL.out, HMN.out, if_pos hmp, if_neg (by have := HAB.out; omega), if_neg (by have := HAB.out; omega), ← HWD.out]; rfl
          rw [sel_t HO.out, tb_t HO.out, hcl]
          exact ⟨B, d, rfl, hF.mono (Nat.le_refl _) (Nat.le_refl _), hx1⟩
        · skip
          have hXn : X ≠ 0 := absI_pos (by rw [HX1.out]; have := HMM.out; omega)
          have hY0 : Y = 0 := absI_zero (by rw [HY1.out]; have := HMM.out; omega)
          subst hY0
          have hXe : (X != 0) = true := by simp [hXn]
          have hsX := HX2.out (by have := HMM.out; omega)
          have HM2 := Lib.hid (show m = b from by have := HMM.out; omega)
          have hSX := Lib.hid (show ∀ W, Calls Tryd.prog 26 #[.int .i64 (X)] W fun e w' => e = .returned (.int .i64 (s)) ∧ W = w' from fun W => by have := sign_any (X) W; rwa [hsX] at this)
          have hSY := Lib.hid (show ∀ W, Calls Tryd.prog 26 #[.int .i64 (0)] W fun e w' => e = .returned (.int .i64 (0)) ∧ W = w' from fun W => by have := sign_any (0) W; exact this)
          have hAX := Lib.hid (show ∀ W, Calls Tryd.prog 24 #[.int .i64 (X)] W fun e w' => e = .returned (.int .i64 (a - b)) ∧ W = w' from fun W => by have := abs_any (X) (by omega) W; rwa [HX1.out, HM2.out] at this)
          have hAY := Lib.hid (show ∀ W, Calls Tryd.prog 24 #[.int .i64 (0)] W fun e w' => e = .returned (.int .i64 (0)) ∧ W = w' from fun W => by have := abs_any (0) (by omega) W; exact this)
          have hWW := Lib.hid (fun W => wayTo_any s 0 (by omega) (by omega) (by have := hs0 (by omega); omega) W)
          obtain ⟨wz, hwz⟩ : ∃ z, z = wayOf s 0 := ⟨_, rfl⟩
          rw [← hwz] at hWW
          have HWZ := Lib.hid hwz
          clear hwz
          have hwu : IntKind.i64.wrap (a - b) = a - b := IntWalk.i64_in _ (by omega)
          clear hsX hXn
          go_wp2_with fail
          ((with_reducible refine (hSX.out _).mono ?_); rintro e _ ⟨rfl, rfl⟩)
          go_wp2_with fail
          ((with_reducible refine (hSY.out _).mono ?_); rintro e _ ⟨rfl, rfl⟩)
          go_wp2_with fail
          ((with_reducible refine (hWW.out _).mono ?_); rintro e wq2 ⟨rfl, hq2⟩)
          go_wp2_with fail
          ((with_reducible refine (hAX.out _).mono ?_); rintro e _ ⟨rfl, rfl⟩)
          go_wp2_with fail
          ((with_reducible refine (hAY.out _).mono ?_); rintro e _ ⟨rfl, rfl⟩)
          have hxq2 := ext_trans hx1 hq2
          have hoq2 := hown1.ext hq2
          go_wp2_with (at_builtin; refine wpList_append_flat (f := Leg.ints) (y := ⟨wz, a - b, 0⟩) rfl _ _ _ rfl w.heap.size i0 _ 3 24 Tryd.underlying26 hi hz0 hz1 hz2 rfl (by decide) _ _ rfl rfl hoq2 rfl ?_ (by decide) ?_ ?_; simp; exact hxq2.size; intro v2 w2 hown2 hg2 hb2)
          have hx2 := hxq2.trans hb2
          clear hg2
          go_wp2
          go_ret2
          obtain ⟨B, d, hv, hF⟩ := hown2.form (fun _ => rfl)
          subst hv
          have hcl : closeL ea no = [⟨wd, m, 0⟩] ++ [⟨wz, a - b, 0⟩] := by rw [HCL.out, HMN.out, if_pos hmp, if_pos hab, ← HWZ.out, ← HWD.out]
          rw [sel_t HO.out, tb_t HO.out, hcl]
          exact ⟨B, d, rfl, hF.mono (Nat.le_refl _) (Nat.le_refl _), hx2⟩
      · skip
        go_wp2_with fail
        ((with_reducible refine (HSE.out _).mono ?_); rintro e _ ⟨rfl, rfl⟩)
        go_wp2_with fail
        ((with_reducible refine (HSN.out _).mono ?_); rintro e _ ⟨rfl, rfl⟩)
        rcases Int.lt_trichotomy a b with hab | hab | hab
        · skip
          have hYn : Y ≠ 0 := absI_pos (by rw [HY1.out]; have := HMM.out; omega)
          have hX0 : X = 0 := absI_zero (by rw [HX1.out]; have := HMM.out; omega)
          subst hX0
          have hYe : (Y != 0) = true := by simp [hYn]
          have hsY := HY2.out (by have := HMM.out; omega)
          have HM2 := Lib.hid (show m = a from by have := HMM.out; omega)
          have hSX := Lib.hid (show ∀ W, Calls Tryd.prog 26 #[.int .i64 (0)] W fun e w' => e = .returned (.int .i64 (0)) ∧ W = w' from fun W => by have := sign_any (0) W; exact this)
          have hSY := Lib.hid (show ∀ W, Calls Tryd.prog 26 #[.int .i64 (Y)] W fun e w' => e = .returned (.int .i64 (t)) ∧ W = w' from fun W => by have := sign_any (Y) W; rwa [hsY] at this)
          have hAX := Lib.hid (show ∀ W, Calls Tryd.prog 24 #[.int .i64 (0)] W fun e w' => e = .returned (.int .i64 (0)) ∧ W = w' from fun W => by have := abs_any (0) (by omega) W; exact this)
          have hAY := Lib.hid (show ∀ W, Calls Tryd.prog 24 #[.int .i64 (Y)] W fun e w' => e = .returned (.int .i64 (b - a)) ∧ W = w' from fun W => by have := abs_any (Y) (by omega) W; rwa [HY1.out, HM2.out] at this)
          have hWW := Lib.hid (fun W => wayTo_any 0 t (by omega) (by omega) (by have := ht0 (by omega); omega) W)
          obtain ⟨wz, hwz⟩ : ∃ z, z = wayOf 0 t := ⟨_, rfl⟩
          rw [← hwz] at hWW
          have HWZ := Lib.hid hwz
          clear hwz
          have hwu : IntKind.i64.wrap (b - a) = b - a := IntWalk.i64_in _ (by omega)
          clear hsY hYn
          go_wp2_with fail
          ((with_reducible refine (hSX.out _).mono ?_); rintro e _ ⟨rfl, rfl⟩)
          go_wp2_with fail
          ((with_reducible refine (hSY.out _).mono ?_); rintro e _ ⟨rfl, rfl⟩)
          go_wp2_with fail
          ((with_reducible refine (hWW.out _).mono ?_); rintro e wq2 ⟨rfl, hq2⟩)
          go_wp2_with fail
          ((with_reducible refine (hAX.out _).mono ?_); rintro e _ ⟨rfl, rfl⟩)
          go_wp2_with fail
          ((with_reducible refine (hAY.out _).mono ?_); rintro e _ ⟨rfl, rfl⟩)
          have hxq2 := ext_trans hxz hq2
          have hoq2 := ho0.ext hq2
          go_wp2_with (at_builtin; refine wpList_append_flat (f := Leg.ints) (y := ⟨wz, b - a, 0⟩) rfl _ _ _ rfl w.heap.size i0 _ 3 24 Tryd.underlying26 hi hz0 hz1 hz2 rfl (by decide) _ _ rfl rfl hoq2 rfl ?_ (by decide) ?_ ?_; simp; exact hxq2.size; intro v2 w2 hown2 hg2 hb2)
          have hx2 := hxq2.trans hb2
          clear hg2
          go_wp2
          go_ret2
          obtain ⟨B, d, hv, hF⟩ := hown2.form (fun _ => rfl)
          subst hv
          have hcl : closeL ea no = [] ++ [⟨wz, b - a, 0⟩] := by rw [HCL.out, HMN.out, if_neg (show ¬ 0 < m by omega), if_neg (by omega), if_pos hab, ← HWZ.out]
          rw [sel_t HO.out, tb_t HO.out, hcl]
          exact ⟨B, d, rfl, hF.mono (Nat.le_refl _) (Nat.le_refl _), hx2⟩
        · skip
          have HAB := Lib.hid hab
          have HM2 := Lib.hid (show m = a from by have := HMM.out; omega)
          have hX0 : X = 0 := absI_zero (by rw [HX1.out, HM2.out]; omega)
          have hY0 : Y = 0 := absI_zero (by rw [HY1.out, HM2.out]; omega)
          clear hab
          subst hX0
          subst hY0
          go_wp2
          go_ret2
          have hcl : closeL ea no = [] := by rw [HCL.out, HMN.out, if_neg (show ¬ 0 < m by omega), if_neg (by have := HAB.out; omega), if_neg (by have := HAB.out; omega)]; rfl
          rw [sel_t HO.out, tb_t HO.out, hcl]
          exact ⟨none, 0, rfl, FlO.nil, hxz⟩
        · skip
          have hXn : X ≠ 0 := absI_pos (by rw [HX1.out]; have := HMM.out; omega)
          have hY0 : Y = 0 := absI_zero (by rw [HY1.out]; have := HMM.out; omega)
          subst hY0
          have hXe : (X != 0) = true := by simp [hXn]
          have hsX := HX2.out (by have := HMM.out; omega)
          have HM2 := Lib.hid (show m = b from by have := HMM.out; omega)
          have hSX := Lib.hid (show ∀ W, Calls Tryd.prog 26 #[.int .i64 (X)] W fun e w' => e = .returned (.int .i64 (s)) ∧ W = w' from fun W => by have := sign_any (X) W; rwa [hsX] at this)
          have hSY := Lib.hid (show ∀ W, Calls Tryd.prog 26 #[.int .i64 (0)] W fun e w' => e = .returned (.int .i64 (0)) ∧ W = w' from fun W => by have := sign_any (0) W; exact this)
          have hAX := Lib.hid (show ∀ W, Calls Tryd.prog 24 #[.int .i64 (X)] W fun e w' => e = .returned (.int .i64 (a - b)) ∧ W = w' from fun W => by have := abs_any (X) (by omega) W; rwa [HX1.out, HM2.out] at this)
          have hAY := Lib.hid (show ∀ W, Calls Tryd.prog 24 #[.int .i64 (0)] W fun e w' => e = .returned (.int .i64 (0)) ∧ W = w' from fun W => by have := abs_any (0) (by omega) W; exact this)
          have hWW := Lib.hid (fun W => wayTo_any s 0 (by omega) (by omega) (by have := hs0 (by omega); omega) W)
          obtain ⟨wz, hwz⟩ : ∃ z, z = wayOf s 0 := ⟨_, rfl⟩
          rw [← hwz] at hWW
          have HWZ := Lib.hid hwz
          clear hwz
          have hwu : IntKind.i64.wrap (a - b) = a - b := IntWalk.i64_in _ (by omega)
          clear hsX hXn
          go_wp2_with fail
          ((with_reducible refine (hSX.out _).mono ?_); rintro e _ ⟨rfl, rfl⟩)
          go_wp2_with fail
          ((with_reducible refine (hSY.out _).mono ?_); rintro e _ ⟨rfl, rfl⟩)
          go_wp2_with fail
          ((with_reducible refine (hWW.out _).mono ?_); rintro e wq2 ⟨rfl, hq2⟩)
          go_wp2_with fail
          ((with_reducible refine (hAX.out _).mono ?_); rintro e _ ⟨rfl, rfl⟩)
          go_wp2_with fail
          ((with_reducible refine (hAY.out _).mono ?_); rintro e _ ⟨rfl, rfl⟩)
          have hxq2 := ext_trans hxz hq2
          have hoq2 := ho0.ext hq2
          go_wp2_with (at_builtin; refine wpList_append_flat (f := Leg.ints) (y := ⟨wz, a - b, 0⟩) rfl _ _ _ rfl w.heap.size i0 _ 3 24 Tryd.underlying26 hi hz0 hz1 hz2 rfl (by decide) _ _ rfl rfl hoq2 rfl ?_ (by decide) ?_ ?_; simp; exact hxq2.size; intro v2 w2 hown2 hg2 hb2)
          have hx2 := hxq2.trans hb2
          clear hg2
          go_wp2
          go_ret2
          obtain ⟨B, d, hv, hF⟩ := hown2.form (fun _ => rfl)
          subst hv
          have hcl : closeL ea no = [] ++ [⟨wz, a - b, 0⟩] := by rw [HCL.out, HMN.out, if_neg (show ¬ 0 < m by omega), if_pos hab, ← HWZ.out]
          rw [sel_t HO.out, tb_t HO.out, hcl]
          exact ⟨B, d, rfl, hF.mono (Nat.le_refl _) (Nat.le_refl _), hx2⟩
    · go_wp2_with fail
      refine (within_f no (-999) 999 _ h2).mono ?_
      rintro e w9 ⟨rfl, rfl⟩
      go_wp2
      go_ret2
      have hok : ¬ (CkOk ea no) := fun h => h2 h.2
      rw [sel_f hok, tb_f hok]
      exact ⟨none, 0, rfl, FlO.nil, Below.refl _ _⟩
  · go_wp2_with fail
    refine (within_f ea (-999) 999 _ h1).mono ?_
    rintro e w9 ⟨rfl, rfl⟩
    go_wp2
    go_ret2
    have hok : ¬ (CkOk ea no) := fun h => h1 h.1
    rw [sel_f hok, tb_f hok]
    exact ⟨none, 0, rfl, FlO.nil, Below.refl _ _⟩
end Go.Proofs.YtlagfeccdcjimaaDoor
namespace Go.Proofs.YtlagfeccdcjimaaDoor
open Go.RowKit
set_option linter.unusedVariables false
set_option linter.unusedSimpArgs false

set_option maxHeartbeats 1000000 in
set_option maxRecDepth 100000 in
theorem specClosest_any (ea no : Int) (w : World)  :
    Calls Tryd.prog 7 #[.int .i64 ea, .int .i64 no] w (RetL Leg.ints 3 w (sel (CkOk ea no) (closeL ea no)) (tb (CkOk ea no))) := by
  obtain ⟨i0, hi, hz0, hz1, hz2⟩ := info_parts infoLeg
  obtain ⟨s, hs⟩ : ∃ z, z = sgnI ea := ⟨_, rfl⟩
  obtain ⟨t, ht⟩ : ∃ z, z = sgnI no := ⟨_, rfl⟩
  obtain ⟨a, ha⟩ : ∃ z, z = absI ea := ⟨_, rfl⟩
  obtain ⟨b, hb⟩ : ∃ z, z = absI no := ⟨_, rfl⟩
  have hsb := sgnI_bd ea
  have htb := sgnI_bd no
  have hs0 := @sgn_zero ea
  have ht0 := @sgn_zero no
  rw [← hs] at hsb hs0
  rw [← ht] at htb ht0
  rw [← ha] at hs0
  rw [← hb] at ht0
  have HS := Lib.hid hs
  have HT := Lib.hid ht
  have HA := Lib.hid ha
  have HB := Lib.hid hb
  have hCL : closeL ea no = (if 0 < min a b then [⟨wayOf s t, min a b, 0⟩] else []) ++ (if b < a then [⟨wayOf s 0, a - b, 0⟩] else if a < b then [⟨wayOf 0 t, b - a, 0⟩] else []) := by rw [hs, ht, ha, hb]; rfl
  have HCL := Lib.hid hCL
  obtain ⟨W0, hW0, hB0, hzw, _, _⟩ := box_world w #[] 52
  have hown0 : OwnF Leg.ints 3 w.heap.size 52 W0 (.slice (some ⟨w.heap.size, 0, none⟩) 0 0) ([] : List Leg) := hW0 ▸ OwnF.empty (Nat.le_refl _)
  have habs : CkOk ea no → (0 ≤ a ∧ a ≤ 999) ∧ (0 ≤ b ∧ b ≤ 999) := fun h => ⟨ha ▸ absI_bd h.1.1 h.1.2, hb ▸ absI_bd h.2.1 h.2.2⟩
  have hme := sgn_mul ea
  have hmn := sgn_mul no
  rw [← hs, ← ha] at hme
  rw [← ht, ← hb] at hmn
  have hSE := fun W => l15Sign_any ea W
  have hSN := fun W => l15Sign_any no W
  simp only [← hs] at hSE
  simp only [← ht] at hSN
  have HSE := Lib.hid hSE
  have HSN := Lib.hid hSN
  have HABS := Lib.hid habs
  have HME := Lib.hid hme
  have HMN2 := Lib.hid hmn
  clear hCL hSE hSN habs hme hmn hs ht ha hb
  go_enter Tryd.func7, Tryd.ntmps7
  by_cases h1 : -999 ≤ ea ∧ ea ≤ 999
  · go_wp2_with fail
    refine (l1In_t ea (-999) 999 _ h1).mono ?_
    rintro e w9 ⟨rfl, rfl⟩
    by_cases h2 : -999 ≤ no ∧ no ≤ 999
    · go_wp2_with fail
      refine (l1In_t no (-999) 999 _ h2).mono ?_
      rintro e w9 ⟨rfl, rfl⟩
      have HO : Hid (CkOk ea no) := ⟨h1, h2⟩
      obtain ⟨⟨ha0, ha9⟩, ⟨hb0, hb9⟩⟩ := HABS.out HO.out
      have w1 : IntKind.i64.wrap (ea * s) = a := by rw [HME.out]; exact IntWalk.i64_in _ (by omega)
      have w2 : IntKind.i64.wrap (no * t) = b := by rw [HMN2.out]; exact IntWalk.i64_in _ (by omega)
      obtain ⟨m, hm⟩ : ∃ z, z = min a b := ⟨_, rfl⟩
      have hm0 : 0 ≤ m := by omega
      have HMM := Lib.hid (show m ≤ a ∧ m ≤ b ∧ (m = a ∨ m = b) from by omega)
      have hmab : m ≤ a ∧ m ≤ b := by omega
      obtain ⟨da, hda⟩ : ∃ z, z = a - m := ⟨_, rfl⟩
      obtain ⟨db, hdb⟩ : ∃ z, z = b - m := ⟨_, rfl⟩
      have w3 : IntKind.i64.wrap (a - m) = da := by rw [hda]; exact IntWalk.i64_in _ (by omega)
      have w4 : IntKind.i64.wrap (b - m) = db := by rw [hdb]; exact IntWalk.i64_in _ (by omega)
      have HDA := Lib.hid hda
      have HDB := Lib.hid hdb
      clear hda hdb
      have hLM := fun W => l1Mn_any a b W
      simp only [← hm] at hLM
      have HLM := Lib.hid hLM
      have HMN := Lib.hid hm.symm
      clear hLM hm
      rcases Int.lt_trichotomy a b with hab | hab | hab
      · skip
        have ya : ¬ 0 < da := by have := HMM.out; have := HDA.out; omega
        have yb :  0 < db := by have := HMM.out; have := HDB.out; omega
        have HMB := Lib.hid (show m = a from by have := HMM.out; omega)
        have hWW := Lib.hid (fun W => l15Way_any 0 t (by omega) (by omega) (by have := ht0 (by omega); omega) W)
        obtain ⟨wz, hwz⟩ : ∃ z, z = wayOf 0 t := ⟨_, rfl⟩
        rw [← hwz] at hWW
        have HWZ := Lib.hid hwz
        clear hwz
        by_cases hmp : 0 < m
        · skip
          have hWT := Lib.hid (fun W => l15Way_any s t hsb htb (by have := hs0 (by omega); omega) W)
          obtain ⟨wd, hwd⟩ : ∃ z, z = wayOf s t := ⟨_, rfl⟩
          rw [← hwd] at hWT
          have HWD := Lib.hid hwd
          clear hwd
          go_wp2_with fail
          ((with_reducible refine (HSE.out _).mono ?_); rintro e _ ⟨rfl, rfl⟩)
          go_wp2_with fail
          ((with_reducible refine (HSN.out _).mono ?_); rintro e _ ⟨rfl, rfl⟩)
          go_wp2_with fail
          ((with_reducible refine (HLM.out _).mono ?_); rintro e _ ⟨rfl, rfl⟩)
          go_wp2_with fail
          ((with_reducible refine (hWT.out _).mono ?_); rintro e wq1 ⟨rfl, hq1⟩)
          have hxq1 := ext_trans hB0 hq1
          have hoq1 := hown0.ext hq1
          go_wp2_with (at_builtin; refine wpList_append_flat (f := Leg.ints) (y := ⟨wd, m, 0⟩) rfl _ _ _ rfl w.heap.size i0 _ 3 24 Tryd.underlying26 hi hz0 hz1 hz2 rfl (by decide) _ _ rfl rfl hoq1 rfl ?_ (by decide) ?_ ?_; simp; exact hxq1.size; intro v1 w1 hown1 hg1 hb1)
          have hx1 := hxq1.trans hb1
          clear hg1
          go_wp2_with fail
          ((with_reducible refine (hWW.out _).mono ?_); rintro e wq2 ⟨rfl, hq2⟩)
          have hxq2 := ext_trans hx1 hq2
          have hoq2 := hown1.ext hq2
          go_wp2_with (at_builtin; refine wpList_append_flat (f := Leg.ints) (y := ⟨wz, db, 0⟩) rfl _ _ _ rfl w.heap.size i0 _ 3 24 Tryd.underlying26 hi hz0 hz1 hz2 rfl (by decide) _ _ rfl rfl hoq2 rfl ?_ (by decide) ?_ ?_; simp; exact hxq2.size; intro v2 w2 hown2 hg2 hb2)
          have hx2 := hxq2.trans hb2
          clear hg2
          go_wp2
          go_ret2
          obtain ⟨B, d, hv, hF⟩ := hown2.form (fun _ => rfl)
          subst hv
          have hcl : closeL ea no = [⟨wd, m, 0⟩] ++ [⟨wz, db, 0⟩] := by rw [HCL.out, HMN.out, if_pos hmp, if_neg (by omega), if_pos hab, ← HWZ.out, ← HWD.out, HDB.out, HMB.out]
          rw [sel_t HO.out, tb_t HO.out, hcl]
          exact ⟨B, d, rfl, hF.mono (Nat.le_refl _) (Nat.le_refl _), hx2⟩
        · skip
          go_wp2_with fail
          ((with_reducible refine (HSE.out _).mono ?_); rintro e _ ⟨rfl, rfl⟩)
          go_wp2_with fail
          ((with_reducible refine (HSN.out _).mono ?_); rintro e _ ⟨rfl, rfl⟩)
          go_wp2_with fail
          ((with_reducible refine (HLM.out _).mono ?_); rintro e _ ⟨rfl, rfl⟩)
          go_wp2_with fail
          ((with_reducible refine (hWW.out _).mono ?_); rintro e wq2 ⟨rfl, hq2⟩)
          have hxq2 := ext_trans hB0 hq2
          have hoq2 := hown0.ext hq2
          go_wp2_with (at_builtin; refine wpList_append_flat (f := Leg.ints) (y := ⟨wz, db, 0⟩) rfl _ _ _ rfl w.heap.size i0 _ 3 24 Tryd.underlying26 hi hz0 hz1 hz2 rfl (by decide) _ _ rfl rfl hoq2 rfl ?_ (by decide) ?_ ?_; simp; exact hxq2.size; intro v2 w2 hown2 hg2 hb2)
          have hx2 := hxq2.trans hb2
          clear hg2
          go_wp2
          go_ret2
          obtain ⟨B, d, hv, hF⟩ := hown2.form (fun _ => rfl)
          subst hv
          have hcl : closeL ea no = [] ++ [⟨wz, db, 0⟩] := by rw [HCL.out, HMN.out, if_neg (show ¬ 0 < m by omega), if_neg (by omega), if_pos hab, ← HWZ.out, HDB.out, HMB.out]
          rw [sel_t HO.out, tb_t HO.out, hcl]
          exact ⟨B, d, rfl, hF.mono (Nat.le_refl _) (Nat.le_refl _), hx2⟩
      · skip
        have HAB := Lib.hid hab
        have ya : ¬ 0 < da := by have := HMM.out; have := HDA.out; omega
        have yb : ¬ 0 < db := by have := HMM.out; have := HDB.out; omega
        clear hab
        by_cases hmp : 0 < m
        · skip
          have hWT := Lib.hid (fun W => l15Way_any s t hsb htb (by have := hs0 (by omega); omega) W)
          obtain ⟨wd, hwd⟩ : ∃ z, z = wayOf s t := ⟨_, rfl⟩
          rw [← hwd] at hWT
          have HWD := Lib.hid hwd
          clear hwd
          go_wp2_with fail
          ((with_reducible refine (HSE.out _).mono ?_); rintro e _ ⟨rfl, rfl⟩)
          go_wp2_with fail
          ((with_reducible refine (HSN.out _).mono ?_); rintro e _ ⟨rfl, rfl⟩)
          go_wp2_with fail
          ((with_reducible refine (HLM.out _).mono ?_); rintro e _ ⟨rfl, rfl⟩)
          go_wp2_with fail
          ((with_reducible refine (hWT.out _).mono ?_); rintro e wq1 ⟨rfl, hq1⟩)
          have hxq1 := ext_trans hB0 hq1
          have hoq1 := hown0.ext hq1
          go_wp2_with (at_builtin; refine wpList_append_flat (f := Leg.ints) (y := ⟨wd, m, 0⟩) rfl _ _ _ rfl w.heap.size i0 _ 3 24 Tryd.underlying26 hi hz0 hz1 hz2 rfl (by decide) _ _ rfl rfl hoq1 rfl ?_ (by decide) ?_ ?_; simp; exact hxq1.size; intro v1 w1 hown1 hg1 hb1)
          have hx1 := hxq1.trans hb1
          clear hg1
          go_wp2
          go_ret2
          obtain ⟨B, d, hv, hF⟩ := hown1.form (fun _ => rfl)
          subst hv
          have hcl : closeL ea no = [⟨wd, m, 0⟩] := by rw [HCL.out, HMN.out, if_pos hmp, if_neg (by have := HAB.out; omega), if_neg (by have := HAB.out; omega), ← HWD.out]; rfl
          rw [sel_t HO.out, tb_t HO.out, hcl]
          exact ⟨B, d, rfl, hF.mono (Nat.le_refl _) (Nat.le_refl _), hx1⟩
        · skip
          go_wp2_with fail
          ((with_reducible refine (HSE.out _).mono ?_); rintro e _ ⟨rfl, rfl⟩)
          go_wp2_with fail
          ((with_reducible refine (HSN.out _).mono ?_); rintro e _ ⟨rfl, rfl⟩)
          go_wp2_with fail
          ((with_reducible refine (HLM.out _).mono ?_); rintro e _ ⟨rfl, rfl⟩)
          go_wp2
          go_ret2
          have hcl : closeL ea no = [] := by rw [HCL.out, HMN.out, if_neg (show ¬ 0 < m by omega), if_neg (by have := HAB.out; omega), if_neg (by have := HAB.out; omega)]; rfl
          rw [sel_t HO.out, tb_t HO.out, hcl]
          exact ⟨_, 0, rfl, FlO.nil, hB0⟩
      · skip
        have ya :  0 < da := by have := HMM.out; have := HDA.out; omega
        have yb : ¬ 0 < db := by have := HMM.out; have := HDB.out; omega
        have HMB := Lib.hid (show m = b from by have := HMM.out; omega)
        have hWW := Lib.hid (fun W => l15Way_any s 0 (by omega) (by omega) (by have := hs0 (by omega); omega) W)
        obtain ⟨wz, hwz⟩ : ∃ z, z = wayOf s 0 := ⟨_, rfl⟩
        rw [← hwz] at hWW
        have HWZ := Lib.hid hwz
        clear hwz
        by_cases hmp : 0 < m
        · skip
          have hWT := Lib.hid (fun W => l15Way_any s t hsb htb (by have := hs0 (by omega); omega) W)
          obtain ⟨wd, hwd⟩ : ∃ z, z = wayOf s t := ⟨_, rfl⟩
          rw [← hwd] at hWT
          have HWD := Lib.hid hwd
          clear hwd
          go_wp2_with fail
          ((with_reducible refine (HSE.out _).mono ?_); rintro e _ ⟨rfl, rfl⟩)
          go_wp2_with fail
          ((with_reducible refine (HSN.out _).mono ?_); rintro e _ ⟨rfl, rfl⟩)
          go_wp2_with fail
          ((with_reducible refine (HLM.out _).mono ?_); rintro e _ ⟨rfl, rfl⟩)
          go_wp2_with fail
          ((with_reducible refine (hWT.out _).mono ?_); rintro e wq1 ⟨rfl, hq1⟩)
          have hxq1 := ext_trans hB0 hq1
          have hoq1 := hown0.ext hq1
          go_wp2_with (at_builtin; refine wpList_append_flat (f := Leg.ints) (y := ⟨wd, m, 0⟩) rfl _ _ _ rfl w.heap.size i0 _ 3 24 Tryd.underlying26 hi hz0 hz1 hz2 rfl (by decide) _ _ rfl rfl hoq1 rfl ?_ (by decide) ?_ ?_; simp; exact hxq1.size; intro v1 w1 hown1 hg1 hb1)
          have hx1 := hxq1.trans hb1
          clear hg1
          go_wp2_with fail
          ((with_reducible refine (hWW.out _).mono ?_); rintro e wq2 ⟨rfl, hq2⟩)
          have hxq2 := ext_trans hx1 hq2
          have hoq2 := hown1.ext hq2
          go_wp2_with (at_builtin; refine wpList_append_flat (f := Leg.ints) (y := ⟨wz, da, 0⟩) rfl _ _ _ rfl w.heap.size i0 _ 3 24 Tryd.underlying26 hi hz0 hz1 hz2 rfl (by decide) _ _ rfl rfl hoq2 rfl ?_ (by decide) ?_ ?_; simp; exact hxq2.size; intro v2 w2 hown2 hg2 hb2)
          have hx2 := hxq2.trans hb2
          clear hg2
          go_wp2
          go_ret2
          obtain ⟨B, d, hv, hF⟩ := hown2.form (fun _ => rfl)
          subst hv
          have hcl : closeL ea no = [⟨wd, m, 0⟩] ++ [⟨wz, da, 0⟩] := by rw [HCL.out, HMN.out, if_pos hmp, if_pos hab, ← HWZ.out, ← HWD.out, HDA.out, HMB.out]
          rw [sel_t HO.out, tb_t HO.out, hcl]
          exact ⟨B, d, rfl, hF.mono (Nat.le_refl _) (Nat.le_refl _), hx2⟩
        · skip
          go_wp2_with fail
          ((with_reducible refine (HSE.out _).mono ?_); rintro e _ ⟨rfl, rfl⟩)
          go_wp2_with fail
          ((with_reducible refine (HSN.out _).mono ?_); rintro e _ ⟨rfl, rfl⟩)
          go_wp2_with fail
          ((with_reducible refine (HLM.out _).mono ?_); rintro e _ ⟨rfl, rfl⟩)
          go_wp2_with fail
          ((with_reducible refine (hWW.out _).mono ?_); rintro e wq2 ⟨rfl, hq2⟩)
          have hxq2 := ext_trans hB0 hq2
          have hoq2 := hown0.ext hq2
          go_wp2_with (at_builtin; refine wpList_append_flat (f := Leg.ints) (y := ⟨wz, da, 0⟩) rfl _ _ _ rfl w.heap.size i0 _ 3 24 Tryd.underlying26 hi hz0 hz1 hz2 rfl (by decide) _ _ rfl rfl hoq2 rfl ?_ (by decide) ?_ ?_; simp; exact hxq2.size; intro v2 w2 hown2 hg2 hb2)
          have hx2 := hxq2.trans hb2
          clear hg2
          go_wp2
          go_ret2
          obtain ⟨B, d, hv, hF⟩ := hown2.form (fun _ => rfl)
          subst hv
          have hcl : closeL ea no = [] ++ [⟨wz, da, 0⟩] := by rw [HCL.out, HMN.out, if_neg (show ¬ 0 < m by omega), if_pos hab, ← HWZ.out, HDA.out, HMB.out]
          rw [sel_t HO.out, tb_t HO.out, hcl]
          exact ⟨B, d, rfl, hF.mono (Nat.le_refl _) (Nat.le_refl _), hx2⟩
    · go_wp2_with fail
      refine (l1In_f no (-999) 999 _ h2).mono ?_
      rintro e w9 ⟨rfl, rfl⟩
      go_wp2
      go_ret2
      have hok : ¬ (CkOk ea no) := fun h => h2 h.2
      rw [sel_f hok, tb_f hok]
      exact ⟨some ⟨w.heap.size, 0, none⟩, 0, rfl, FlO.nil, hB0⟩
  · go_wp2_with fail
    refine (l1In_f ea (-999) 999 _ h1).mono ?_
    rintro e w9 ⟨rfl, rfl⟩
    go_wp2
    go_ret2
    have hok : ¬ (CkOk ea no) := fun h => h1 h.1
    rw [sel_f hok, tb_f hok]
    exact ⟨some ⟨w.heap.size, 0, none⟩, 0, rfl, FlO.nil, hB0⟩
end Go.Proofs.YtlagfeccdcjimaaDoor
