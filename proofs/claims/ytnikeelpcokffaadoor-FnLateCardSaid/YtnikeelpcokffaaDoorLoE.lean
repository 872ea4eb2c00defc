/- A loan drawn. No condition. -/
import Derived.Test.YtnikeelpcokffaaDoorErD
import Derived.Test.YtnikeelpcokffaaDoorTypes
import Derived.Test.YtnikeelpcokffaaDoorFamLoan
import Derived.Deep.DeepCutAuto
import Derived.Deep.RegionLaw
namespace Go.Proofs.YtnikeelpcokffaaDoor
open Go.RowKit
set_option linter.unusedVariables false
set_option linter.unusedSimpArgs false

set_option maxHeartbeats 16000000 in
set_option maxRecDepth 100000 in
theorem loan_any (day : Int) (g : Nat) (C : Option Addr) (n cap k : Nat) (w : World) (hC : CurAt g C n cap k w) (hk : k ≤ 412316860416) (hn : n ≤ 1099511627776) :
    Calls Tryd.prog 52 #[.pointer (some ⟨g, 0, none⟩), .int .i64 day] w (fun r w' => ∃ e : Loan, r = .returned (.agg #[.int .i64 e.sheet, .int .i64 e.reader, .int .i64 e.out, .int .i64 e.due, .int .i64 e.back]) ∧ CurAt g C n cap (k + 20) w' ∧ Touch g (g + 1) w w') := by
  have hgw : g < w.heap.size := hC.lt
  have hT := Touch.refl g (g + 1) w
  obtain ⟨E1, hVE1, hbE1, hzE1, huE1, hfE1⟩ := box_world w #[Value.int .i64 0, Value.int .i64 0, Value.int .i64 0, Value.int .i64 0, Value.int .i64 0] 43
  have r0 : VarL E1 (World.heap w).size [Value.int .i64 0, Value.int .i64 0, Value.int .i64 0, Value.int .i64 0, Value.int .i64 0] := hVE1 ▸ VarL.box w _ _
  replace hC := hC.ext hbE1
  replace hT := hT.trans (Touch.of_ext hbE1)
  have hyE1 : (World.heap w).size + 1 ≤ (World.heap E1).size := hzE1
  clear huE1 hfE1
  obtain ⟨D1, hD1⟩ : ∃ D, IntKind.i64.wrap (day - 1) = D := ⟨_, rfl⟩
  go_enter Tryd.func52, Tryd.ntmps52
  have hlt1 : g < (World.heap E1).size := hC.lt
  have HN1 := Lib.hid (among_any (some ⟨(World.heap E1).size, 0, none⟩) 5 5 [1, 1, 2, 7, 999] rfl (World.heap E1).size ((World.heap E1).size + 1) g C n cap _ (World.alloc E1 (.cells #[Value.int .i64 (1), Value.int .i64 (1), Value.int .i64 (2), Value.int .i64 (7), Value.int .i64 (999)] 3)) (hC.ext (ext_alloc _ _)) (by omega) hn (lit_flo E1 [1, 1, 2, 7, 999] _ _ rfl) (by simp) (by simp) (.inl hlt1))
  clear hC
  go_wp2_with fail
  clear hVE1
  ((with_reducible refine (HN1.out).mono ?_); rintro e w1 ⟨_, rfl, ⟨q1, _, rfl⟩, hC, hU1⟩)
  replace hU1 := (Touch.of_ext (ext_alloc E1 (.cells #[Value.int .i64 (1), Value.int .i64 (1), Value.int .i64 (2), Value.int .i64 (7), Value.int .i64 (999)] 3))).trans hU1
  replace r0 := r0.touch hU1 (by omega)
  replace hT := hT.trans hU1
  have hz_w1 : (World.heap E1).size ≤ (World.heap w1).size := hU1.size
  clear hU1
  have hlt2 : g < (World.heap w1).size := hC.lt
  have HN2 := Lib.hid (among_any (some ⟨(World.heap w1).size, 0, none⟩) 3 3 [1, 3, 999] rfl (World.heap w1).size ((World.heap w1).size + 1) g C n cap _ (World.alloc w1 (.cells #[Value.int .i64 (1), Value.int .i64 (3), Value.int .i64 (999)] 3)) (hC.ext (ext_alloc _ _)) (by omega) hn (lit_flo w1 [1, 3, 999] _ _ rfl) (by simp) (by simp) (.inl hlt2))
  clear hC
  go_wp2_with fail
  ((with_reducible refine (HN2.out).mono ?_); rintro e w2 ⟨_, rfl, ⟨q2, _, rfl⟩, hC, hU2⟩)
  replace hU2 := (Touch.of_ext (ext_alloc w1 (.cells #[Value.int .i64 (1), Value.int .i64 (3), Value.int .i64 (999)] 3))).trans hU2
  replace r0 := r0.touch hU2 (by omega)
  replace hT := hT.trans hU2
  have hz_w2 : (World.heap w1).size ≤ (World.heap w2).size := hU2.size
  clear hU2
  have hlt3 : g < (World.heap w2).size := hC.lt
  have HN3 := Lib.hid (among_any (some ⟨(World.heap w2).size, 0, none⟩) 4 4 [0, 1, 14, 60] rfl (World.heap w2).size ((World.heap w2).size + 1) g C n cap _ (World.alloc w2 (.cells #[Value.int .i64 (0), Value.int .i64 (1), Value.int .i64 (14), Value.int .i64 (60)] 3)) (hC.ext (ext_alloc _ _)) (by omega) hn (lit_flo w2 [0, 1, 14, 60] _ _ rfl) (by simp) (by simp) (.inl hlt3))
  clear hC
  go_wp2_with fail
  ((with_reducible refine (HN3.out).mono ?_); rintro e w3 ⟨_, rfl, ⟨q3, _, rfl⟩, hC, hU3⟩)
  replace hU3 := (Touch.of_ext (ext_alloc w2 (.cells #[Value.int .i64 (0), Value.int .i64 (1), Value.int .i64 (14), Value.int .i64 (60)] 3))).trans hU3
  replace r0 := r0.touch hU3 (by omega)
  replace hT := hT.trans hU3
  have hz_w3 : (World.heap w2).size ≤ (World.heap w3).size := hU3.size
  clear hU3
  obtain ⟨D3, hD3⟩ : ∃ D, IntKind.i64.wrap (day + q3) = D := ⟨_, rfl⟩
  obtain ⟨E2, hVE2, hbE2, hzE2, huE2, hfE2⟩ := box_world w3 #[Value.int .i64 q1, Value.int .i64 q2, Value.int .i64 day, Value.int .i64 D3, Value.int .i64 (-1)] 43
  have ve : VarL E2 (World.heap w3).size [Value.int .i64 q1, Value.int .i64 q2, Value.int .i64 day, Value.int .i64 D3, Value.int .i64 (-1)] := hVE2 ▸ VarL.box w3 _ _
  replace r0 := r0.ext hbE2
  replace hC := hC.ext hbE2
  replace hT := hT.trans (Touch.of_ext hbE2)
  have hyE2 : (World.heap w3).size + 1 ≤ (World.heap E2).size := hzE2
  clear huE2 hfE2
  have HN4 := Lib.hid (one_any 3 g C n cap _ E2 hC (by omega) hn)
  clear hC
  go_wp2_with fail
  clear hVE2
  ((with_reducible refine (HN4.out).mono ?_); rintro e w4 ⟨_, rfl, ⟨b, rfl⟩, hC, hU4⟩)
  replace r0 := r0.touch hU4 (by omega)
  replace ve := ve.touch hU4 (by omega)
  replace hT := hT.trans hU4
  have hz_w4 : (World.heap E2).size ≤ (World.heap w4).size := hU4.size
  clear hU4
  go_upto_if 21 with fail
  go_cut [] (fun wx => ∃ u : Int, VarL wx (World.heap w3).size ([Value.int .i64 q1, .int .i64 q2, .int .i64 day, .int .i64 D3, .int .i64 (u)]) ∧ CurAt g C n cap (k + 10) wx ∧ Touch g (g + 1) w wx ∧ VarL wx w.heap.size [Value.int .i64 0, Value.int .i64 0, Value.int .i64 0, Value.int .i64 0, Value.int .i64 0])
  case first =>
    have HAM := Lib.hid (fun (W : World) (h : CurAt g C n cap (k + 8) W) (hl : FlO one 1 (World.heap w4).size ((World.heap w4).size + 1) W (some ⟨(World.heap w4).size, 0, none⟩) [0, 1, 14, 15, 20, 200]) => among_any (some ⟨(World.heap w4).size, 0, none⟩) 6 6 [0, 1, 14, 15, 20, 200] rfl (World.heap w4).size ((World.heap w4).size + 1) g C n cap _ W h (by omega) hn hl (by simp) (by simp) (.inl hC.lt))
    have e0 := ve.cell 0 _ rfl
    have e1 := ve.cell 1 _ rfl
    have e2 := ve.cell 2 _ rfl
    have e3 := ve.cell 3 _ rfl
    have e4 := ve.cell 4 _ rfl
    have ez := ve.fz
    have el := ve.lt
    have hgb : g + 1 ≤ (World.heap w3).size := by omega
    have HVE := Lib.hid ve
    have HR0 := Lib.hid r0
    have HCC := Lib.hid (hC.mono (show _ ≤ k + 8 by omega))
    have HTT := Lib.hid hT
    clear ve r0 hC hT
    cases b
    · go_wp2
      go_region_held3 (fun w' => World.cell? w' ⟨(World.heap w3).size, 2, none⟩ = some (.int .i64 day)) (first | with_reducible exact (HVE.out.ext (ext_drew _)).c2 | with_reducible exact ((HVE.out.ext (ext_alloc _ _)).ext (ext_drew _)).c2 | with_reducible exact ((HVE.out.ext (ext_drew _)).ext (ext_alloc _ _)).c2 | with_reducible exact HV7.out.c2 | (exact (HV7.out.set 4 _ (by simp)).c2)) ((first | (go_at_call 41; (with_reducible refine (HAM.out _ ?_ ?_).mono ?_); (first | with_reducible exact HCC.out.ext (ext_trans (ext_alloc _ _) (ext_drew _)) | with_reducible exact HCC.out.ext (ext_trans (ext_drew _) (ext_alloc _ _))); (exact (lit_flo w4 [0, 1, 14, 15, 20, 200] _ _ rfl).ext (ext_drew _)); rintro e w7q ⟨_, rfl, ⟨q4, _, rfl⟩, hC7, hU7⟩; have hbq := ext_trans (ext_alloc w4 (.cells #[Value.int .i64 0, Value.int .i64 1, Value.int .i64 14, Value.int .i64 15, Value.int .i64 20, Value.int .i64 200] 3)) (ext_drew _); have HC7 := Lib.hid hC7; have hv7 := (HVE.out.ext hbq).touch hU7 (.inr hgb); have d0 := hv7.cell 0 _ rfl; have d1 := hv7.cell 1 _ rfl; have d2 := hv7.cell 2 _ rfl; have d3 := hv7.cell 3 _ rfl; have d4 := hv7.cell 4 _ rfl; have dz := hv7.fz; have dl := hv7.lt; have HV7 := Lib.hid hv7; have HR7 := Lib.hid ((HR0.out.ext hbq).touch hU7 (.inr (by omega))); have HT7 := Lib.hid ((HTT.out.trans (Touch.of_ext hbq)).trans hU7); clear hC7 hU7 hbq hv7)))
      all_goals (go_wp2_with fail)
      all_goals go_meet
      all_goals exact ⟨_, HV7.out.set 4 _ (by simp), HC7.out.touch' (l := (World.heap w3).size) (Touch.of_set w7q ⟨(World.heap w3).size, 4, none⟩ _ (Nat.le_refl _) (Nat.lt_succ_self _)) (by omega), HT7.out.over' (B := (World.heap w3).size) (Touch.of_set w7q ⟨(World.heap w3).size, 4, none⟩ _ (Nat.le_refl _) (Nat.lt_succ_self _)) (by omega), HR7.out.touch (lo := (World.heap w3).size) (Touch.of_set w7q ⟨(World.heap w3).size, 4, none⟩ _ (Nat.le_refl _) (Nat.lt_succ_self _)) (.inl (by omega))⟩
    · go_wp2
      go_meet
      exact ⟨-1, HVE.out, HCC.out.mono (by omega), HTT.out, HR0.out⟩
  case rest =>
    obtain ⟨u, ve, hC, hT, r0⟩ := hcut
    obtain ⟨wz, hwz⟩ : ∃ z, z = wc := ⟨_, rfl⟩
    subst hwz
    have hbw : w.heap.size + 1 ≤ (World.heap w3).size := by omega
    have HN5 := Lib.hid (pick_any 120 g C n cap _ wz hC (by omega) hn)
    clear hC
    go_wp2_with fail
    ((with_reducible refine (HN5.out).mono ?_); rintro e w5 ⟨_, rfl, ⟨z5, rfl, z50, z51⟩, hC, hU5⟩)
    replace ve := ve.touch hU5 (by omega)
    replace r0 := r0.touch hU5 (by omega)
    replace hT := hT.trans hU5
    have hz_w5 : (World.heap wz).size ≤ (World.heap w5).size := hU5.size
    clear hU5
    by_cases h10 : z5 = 0
    · subst h10
      have hlt6 : g < (World.heap w5).size := hC.lt
      have HN6 := Lib.hid (among_any (some ⟨(World.heap w5).size, 0, none⟩) 2 2 [0, 1000] rfl (World.heap w5).size ((World.heap w5).size + 1) g C n cap _ (World.alloc w5 (.cells #[Value.int .i64 (0), Value.int .i64 (1000)] 3)) (hC.ext (ext_alloc _ _)) (by omega) hn (lit_flo w5 [0, 1000] _ _ rfl) (by simp) (by simp) (.inl hlt6))
      clear hC
      go_wp2_with fail
      ((with_reducible refine (HN6.out).mono ?_); rintro e w6 ⟨_, rfl, ⟨q9, _, rfl⟩, hC, hU6⟩)
      replace hU6 := (Touch.of_ext (ext_alloc w5 (.cells #[Value.int .i64 (0), Value.int .i64 (1000)] 3))).trans hU6
      replace ve := ve.touch hU6 (by omega)
      replace r0 := r0.touch hU6 (by omega)
      replace hT := hT.trans hU6
      have hz_w6 : (World.heap w5).size ≤ (World.heap w6).size := hU6.size
      clear hU6
      have e0 := ve.cell 0 _ rfl
      have e1 := ve.cell 1 _ rfl
      have e2 := ve.cell 2 _ rfl
      have e3 := ve.cell 3 _ rfl
      have e4 := ve.cell 4 _ rfl
      have ez := ve.fz
      have el := ve.lt
      have f0 := r0.cell 0 _ rfl
      have f1 := r0.cell 1 _ rfl
      have f2 := r0.cell 2 _ rfl
      have f3 := r0.cell 3 _ rfl
      have f4 := r0.cell 4 _ rfl
      have fz := r0.fz
      have fl := r0.lt
      have HC := Lib.hid (hC.mono (show _ ≤ k + 20 by omega))
      have HT := Lib.hid hT
      have hzx : (World.heap wz).size ≤ (World.heap w6).size := by omega
      clear hC hT ve r0
      go_wp2
      refine bodyPost_ret (v := .agg #[.int .i64 (q9), .int .i64 (q2), .int .i64 (day), .int .i64 (D3), .int .i64 (u)]) (by simp [results, Tryd.results52, go_sem, f0, f1, f2, f3, f4, fl]) rfl ⟨⟨q9, q2, day, D3, u⟩, rfl, (HC.out.touch' (l := (World.heap w3).size) (Touch.of_set w6 ⟨(World.heap w3).size, 0, none⟩ (.int .i64 (q9)) (Nat.le_refl _) (Nat.lt_succ_self _)) (by omega)).touch' (set5_touch _ w.heap.size _ _ _ _ _) hgw, (HT.out.over' (B := (World.heap w3).size) (Touch.of_set w6 ⟨(World.heap w3).size, 0, none⟩ (.int .i64 (q9)) (Nat.le_refl _) (Nat.lt_succ_self _)) (by omega)).over' (set5_touch _ w.heap.size _ _ _ _ _) (Nat.le_refl _)⟩
    · have i0 : (z5 == 0) = false := by simp [h10]
      by_cases h11 : z5 = 1
      · subst h11
        have hlt6 : g < (World.heap w5).size := hC.lt
        have HN6 := Lib.hid (among_any (some ⟨(World.heap w5).size, 0, none⟩) 2 2 [0, 1000] rfl (World.heap w5).size ((World.heap w5).size + 1) g C n cap _ (World.alloc w5 (.cells #[Value.int .i64 (0), Value.int .i64 (1000)] 3)) (hC.ext (ext_alloc _ _)) (by omega) hn (lit_flo w5 [0, 1000] _ _ rfl) (by simp) (by simp) (.inl hlt6))
        clear hC
        go_wp2_with fail
        ((with_reducible refine (HN6.out).mono ?_); rintro e w6 ⟨_, rfl, ⟨q9, _, rfl⟩, hC, hU6⟩)
        replace hU6 := (Touch.of_ext (ext_alloc w5 (.cells #[Value.int .i64 (0), Value.int .i64 (1000)] 3))).trans hU6
        replace ve := ve.touch hU6 (by omega)
        replace r0 := r0.touch hU6 (by omega)
        replace hT := hT.trans hU6
        have hz_w6 : (World.heap w5).size ≤ (World.heap w6).size := hU6.size
        clear hU6
        have e0 := ve.cell 0 _ rfl
        have e1 := ve.cell 1 _ rfl
        have e2 := ve.cell 2 _ rfl
        have e3 := ve.cell 3 _ rfl
        have e4 := ve.cell 4 _ rfl
        have ez := ve.fz
        have el := ve.lt
        have f0 := r0.cell 0 _ rfl
        have f1 := r0.cell 1 _ rfl
        have f2 := r0.cell 2 _ rfl
        have f3 := r0.cell 3 _ rfl
        have f4 := r0.cell 4 _ rfl
        have fz := r0.fz
        have fl := r0.lt
        have HC := Lib.hid (hC.mono (show _ ≤ k + 20 by omega))
        have HT := Lib.hid hT
        have hzx : (World.heap wz).size ≤ (World.heap w6).size := by omega
        clear hC hT ve r0
        go_wp2
        refine bodyPost_ret (v := .agg #[.int .i64 (q1), .int .i64 (q9), .int .i64 (day), .int .i64 (D3), .int .i64 (u)]) (by simp [results, Tryd.results52, go_sem, f0, f1, f2, f3, f4, fl]) rfl ⟨⟨q1, q9, day, D3, u⟩, rfl, (HC.out.touch' (l := (World.heap w3).size) (Touch.of_set w6 ⟨(World.heap w3).size, 1, none⟩ (.int .i64 (q9)) (Nat.le_refl _) (Nat.lt_succ_self _)) (by omega)).touch' (set5_touch _ w.heap.size _ _ _ _ _) hgw, (HT.out.over' (B := (World.heap w3).size) (Touch.of_set w6 ⟨(World.heap w3).size, 1, none⟩ (.int .i64 (q9)) (Nat.le_refl _) (Nat.lt_succ_self _)) (by omega)).over' (set5_touch _ w.heap.size _ _ _ _ _) (Nat.le_refl _)⟩
      · have i1 : (z5 == 1) = false := by simp [h11]
        by_cases h12 : z5 = 2
        · subst h12
          have e0 := ve.cell 0 _ rfl
          have e1 := ve.cell 1 _ rfl
          have e2 := ve.cell 2 _ rfl
          have e3 := ve.cell 3 _ rfl
          have e4 := ve.cell 4 _ rfl
          have ez := ve.fz
          have el := ve.lt
          have f0 := r0.cell 0 _ rfl
          have f1 := r0.cell 1 _ rfl
          have f2 := r0.cell 2 _ rfl
          have f3 := r0.cell 3 _ rfl
          have f4 := r0.cell 4 _ rfl
          have fz := r0.fz
          have fl := r0.lt
          have HC := Lib.hid (hC.mono (show _ ≤ k + 20 by omega))
          have HT := Lib.hid hT
          have hzx : (World.heap wz).size ≤ (World.heap w5).size := by omega
          clear hC hT ve r0
          go_wp2
          refine bodyPost_ret (v := .agg #[.int .i64 (q1), .int .i64 (q2), .int .i64 (day), .int .i64 (D1), .int .i64 (u)]) (by simp [results, Tryd.results52, go_sem, f0, f1, f2, f3, f4, fl]) rfl ⟨⟨q1, q2, day, D1, u⟩, rfl, (HC.out.touch' (l := (World.heap w3).size) (Touch.of_set w5 ⟨(World.heap w3).size, 3, none⟩ (.int .i64 (D1)) (Nat.le_refl _) (Nat.lt_succ_self _)) (by omega)).touch' (set5_touch _ w.heap.size _ _ _ _ _) hgw, (HT.out.over' (B := (World.heap w3).size) (Touch.of_set w5 ⟨(World.heap w3).size, 3, none⟩ (.int .i64 (D1)) (Nat.le_refl _) (Nat.lt_succ_self _)) (by omega)).over' (set5_touch _ w.heap.size _ _ _ _ _) (Nat.le_refl _)⟩
        · have i2 : (z5 == 2) = false := by simp [h12]
          by_cases h13 : z5 = 3
          · subst h13
            have e0 := ve.cell 0 _ rfl
            have e1 := ve.cell 1 _ rfl
            have e2 := ve.cell 2 _ rfl
            have e3 := ve.cell 3 _ rfl
            have e4 := ve.cell 4 _ rfl
            have ez := ve.fz
            have el := ve.lt
            have hlt6 : g < (World.heap w5).size := hC.lt
            have HN6 := Lib.hid (fun v : Int => among_any (some ⟨(World.heap w5).size, 0, none⟩) 2 2 [-2, v] rfl (World.heap w5).size ((World.heap w5).size + 1) g C n cap _ (World.alloc w5 (.cells #[Value.int .i64 (-2), Value.int .i64 v] 3)) (hC.ext (ext_alloc _ _)) (by omega) hn (lit_flo w5 [-2, v] _ _ rfl) (by simp) (by simp) (.inl hlt6))
            clear hC
            go_wp2_with fail
            ((with_reducible refine (HN6.out _).mono ?_); rintro e w6 ⟨_, rfl, ⟨q9, _, rfl⟩, hC, hU6⟩)
            replace hU6 := (Touch.of_ext (ext_alloc _ _)).trans hU6
            replace ve := ve.touch hU6 (by omega)
            replace r0 := r0.touch hU6 (by omega)
            replace hT := hT.trans hU6
            have hz_w6 : (World.heap w5).size ≤ (World.heap w6).size := hU6.size
            clear hU6
            clear e0 e1 e2 e3 e4 ez el
            have e0 := ve.cell 0 _ rfl
            have e1 := ve.cell 1 _ rfl
            have e2 := ve.cell 2 _ rfl
            have e3 := ve.cell 3 _ rfl
            have e4 := ve.cell 4 _ rfl
            have ez := ve.fz
            have el := ve.lt
            have f0 := r0.cell 0 _ rfl
            have f1 := r0.cell 1 _ rfl
            have f2 := r0.cell 2 _ rfl
            have f3 := r0.cell 3 _ rfl
            have f4 := r0.cell 4 _ rfl
            have fz := r0.fz
            have fl := r0.lt
            have HC := Lib.hid (hC.mono (show _ ≤ k + 20 by omega))
            have HT := Lib.hid hT
            have hzx : (World.heap wz).size ≤ (World.heap w6).size := by omega
            clear hC hT ve r0
            go_wp2
            refine bodyPost_ret (v := .agg #[.int .i64 (q1), .int .i64 (q2), .int .i64 (day), .int .i64 (D3), .int .i64 (q9)]) (by simp [results, Tryd.results52, go_sem, f0, f1, f2, f3, f4, fl]) rfl ⟨⟨q1, q2, day, D3, q9⟩, rfl, (HC.out.touch' (l := (World.heap w3).size) (Touch.of_set w6 ⟨(World.heap w3).size, 4, none⟩ (.int .i64 (q9)) (Nat.le_refl _) (Nat.lt_succ_self _)) (by omega)).touch' (set5_touch _ w.heap.size _ _ _ _ _) hgw, (HT.out.over' (B := (World.heap w3).size) (Touch.of_set w6 ⟨(World.heap w3).size, 4, none⟩ (.int .i64 (q9)) (Nat.le_refl _) (Nat.lt_succ_self _)) (by omega)).over' (set5_touch _ w.heap.size _ _ _ _ _) (Nat.le_refl _)⟩
          · have i3 : (z5 == 3) = false := by simp [h13]
            by_cases h14 : z5 = 4
            · subst h14
              have e0 := ve.cell 0 _ rfl
              have e1 := ve.cell 1 _ rfl
              have e2 := ve.cell 2 _ rfl
              have e3 := ve.cell 3 _ rfl
              have e4 := ve.cell 4 _ rfl
              have ez := ve.fz
              have el := ve.lt
              have f0 := r0.cell 0 _ rfl
              have f1 := r0.cell 1 _ rfl
              have f2 := r0.cell 2 _ rfl
              have f3 := r0.cell 3 _ rfl
              have f4 := r0.cell 4 _ rfl
              have fz := r0.fz
              have fl := r0.lt
              have HC := Lib.hid (hC.mono (show _ ≤ k + 20 by omega))
              have HT := Lib.hid hT
              have hzx : (World.heap wz).size ≤ (World.heap w5).size := by omega
              clear hC hT ve r0
              go_wp2
              refine bodyPost_ret (v := .agg #[.int .i64 (q1), .int .i64 (q2), .int .i64 (day), .int .i64 (4001), .int .i64 (u)]) (by simp [results, Tryd.results52, go_sem, f0, f1, f2, f3, f4, fl]) rfl ⟨⟨q1, q2, day, 4001, u⟩, rfl, (HC.out.touch' (l := (World.heap w3).size) (Touch.of_set w5 ⟨(World.heap w3).size, 3, none⟩ (.int .i64 (4001)) (Nat.le_refl _) (Nat.lt_succ_self _)) (by omega)).touch' (set5_touch _ w.heap.size _ _ _ _ _) hgw, (HT.out.over' (B := (World.heap w3).size) (Touch.of_set w5 ⟨(World.heap w3).size, 3, none⟩ (.int .i64 (4001)) (Nat.le_refl _) (Nat.lt_succ_self _)) (by omega)).over' (set5_touch _ w.heap.size _ _ _ _ _) (Nat.le_refl _)⟩
            · have i4 : (z5 == 4) = false := by simp [h14]
              have e0 := ve.cell 0 _ rfl
              have e1 := ve.cell 1 _ rfl
              have e2 := ve.cell 2 _ rfl
              have e3 := ve.cell 3 _ rfl
              have e4 := ve.cell 4 _ rfl
              have ez := ve.fz
              have el := ve.lt
              have f0 := r0.cell 0 _ rfl
              have f1 := r0.cell 1 _ rfl
              have f2 := r0.cell 2 _ rfl
              have f3 := r0.cell 3 _ rfl
              have f4 := r0.cell 4 _ rfl
              have fz := r0.fz
              have fl := r0.lt
              have HC := Lib.hid (hC.mono (show _ ≤ k + 20 by omega))
              have HT := Lib.hid hT
              clear hC hT ve r0
              go_wp2
              refine bodyPost_ret (v := .agg #[.int .i64 (q1), .int .i64 (q2), .int .i64 (day), .int .i64 (D3), .int .i64 (u)]) (by simp [results, Tryd.results52, go_sem, f0, f1, f2, f3, f4, fl]) rfl ⟨⟨q1, q2, day, D3, u⟩, rfl, (HC.out).touch' (set5_touch _ w.heap.size _ _ _ _ _) hgw, (HT.out).over' (set5_touch _ w.heap.size _ _ _ _ _) (Nat.le_refl _)⟩
end Go.Proofs.YtnikeelpcokffaaDoor
