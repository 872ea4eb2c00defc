/- A leg drawn. No condition. -/
import Derived.Test.YtlagfeccdcjimaaDoorErD
import Derived.Test.YtlagfeccdcjimaaDoorTypes
import Derived.Test.YtlagfeccdcjimaaDoorFamLeg
import Derived.Test.YtlagfeccdcjimaaDoorBoxLaw
import Derived.Deep.DeepCutAuto
import Derived.Deep.RegionLaw
namespace Go.Proofs.YtlagfeccdcjimaaDoor
open Go.RowKit
set_option linter.unusedVariables false
set_option linter.unusedSimpArgs false

theorem set3_tch (w : World) (B : Nat) (a b c : Value) : Touch B (B + 1) w (((w.setCell ⟨B, 0, none⟩ a).setCell ⟨B, 1, none⟩ b).setCell ⟨B, 2, none⟩ c) :=
  ((Touch.of_set w ⟨B, 0, none⟩ a (Nat.le_refl _) (Nat.lt_succ_self _)).set (p := ⟨B, 1, none⟩) (Nat.le_refl _) (Nat.lt_succ_self _) b).set (p := ⟨B, 2, none⟩) (Nat.le_refl _) (Nat.lt_succ_self _) c
theorem set4_tch (w : World) (B : Nat) (a b c d : Value) : Touch B (B + 1) w ((((w.setCell ⟨B, 0, none⟩ a).setCell ⟨B, 1, none⟩ b).setCell ⟨B, 2, none⟩ c).setCell ⟨B, 3, none⟩ d) :=
  (set3_tch w B a b c).set (p := ⟨B, 3, none⟩) (Nat.le_refl _) (Nat.lt_succ_self _) d
set_option maxHeartbeats 16000000 in
set_option maxRecDepth 100000 in
theorem leg_any (g : Nat) (C : Option Addr) (n cap k : Nat) (w : World) (hC : CurAt g C n cap k w) (hk : k ≤ 412316860416) (hn : n ≤ 1099511627776) :
    Calls Tryd.prog 50 #[.pointer (some ⟨g, 0, none⟩)] w (fun r w' => ∃ x : Leg, r = .returned (.agg #[.int .i64 x.way, .int .i64 x.units, .int .i64 x.climb]) ∧ CurAt g C n cap (k + 20) w' ∧ Touch g (g + 1) w w') := by
  have hgw : g < w.heap.size := hC.lt
  have hT := Touch.refl g (g + 1) w
  obtain ⟨E1, hVE1, hbE1, hzE1, huE1, hfE1⟩ := box_world w #[Value.int .i64 0, Value.int .i64 0, Value.int .i64 0] 52
  have r0 : VarL E1 (World.heap w).size [Value.int .i64 0, Value.int .i64 0, Value.int .i64 0] := hVE1 ▸ VarL.box w _ _
  replace hC := hC.ext hbE1
  replace hT := hT.trans (Touch.of_ext hbE1)
  have hyE1 : (World.heap w).size + 1 ≤ (World.heap E1).size := hzE1
  clear huE1 hfE1
  go_enter Tryd.func50, Tryd.ntmps50
  have HN1 := Lib.hid (pick_any 8 g C n cap _ E1 hC (by omega) hn)
  clear hC
  go_wp2_with fail
  clear hVE1
  ((with_reducible refine (HN1.out).mono ?_); rintro e w1 ⟨_, rfl, ⟨q0, rfl, q00, q01⟩, hC, hU1⟩)
  replace r0 := r0.touch hU1 (by omega)
  replace hT := hT.trans hU1
  have hz_w1 : (World.heap E1).size ≤ (World.heap w1).size := hU1.size
  clear hU1
  have hlt2 : g < (World.heap w1).size := hC.lt
  have HN2 := Lib.hid (among_any (some ⟨(World.heap w1).size, 0, none⟩) 7 7 [1, 2, 3, 5, 10, 50, 999] rfl (World.heap w1).size ((World.heap w1).size + 1) g C n cap _ (World.alloc w1 (.cells #[Value.int .i64 (1), Value.int .i64 (2), Value.int .i64 (3), Value.int .i64 (5), Value.int .i64 (10), Value.int .i64 (50), Value.int .i64 (999)] 3)) (hC.ext (ext_alloc _ _)) (by omega) hn (lit_flo w1 [1, 2, 3, 5, 10, 50, 999] _ _ rfl) (by simp) (by simp) (.inl hlt2))
  clear hC
  go_wp2_with fail
  ((with_reducible refine (HN2.out).mono ?_); rintro e w2 ⟨_, rfl, ⟨q1, _, rfl⟩, hC, hU2⟩)
  replace hU2 := (Touch.of_ext (ext_alloc w1 (.cells #[Value.int .i64 (1), Value.int .i64 (2), Value.int .i64 (3), Value.int .i64 (5), Value.int .i64 (10), Value.int .i64 (50), Value.int .i64 (999)] 3))).trans hU2
  replace r0 := r0.touch hU2 (by omega)
  replace hT := hT.trans hU2
  have hz_w2 : (World.heap w1).size ≤ (World.heap w2).size := hU2.size
  clear hU2
  have hlt3 : g < (World.heap w2).size := hC.lt
  have HN3 := Lib.hid (among_any (some ⟨(World.heap w2).size, 0, none⟩) 9 9 [0, 0, 10, 33, -100, -101, -250, 999, -999] rfl (World.heap w2).size ((World.heap w2).size + 1) g C n cap _ (World.alloc w2 (.cells #[Value.int .i64 (0), Value.int .i64 (0), Value.int .i64 (10), Value.int .i64 (33), Value.int .i64 (-100), Value.int .i64 (-101), Value.int .i64 (-250), Value.int .i64 (999), Value.int .i64 (-999)] 3)) (hC.ext (ext_alloc _ _)) (by omega) hn (lit_flo w2 [0, 0, 10, 33, -100, -101, -250, 999, -999] _ _ rfl) (by simp) (by simp) (.inl hlt3))
  clear hC
  go_wp2_with fail
  ((with_reducible refine (HN3.out).mono ?_); rintro e w3 ⟨_, rfl, ⟨q2, _, rfl⟩, hC, hU3⟩)
  replace hU3 := (Touch.of_ext (ext_alloc w2 (.cells #[Value.int .i64 (0), Value.int .i64 (0), Value.int .i64 (10), Value.int .i64 (33), Value.int .i64 (-100), Value.int .i64 (-101), Value.int .i64 (-250), Value.int .i64 (999), Value.int .i64 (-999)] 3))).trans hU3
  replace r0 := r0.touch hU3 (by omega)
  replace hT := hT.trans hU3
  have hz_w3 : (World.heap w2).size ≤ (World.heap w3).size := hU3.size
  clear hU3
  obtain ⟨E2, hVE2, hbE2, hzE2, huE2, hfE2⟩ := box_world w3 #[Value.int .i64 q0, Value.int .i64 q1, Value.int .i64 q2] 52
  have ve : VarL E2 (World.heap w3).size [Value.int .i64 q0, Value.int .i64 q1, Value.int .i64 q2] := hVE2 ▸ VarL.box w3 _ _
  replace r0 := r0.ext hbE2
  replace hC := hC.ext hbE2
  replace hT := hT.trans (Touch.of_ext hbE2)
  have hyE2 : (World.heap w3).size + 1 ≤ (World.heap E2).size := hzE2
  clear huE2 hfE2
  have HN4 := Lib.hid (pick_any 64 g C n cap _ E2 hC (by omega) hn)
  clear hC
  go_wp2_with fail
  clear hVE2
  ((with_reducible refine (HN4.out).mono ?_); rintro e w4 ⟨_, rfl, ⟨z5, rfl, z50, z51⟩, hC, hU4⟩)
  replace r0 := r0.touch hU4 (by omega)
  replace ve := ve.touch hU4 (by omega)
  replace hT := hT.trans hU4
  have hz_w4 : (World.heap E2).size ≤ (World.heap w4).size := hU4.size
  clear hU4
  have hbw : w.heap.size + 1 ≤ (World.heap w3).size := by omega
  by_cases h10 : z5 = 0
  · subst h10
    have hlt5 : g < (World.heap w4).size := hC.lt
    have HN5 := Lib.hid (among_any (some ⟨(World.heap w4).size, 0, none⟩) 2 2 [-1, 8] rfl (World.heap w4).size ((World.heap w4).size + 1) g C n cap _ (World.alloc w4 (.cells #[Value.int .i64 (-1), Value.int .i64 (8)] 3)) (hC.ext (ext_alloc _ _)) (by omega) hn (lit_flo w4 [-1, 8] _ _ rfl) (by simp) (by simp) (.inl hlt5))
    clear hC
    go_wp2_with fail
    ((with_reducible refine (HN5.out).mono ?_); rintro e w5 ⟨_, rfl, ⟨q9, _, rfl⟩, hC, hU5⟩)
    replace hU5 := (Touch.of_ext (ext_alloc w4 (.cells #[Value.int .i64 (-1), Value.int .i64 (8)] 3))).trans hU5
    replace r0 := r0.touch hU5 (by omega)
    replace ve := ve.touch hU5 (by omega)
    replace hT := hT.trans hU5
    have hz_w5 : (World.heap w4).size ≤ (World.heap w5).size := hU5.size
    clear hU5
    have e0 := ve.cell 0 _ rfl
    have e1 := ve.cell 1 _ rfl
    have e2 := ve.cell 2 _ rfl
    have ez := ve.fz
    have el := ve.lt
    have f0 := r0.cell 0 _ rfl
    have f1 := r0.cell 1 _ rfl
    have f2 := r0.cell 2 _ rfl
    have fz := r0.fz
    have fl := r0.lt
    have HC := Lib.hid (hC.mono (show _ ≤ k + 20 by omega))
    have HT := Lib.hid hT
    clear hC hT ve r0
    go_wp2
    refine bodyPost_ret (v := .agg #[.int .i64 (q9), .int .i64 (q1), .int .i64 (q2)]) (by simp [results, Tryd.results50, go_sem, f0, f1, f2, fl]) rfl ⟨⟨q9, q1, q2⟩, rfl, (HC.out.touch' (l := (World.heap w3).size) (Touch.of_set w5 ⟨(World.heap w3).size, 0, none⟩ (.int .i64 (q9)) (Nat.le_refl _) (Nat.lt_succ_self _)) (by omega)).touch' (set3_tch _ w.heap.size _ _ _) hgw, (HT.out.over' (B := (World.heap w3).size) (Touch.of_set w5 ⟨(World.heap w3).size, 0, none⟩ (.int .i64 (q9)) (Nat.le_refl _) (Nat.lt_succ_self _)) (by omega)).over' (set3_tch _ w.heap.size _ _ _) (Nat.le_refl _)⟩
  · have i0 : (z5 == 0) = false := by simp [h10]
    by_cases h11 : z5 = 1
    · subst h11
      have hlt5 : g < (World.heap w4).size := hC.lt
      have HN5 := Lib.hid (among_any (some ⟨(World.heap w4).size, 0, none⟩) 2 2 [0, 1000] rfl (World.heap w4).size ((World.heap w4).size + 1) g C n cap _ (World.alloc w4 (.cells #[Value.int .i64 (0), Value.int .i64 (1000)] 3)) (hC.ext (ext_alloc _ _)) (by omega) hn (lit_flo w4 [0, 1000] _ _ rfl) (by simp) (by simp) (.inl hlt5))
      clear hC
      go_wp2_with fail
      ((with_reducible refine (HN5.out).mono ?_); rintro e w5 ⟨_, rfl, ⟨q9, _, rfl⟩, hC, hU5⟩)
      replace hU5 := (Touch.of_ext (ext_alloc w4 (.cells #[Value.int .i64 (0), Value.int .i64 (1000)] 3))).trans hU5
      replace r0 := r0.touch hU5 (by omega)
      replace ve := ve.touch hU5 (by omega)
      replace hT := hT.trans hU5
      have hz_w5 : (World.heap w4).size ≤ (World.heap w5).size := hU5.size
      clear hU5
      have e0 := ve.cell 0 _ rfl
      have e1 := ve.cell 1 _ rfl
      have e2 := ve.cell 2 _ rfl
      have ez := ve.fz
      have el := ve.lt
      have f0 := r0.cell 0 _ rfl
      have f1 := r0.cell 1 _ rfl
      have f2 := r0.cell 2 _ rfl
      have fz := r0.fz
      have fl := r0.lt
      have HC := Lib.hid (hC.mono (show _ ≤ k + 20 by omega))
      have HT := Lib.hid hT
      clear hC hT ve r0
      go_wp2
      refine bodyPost_ret (v := .agg #[.int .i64 (q0), .int .i64 (q9), .int .i64 (q2)]) (by simp [results, Tryd.results50, go_sem, f0, f1, f2, fl]) rfl ⟨⟨q0, q9, q2⟩, rfl, (HC.out.touch' (l := (World.heap w3).size) (Touch.of_set w5 ⟨(World.heap w3).size, 1, none⟩ (.int .i64 (q9)) (Nat.le_refl _) (Nat.lt_succ_self _)) (by omega)).touch' (set3_tch _ w.heap.size _ _ _) hgw, (HT.out.over' (B := (World.heap w3).size) (Touch.of_set w5 ⟨(World.heap w3).size, 1, none⟩ (.int .i64 (q9)) (Nat.le_refl _) (Nat.lt_succ_self _)) (by omega)).over' (set3_tch _ w.heap.size _ _ _) (Nat.le_refl _)⟩
    · have i1 : (z5 == 1) = false := by simp [h11]
      by_cases h12 : z5 = 2
      · subst h12
        have hlt5 : g < (World.heap w4).size := hC.lt
        have HN5 := Lib.hid (among_any (some ⟨(World.heap w4).size, 0, none⟩) 2 2 [-1000, 1000] rfl (World.heap w4).size ((World.heap w4).size + 1) g C n cap _ (World.alloc w4 (.cells #[Value.int .i64 (-1000), Value.int .i64 (1000)] 3)) (hC.ext (ext_alloc _ _)) (by omega) hn (lit_flo w4 [-1000, 1000] _ _ rfl) (by simp) (by simp) (.inl hlt5))
        clear hC
        go_wp2_with fail
        ((with_reducible refine (HN5.out).mono ?_); rintro e w5 ⟨_, rfl, ⟨q9, _, rfl⟩, hC, hU5⟩)
        replace hU5 := (Touch.of_ext (ext_alloc w4 (.cells #[Value.int .i64 (-1000), Value.int .i64 (1000)] 3))).trans hU5
        replace r0 := r0.touch hU5 (by omega)
        replace ve := ve.touch hU5 (by omega)
        replace hT := hT.trans hU5
        have hz_w5 : (World.heap w4).size ≤ (World.heap w5).size := hU5.size
        clear hU5
        have e0 := ve.cell 0 _ rfl
        have e1 := ve.cell 1 _ rfl
        have e2 := ve.cell 2 _ rfl
        have ez := ve.fz
        have el := ve.lt
        have f0 := r0.cell 0 _ rfl
        have f1 := r0.cell 1 _ rfl
        have f2 := r0.cell 2 _ rfl
        have fz := r0.fz
        have fl := r0.lt
        have HC := Lib.hid (hC.mono (show _ ≤ k + 20 by omega))
        have HT := Lib.hid hT
        clear hC hT ve r0
        go_wp2
        refine bodyPost_ret (v := .agg #[.int .i64 (q0), .int .i64 (q1), .int .i64 (q9)]) (by simp [results, Tryd.results50, go_sem, f0, f1, f2, fl]) rfl ⟨⟨q0, q1, q9⟩, rfl, (HC.out.touch' (l := (World.heap w3).size) (Touch.of_set w5 ⟨(World.heap w3).size, 2, none⟩ (.int .i64 (q9)) (Nat.le_refl _) (Nat.lt_succ_self _)) (by omega)).touch' (set3_tch _ w.heap.size _ _ _) hgw, (HT.out.over' (B := (World.heap w3).size) (Touch.of_set w5 ⟨(World.heap w3).size, 2, none⟩ (.int .i64 (q9)) (Nat.le_refl _) (Nat.lt_succ_self _)) (by omega)).over' (set3_tch _ w.heap.size _ _ _) (Nat.le_refl _)⟩
      · have i2 : (z5 == 2) = false := by simp [h12]
        have e0 := ve.cell 0 _ rfl
        have e1 := ve.cell 1 _ rfl
        have e2 := ve.cell 2 _ rfl
        have ez := ve.fz
        have el := ve.lt
        have f0 := r0.cell 0 _ rfl
        have f1 := r0.cell 1 _ rfl
        have f2 := r0.cell 2 _ rfl
        have fz := r0.fz
        have fl := r0.lt
        have HC := Lib.hid (hC.mono (show _ ≤ k + 20 by omega))
        have HT := Lib.hid hT
        clear hC hT ve r0
        go_wp2
        refine bodyPost_ret (v := .agg #[.int .i64 (q0), .int .i64 (q1), .int .i64 (q2)]) (by simp [results, Tryd.results50, go_sem, f0, f1, f2, fl]) rfl ⟨⟨q0, q1, q2⟩, rfl, (HC.out).touch' (set3_tch _ w.heap.size _ _ _) hgw, (HT.out).over' (set3_tch _ w.heap.size _ _ _) (Nat.le_refl _)⟩
end Go.Proofs.YtlagfeccdcjimaaDoor
