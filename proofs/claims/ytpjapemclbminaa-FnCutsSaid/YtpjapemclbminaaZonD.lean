/- A zone drawn. No condition. -/
import Derived.Test.YtpjapemclbminaaErD
import Derived.Test.YtpjapemclbminaaTypes
import Derived.Test.YtpjapemclbminaaFamZone
import Derived.Deep.DeepCutAuto
import Derived.Deep.RegionLaw
namespace Go.Proofs.Ytpjapemclbminaa
open Go.RowKit
set_option linter.unusedVariables false
set_option linter.unusedSimpArgs false

set_option maxHeartbeats 16000000 in
set_option maxRecDepth 100000 in
theorem zone_any (id : Int) (g : Nat) (C : Option Addr) (n cap k : Nat) (w : World) (hC : CurAt g C n cap k w) (hk : k ≤ 412316860416) (hn : n ≤ 1099511627776) :
    Calls Try.prog 54 #[.pointer (some ⟨g, 0, none⟩), .int .i64 id] w (fun r w' => ∃ e : Zone, r = .returned (.agg #[.int .i64 e.id, .int .i64 e.west, .int .i64 e.south, .int .i64 e.east, .int .i64 e.north]) ∧ e.id = id ∧ CurAt g C n cap (k + 20) w' ∧ Touch g (g + 1) w w') := by
  have hgw : g < w.heap.size := hC.lt
  have hT := Touch.refl g (g + 1) w
  obtain ⟨E1, hVE1, hbE1, hzE1, huE1, hfE1⟩ := box_world w #[Value.int .i64 0, Value.int .i64 0, Value.int .i64 0, Value.int .i64 0, Value.int .i64 0] 35
  have r0 : VarL E1 (World.heap w).size [Value.int .i64 0, Value.int .i64 0, Value.int .i64 0, Value.int .i64 0, Value.int .i64 0] := hVE1 ▸ VarL.box w _ _
  replace hC := hC.ext hbE1
  replace hT := hT.trans (Touch.of_ext hbE1)
  have hyE1 : (World.heap w).size + 1 ≤ (World.heap E1).size := hzE1
  clear huE1 hfE1
  go_enter Try.func54, Try.ntmps54
  have hlt1 : g < (World.heap E1).size := hC.lt
  have HN1 := Lib.hid (among_any (some ⟨(World.heap E1).size, 0, none⟩) 5 5 [0, 10, 20, 30, 9000] rfl (World.heap E1).size ((World.heap E1).size + 1) g C n cap _ (World.alloc E1 (.cells #[Value.int .i64 (0), Value.int .i64 (10), Value.int .i64 (20), Value.int .i64 (30), Value.int .i64 (9000)] 3)) (hC.ext (ext_alloc _ _)) (by omega) hn (lit_flo E1 [0, 10, 20, 30, 9000] _ _ rfl) (by simp) (by simp) (.inl hlt1))
  clear hC
  go_wp2_with fail
  clear hVE1
  ((with_reducible refine (HN1.out).mono ?_); rintro e w1 ⟨_, rfl, ⟨q1, mq1, rfl⟩, hC, hU1⟩)
  replace hU1 := (Touch.of_ext (ext_alloc E1 (.cells #[Value.int .i64 (0), Value.int .i64 (10), Value.int .i64 (20), Value.int .i64 (30), Value.int .i64 (9000)] 3))).trans hU1
  replace r0 := r0.touch hU1 (by omega)
  replace hT := hT.trans hU1
  have hz_w1 : (World.heap E1).size ≤ (World.heap w1).size := hU1.size
  clear hU1
  have bq1 : 0 ≤ q1 ∧ q1 ≤ 9000 := by simp at mq1; omega
  clear mq1
  have hlt2 : g < (World.heap w1).size := hC.lt
  have HN2 := Lib.hid (among_any (some ⟨(World.heap w1).size, 0, none⟩) 5 5 [0, 5, 10, 20, 9000] rfl (World.heap w1).size ((World.heap w1).size + 1) g C n cap _ (World.alloc w1 (.cells #[Value.int .i64 (0), Value.int .i64 (5), Value.int .i64 (10), Value.int .i64 (20), Value.int .i64 (9000)] 3)) (hC.ext (ext_alloc _ _)) (by omega) hn (lit_flo w1 [0, 5, 10, 20, 9000] _ _ rfl) (by simp) (by simp) (.inl hlt2))
  clear hC
  go_wp2_with fail
  ((with_reducible refine (HN2.out).mono ?_); rintro e w2 ⟨_, rfl, ⟨q2, mq2, rfl⟩, hC, hU2⟩)
  replace hU2 := (Touch.of_ext (ext_alloc w1 (.cells #[Value.int .i64 (0), Value.int .i64 (5), Value.int .i64 (10), Value.int .i64 (20), Value.int .i64 (9000)] 3))).trans hU2
  replace r0 := r0.touch hU2 (by omega)
  replace hT := hT.trans hU2
  have hz_w2 : (World.heap w1).size ≤ (World.heap w2).size := hU2.size
  clear hU2
  have bq2 : 0 ≤ q2 ∧ q2 ≤ 9000 := by simp at mq2; omega
  clear mq2
  have hlt3 : g < (World.heap w2).size := hC.lt
  have HN3 := Lib.hid (among_any (some ⟨(World.heap w2).size, 0, none⟩) 6 6 [1, 10, 10, 20, 30, 999] rfl (World.heap w2).size ((World.heap w2).size + 1) g C n cap _ (World.alloc w2 (.cells #[Value.int .i64 (1), Value.int .i64 (10), Value.int .i64 (10), Value.int .i64 (20), Value.int .i64 (30), Value.int .i64 (999)] 3)) (hC.ext (ext_alloc _ _)) (by omega) hn (lit_flo w2 [1, 10, 10, 20, 30, 999] _ _ rfl) (by simp) (by simp) (.inl hlt3))
  clear hC
  go_wp2_with fail
  ((with_reducible refine (HN3.out).mono ?_); rintro e w3 ⟨_, rfl, ⟨q3, mq3, rfl⟩, hC, hU3⟩)
  replace hU3 := (Touch.of_ext (ext_alloc w2 (.cells #[Value.int .i64 (1), Value.int .i64 (10), Value.int .i64 (10), Value.int .i64 (20), Value.int .i64 (30), Value.int .i64 (999)] 3))).trans hU3
  replace r0 := r0.touch hU3 (by omega)
  replace hT := hT.trans hU3
  have hz_w3 : (World.heap w2).size ≤ (World.heap w3).size := hU3.size
  clear hU3
  have bq3 : 0 ≤ q3 ∧ q3 ≤ 999 := by simp at mq3; omega
  clear mq3
  have hlt4 : g < (World.heap w3).size := hC.lt
  have HN4 := Lib.hid (among_any (some ⟨(World.heap w3).size, 0, none⟩) 5 5 [1, 5, 10, 15, 999] rfl (World.heap w3).size ((World.heap w3).size + 1) g C n cap _ (World.alloc w3 (.cells #[Value.int .i64 (1), Value.int .i64 (5), Value.int .i64 (10), Value.int .i64 (15), Value.int .i64 (999)] 3)) (hC.ext (ext_alloc _ _)) (by omega) hn (lit_flo w3 [1, 5, 10, 15, 999] _ _ rfl) (by simp) (by simp) (.inl hlt4))
  clear hC
  go_wp2_with fail
  ((with_reducible refine (HN4.out).mono ?_); rintro e w4 ⟨_, rfl, ⟨q4, mq4, rfl⟩, hC, hU4⟩)
  replace hU4 := (Touch.of_ext (ext_alloc w3 (.cells #[Value.int .i64 (1), Value.int .i64 (5), Value.int .i64 (10), Value.int .i64 (15), Value.int .i64 (999)] 3))).trans hU4
  replace r0 := r0.touch hU4 (by omega)
  replace hT := hT.trans hU4
  have hz_w4 : (World.heap w3).size ≤ (World.heap w4).size := hU4.size
  clear hU4
  have bq4 : 0 ≤ q4 ∧ q4 ≤ 999 := by simp at mq4; omega
  clear mq4
  obtain ⟨E2, hVE2, hbE2, hzE2, huE2, hfE2⟩ := box_world w4 #[Value.int .i64 (id), Value.int .i64 (q1), Value.int .i64 (q2), Value.int .i64 (q1 + q3), Value.int .i64 (q2 + q4)] 35
  have ve : VarL E2 (World.heap w4).size [Value.int .i64 (id), Value.int .i64 (q1), Value.int .i64 (q2), Value.int .i64 (q1 + q3), Value.int .i64 (q2 + q4)] := hVE2 ▸ VarL.box w4 _ _
  replace r0 := r0.ext hbE2
  replace hC := hC.ext hbE2
  replace hT := hT.trans (Touch.of_ext hbE2)
  have hyE2 : (World.heap w4).size + 1 ≤ (World.heap E2).size := hzE2
  clear huE2 hfE2
  have HN5 := Lib.hid (pick_any 64 g C n cap _ E2 hC (by omega) hn)
  clear hC
  go_wp2_with fail
  clear hVE2
  ((with_reducible refine (HN5.out).mono ?_); rintro e w5 ⟨_, rfl, ⟨z5, rfl, z50, z51⟩, hC, hU5⟩)
  replace r0 := r0.touch hU5 (by omega)
  replace ve := ve.touch hU5 (by omega)
  replace hT := hT.trans hU5
  have hz_w5 : (World.heap E2).size ≤ (World.heap w5).size := hU5.size
  clear hU5
  have hbw : w.heap.size + 1 ≤ (World.heap w4).size := by omega
  by_cases h10 : z5 = 0
  · subst h10
    have e0 := ve.cell 0 _ rfl
    have e1 := ve.cell 1 _ rfl
    have e2 := ve.cell 2 _ rfl
    have e3 := ve.cell 3 _ rfl
    have e4 := ve.cell 4 _ rfl
    have ez := ve.fz
    have el := ve.lt
    have f0 := r0.cell 0 _ rfl
    have f1 := r0.cell 1 _ rfl
    have f2 := r0.cell 2 _ rfl
    have f3 := r0.cell 3 _ rfl
    have f4 := r0.cell 4 _ rfl
    have fz := r0.fz
    have fl := r0.lt
    have HC := Lib.hid (hC.mono (show _ ≤ k + 20 by omega))
    have HT := Lib.hid hT
    clear hC hT ve r0
    go_wp2
    refine bodyPost_ret (v := .agg #[.int .i64 (id), .int .i64 (q1), .int .i64 (q2), .int .i64 (q1), .int .i64 (q2 + q4)]) (by simp [results, Try.results54, go_sem, f0, f1, f2, f3, f4, fl]) rfl ⟨⟨id, q1, q2, q1, q2 + q4⟩, rfl, rfl, (HC.out.touch' (l := (World.heap w4).size) (Touch.of_set w5 ⟨(World.heap w4).size, 3, none⟩ (.int .i64 (q1)) (Nat.le_refl _) (Nat.lt_succ_self _)) (by omega)).touch' (set5_touch _ w.heap.size _ _ _ _ _) hgw, (HT.out.over' (B := (World.heap w4).size) (Touch.of_set w5 ⟨(World.heap w4).size, 3, none⟩ (.int .i64 (q1)) (Nat.le_refl _) (Nat.lt_succ_self _)) (by omega)).over' (set5_touch _ w.heap.size _ _ _ _ _) (Nat.le_refl _)⟩
  · have i0 : (z5 == 0) = false := by simp [h10]
    by_cases h11 : z5 = 1
    · subst h11
      have hlt6 : g < (World.heap w5).size := hC.lt
      have HN6 := Lib.hid (among_any (some ⟨(World.heap w5).size, 0, none⟩) 2 2 [0, 10000] rfl (World.heap w5).size ((World.heap w5).size + 1) g C n cap _ (World.alloc w5 (.cells #[Value.int .i64 (0), Value.int .i64 (10000)] 3)) (hC.ext (ext_alloc _ _)) (by omega) hn (lit_flo w5 [0, 10000] _ _ rfl) (by simp) (by simp) (.inl hlt6))
      clear hC
      go_wp2_with fail
      ((with_reducible refine (HN6.out).mono ?_); rintro e w6 ⟨_, rfl, ⟨q9, _, rfl⟩, hC, hU6⟩)
      replace hU6 := (Touch.of_ext (ext_alloc w5 (.cells #[Value.int .i64 (0), Value.int .i64 (10000)] 3))).trans hU6
      replace r0 := r0.touch hU6 (by omega)
      replace ve := ve.touch hU6 (by omega)
      replace hT := hT.trans hU6
      have hz_w6 : (World.heap w5).size ≤ (World.heap w6).size := hU6.size
      clear hU6
      have e0 := ve.cell 0 _ rfl
      have e1 := ve.cell 1 _ rfl
      have e2 := ve.cell 2 _ rfl
      have e3 := ve.cell 3 _ rfl
      have e4 := ve.cell 4 _ rfl
      have ez := ve.fz
      have el := ve.lt
      have f0 := r0.cell 0 _ rfl
      have f1 := r0.cell 1 _ rfl
      have f2 := r0.cell 2 _ rfl
      have f3 := r0.cell 3 _ rfl
      have f4 := r0.cell 4 _ rfl
      have fz := r0.fz
      have fl := r0.lt
      have HC := Lib.hid (hC.mono (show _ ≤ k + 20 by omega))
      have HT := Lib.hid hT
      clear hC hT ve r0
      go_wp2
      refine bodyPost_ret (v := .agg #[.int .i64 (id), .int .i64 (q1), .int .i64 (q2), .int .i64 (q1 + q3), .int .i64 (q9)]) (by simp [results, Try.results54, go_sem, f0, f1, f2, f3, f4, fl]) rfl ⟨⟨id, q1, q2, q1 + q3, q9⟩, rfl, rfl, (HC.out.touch' (l := (World.heap w4).size) (Touch.of_set w6 ⟨(World.heap w4).size, 4, none⟩ (.int .i64 (q9)) (Nat.le_refl _) (Nat.lt_succ_self _)) (by omega)).touch' (set5_touch _ w.heap.size _ _ _ _ _) hgw, (HT.out.over' (B := (World.heap w4).size) (Touch.of_set w6 ⟨(World.heap w4).size, 4, none⟩ (.int .i64 (q9)) (Nat.le_refl _) (Nat.lt_succ_self _)) (by omega)).over' (set5_touch _ w.heap.size _ _ _ _ _) (Nat.le_refl _)⟩
    · have i1 : (z5 == 1) = false := by simp [h11]
      by_cases h12 : z5 = 2
      · subst h12
        have e0 := ve.cell 0 _ rfl
        have e1 := ve.cell 1 _ rfl
        have e2 := ve.cell 2 _ rfl
        have e3 := ve.cell 3 _ rfl
        have e4 := ve.cell 4 _ rfl
        have ez := ve.fz
        have el := ve.lt
        have f0 := r0.cell 0 _ rfl
        have f1 := r0.cell 1 _ rfl
        have f2 := r0.cell 2 _ rfl
        have f3 := r0.cell 3 _ rfl
        have f4 := r0.cell 4 _ rfl
        have fz := r0.fz
        have fl := r0.lt
        have HC := Lib.hid (hC.mono (show _ ≤ k + 20 by omega))
        have HT := Lib.hid hT
        clear hC hT ve r0
        go_wp2
        refine bodyPost_ret (v := .agg #[.int .i64 (id), .int .i64 (-1), .int .i64 (q2), .int .i64 (q1 + q3), .int .i64 (q2 + q4)]) (by simp [results, Try.results54, go_sem, f0, f1, f2, f3, f4, fl]) rfl ⟨⟨id, -1, q2, q1 + q3, q2 + q4⟩, rfl, rfl, (HC.out.touch' (l := (World.heap w4).size) (Touch.of_set w5 ⟨(World.heap w4).size, 1, none⟩ (.int .i64 (-1)) (Nat.le_refl _) (Nat.lt_succ_self _)) (by omega)).touch' (set5_touch _ w.heap.size _ _ _ _ _) hgw, (HT.out.over' (B := (World.heap w4).size) (Touch.of_set w5 ⟨(World.heap w4).size, 1, none⟩ (.int .i64 (-1)) (Nat.le_refl _) (Nat.lt_succ_self _)) (by omega)).over' (set5_touch _ w.heap.size _ _ _ _ _) (Nat.le_refl _)⟩
      · have i2 : (z5 == 2) = false := by simp [h12]
        have e0 := ve.cell 0 _ rfl
        have e1 := ve.cell 1 _ rfl
        have e2 := ve.cell 2 _ rfl
        have e3 := ve.cell 3 _ rfl
        have e4 := ve.cell 4 _ rfl
        have ez := ve.fz
        have el := ve.lt
        have f0 := r0.cell 0 _ rfl
        have f1 := r0.cell 1 _ rfl
        have f2 := r0.cell 2 _ rfl
        have f3 := r0.cell 3 _ rfl
        have f4 := r0.cell 4 _ rfl
        have fz := r0.fz
        have fl := r0.lt
        have HC := Lib.hid (hC.mono (show _ ≤ k + 20 by omega))
        have HT := Lib.hid hT
        clear hC hT ve r0
        go_wp2
        refine bodyPost_ret (v := .agg #[.int .i64 (id), .int .i64 (q1), .int .i64 (q2), .int .i64 (q1 + q3), .int .i64 (q2 + q4)]) (by simp [results, Try.results54, go_sem, f0, f1, f2, f3, f4, fl]) rfl ⟨⟨id, q1, q2, q1 + q3, q2 + q4⟩, rfl, rfl, (HC.out).touch' (set5_touch _ w.heap.size _ _ _ _ _) hgw, (HT.out).over' (set5_touch _ w.heap.size _ _ _ _ _) (Nat.le_refl _)⟩
end Go.Proofs.Ytpjapemclbminaa
