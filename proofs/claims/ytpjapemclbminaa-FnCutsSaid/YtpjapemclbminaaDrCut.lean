/- The draws of zones that are cut, and of ids of zones. No condition. -/
import Derived.Test.YtpjapemclbminaaDrZon
import Derived.Test.YtpjapemclbminaaZonO
namespace Go.Proofs.Ytpjapemclbminaa
open Go.RowKit
set_option linter.unusedVariables false
set_option linter.unusedSimpArgs false

def CutDr (w : World) (e : Ending) (w' : World) : Prop :=
  ∃ (a b : Zone), e = .returned (.tuple #[.agg #[.int .i64 a.id, .int .i64 a.west, .int .i64 a.south, .int .i64 a.east, .int .i64 a.north], .agg #[.int .i64 b.id, .int .i64 b.west, .int .i64 b.south, .int .i64 b.east, .int .i64 b.north]]) ∧ a.id = 1 ∧ b.id = 2 ∧ Below w.heap.size w w'
set_option maxHeartbeats 4000000 in
set_option maxRecDepth 100000 in
theorem drawOverlapOf_any (A : Option Addr) (n cap : Nat) (w : World) (hA : Bytes w A n) (hn : n ≤ 1099511627776) :
    Calls Try.prog 32 #[.slice A n cap] w (ZaDr w) := by
  obtain ⟨V0, hV0, hB0, hz0, hu0, hf0⟩ := box_world w #[Value.slice A n cap, .int .i64 0, .int .u64 0] 71
  have hC0 : CurAt w.heap.size A n cap 0 V0 := hV0 ▸ CurAt.start hA cap _
  obtain ⟨g, hg⟩ : ∃ g, g = w.heap.size := ⟨_, rfl⟩
  rw [← hg] at hC0
  have HG := Lib.hid hg
  have hgw : w.heap.size ≤ g := by omega
  have hgV : g + 1 ≤ V0.heap.size := by omega
  have HP := Lib.hid (zones_any g A n cap 0 V0 hC0 (by omega) hn)
  have HB0 := Lib.hid hB0
  clear hg hC0 hu0 hf0 hA hB0
  go_enter Try.func32, Try.ntmps32
  go_wp2_with fail
  rw [← HG.out]
  clear hV0
  ((with_reducible refine (HP.out).mono ?_); rintro e w1 ⟨B, d, xs, rfl, hl, hcap, hF, hC, hU⟩)
  have hT := hU
  have hz_w1 : V0.heap.size ≤ w1.heap.size := hU.size
  clear hU
  have HN2 := Lib.hid (zoneOf_any B d V0.heap.size w1.heap.size xs (by omega) g A n cap _ w1 hC hF (by omega) (by omega) hn)
  clear hC
  go_wp2_with fail
  ((with_reducible refine (HN2.out).mono ?_); rintro e w2 ⟨q1, rfl, hC, hU2⟩)
  replace hF := hF.touch hU2 (by omega)
  replace hT := hT.trans hU2
  have hz_w2 : (World.heap w1).size ≤ (World.heap w2).size := hU2.size
  clear hU2
  have HN3 := Lib.hid (zoneOf_any B d V0.heap.size w1.heap.size xs (by omega) g A n cap _ w2 hC hF (by omega) (by omega) hn)
  clear hC
  go_wp2_with fail
  ((with_reducible refine (HN3.out).mono ?_); rintro e w3 ⟨q2, rfl, hC, hU3⟩)
  replace hF := hF.touch hU3 (by omega)
  replace hT := hT.trans hU3
  have hz_w3 : (World.heap w2).size ≤ (World.heap w3).size := hU3.size
  clear hU3
  have HF := Lib.hid hF
  have HT := Lib.hid (hT.below HB0.out hgw)
  clear hF hC hT
  go_wp2
  go_ret3
  exact ⟨B, d, xs, q1, q2, rfl, hl, hcap, HF.out.mono (by omega) (by omega), HT.out⟩
set_option maxHeartbeats 4000000 in
set_option maxRecDepth 100000 in
theorem drawAreaOnlyIn_any (A : Option Addr) (n cap : Nat) (w : World) (hA : Bytes w A n) (hn : n ≤ 1099511627776) :
    Calls Try.prog 34 #[.slice A n cap] w (ZiDr w) := by
  obtain ⟨V0, hV0, hB0, hz0, hu0, hf0⟩ := box_world w #[Value.slice A n cap, .int .i64 0, .int .u64 0] 71
  have hC0 : CurAt w.heap.size A n cap 0 V0 := hV0 ▸ CurAt.start hA cap _
  obtain ⟨g, hg⟩ : ∃ g, g = w.heap.size := ⟨_, rfl⟩
  rw [← hg] at hC0
  have HG := Lib.hid hg
  have hgw : w.heap.size ≤ g := by omega
  have hgV : g + 1 ≤ V0.heap.size := by omega
  have HP := Lib.hid (zones_any g A n cap 0 V0 hC0 (by omega) hn)
  have HB0 := Lib.hid hB0
  clear hg hC0 hu0 hf0 hA hB0
  go_enter Try.func34, Try.ntmps34
  go_wp2_with fail
  rw [← HG.out]
  clear hV0
  ((with_reducible refine (HP.out).mono ?_); rintro e w1 ⟨B, d, xs, rfl, hl, hcap, hF, hC, hU⟩)
  have hT := hU
  have hz_w1 : V0.heap.size ≤ w1.heap.size := hU.size
  clear hU
  have HN2 := Lib.hid (zoneOf_any B d V0.heap.size w1.heap.size xs (by omega) g A n cap _ w1 hC hF (by omega) (by omega) hn)
  clear hC
  go_wp2_with fail
  ((with_reducible refine (HN2.out).mono ?_); rintro e w2 ⟨q1, rfl, hC, hU2⟩)
  replace hF := hF.touch hU2 (by omega)
  replace hT := hT.trans hU2
  have hz_w2 : (World.heap w1).size ≤ (World.heap w2).size := hU2.size
  clear hU2
  have HF := Lib.hid hF
  have HT := Lib.hid (hT.below HB0.out hgw)
  clear hF hC hT
  go_wp2
  go_ret2
  exact ⟨B, d, xs, q1, rfl, hl, hcap, HF.out.mono (by omega) (by omega), HT.out⟩
set_option maxHeartbeats 4000000 in
set_option maxRecDepth 100000 in
theorem drawCutZone_any (A : Option Addr) (n cap : Nat) (w : World) (hA : Bytes w A n) (hn : n ≤ 1099511627776) :
    Calls Try.prog 22 #[.slice A n cap] w (CutDr w) := by
  obtain ⟨R0, hR0, hD0, hs0, hp0, hq0⟩ := box_world w #[Value.int .i64 0, Value.int .i64 0, Value.int .i64 0, Value.int .i64 0, Value.int .i64 0] 35
  have ra : VarL R0 w.heap.size [Value.int .i64 0, Value.int .i64 0, Value.int .i64 0, Value.int .i64 0, Value.int .i64 0] := hR0 ▸ VarL.box w _ _
  obtain ⟨R1, hR1, hD1, hs1, hp1, hq1⟩ := box_world R0 #[Value.int .i64 0, Value.int .i64 0, Value.int .i64 0, Value.int .i64 0, Value.int .i64 0] 35
  have rb : VarL R1 R0.heap.size [Value.int .i64 0, Value.int .i64 0, Value.int .i64 0, Value.int .i64 0, Value.int .i64 0] := hR1 ▸ VarL.box R0 _ _
  obtain ⟨V0, hV0, hB0, hz0, hu0, hf0⟩ := box_world R1 #[Value.slice A n cap, .int .i64 0, .int .u64 0] 71
  have hC0 : CurAt R1.heap.size A n cap 0 V0 := hV0 ▸ CurAt.start ((hA.ext hD0).ext hD1) cap _
  have ra1 := (ra.ext hD1).ext hB0
  have rb1 := rb.ext hB0
  have hBV := ext_trans (ext_trans hD0 hD1) hB0
  have hz1 : w.heap.size < R0.heap.size := hs0
  have hz2 : R0.heap.size < R1.heap.size := hs1
  obtain ⟨g, hg⟩ : ∃ g, g = R1.heap.size := ⟨_, rfl⟩
  rw [← hg] at hC0
  have HG := Lib.hid hg
  have hgw : w.heap.size ≤ g := by omega
  have hgr : R0.heap.size < g := by omega
  have HP := Lib.hid (zone_any (1 : Int) g A n cap 0 V0 hC0 (by omega) hn)
  clear hg hC0 hu0 hf0 hA hp0 hq0 hp1 hq1 ra rb hB0
  go_enter Try.func22, Try.ntmps22
  go_wp2_with fail
  rw [← HG.out]
  clear hR0 hR1 hV0
  ((with_reducible refine (HP.out).mono ?_); rintro e w1 ⟨a, rfl, ha, hC, hU⟩)
  have hT := hU
  have HIA := Lib.hid ha
  have HP2 := Lib.hid (zone_any (2 : Int) g A n cap _ w1 hC (by omega) hn)
  clear hU hC ha
  go_wp2_with fail
  ((with_reducible refine (HP2.out).mono ?_); rintro e w2 ⟨b, rfl, hb, hC, hU⟩)
  have HIB := Lib.hid hb
  have hT2 := hT.trans hU
  have ra2 := ra1.touch hT2 (.inl (by omega))
  have rb2 := rb1.touch hT2 (.inl (by omega))
  have HBZ := Lib.hid (hT2.below hBV hgw)
  have f0 := ra2.cell 0 _ rfl
  have e0 := rb2.cell 0 _ rfl
  have f1 := ra2.cell 1 _ rfl
  have e1 := rb2.cell 1 _ rfl
  have f2 := ra2.cell 2 _ rfl
  have e2 := rb2.cell 2 _ rfl
  have f3 := ra2.cell 3 _ rfl
  have e3 := rb2.cell 3 _ rfl
  have f4 := ra2.cell 4 _ rfl
  have e4 := rb2.cell 4 _ rfl
  have fz := ra2.fz
  have fl := ra2.lt
  have ez := rb2.fz
  have el := rb2.lt
  have hne : w.heap.size ≠ R0.heap.size := by omega
  clear hb hC hU hT hT2 ra1 rb1 ra2 rb2 hBV
  go_wp2
  have ta := set5_touch w2 w.heap.size (.int .i64 a.id) (.int .i64 a.west) (.int .i64 a.south) (.int .i64 a.east) (.int .i64 a.north)
  have tz := set5_touch (((((w2.setCell ⟨w.heap.size, 0, none⟩ (.int .i64 a.id)).setCell ⟨w.heap.size, 1, none⟩ (.int .i64 a.west)).setCell ⟨w.heap.size, 2, none⟩ (.int .i64 a.south)).setCell ⟨w.heap.size, 3, none⟩ (.int .i64 a.east)).setCell ⟨w.heap.size, 4, none⟩ (.int .i64 a.north)) R0.heap.size (.int .i64 b.id) (.int .i64 b.west) (.int .i64 b.south) (.int .i64 b.east) (.int .i64 b.north)
  refine bodyPost_ret (v := .tuple #[.agg #[.int .i64 a.id, .int .i64 a.west, .int .i64 a.south, .int .i64 a.east, .int .i64 a.north], .agg #[.int .i64 b.id, .int .i64 b.west, .int .i64 b.south, .int .i64 b.east, .int .i64 b.north]]) (by simp [results, Try.results22, go_sem, f0, f1, f2, f3, f4, fl, e0, e1, e2, e3, e4, el, hne, hne.symm]) rfl ⟨a, b, rfl, HIA.out, HIB.out, tz.below (ta.below HBZ.out (Nat.le_refl _)) (Nat.le_of_lt hz1)⟩
set_option maxHeartbeats 400000 in
theorem drawTouchingZones_any (A : Option Addr) (n cap : Nat) (w : World) (hA : Bytes w A n) (hn : n ≤ 1099511627776) :
    Calls Try.prog 28 #[.slice A n cap] w (ZnDr w) := by
  have HP := Lib.hid (drawAreZones_any A n cap w hA hn)
  clear hA
  go_enter Try.func28, Try.ntmps28
  go_wp2_with fail
  ((with_reducible refine (HP.out).mono ?_); rintro e w1 ⟨B, d, xs, rfl, hl, hcap, hF, hB⟩)
  have HF := Lib.hid hF
  have HB := Lib.hid hB
  clear hF hB
  go_wp2
  go_ret
  exact ⟨B, d, xs, rfl, hl, hcap, HF.out, HB.out⟩
end Go.Proofs.Ytpjapemclbminaa
