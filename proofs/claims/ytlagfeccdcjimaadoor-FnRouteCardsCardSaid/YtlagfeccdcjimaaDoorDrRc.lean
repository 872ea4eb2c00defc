/- The draws of FnRouteCards. No condition. -/
import Derived.Test.YtlagfeccdcjimaaDoorRouR
import Derived.Test.YtlagfeccdcjimaaDoorDrD
import Derived.Test.YtlagfeccdcjimaaDoorErD
namespace Go.Proofs.YtlagfeccdcjimaaDoor
open Go.RowKit
set_option linter.unusedVariables false
set_option linter.unusedSimpArgs false

def ClDr (w : World) (e : Ending) (w' : World) : Prop := ∃ ea no : Int, e = .returned (.tuple #[.int .i64 ea, .int .i64 no]) ∧ Below w.heap.size w w'
def RoDr (w : World) (e : Ending) (w' : World) : Prop := ∃ (B : Option Addr) (d : Nat) (xs : List Leg), e = .returned (.slice B xs.length d) ∧ xs.length ≤ 16 ∧ FlO Leg.ints 3 w.heap.size w'.heap.size w' B xs ∧ Below w.heap.size w w'
def StDr (w : World) (e : Ending) (w' : World) : Prop := ∃ (B : Option Addr) (d : Nat) (xs : List Leg) (num den : Int), e = .returned (.tuple #[.slice B xs.length d, .int .i64 num, .int .i64 den]) ∧ xs.length ≤ 16 ∧ FlO Leg.ints 3 w.heap.size w'.heap.size w' B xs ∧ Below w.heap.size w w'
set_option maxHeartbeats 4000000 in
set_option maxRecDepth 100000 in
theorem drawClosest_any (A : Option Addr) (n cap : Nat) (w : World) (hA : Bytes w A n) (hn : n ≤ 1099511627776) :
    Calls Tryd.prog 5 #[.slice A n cap] w (ClDr w) := by
  obtain ⟨V0, hV0, hB0, hz0, hu0, hf0⟩ := box_world w #[Value.slice A n cap, .int .i64 0, .int .u64 0] 45
  have hC0 : CurAt w.heap.size A n cap 0 V0 := hV0 ▸ CurAt.start hA cap _
  obtain ⟨g, hg⟩ : ∃ g, g = w.heap.size := ⟨_, rfl⟩
  rw [← hg] at hC0
  have HG := Lib.hid hg
  have hgw : w.heap.size ≤ g := by omega
  have hgV : g + 1 ≤ V0.heap.size := by omega
  have HP := Lib.hid (among_any (some ⟨V0.heap.size, 0, none⟩) 8 8 [0, 1, -3, 10, -50, 999, -999, 1000] rfl V0.heap.size (V0.heap.size + 1) g A n cap 0 (V0.alloc (.cells #[Value.int .i64 (0), Value.int .i64 (1), Value.int .i64 (-3), Value.int .i64 (10), Value.int .i64 (-50), Value.int .i64 (999), Value.int .i64 (-999), Value.int .i64 (1000)] 3)) (hC0.ext (ext_alloc _ _)) (by omega) hn (lit_flo V0 [0, 1, -3, 10, -50, 999, -999, 1000] _ _ rfl) (by simp) (by simp) (.inl hC0.lt))
  have HB0 := Lib.hid hB0
  clear hg hC0 hu0 hf0 hA hB0
  go_enter Tryd.func5, Tryd.ntmps5
  go_wp2_with fail
  rw [← HG.out]
  clear hV0
  ((with_reducible refine (HP.out).mono ?_); rintro e w1 ⟨_, rfl, ⟨q1, _, rfl⟩, hC, hU⟩)
  have hT := (Touch.of_ext (lo := g) (hi := g + 1) (ext_alloc V0 (.cells #[Value.int .i64 (0), Value.int .i64 (1), Value.int .i64 (-3), Value.int .i64 (10), Value.int .i64 (-50), Value.int .i64 (999), Value.int .i64 (-999), Value.int .i64 (1000)] 3))).trans hU
  have hz_w1 : V0.heap.size ≤ w1.heap.size := hT.size
  clear hU
  have hlt2 : g < (World.heap w1).size := hC.lt
  have HN2 := Lib.hid (among_any (some ⟨(World.heap w1).size, 0, none⟩) 8 8 [0, 2, -3, 7, 50, -999, 999, -1000] rfl (World.heap w1).size ((World.heap w1).size + 1) g A n cap _ (World.alloc w1 (.cells #[Value.int .i64 (0), Value.int .i64 (2), Value.int .i64 (-3), Value.int .i64 (7), Value.int .i64 (50), Value.int .i64 (-999), Value.int .i64 (999), Value.int .i64 (-1000)] 3)) (hC.ext (ext_alloc _ _)) (by omega) hn (lit_flo w1 [0, 2, -3, 7, 50, -999, 999, -1000] _ _ rfl) (by simp) (by simp) (.inl hlt2))
  clear hC
  go_wp2_with fail
  ((with_reducible refine (HN2.out).mono ?_); rintro e w2 ⟨_, rfl, ⟨q2, _, rfl⟩, hC, hU2⟩)
  replace hU2 := (Touch.of_ext (ext_alloc w1 (.cells #[Value.int .i64 (0), Value.int .i64 (2), Value.int .i64 (-3), Value.int .i64 (7), Value.int .i64 (50), Value.int .i64 (-999), Value.int .i64 (999), Value.int .i64 (-1000)] 3))).trans hU2
  replace hT := hT.trans hU2
  have hz_w2 : (World.heap w1).size ≤ (World.heap w2).size := hU2.size
  clear hU2
  have HT := Lib.hid (hT.below HB0.out hgw)
  clear hC hT
  go_wp2
  go_ret2
  exact ⟨q1, q2, rfl, HT.out⟩
set_option maxHeartbeats 4000000 in
set_option maxRecDepth 100000 in
theorem drawIsRoute_any (A : Option Addr) (n cap : Nat) (w : World) (hA : Bytes w A n) (hn : n ≤ 1099511627776) :
    Calls Tryd.prog 36 #[.slice A n cap] w (RoDr w) := by
  obtain ⟨V0, hV0, hB0, hz0, hu0, hf0⟩ := box_world w #[Value.slice A n cap, .int .i64 0, .int .u64 0] 45
  have hC0 : CurAt w.heap.size A n cap 0 V0 := hV0 ▸ CurAt.start hA cap _
  obtain ⟨g, hg⟩ : ∃ g, g = w.heap.size := ⟨_, rfl⟩
  rw [← hg] at hC0
  have HG := Lib.hid hg
  have hgw : w.heap.size ≤ g := by omega
  have hgV : g + 1 ≤ V0.heap.size := by omega
  have HP := Lib.hid (route_any g A n cap 0 V0 hC0 (by omega) hn)
  have HB0 := Lib.hid hB0
  clear hg hC0 hu0 hf0 hA hB0
  go_enter Tryd.func36, Tryd.ntmps36
  go_wp2_with fail
  rw [← HG.out]
  clear hV0
  ((with_reducible refine (HP.out).mono ?_); rintro e w1 ⟨B, d, xs, rfl, hl, hcap, hF, hC, hU⟩)
  have hT := hU
  have hz_w1 : V0.heap.size ≤ w1.heap.size := hU.size
  clear hU
  have HF := Lib.hid hF
  have HT := Lib.hid (hT.below HB0.out hgw)
  clear hF hC hT
  go_wp2
  go_ret
  exact ⟨B, d, xs, rfl, hl, HF.out.mono (by omega) (Nat.le_refl _), HT.out⟩
set_option maxHeartbeats 400000 in
theorem drawMinutesOf_any (A : Option Addr) (n cap : Nat) (w : World) (hA : Bytes w A n) (hn : n ≤ 1099511627776) :
    Calls Tryd.prog 14 #[.slice A n cap] w (RoDr w) := by
  have HP := Lib.hid (drawIsRoute_any A n cap w hA hn)
  clear hA
  go_enter Tryd.func14, Tryd.ntmps14
  go_wp2_with fail
  ((with_reducible refine (HP.out).mono ?_); rintro e w1 ⟨B, d, xs, rfl, hl, hF, hB⟩)
  have HF := Lib.hid hF
  have HB := Lib.hid hB
  clear hF hB
  go_wp2
  go_ret
  exact ⟨B, d, xs, rfl, hl, HF.out, HB.out⟩
set_option maxHeartbeats 400000 in
theorem drawRouteText_any (A : Option Addr) (n cap : Nat) (w : World) (hA : Bytes w A n) (hn : n ≤ 1099511627776) :
    Calls Tryd.prog 19 #[.slice A n cap] w (RoDr w) := by
  have HP := Lib.hid (drawIsRoute_any A n cap w hA hn)
  clear hA
  go_enter Tryd.func19, Tryd.ntmps19
  go_wp2_with fail
  ((with_reducible refine (HP.out).mono ?_); rintro e w1 ⟨B, d, xs, rfl, hl, hF, hB⟩)
  have HF := Lib.hid hF
  have HB := Lib.hid hB
  clear hF hB
  go_wp2
  go_ret
  exact ⟨B, d, xs, rfl, hl, HF.out, HB.out⟩
set_option maxHeartbeats 4000000 in
set_option maxRecDepth 100000 in
theorem drawStretch_any (A : Option Addr) (n cap : Nat) (w : World) (hA : Bytes w A n) (hn : n ≤ 1099511627776) :
    Calls Tryd.prog 10 #[.slice A n cap] w (StDr w) := by
  obtain ⟨V0, hV0, hB0, hz0, hu0, hf0⟩ := box_world w #[Value.slice A n cap, .int .i64 0, .int .u64 0] 45
  have hC0 : CurAt w.heap.size A n cap 0 V0 := hV0 ▸ CurAt.start hA cap _
  obtain ⟨g, hg⟩ : ∃ g, g = w.heap.size := ⟨_, rfl⟩
  rw [← hg] at hC0
  have HG := Lib.hid hg
  have hgw : w.heap.size ≤ g := by omega
  have hgV : g + 1 ≤ V0.heap.size := by omega
  have HP := Lib.hid (route_any g A n cap 0 V0 hC0 (by omega) hn)
  have HB0 := Lib.hid hB0
  clear hg hC0 hu0 hf0 hA hB0
  go_enter Tryd.func10, Tryd.ntmps10
  go_wp2_with fail
  rw [← HG.out]
  clear hV0
  ((with_reducible refine (HP.out).mono ?_); rintro e w1 ⟨B, d, xs, rfl, hl, hcap, hF, hC, hU⟩)
  have hT := hU
  have hz_w1 : V0.heap.size ≤ w1.heap.size := hU.size
  clear hU
  have hlt2 : g < (World.heap w1).size := hC.lt
  have HN2 := Lib.hid (among_any (some ⟨(World.heap w1).size, 0, none⟩) 7 7 [1, 2, 3, 10, 100, 0, 101] rfl (World.heap w1).size ((World.heap w1).size + 1) g A n cap _ (World.alloc w1 (.cells #[Value.int .i64 (1), Value.int .i64 (2), Value.int .i64 (3), Value.int .i64 (10), Value.int .i64 (100), Value.int .i64 (0), Value.int .i64 (101)] 3)) (hC.ext (ext_alloc _ _)) (by omega) hn (lit_flo w1 [1, 2, 3, 10, 100, 0, 101] _ _ rfl) (by simp) (by simp) (.inl hlt2))
  clear hC
  go_wp2_with fail
  ((with_reducible refine (HN2.out).mono ?_); rintro e w2 ⟨_, rfl, ⟨q1, _, rfl⟩, hC, hU2⟩)
  replace hU2 := (Touch.of_ext (ext_alloc w1 (.cells #[Value.int .i64 (1), Value.int .i64 (2), Value.int .i64 (3), Value.int .i64 (10), Value.int .i64 (100), Value.int .i64 (0), Value.int .i64 (101)] 3))).trans hU2
  replace hF := hF.touch hU2 (by omega)
  replace hT := hT.trans hU2
  have hz_w2 : (World.heap w1).size ≤ (World.heap w2).size := hU2.size
  clear hU2
  have hlt3 : g < (World.heap w2).size := hC.lt
  have HN3 := Lib.hid (among_any (some ⟨(World.heap w2).size, 0, none⟩) 7 7 [1, 1, 2, 5, 100, 0, 101] rfl (World.heap w2).size ((World.heap w2).size + 1) g A n cap _ (World.alloc w2 (.cells #[Value.int .i64 (1), Value.int .i64 (1), Value.int .i64 (2), Value.int .i64 (5), Value.int .i64 (100), Value.int .i64 (0), Value.int .i64 (101)] 3)) (hC.ext (ext_alloc _ _)) (by omega) hn (lit_flo w2 [1, 1, 2, 5, 100, 0, 101] _ _ rfl) (by simp) (by simp) (.inl hlt3))
  clear hC
  go_wp2_with fail
  ((with_reducible refine (HN3.out).mono ?_); rintro e w3 ⟨_, rfl, ⟨q2, _, rfl⟩, hC, hU3⟩)
  replace hU3 := (Touch.of_ext (ext_alloc w2 (.cells #[Value.int .i64 (1), Value.int .i64 (1), Value.int .i64 (2), Value.int .i64 (5), Value.int .i64 (100), Value.int .i64 (0), Value.int .i64 (101)] 3))).trans hU3
  replace hF := hF.touch hU3 (by omega)
  replace hT := hT.trans hU3
  have hz_w3 : (World.heap w2).size ≤ (World.heap w3).size := hU3.size
  clear hU3
  have HF := Lib.hid hF
  have HT := Lib.hid (hT.below HB0.out hgw)
  clear hF hC hT
  go_wp2
  go_ret3
  exact ⟨B, d, xs, q1, q2, rfl, hl, HF.out.mono (by omega) (by omega), HT.out⟩
end Go.Proofs.YtlagfeccdcjimaaDoor
