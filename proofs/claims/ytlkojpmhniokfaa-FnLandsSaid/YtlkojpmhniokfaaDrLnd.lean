/- The draws of lands. No condition. -/
import Derived.Test.YtlkojpmhniokfaaLandR
import Derived.Test.YtlkojpmhniokfaaRouR
import Derived.Test.YtlkojpmhniokfaaDrD
namespace Go.Proofs.Ytlkojpmhniokfaa
open Go.RowKit
set_option linter.unusedVariables false
set_option linter.unusedSimpArgs false

def LaDr (w : World) (e : Ending) (w' : World) : Prop :=
  ∃ (wide high steep : Int) (A : Option Addr) (d : Nat) (xs : List Four), e = .returned (.agg #[.int .i64 wide, .int .i64 high, .slice A xs.length d, .int .i64 steep]) ∧ xs.length ≤ 4 ∧ FlO Four.ints 4 w.heap.size w'.heap.size w' A xs ∧ Below w.heap.size w w'
def LqDr (w : World) (e : Ending) (w' : World) : Prop :=
  ∃ (wide high steep : Int) (A : Option Addr) (d : Nat) (xs : List Four) (x y : Int), e = .returned (.tuple #[.agg #[.int .i64 wide, .int .i64 high, .slice A xs.length d, .int .i64 steep], .int .i64 x, .int .i64 y]) ∧ xs.length ≤ 4 ∧ FlO Four.ints 4 w.heap.size w'.heap.size w' A xs ∧ Below w.heap.size w w'
def LrDr (w : World) (e : Ending) (w' : World) : Prop :=
  ∃ (wide high steep : Int) (A : Option Addr) (d : Nat) (xs : List Four) (B : Option Addr) (d2 : Nat) (ls : List Leg), e = .returned (.tuple #[.agg #[.int .i64 wide, .int .i64 high, .slice A xs.length d, .int .i64 steep], .slice B ls.length d2]) ∧ xs.length ≤ 4 ∧ ls.length ≤ 16 ∧ (ls.length ≤ d2 ∧ d2 ≤ 9223372036854775807) ∧ FlO Four.ints 4 w.heap.size w'.heap.size w' A xs ∧ FlO Leg.ints 3 w.heap.size w'.heap.size w' B ls ∧ Below w.heap.size w w'
set_option maxHeartbeats 4000000 in
set_option maxRecDepth 100000 in
theorem drawIsLand_any (A : Option Addr) (n cap : Nat) (w : World) (hA : Bytes w A n) (hn : n ≤ 1099511627776) :
    Calls Try.prog 48 #[.slice A n cap] w (LaDr w) := by
  obtain ⟨R0, hR0, hD0, hs0, hp0, hq0⟩ := box_world w #[Value.int .i64 0, Value.int .i64 0, Value.slice none 0 0, Value.int .i64 0] 26
  have r0 : VarL R0 w.heap.size [Value.int .i64 0, Value.int .i64 0, Value.slice none 0 0, Value.int .i64 0] := hR0 ▸ VarL.box w _ _
  obtain ⟨V0, hV0, hB0, hz0, hu0, hf0⟩ := box_world R0 #[Value.slice A n cap, .int .i64 0, .int .u64 0] 57
  have hC0 : CurAt R0.heap.size A n cap 0 V0 := hV0 ▸ CurAt.start (hA.ext hD0) cap _
  replace r0 := r0.ext hB0
  have hBV := ext_trans hD0 hB0
  obtain ⟨g, hg⟩ : ∃ g, g = R0.heap.size := ⟨_, rfl⟩
  rw [← hg] at hC0
  have HG := Lib.hid hg
  have hgw : w.heap.size < g := by omega
  have hgw2 : w.heap.size ≤ g := by omega
  have hgV : g + 1 ≤ V0.heap.size := by omega
  have HP := Lib.hid (land_any g A n cap 0 V0 hC0 (by omega) hn)
  have HBV := Lib.hid hBV
  clear hg hC0 hu0 hf0 hA hp0 hq0 hB0 hBV
  go_enter Try.func48, Try.ntmps48
  go_wp2_with fail
  rw [← HG.out]
  clear hR0 hV0
  ((with_reducible refine (HP.out).mono ?_); rintro e w1 ⟨wide, high, steep, LA, ld, xs, rfl, hl, hF, hC, hU⟩)
  have hT := hU
  replace r0 := r0.touch hU (.inl hgw)
  have hz_w1 : V0.heap.size ≤ w1.heap.size := hU.size
  clear hU
  have f0 := r0.cell 0 _ rfl
  have f1 := r0.cell 1 _ rfl
  have f2 := r0.cell 2 _ rfl
  have f3 := r0.cell 3 _ rfl
  have fl := r0.lt
  have fz := r0.fz
  have HB := Lib.hid (hT.below HBV.out hgw2)
  have HF := Lib.hid hF
  have hsw : w.heap.size + 1 ≤ R0.heap.size := hs0
  clear hF r0 hC hT
  go_wp2
  have ta := set4_tch w1 w.heap.size (.int .i64 wide) (.int .i64 high) (.slice LA xs.length ld) (.int .i64 steep)
  refine bodyPost_ret (v := .agg #[.int .i64 wide, .int .i64 high, .slice LA xs.length ld, .int .i64 steep]) (by simp [results, Try.results48, go_sem, f0, f1, f2, f3, fl]) rfl ⟨wide, high, steep, LA, ld, xs, rfl, hl, (HF.out.touch ta (.inr (by omega))).mono (by omega) (by have := ta.size; omega), ta.below HB.out (Nat.le_refl _)⟩
set_option maxHeartbeats 4000000 in
set_option maxRecDepth 100000 in
theorem drawFreeSquares_any (A : Option Addr) (n cap : Nat) (w : World) (hA : Bytes w A n) (hn : n ≤ 1099511627776) :
    Calls Try.prog 25 #[.slice A n cap] w (LaDr w) := by
  obtain ⟨R0, hR0, hD0, hs0, hp0, hq0⟩ := box_world w #[Value.int .i64 0, Value.int .i64 0, Value.slice none 0 0, Value.int .i64 0] 26
  have r0 : VarL R0 w.heap.size [Value.int .i64 0, Value.int .i64 0, Value.slice none 0 0, Value.int .i64 0] := hR0 ▸ VarL.box w _ _
  have HP := Lib.hid (drawIsLand_any A n cap R0 (hA.ext hD0) hn)
  clear hA hp0 hq0
  go_enter Try.func25, Try.ntmps25
  go_wp2_with fail
  clear hR0
  ((with_reducible refine (HP.out).mono ?_); rintro e w1 ⟨wide, high, steep, LA, ld, xs, rfl, hl, hF, hU⟩)
  replace r0 := r0.ext hU
  have hz_w1 : R0.heap.size ≤ w1.heap.size := hU.size
  have f0 := r0.cell 0 _ rfl
  have f1 := r0.cell 1 _ rfl
  have f2 := r0.cell 2 _ rfl
  have f3 := r0.cell 3 _ rfl
  have fl := r0.lt
  have fz := r0.fz
  have HB := Lib.hid (ext_trans hD0 hU)
  have HF := Lib.hid hF
  have hsw : w.heap.size + 1 ≤ R0.heap.size := hs0
  clear hF r0 hU
  go_wp2
  have ta := set4_tch w1 w.heap.size (.int .i64 wide) (.int .i64 high) (.slice LA xs.length ld) (.int .i64 steep)
  refine bodyPost_ret (v := .agg #[.int .i64 wide, .int .i64 high, .slice LA xs.length ld, .int .i64 steep]) (by simp [results, Try.results25, go_sem, f0, f1, f2, f3, fl]) rfl ⟨wide, high, steep, LA, ld, xs, rfl, hl, (HF.out.touch ta (.inr (by omega))).mono (by omega) (by have := ta.size; omega), ta.below HB.out (Nat.le_refl _)⟩
set_option maxHeartbeats 4000000 in
set_option maxRecDepth 100000 in
theorem drawIsOpenSquare_any (A : Option Addr) (n cap : Nat) (w : World) (hA : Bytes w A n) (hn : n ≤ 1099511627776) :
    Calls Try.prog 22 #[.slice A n cap] w (LqDr w) := by
  obtain ⟨R0, hR0, hD0, hs0, hp0, hq0⟩ := box_world w #[Value.int .i64 0, Value.int .i64 0, Value.slice none 0 0, Value.int .i64 0] 26
  have r0 : VarL R0 w.heap.size [Value.int .i64 0, Value.int .i64 0, Value.slice none 0 0, Value.int .i64 0] := hR0 ▸ VarL.box w _ _
  obtain ⟨V0, hV0, hB0, hz0, hu0, hf0⟩ := box_world R0 #[Value.slice A n cap, .int .i64 0, .int .u64 0] 57
  have hC0 : CurAt R0.heap.size A n cap 0 V0 := hV0 ▸ CurAt.start (hA.ext hD0) cap _
  replace r0 := r0.ext hB0
  have hBV := ext_trans hD0 hB0
  obtain ⟨g, hg⟩ : ∃ g, g = R0.heap.size := ⟨_, rfl⟩
  rw [← hg] at hC0
  have HG := Lib.hid hg
  have hgw : w.heap.size < g := by omega
  have hgw2 : w.heap.size ≤ g := by omega
  have hgV : g + 1 ≤ V0.heap.size := by omega
  have HP := Lib.hid (land_any g A n cap 0 V0 hC0 (by omega) hn)
  have HBV := Lib.hid hBV
  clear hg hC0 hu0 hf0 hA hp0 hq0 hB0 hBV
  go_enter Try.func22, Try.ntmps22
  go_wp2_with fail
  rw [← HG.out]
  clear hR0 hV0
  ((with_reducible refine (HP.out).mono ?_); rintro e w1 ⟨wide, high, steep, LA, ld, xs, rfl, hl, hF, hC, hU⟩)
  have hT := hU
  replace r0 := r0.touch hU (.inl hgw)
  have hz_w1 : V0.heap.size ≤ w1.heap.size := hU.size
  clear hU
  have hlt2 : g < (World.heap w1).size := hC.lt
  have HN2 := Lib.hid (among_any (some ⟨(World.heap w1).size, 0, none⟩) 8 8 [0, 1, 2, 3, 7, 59, 1999, -1] rfl (World.heap w1).size ((World.heap w1).size + 1) g A n cap _ (World.alloc w1 (.cells #[Value.int .i64 (0), Value.int .i64 (1), Value.int .i64 (2), Value.int .i64 (3), Value.int .i64 (7), Value.int .i64 (59), Value.int .i64 (1999), Value.int .i64 (-1)] 3)) (hC.ext (ext_alloc _ _)) (by omega) hn (lit_flo w1 [0, 1, 2, 3, 7, 59, 1999, -1] _ _ rfl) (by simp) (by simp) (.inl hlt2))
  clear hC
  go_wp2_with fail
  ((with_reducible refine (HN2.out).mono ?_); rintro e w2 ⟨_, rfl, ⟨q1, _, rfl⟩, hC, hU2⟩)
  replace hU2 := (Touch.of_ext (ext_alloc w1 (.cells #[Value.int .i64 (0), Value.int .i64 (1), Value.int .i64 (2), Value.int .i64 (3), Value.int .i64 (7), Value.int .i64 (59), Value.int .i64 (1999), Value.int .i64 (-1)] 3))).trans hU2
  replace hF := hF.touch hU2 (by omega)
  replace r0 := r0.touch hU2 (by omega)
  replace hT := hT.trans hU2
  have hz_w2 : (World.heap w1).size ≤ (World.heap w2).size := hU2.size
  clear hU2
  have hlt3 : g < (World.heap w2).size := hC.lt
  have HN3 := Lib.hid (among_any (some ⟨(World.heap w2).size, 0, none⟩) 7 7 [0, 1, 2, 4, 7, 59, 2000] rfl (World.heap w2).size ((World.heap w2).size + 1) g A n cap _ (World.alloc w2 (.cells #[Value.int .i64 (0), Value.int .i64 (1), Value.int .i64 (2), Value.int .i64 (4), Value.int .i64 (7), Value.int .i64 (59), Value.int .i64 (2000)] 3)) (hC.ext (ext_alloc _ _)) (by omega) hn (lit_flo w2 [0, 1, 2, 4, 7, 59, 2000] _ _ rfl) (by simp) (by simp) (.inl hlt3))
  clear hC
  go_wp2_with fail
  ((with_reducible refine (HN3.out).mono ?_); rintro e w3 ⟨_, rfl, ⟨q2, _, rfl⟩, hC, hU3⟩)
  replace hU3 := (Touch.of_ext (ext_alloc w2 (.cells #[Value.int .i64 (0), Value.int .i64 (1), Value.int .i64 (2), Value.int .i64 (4), Value.int .i64 (7), Value.int .i64 (59), Value.int .i64 (2000)] 3))).trans hU3
  replace hF := hF.touch hU3 (by omega)
  replace r0 := r0.touch hU3 (by omega)
  replace hT := hT.trans hU3
  have hz_w3 : (World.heap w2).size ≤ (World.heap w3).size := hU3.size
  clear hU3
  have f0 := r0.cell 0 _ rfl
  have f1 := r0.cell 1 _ rfl
  have f2 := r0.cell 2 _ rfl
  have f3 := r0.cell 3 _ rfl
  have fl := r0.lt
  have fz := r0.fz
  have HB := Lib.hid (hT.below HBV.out hgw2)
  have HF := Lib.hid hF
  have hsw : w.heap.size + 1 ≤ R0.heap.size := hs0
  clear hF r0 hC hT
  go_wp2
  have ta := set4_tch w3 w.heap.size (.int .i64 wide) (.int .i64 high) (.slice LA xs.length ld) (.int .i64 steep)
  refine bodyPost_ret (v := .tuple #[.agg #[.int .i64 wide, .int .i64 high, .slice LA xs.length ld, .int .i64 steep], .int .i64 q1, .int .i64 q2]) (by simp [results, Try.results22, go_sem, f0, f1, f2, f3, fl]) rfl ⟨wide, high, steep, LA, ld, xs, q1, q2, rfl, hl, (HF.out.touch ta (.inr (by omega))).mono (by omega) (by have := ta.size; omega), ta.below HB.out (Nat.le_refl _)⟩
set_option maxHeartbeats 4000000 in
set_option maxRecDepth 100000 in
theorem drawSteepLegs_any (A : Option Addr) (n cap : Nat) (w : World) (hA : Bytes w A n) (hn : n ≤ 1099511627776) :
    Calls Try.prog 28 #[.slice A n cap] w (LrDr w) := by
  obtain ⟨R0, hR0, hD0, hs0, hp0, hq0⟩ := box_world w #[Value.int .i64 0, Value.int .i64 0, Value.slice none 0 0, Value.int .i64 0] 26
  have r0 : VarL R0 w.heap.size [Value.int .i64 0, Value.int .i64 0, Value.slice none 0 0, Value.int .i64 0] := hR0 ▸ VarL.box w _ _
  obtain ⟨V0, hV0, hB0, hz0, hu0, hf0⟩ := box_world R0 #[Value.slice A n cap, .int .i64 0, .int .u64 0] 57
  have hC0 : CurAt R0.heap.size A n cap 0 V0 := hV0 ▸ CurAt.start (hA.ext hD0) cap _
  replace r0 := r0.ext hB0
  have hBV := ext_trans hD0 hB0
  obtain ⟨g, hg⟩ : ∃ g, g = R0.heap.size := ⟨_, rfl⟩
  rw [← hg] at hC0
  have HG := Lib.hid hg
  have hgw : w.heap.size < g := by omega
  have hgw2 : w.heap.size ≤ g := by omega
  have hgV : g + 1 ≤ V0.heap.size := by omega
  have HP := Lib.hid (land_any g A n cap 0 V0 hC0 (by omega) hn)
  have HBV := Lib.hid hBV
  clear hg hC0 hu0 hf0 hA hp0 hq0 hB0 hBV
  go_enter Try.func28, Try.ntmps28
  go_wp2_with fail
  rw [← HG.out]
  clear hR0 hV0
  ((with_reducible refine (HP.out).mono ?_); rintro e w1 ⟨wide, high, steep, LA, ld, xs, rfl, hl, hF, hC, hU⟩)
  have hT := hU
  replace r0 := r0.touch hU (.inl hgw)
  have hz_w1 : V0.heap.size ≤ w1.heap.size := hU.size
  clear hU
  have HN2 := Lib.hid (route_any g A n cap _ w1 hC (by omega) hn)
  clear hC
  go_wp2_with fail
  ((with_reducible refine (HN2.out).mono ?_); rintro e w2 ⟨RB, rd, ls, rfl, hrl, hrc, hG, hC, hU2⟩)
  replace hF := hF.touch hU2 (by omega)
  replace r0 := r0.touch hU2 (by omega)
  replace hT := hT.trans hU2
  have hz_w2 : (World.heap w1).size ≤ (World.heap w2).size := hU2.size
  clear hU2
  have hgg : (World.heap w2).size ≤ (World.heap w2).size := Nat.le_refl _
  have f0 := r0.cell 0 _ rfl
  have f1 := r0.cell 1 _ rfl
  have f2 := r0.cell 2 _ rfl
  have f3 := r0.cell 3 _ rfl
  have fl := r0.lt
  have fz := r0.fz
  have HB := Lib.hid (hT.below HBV.out hgw2)
  have HF := Lib.hid hF
  have HG9 := Lib.hid hG
  have HRC := Lib.hid hrc
  have hsw : w.heap.size + 1 ≤ R0.heap.size := hs0
  clear hF r0 hC hT hG hrc
  go_wp2
  have ta := set4_tch w2 w.heap.size (.int .i64 wide) (.int .i64 high) (.slice LA xs.length ld) (.int .i64 steep)
  refine bodyPost_ret (v := .tuple #[.agg #[.int .i64 wide, .int .i64 high, .slice LA xs.length ld, .int .i64 steep], .slice RB ls.length rd]) (by simp [results, Try.results28, go_sem, f0, f1, f2, f3, fl]) rfl ⟨wide, high, steep, LA, ld, xs, RB, rd, ls, rfl, hl, hrl, HRC.out, (HF.out.touch ta (.inr (by omega))).mono (by omega) (by have := ta.size; omega), (HG9.out.touch ta (.inr (by omega))).mono (by omega) (by have := ta.size; omega), ta.below HB.out (Nat.le_refl _)⟩
end Go.Proofs.Ytlkojpmhniokfaa
