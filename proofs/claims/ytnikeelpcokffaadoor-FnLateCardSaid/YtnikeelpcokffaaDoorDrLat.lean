/- The draws of FnLate. No condition. -/
import Derived.Test.YtnikeelpcokffaaDoorLoA
import Derived.Test.YtnikeelpcokffaaDoorLoDy
import Derived.Test.YtnikeelpcokffaaDoorDrD
namespace Go.Proofs.YtnikeelpcokffaaDoor
open Go.RowKit
set_option linter.unusedVariables false
set_option linter.unusedSimpArgs false

def RtDr (w : World) (e : Ending) (w' : World) : Prop :=
  ∃ (A : Option Addr) (d : Nat) (xs : List Loan) (sheet day : Int), e = .returned (.tuple #[.slice A xs.length d, .int .i64 sheet, .int .i64 day]) ∧ (xs.length ≤ d ∧ d ≤ 9223372036854775807) ∧ xs.length ≤ 17 ∧ FlO Loan.ints 5 w.heap.size w'.heap.size w' A xs ∧ Below w.heap.size w w'
def LeDr (w : World) (e : Ending) (w' : World) : Prop :=
  ∃ (A : Option Addr) (d : Nat) (xs : List Loan) (sheet reader day days : Int), e = .returned (.tuple #[.slice A xs.length d, .int .i64 sheet, .int .i64 reader, .int .i64 day, .int .i64 days]) ∧ (xs.length ≤ d ∧ d ≤ 9223372036854775807) ∧ xs.length ≤ 17 ∧ FlO Loan.ints 5 w.heap.size w'.heap.size w' A xs ∧ Below w.heap.size w w'
def LtDr (w : World) (e : Ending) (w' : World) : Prop :=
  ∃ (A : Option Addr) (d : Nat) (xs : List Loan) (day : Int), e = .returned (.tuple #[.slice A xs.length d, .int .i64 day]) ∧ (xs.length ≤ d ∧ d ≤ 9223372036854775807) ∧ xs.length ≤ 17 ∧ FlO Loan.ints 5 w.heap.size w'.heap.size w' A xs ∧ Below w.heap.size w w'
def PrDr (w : World) (e : Ending) (w' : World) : Prop :=
  ∃ (A : Option Addr) (d : Nat) (xs : List Loan) (sheet day days : Int), e = .returned (.tuple #[.slice A xs.length d, .int .i64 sheet, .int .i64 day, .int .i64 days]) ∧ (xs.length ≤ d ∧ d ≤ 9223372036854775807) ∧ xs.length ≤ 17 ∧ FlO Loan.ints 5 w.heap.size w'.heap.size w' A xs ∧ Below w.heap.size w w'
def L1Dr (w : World) (e : Ending) (w' : World) : Prop := ∃ x : Loan, e = .returned (.agg #[.int .i64 x.sheet, .int .i64 x.reader, .int .i64 x.out, .int .i64 x.due, .int .i64 x.back]) ∧ Below w.heap.size w w'
set_option maxHeartbeats 8000000 in
set_option maxRecDepth 100000 in
theorem drawReturnSheet_any (A : Option Addr) (n cap : Nat) (w : World) (hA : Bytes w A n) (hn : n ≤ 1099511627776) :
    Calls Tryd.prog 49 #[.slice A n cap] w (RtDr w) := by
  obtain ⟨V0, hV0, hB0, hz0, hu0, hf0⟩ := box_world w #[Value.slice A n cap, .int .i64 0, .int .u64 0] 51
  have hC0 : CurAt w.heap.size A n cap 0 V0 := hV0 ▸ CurAt.start hA cap _
  obtain ⟨g, hg⟩ : ∃ g, g = w.heap.size := ⟨_, rfl⟩
  rw [← hg] at hC0
  have HG := Lib.hid hg
  have hgw : w.heap.size ≤ g := by omega
  have hgV : g + 1 ≤ V0.heap.size := by omega
  have HP := Lib.hid (loans_any g A n cap 0 V0 hC0 (by omega) hn)
  have HB0 := Lib.hid hB0
  clear hg hC0 hu0 hf0 hA hB0
  go_enter Tryd.func49, Tryd.ntmps49
  go_wp2_with fail
  rw [← HG.out]
  clear hV0
  ((with_reducible refine (HP.out).mono ?_); rintro e w1 ⟨LA, d, xs, rfl, hxl, hcd, hF, hC, hT⟩)
  have hs1 : V0.heap.size ≤ w1.heap.size := hT.size
  obtain ⟨m, hm⟩ : ∃ z, z = xs.length := ⟨_, rfl⟩
  rw [← hm] at hxl hcd ⊢
  have HM := Lib.hid hm
  clear hm
  have HN2 := Lib.hid (loanSheet_any g A n cap _ w1 hC (by omega) hn)
  clear hC
  go_wp2_with fail
  ((with_reducible refine (HN2.out).mono ?_); rintro e w2 ⟨sh, rfl, hC, hU2⟩)
  replace hF := hF.touch hU2 (by omega)
  replace hT := hT.trans hU2
  have hz_w2 : (World.heap w1).size ≤ (World.heap w2).size := hU2.size
  clear hU2
  have HN3 := Lib.hid (loanDay_any LA d V0.heap.size w1.heap.size m xs HM.out hxl g A n cap _ w2 hC hF hgV (by omega) hn)
  clear hC
  go_wp2_with fail
  ((with_reducible refine (HN3.out).mono ?_); rintro e w3 ⟨dy, rfl, hC, hU3⟩)
  replace hF := hF.touch hU3 (by omega)
  replace hT := hT.trans hU3
  have hz_w3 : (World.heap w2).size ≤ (World.heap w3).size := hU3.size
  clear hU3
  have HF := Lib.hid (hF.mono (show w.heap.size ≤ V0.heap.size by omega) (show w1.heap.size ≤ (World.heap w3).size by omega))
  have HB := Lib.hid (hT.below HB0.out hgw)
  clear hF hC hT
  go_wp2
  go_ret3
  have hm := HM.out
  subst hm
  exact ⟨LA, d, xs, sh, dy, rfl, hcd, hxl, HF.out, HB.out⟩
set_option maxHeartbeats 8000000 in
set_option maxRecDepth 100000 in
theorem drawLateOn_any (A : Option Addr) (n cap : Nat) (w : World) (hA : Bytes w A n) (hn : n ≤ 1099511627776) :
    Calls Tryd.prog 5 #[.slice A n cap] w (LtDr w) := by
  obtain ⟨V0, hV0, hB0, hz0, hu0, hf0⟩ := box_world w #[Value.slice A n cap, .int .i64 0, .int .u64 0] 51
  have hC0 : CurAt w.heap.size A n cap 0 V0 := hV0 ▸ CurAt.start hA cap _
  obtain ⟨g, hg⟩ : ∃ g, g = w.heap.size := ⟨_, rfl⟩
  rw [← hg] at hC0
  have HG := Lib.hid hg
  have hgw : w.heap.size ≤ g := by omega
  have hgV : g + 1 ≤ V0.heap.size := by omega
  have HP := Lib.hid (loans_any g A n cap 0 V0 hC0 (by omega) hn)
  have HB0 := Lib.hid hB0
  clear hg hC0 hu0 hf0 hA hB0
  go_enter Tryd.func5, Tryd.ntmps5
  go_wp2_with fail
  rw [← HG.out]
  clear hV0
  ((with_reducible refine (HP.out).mono ?_); rintro e w1 ⟨LA, d, xs, rfl, hxl, hcd, hF, hC, hT⟩)
  have hs1 : V0.heap.size ≤ w1.heap.size := hT.size
  obtain ⟨m, hm⟩ : ∃ z, z = xs.length := ⟨_, rfl⟩
  rw [← hm] at hxl hcd ⊢
  have HM := Lib.hid hm
  clear hm
  have HN2 := Lib.hid (loanDay_any LA d V0.heap.size w1.heap.size m xs HM.out hxl g A n cap _ w1 hC hF hgV (by omega) hn)
  clear hC
  go_wp2_with fail
  ((with_reducible refine (HN2.out).mono ?_); rintro e w2 ⟨dy, rfl, hC, hU2⟩)
  replace hF := hF.touch hU2 (by omega)
  replace hT := hT.trans hU2
  have hz_w2 : (World.heap w1).size ≤ (World.heap w2).size := hU2.size
  clear hU2
  have HF := Lib.hid (hF.mono (show w.heap.size ≤ V0.heap.size by omega) (show w1.heap.size ≤ (World.heap w2).size by omega))
  have HB := Lib.hid (hT.below HB0.out hgw)
  clear hF hC hT
  go_wp2
  go_ret2
  have hm := HM.out
  subst hm
  exact ⟨LA, d, xs, dy, rfl, hcd, hxl, HF.out, HB.out⟩
set_option maxHeartbeats 8000000 in
set_option maxRecDepth 100000 in
theorem drawProlongLoan_any (A : Option Addr) (n cap : Nat) (w : World) (hA : Bytes w A n) (hn : n ≤ 1099511627776) :
    Calls Tryd.prog 10 #[.slice A n cap] w (PrDr w) := by
  obtain ⟨V0, hV0, hB0, hz0, hu0, hf0⟩ := box_world w #[Value.slice A n cap, .int .i64 0, .int .u64 0] 51
  have hC0 : CurAt w.heap.size A n cap 0 V0 := hV0 ▸ CurAt.start hA cap _
  obtain ⟨g, hg⟩ : ∃ g, g = w.heap.size := ⟨_, rfl⟩
  rw [← hg] at hC0
  have HG := Lib.hid hg
  have hgw : w.heap.size ≤ g := by omega
  have hgV : g + 1 ≤ V0.heap.size := by omega
  have HP := Lib.hid (loans_any g A n cap 0 V0 hC0 (by omega) hn)
  have HB0 := Lib.hid hB0
  clear hg hC0 hu0 hf0 hA hB0
  go_enter Tryd.func10, Tryd.ntmps10
  go_wp2_with fail
  rw [← HG.out]
  clear hV0
  ((with_reducible refine (HP.out).mono ?_); rintro e w1 ⟨LA, d, xs, rfl, hxl, hcd, hF, hC, hT⟩)
  have hs1 : V0.heap.size ≤ w1.heap.size := hT.size
  obtain ⟨m, hm⟩ : ∃ z, z = xs.length := ⟨_, rfl⟩
  rw [← hm] at hxl hcd ⊢
  have HM := Lib.hid hm
  clear hm
  have HN2 := Lib.hid (loanSheet_any g A n cap _ w1 hC (by omega) hn)
  clear hC
  go_wp2_with fail
  ((with_reducible refine (HN2.out).mono ?_); rintro e w2 ⟨sh, rfl, hC, hU2⟩)
  replace hF := hF.touch hU2 (by omega)
  replace hT := hT.trans hU2
  have hz_w2 : (World.heap w1).size ≤ (World.heap w2).size := hU2.size
  clear hU2
  have HN3 := Lib.hid (loanDay_any LA d V0.heap.size w1.heap.size m xs HM.out hxl g A n cap _ w2 hC hF hgV (by omega) hn)
  clear hC
  go_wp2_with fail
  ((with_reducible refine (HN3.out).mono ?_); rintro e w3 ⟨dy, rfl, hC, hU3⟩)
  replace hF := hF.touch hU3 (by omega)
  replace hT := hT.trans hU3
  have hz_w3 : (World.heap w2).size ≤ (World.heap w3).size := hU3.size
  clear hU3
  have HF := Lib.hid hF
  have HT := Lib.hid hT
  have hsw : w1.heap.size ≤ (World.heap w3).size := by omega
  clear hF hT
  have hx := ext_alloc w3 (.cells #[Value.int .i64 (1), Value.int .i64 (14), Value.int .i64 (60), Value.int .i64 (0), Value.int .i64 (61)] 3)
  have HP := Lib.hid (pick_any 24 g A n cap _ _ (hC.ext hx) (by omega) hn)
  have HL := Lib.hid (lit_flo w3 [1, 14, 60, 0, 61] 3 #[Value.int .i64 (1), Value.int .i64 (14), Value.int .i64 (60), Value.int .i64 (0), Value.int .i64 (61)] rfl)
  have HX := Lib.hid hx
  have hgW : g < (World.heap w3).size := hC.lt
  clear hC hx
  go_wp2_with fail
  ((with_reducible refine (HP.out).mono ?_); rintro e v1 ⟨_, rfl, ⟨z, rfl, hz0, hz1⟩, hC, hU⟩)
  have HL1 := HL.out.touch hU (.inr (Nat.succ_le_of_lt hgW))
  have HU := Lib.hid (((Touch.of_ext (lo := g) (hi := g + 1) HX.out).trans hU))
  have hgg : g < (World.heap w3).size ∨ (World.heap w3).size + 1 ≤ g := .inl hgW
  have HA6 := Lib.hid (among_any (some ⟨(World.heap w3).size, 0, none⟩) 5 4 [1, 14, 60, 0] rfl (World.heap w3).size ((World.heap w3).size + 1) g A n cap _ v1 hC (by omega) hn (HL1.takeF 4) (by simp) (by simp) hgg)
  have HA7 := Lib.hid (among_any (some ⟨(World.heap w3).size, 0, none⟩) 5 5 [1, 14, 60, 0, 61] rfl (World.heap w3).size ((World.heap w3).size + 1) g A n cap _ v1 hC (by omega) hn HL1 (by simp) (by simp) hgg)
  clear hC hU HL1
  by_cases h12 : z < 12
  · have hz12 : z / 12 = 0 := by omega
    go_wp2_with fail
    ((with_reducible refine (HA6.out).mono ?_); rintro e v2 ⟨_, rfl, ⟨y, _, rfl⟩, hC2, hU2⟩)
    have hT2 := HT.out.trans (HU.out.trans hU2)
    have HB := Lib.hid (hT2.below HB0.out hgw)
    have hs22 : (World.heap w3).size ≤ v2.heap.size := (HU.out.trans hU2).size
    have HF2 := Lib.hid ((HF.out.touch (HU.out.trans hU2) (.inr hgV)).mono (show w.heap.size ≤ V0.heap.size by omega) (show w1.heap.size ≤ v2.heap.size by omega))
    clear hC2 hU2 hT2
    go_wp2
    refine bodyPost_ret (v := .tuple #[.slice LA m d, .int .i64 sh, .int .i64 dy, .int .i64 y]) (by simp [results, Tryd.results10, go_sem]) rfl ?_
    have hm := HM.out
    subst hm
    exact ⟨LA, d, xs, sh, dy, y, rfl, hcd, hxl, HF2.out, HB.out⟩
  · have hz12 : z / 12 = 1 := by omega
    go_wp2_with fail
    ((with_reducible refine (HA7.out).mono ?_); rintro e v2 ⟨_, rfl, ⟨y, _, rfl⟩, hC2, hU2⟩)
    have hT2 := HT.out.trans (HU.out.trans hU2)
    have HB := Lib.hid (hT2.below HB0.out hgw)
    have hs22 : (World.heap w3).size ≤ v2.heap.size := (HU.out.trans hU2).size
    have HF2 := Lib.hid ((HF.out.touch (HU.out.trans hU2) (.inr hgV)).mono (show w.heap.size ≤ V0.heap.size by omega) (show w1.heap.size ≤ v2.heap.size by omega))
    clear hC2 hU2 hT2
    go_wp2
    refine bodyPost_ret (v := .tuple #[.slice LA m d, .int .i64 sh, .int .i64 dy, .int .i64 y]) (by simp [results, Tryd.results10, go_sem]) rfl ?_
    have hm := HM.out
    subst hm
    exact ⟨LA, d, xs, sh, dy, y, rfl, hcd, hxl, HF2.out, HB.out⟩
set_option maxHeartbeats 8000000 in
set_option maxRecDepth 100000 in
theorem drawOpenLoans_any (A : Option Addr) (n cap : Nat) (w : World) (hA : Bytes w A n) (hn : n ≤ 1099511627776) :
    Calls Tryd.prog 24 #[.slice A n cap] w (RtDr w) := by
  obtain ⟨V0, hV0, hB0, hz0, hu0, hf0⟩ := box_world w #[Value.slice A n cap, .int .i64 0, .int .u64 0] 51
  have hC0 : CurAt w.heap.size A n cap 0 V0 := hV0 ▸ CurAt.start hA cap _
  obtain ⟨g, hg⟩ : ∃ g, g = w.heap.size := ⟨_, rfl⟩
  rw [← hg] at hC0
  have HG := Lib.hid hg
  have hgw : w.heap.size ≤ g := by omega
  have hgV : g + 1 ≤ V0.heap.size := by omega
  have HP := Lib.hid (loans_any g A n cap 0 V0 hC0 (by omega) hn)
  have HB0 := Lib.hid hB0
  clear hg hC0 hu0 hf0 hA hB0
  go_enter Tryd.func24, Tryd.ntmps24
  go_wp2_with fail
  rw [← HG.out]
  clear hV0
  ((with_reducible refine (HP.out).mono ?_); rintro e w1 ⟨LA, d, xs, rfl, hxl, hcd, hF, hC, hT⟩)
  have hs1 : V0.heap.size ≤ w1.heap.size := hT.size
  obtain ⟨m, hm⟩ : ∃ z, z = xs.length := ⟨_, rfl⟩
  rw [← hm] at hxl hcd ⊢
  have HM := Lib.hid hm
  clear hm
  have HF := Lib.hid hF
  have HT := Lib.hid hT
  clear hF hT
  have hx := ext_alloc w1 (.cells #[Value.int .i64 (1), Value.int .i64 (3), Value.int .i64 (999), Value.int .i64 (5), Value.int .i64 (0), Value.int .i64 (1000)] 3)
  have HP := Lib.hid (pick_any 24 g A n cap _ _ (hC.ext hx) (by omega) hn)
  have HL := Lib.hid (lit_flo w1 [1, 3, 999, 5, 0, 1000] 3 #[Value.int .i64 (1), Value.int .i64 (3), Value.int .i64 (999), Value.int .i64 (5), Value.int .i64 (0), Value.int .i64 (1000)] rfl)
  have HX := Lib.hid hx
  have hgW : g < (World.heap w1).size := hC.lt
  clear hC hx
  go_wp2_with fail
  ((with_reducible refine (HP.out).mono ?_); rintro e v1 ⟨_, rfl, ⟨z, rfl, hz0, hz1⟩, hC, hU⟩)
  have HL1 := HL.out.touch hU (.inr (Nat.succ_le_of_lt hgW))
  have HU := Lib.hid (((Touch.of_ext (lo := g) (hi := g + 1) HX.out).trans hU))
  have hgg : g < (World.heap w1).size ∨ (World.heap w1).size + 1 ≤ g := .inl hgW
  have HA6 := Lib.hid (among_any (some ⟨(World.heap w1).size, 0, none⟩) 6 5 [1, 3, 999, 5, 0] rfl (World.heap w1).size ((World.heap w1).size + 1) g A n cap _ v1 hC (by omega) hn (HL1.takeF 5) (by simp) (by simp) hgg)
  have HA7 := Lib.hid (among_any (some ⟨(World.heap w1).size, 0, none⟩) 6 6 [1, 3, 999, 5, 0, 1000] rfl (World.heap w1).size ((World.heap w1).size + 1) g A n cap _ v1 hC (by omega) hn HL1 (by simp) (by simp) hgg)
  clear hC hU HL1
  by_cases h12 : z < 12
  · have hz12 : z / 12 = 0 := by omega
    go_wp2_with fail
    ((with_reducible refine (HA6.out).mono ?_); rintro e v2 ⟨_, rfl, ⟨y, _, rfl⟩, hC2, hU2⟩)
    have hU3 := HU.out.trans hU2
    have HD := Lib.hid (loanDay_any LA d V0.heap.size w1.heap.size m xs HM.out hxl g A n cap _ v2 hC2 (HF.out.touch hU3 (.inr hgV)) hgV (by omega) hn)
    have hs22 : (World.heap w1).size ≤ v2.heap.size := hU3.size
    have HU3 := Lib.hid hU3
    clear hC2 hU2 hU3
    go_wp2_with fail
    ((with_reducible refine (HD.out).mono ?_); rintro e v3 ⟨dy, rfl, hC3, hU4⟩)
    have hT3 := HT.out.trans (HU3.out.trans hU4)
    have HB := Lib.hid (hT3.below HB0.out hgw)
    have hs23 : (World.heap v2).size ≤ v3.heap.size := hU4.size
    have HF3 := Lib.hid ((HF.out.touch (HU3.out.trans hU4) (.inr hgV)).mono (show w.heap.size ≤ V0.heap.size by omega) (show w1.heap.size ≤ v3.heap.size by omega))
    clear hC3 hU4 hT3
    go_wp2
    refine bodyPost_ret (v := .tuple #[.slice LA m d, .int .i64 y, .int .i64 dy]) (by simp [results, Tryd.results24, go_sem]) rfl ?_
    have hm := HM.out
    subst hm
    exact ⟨LA, d, xs, y, dy, rfl, hcd, hxl, HF3.out, HB.out⟩
  · have hz12 : z / 12 = 1 := by omega
    go_wp2_with fail
    ((with_reducible refine (HA7.out).mono ?_); rintro e v2 ⟨_, rfl, ⟨y, _, rfl⟩, hC2, hU2⟩)
    have hU3 := HU.out.trans hU2
    have HD := Lib.hid (loanDay_any LA d V0.heap.size w1.heap.size m xs HM.out hxl g A n cap _ v2 hC2 (HF.out.touch hU3 (.inr hgV)) hgV (by omega) hn)
    have hs22 : (World.heap w1).size ≤ v2.heap.size := hU3.size
    have HU3 := Lib.hid hU3
    clear hC2 hU2 hU3
    go_wp2_with fail
    ((with_reducible refine (HD.out).mono ?_); rintro e v3 ⟨dy, rfl, hC3, hU4⟩)
    have hT3 := HT.out.trans (HU3.out.trans hU4)
    have HB := Lib.hid (hT3.below HB0.out hgw)
    have hs23 : (World.heap v2).size ≤ v3.heap.size := hU4.size
    have HF3 := Lib.hid ((HF.out.touch (HU3.out.trans hU4) (.inr hgV)).mono (show w.heap.size ≤ V0.heap.size by omega) (show w1.heap.size ≤ v3.heap.size by omega))
    clear hC3 hU4 hT3
    go_wp2
    refine bodyPost_ret (v := .tuple #[.slice LA m d, .int .i64 y, .int .i64 dy]) (by simp [results, Tryd.results24, go_sem]) rfl ?_
    have hm := HM.out
    subst hm
    exact ⟨LA, d, xs, y, dy, rfl, hcd, hxl, HF3.out, HB.out⟩
set_option maxHeartbeats 8000000 in
set_option maxRecDepth 100000 in
theorem drawLoanText_any (A : Option Addr) (n cap : Nat) (w : World) (hA : Bytes w A n) (hn : n ≤ 1099511627776) :
    Calls Tryd.prog 21 #[.slice A n cap] w (L1Dr w) := by
  obtain ⟨R0, hR0, hX0, hy0, _, _⟩ := box_world w #[Value.int .i64 0, .int .i64 0, .int .i64 0, .int .i64 0, .int .i64 0] 43
  have hr0 : VarL R0 w.heap.size [Value.int .i64 0, .int .i64 0, .int .i64 0, .int .i64 0, .int .i64 0] := hR0 ▸ VarL.box w _ _
  obtain ⟨V0, hV0, hB0, hz0, hu0, hf0⟩ := box_world R0 #[Value.slice A n cap, .int .i64 0, .int .u64 0] 51
  have hC0 : CurAt R0.heap.size A n cap 0 V0 := hV0 ▸ CurAt.start (hA.ext hX0) cap _
  have hR1 : R0.heap.size = w.heap.size + 1 := by rw [← hR0]; simp
  obtain ⟨g, hg⟩ : ∃ g, g = w.heap.size + 1 := ⟨_, rfl⟩
  rw [hR1, ← hg] at hC0
  have HG := Lib.hid hg
  have hgw : R0.heap.size ≤ g := by omega
  have hgr : w.heap.size < g := by omega
  have hVR := hr0.ext hB0
  have hltV : g < V0.heap.size := hC0.lt
  have HP := Lib.hid (among_any (some ⟨V0.heap.size, 0, none⟩) 3 3 [0, 42, 3900] rfl V0.heap.size (V0.heap.size + 1) g A n cap 0 (V0.alloc (.cells #[Value.int .i64 0, .int .i64 42, .int .i64 3900] 3)) (hC0.ext (ext_alloc _ _)) (by omega) hn (lit_flo V0 [0, 42, 3900] _ _ rfl) (by simp) (by simp) (.inl hltV))
  have HB0 := Lib.hid hB0
  have HX0 := Lib.hid hX0
  have hT0 := Touch.of_ext (lo := g) (hi := g + 1) (ext_alloc V0 (.cells #[Value.int .i64 0, .int .i64 42, .int .i64 3900] 3))
  clear hg hC0 hu0 hf0 hA hB0 hX0 hr0
  go_enter Tryd.func21, Tryd.ntmps21
  go_wp2_with fail
  rw [← HG.out]
  clear hV0 hR0
  ((with_reducible refine (HP.out).mono ?_); rintro e w1 ⟨_, rfl, ⟨q, _, rfl⟩, hC, hU⟩)
  have HE := Lib.hid (loan_any q g A n cap _ w1 hC (by omega) hn)
  have hT1 := hT0.trans hU
  clear hC hU hT0
  go_wp2_with fail
  ((with_reducible refine (HE.out).mono ?_); rintro e w2 ⟨x, rfl, hC2, hU2⟩)
  have hT := hT1.trans hU2
  have hv := hVR.touch hT (.inl hgr)
  have f0 := hv.cell 0 _ rfl
  have f1 := hv.cell 1 _ rfl
  have f2 := hv.cell 2 _ rfl
  have f3 := hv.cell 3 _ rfl
  have f4 := hv.cell 4 _ rfl
  have fz := hv.fz
  have fl := hv.lt
  have HB := Lib.hid ((hT.below HB0.out hgw).mono (show w.heap.size ≤ R0.heap.size by omega))
  clear hVR hv hC2 hT hT1 hU2
  go_wp2
  refine bodyPost_ret (v := .agg #[.int .i64 x.sheet, .int .i64 x.reader, .int .i64 x.out, .int .i64 x.due, .int .i64 x.back]) (by simp [results, Tryd.results21, go_sem, f0, f1, f2, f3, f4, fl]) rfl ⟨x, rfl, ?_⟩
  exact (set5_touch w2 w.heap.size _ _ _ _ _).below ((HX0.out).trans HB.out) (Nat.le_refl _)
set_option maxHeartbeats 1000000 in
theorem drawDaysLent_any (A : Option Addr) (n cap : Nat) (w : World) (hA : Bytes w A n) (hn : n ≤ 1099511627776) :
    Calls Tryd.prog 16 #[.slice A n cap] w (RtDr w) := by
  have HP := Lib.hid (drawReturnSheet_any A n cap w hA hn)
  go_enter Tryd.func16, Tryd.ntmps16
  go_wp2_with fail
  ((with_reducible refine (HP.out).mono ?_); rintro e w1 ⟨LA, d, xs, s, day, rfl, hcd, hxl, hF, hB⟩)
  obtain ⟨m, hm⟩ : ∃ z, z = xs.length := ⟨_, rfl⟩
  rw [← hm] at hxl hcd ⊢
  have HM := Lib.hid hm
  clear hm
  go_wp2
  go_ret3
  have hm := HM.out
  subst hm
  exact ⟨LA, d, xs, s, day, rfl, hcd, hxl, hF, hB⟩
end Go.Proofs.YtnikeelpcokffaaDoor
