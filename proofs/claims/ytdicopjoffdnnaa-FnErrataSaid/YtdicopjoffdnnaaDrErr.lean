/- The draws of errata and held copies. No condition. -/
import Derived.Test.YtdicopjoffdnnaaErH
import Derived.Test.YtdicopjoffdnnaaErC
import Derived.Test.YtdicopjoffdnnaaDrD
namespace Go.Proofs.Ytdicopjoffdnnaa
open Go.RowKit
set_option linter.unusedVariables false
set_option linter.unusedSimpArgs false

def PaDr (w : World) (e : Ending) (w' : World) : Prop :=
  ∃ (EA : Option Addr) (ed : Nat) (es : List Erratum) (HA : Option Addr) (hd : Nat) (hs : List Nest) (z : Int), e = .returned (.tuple #[.slice EA es.length ed, .slice HA hs.length hd, .int .i64 z]) ∧ es.length ≤ 12 ∧ wt hs ≤ 400 ∧ FlO Erratum.ints 5 w.heap.size w'.heap.size w' EA es ∧ NlO w.heap.size w'.heap.size w' HA hs ∧ Below w.heap.size w w'
def MsDr (w : World) (e : Ending) (w' : World) : Prop :=
  ∃ (EA : Option Addr) (ed : Nat) (es : List Erratum) (HA : Option Addr) (hd : Nat) (hs : List Nest) (y : Int) (z : Int), e = .returned (.tuple #[.slice EA es.length ed, .slice HA hs.length hd, .int .i64 y, .int .i64 z]) ∧ es.length ≤ 12 ∧ wt hs ≤ 400 ∧ FlO Erratum.ints 5 w.heap.size w'.heap.size w' EA es ∧ NlO w.heap.size w'.heap.size w' HA hs ∧ Below w.heap.size w w'
set_option maxHeartbeats 4000000 in
set_option maxRecDepth 100000 in
theorem drawPutAllSlips_any (A : Option Addr) (n cap : Nat) (w : World) (hA : Bytes w A n) (hn : n ≤ 1099511627776) :
    Calls Try.prog 5 #[.slice A n cap] w (PaDr w) := by
  obtain ⟨V0, hV0, hB0, hz0, hu0, hf0⟩ := box_world w #[Value.slice A n cap, .int .i64 0, .int .u64 0] 47
  have hC0 : CurAt w.heap.size A n cap 0 V0 := hV0 ▸ CurAt.start hA cap _
  obtain ⟨g, hg⟩ : ∃ g, g = w.heap.size := ⟨_, rfl⟩
  rw [← hg] at hC0
  have HG := Lib.hid hg
  have hgw : w.heap.size ≤ g := by omega
  have hgV : g + 1 ≤ V0.heap.size := by omega
  have HP := Lib.hid (errata_any g A n cap 0 V0 hC0 (by omega) hn)
  have HB0 := Lib.hid hB0
  clear hg hC0 hu0 hf0 hA hB0
  go_enter Try.func5, Try.ntmps5
  go_wp2_with fail
  rw [← HG.out]
  clear hV0
  ((with_reducible refine (HP.out).mono ?_); rintro e w1 ⟨EA, ed, es, rfl, hel, hFE, hC1, hU1⟩)
  have HH := Lib.hid (helds_any EA ed V0.heap.size w1.heap.size es hel g A n cap _ w1 hC1 hFE hgV (by omega) hn)
  have HB1 := Lib.hid (hU1.below HB0.out hgw)
  have HFE := Lib.hid hFE
  have hs1 : V0.heap.size ≤ w1.heap.size := hU1.size
  clear hC1 hU1 hFE
  go_wp2_with fail
  ((with_reducible refine (HH.out).mono ?_); rintro e w2 ⟨HA, hd, hs, rfl, hwt, hNH, hC2, hU2⟩)
  have HFE2 := Lib.hid (HFE.out.touch hU2 (.inr hgV))
  have HNH := Lib.hid hNH
  have HB2 := Lib.hid (hU2.below HB1.out hgw)
  have hs2 : w1.heap.size ≤ w2.heap.size := hU2.size
  have hls : hs.length ≤ 400 := Nat.le_trans (wt_len hs) hwt
  have HD := Lib.hid (day19_any g A n cap _ w2 hC2 (by omega) hn)
  clear hC2 hU2 hNH
  go_wp2_with fail
  ((with_reducible refine (HD.out).mono ?_); rintro e w3 ⟨z, rfl, hC3, hU3⟩)
  have HFE3 := Lib.hid (HFE2.out.touch hU3 (.inr hgV))
  have HNH3 := Lib.hid (HNH.out.touch hU3 (.inr (by omega)))
  have HB3 := Lib.hid (hU3.below HB2.out hgw)
  have hs3 : w2.heap.size ≤ w3.heap.size := hU3.size
  clear hC3 hU3
  go_wp2
  go_ret3
  exact ⟨EA, ed, es, HA, hd, hs, z, rfl, hel, hwt, HFE3.out.mono (by omega) (by omega), HNH3.out.mono (by omega) (by omega), HB3.out⟩
set_option maxHeartbeats 4000000 in
set_option maxRecDepth 100000 in
theorem drawMissingSlips_any (A : Option Addr) (n cap : Nat) (w : World) (hA : Bytes w A n) (hn : n ≤ 1099511627776) :
    Calls Try.prog 15 #[.slice A n cap] w (MsDr w) := by
  obtain ⟨V0, hV0, hB0, hz0, hu0, hf0⟩ := box_world w #[Value.slice A n cap, .int .i64 0, .int .u64 0] 47
  have hC0 : CurAt w.heap.size A n cap 0 V0 := hV0 ▸ CurAt.start hA cap _
  obtain ⟨g, hg⟩ : ∃ g, g = w.heap.size := ⟨_, rfl⟩
  rw [← hg] at hC0
  have HG := Lib.hid hg
  have hgw : w.heap.size ≤ g := by omega
  have hgV : g + 1 ≤ V0.heap.size := by omega
  have HP := Lib.hid (errata_any g A n cap 0 V0 hC0 (by omega) hn)
  have HB0 := Lib.hid hB0
  clear hg hC0 hu0 hf0 hA hB0
  go_enter Try.func15, Try.ntmps15
  go_wp2_with fail
  rw [← HG.out]
  clear hV0
  ((with_reducible refine (HP.out).mono ?_); rintro e w1 ⟨EA, ed, es, rfl, hel, hFE, hC1, hU1⟩)
  have HH := Lib.hid (helds_any EA ed V0.heap.size w1.heap.size es hel g A n cap _ w1 hC1 hFE hgV (by omega) hn)
  have HB1 := Lib.hid (hU1.below HB0.out hgw)
  have HFE := Lib.hid hFE
  have hs1 : V0.heap.size ≤ w1.heap.size := hU1.size
  clear hC1 hU1 hFE
  go_wp2_with fail
  ((with_reducible refine (HH.out).mono ?_); rintro e w2 ⟨HA, hd, hs, rfl, hwt, hNH, hC2, hU2⟩)
  have HFE2 := Lib.hid (HFE.out.touch hU2 (.inr hgV))
  have HNH := Lib.hid hNH
  have HB2 := Lib.hid (hU2.below HB1.out hgw)
  have hs2 : w1.heap.size ≤ w2.heap.size := hU2.size
  have hls : hs.length ≤ 400 := Nat.le_trans (wt_len hs) hwt
  have HK := Lib.hid (copyNumber_any HA hd w1.heap.size w2.heap.size hs hls g A n cap _ w2 hC2 hNH (by omega) (by omega) hn)
  clear hC2 hU2 hNH
  go_wp2_with fail
  ((with_reducible refine (HK.out).mono ?_); rintro e wk ⟨zk, rfl, hC2, hUk⟩)
  have HFE2 := Lib.hid (HFE2.out.touch hUk (.inr hgV))
  have HNH := Lib.hid (HNH.out.touch hUk (.inr (by omega)))
  have HB2 := Lib.hid (hUk.below HB2.out hgw)
  have hsk : w2.heap.size ≤ wk.heap.size := hUk.size
  clear hUk
  have HD := Lib.hid (day19_any g A n cap _ wk hC2 (by omega) hn)
  clear hC2
  go_wp2_with fail
  ((with_reducible refine (HD.out).mono ?_); rintro e w3 ⟨z, rfl, hC3, hU3⟩)
  have HFE3 := Lib.hid (HFE2.out.touch hU3 (.inr hgV))
  have HNH3 := Lib.hid (HNH.out.touch hU3 (.inr (by omega)))
  have HB3 := Lib.hid (hU3.below HB2.out hgw)
  have hs3 : wk.heap.size ≤ w3.heap.size := hU3.size
  clear hC3 hU3
  go_wp2
  refine bodyPost_ret (v := .tuple #[.slice EA es.length ed, .slice HA hs.length hd, .int .i64 zk, .int .i64 z]) (by simp [results, Try.results15, go_sem]) rfl ?_
  exact ⟨EA, ed, es, HA, hd, hs, zk, z, rfl, hel, hwt, HFE3.out.mono (by omega) (by omega), HNH3.out.mono (by omega) (by omega), HB3.out⟩
end Go.Proofs.Ytdicopjoffdnnaa
