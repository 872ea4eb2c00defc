/- The draws of errata, held copies and ids. No condition. -/
import Derived.Test.YtbnlbcbdhmmlgaaGreatDoorErH
import Derived.Test.YtbnlbcbdhmmlgaaGreatDoorErC
import Derived.Test.YtbnlbcbdhmmlgaaGreatDoorErrI
import Derived.Test.YtbnlbcbdhmmlgaaGreatDoorDrD
namespace Go.Proofs.YtbnlbcbdhmmlgaaGreatDoor
open Go.RowKit
set_option linter.unusedVariables false
set_option linter.unusedSimpArgs false

def CfDr (w : World) (e : Ending) (w' : World) : Prop :=
  ∃ (EA : Option Addr) (ed : Nat) (es : List Erratum) (HA : Option Addr) (hd : Nat) (hs : List Nest) (z : Int), e = .returned (.tuple #[.slice EA es.length ed, .slice HA hs.length hd, .int .i64 z]) ∧ es.length ≤ 12 ∧ (es.length ≤ ed ∧ ed ≤ 9223372036854775807) ∧ wt hs ≤ 400 ∧ FlO Erratum.ints 5 w.heap.size w'.heap.size w' EA es ∧ NlQ w.heap.size w'.heap.size w' HA hs ∧ Below w.heap.size w w'
def PsDr (w : World) (e : Ending) (w' : World) : Prop :=
  ∃ (EA : Option Addr) (ed : Nat) (es : List Erratum) (HA : Option Addr) (hd : Nat) (hs : List Nest) (y : Int) (z : Int), e = .returned (.tuple #[.slice EA es.length ed, .slice HA hs.length hd, .int .i64 y, .int .i64 z]) ∧ es.length ≤ 12 ∧ (es.length ≤ ed ∧ ed ≤ 9223372036854775807) ∧ wt hs ≤ 400 ∧ FlO Erratum.ints 5 w.heap.size w'.heap.size w' EA es ∧ NlQ w.heap.size w'.heap.size w' HA hs ∧ Below w.heap.size w w'
def NrDr (w : World) (e : Ending) (w' : World) : Prop :=
  ∃ (EA : Option Addr) (ed : Nat) (es : List Erratum) (s f u d : Int), e = .returned (.tuple #[.slice EA es.length ed, .int .i64 s, .int .i64 f, .int .i64 u, .int .i64 d]) ∧ es.length ≤ 12 ∧ FlO Erratum.ints 5 w.heap.size w'.heap.size w' EA es ∧ Below w.heap.size w w'
def E5Dr (w : World) (e : Ending) (w' : World) : Prop :=
  ∃ (x : Erratum), e = .returned (.agg #[.int .i64 x.id, .int .i64 x.sheet, .int .i64 x.frm, .int .i64 x.til, .int .i64 x.day]) ∧ Below w.heap.size w w'
set_option maxHeartbeats 4000000 in
set_option maxRecDepth 100000 in
theorem drawPutSlip_any (A : Option Addr) (n cap : Nat) (w : World) (hA : Bytes w A n) (hn : n ≤ 1099511627776) :
    Calls Tryz.prog 5 #[.slice A n cap] w (PsDr w) := by
  obtain ⟨V0, hV0, hB0, hz0, hu0, hf0⟩ := box_world w #[Value.slice A n cap, .int .i64 0, .int .u64 0] 56
  have hC0 : CurAt w.heap.size A n cap 0 V0 := hV0 ▸ CurAt.start hA cap _
  obtain ⟨g, hg⟩ : ∃ g, g = w.heap.size := ⟨_, rfl⟩
  rw [← hg] at hC0
  have HG := Lib.hid hg
  have hgw : w.heap.size ≤ g := by omega
  have hgV : g + 1 ≤ V0.heap.size := by omega
  have HP := Lib.hid (errata_any g A n cap 0 V0 hC0 (by omega) hn)
  have HB0 := Lib.hid hB0
  clear hg hC0 hu0 hf0 hA hB0
  go_enter Tryz.func5, Tryz.ntmps5
  go_wp2_with fail
  rw [← HG.out]
  clear hV0
  ((with_reducible refine (HP.out).mono ?_); rintro e w1 ⟨EA, ed, es, rfl, hel, hecp, hFE, hC1, hU1⟩)
  have HB1 := Lib.hid (hU1.below HB0.out hgw)
  have HFE := Lib.hid hFE
  have hs1 : V0.heap.size ≤ w1.heap.size := hU1.size
  have HH := Lib.hid (heldsQ_any EA ed V0.heap.size w1.heap.size es hel g A n cap _ w1 hC1 hFE hgV (by omega) hn)
  clear hC1 hU1 hFE
  go_wp2_with fail
  ((with_reducible refine (HH.out).mono ?_); rintro e w2 ⟨HA, hd, hs, rfl, hwt, hNH, hC2, hU2⟩)
  have hls : hs.length ≤ 400 := Nat.le_trans (wt_len hs) hwt
  have hs2 : w1.heap.size ≤ w2.heap.size := hU2.size
  have hFE2 := HFE.out.touch hU2 (.inr hgV)
  have HB2 := Lib.hid (hU2.below HB1.out hgw)
  clear hU2
  have HK := Lib.hid (copyNumber_any HA hd w1.heap.size w2.heap.size hs hls g A n cap _ w2 hC2 hNH.nlo (by omega) (by omega) hn)
  clear hC2
  go_wp2_with fail
  ((with_reducible refine (HK.out).mono ?_); rintro e w3 ⟨zk, rfl, hC2, hU3⟩)
  replace hFE2 := hFE2.touch hU3 (.inr hgV)
  replace hNH := hNH.touch hU3 (.inr (by omega))
  replace HB2 := Lib.hid (hU3.below HB2.out hgw)
  have hs3 : w2.heap.size ≤ w3.heap.size := hU3.size
  clear hU3
  have HI := Lib.hid (erratumId_any EA ed V0.heap.size w1.heap.size es (by omega) g A n cap _ w3 hC2 hFE2 hgV (by omega) hn)
  clear hC2
  go_wp2_with fail
  ((with_reducible refine (HI.out).mono ?_); rintro e w4 ⟨zi, rfl, hC4, hU4⟩)
  have HFE4 := Lib.hid (hFE2.touch hU4 (.inr hgV))
  have HNH4 := Lib.hid (hNH.touch hU4 (.inr (by omega)))
  have HB4 := Lib.hid (hU4.below HB2.out hgw)
  have hs4 : w3.heap.size ≤ w4.heap.size := hU4.size
  clear hC4 hU4 hFE2 hNH
  go_wp2
  refine bodyPost_ret (v := .tuple #[.slice EA es.length ed, .slice HA hs.length hd, .int .i64 zk, .int .i64 zi]) (by simp [results, Tryz.results5, go_sem]) rfl ?_
  exact ⟨EA, ed, es, HA, hd, hs, zk, zi, rfl, hel, hecp, hwt, HFE4.out.mono (by omega) (by omega), HNH4.out.mono (by omega) (by omega), HB4.out⟩
set_option maxHeartbeats 4000000 in
set_option maxRecDepth 100000 in
theorem drawCopiesFor_any (A : Option Addr) (n cap : Nat) (w : World) (hA : Bytes w A n) (hn : n ≤ 1099511627776) :
    Calls Tryz.prog 44 #[.slice A n cap] w (CfDr w) := by
  obtain ⟨V0, hV0, hB0, hz0, hu0, hf0⟩ := box_world w #[Value.slice A n cap, .int .i64 0, .int .u64 0] 56
  have hC0 : CurAt w.heap.size A n cap 0 V0 := hV0 ▸ CurAt.start hA cap _
  obtain ⟨g, hg⟩ : ∃ g, g = w.heap.size := ⟨_, rfl⟩
  rw [← hg] at hC0
  have HG := Lib.hid hg
  have hgw : w.heap.size ≤ g := by omega
  have hgV : g + 1 ≤ V0.heap.size := by omega
  have HP := Lib.hid (errata_any g A n cap 0 V0 hC0 (by omega) hn)
  have HB0 := Lib.hid hB0
  clear hg hC0 hu0 hf0 hA hB0
  go_enter Tryz.func44, Tryz.ntmps44
  go_wp2_with fail
  rw [← HG.out]
  clear hV0
  ((with_reducible refine (HP.out).mono ?_); rintro e w1 ⟨EA, ed, es, rfl, hel, hecp, hFE, hC1, hU1⟩)
  have HB1 := Lib.hid (hU1.below HB0.out hgw)
  have HFE := Lib.hid hFE
  have hs1 : V0.heap.size ≤ w1.heap.size := hU1.size
  have HH := Lib.hid (heldsQ_any EA ed V0.heap.size w1.heap.size es hel g A n cap _ w1 hC1 hFE hgV (by omega) hn)
  clear hC1 hU1 hFE
  go_wp2_with fail
  ((with_reducible refine (HH.out).mono ?_); rintro e w2 ⟨HA, hd, hs, rfl, hwt, hNH, hC2, hU2⟩)
  have hls : hs.length ≤ 400 := Nat.le_trans (wt_len hs) hwt
  have hs2 : w1.heap.size ≤ w2.heap.size := hU2.size
  have hFE2 := HFE.out.touch hU2 (.inr hgV)
  have HB2 := Lib.hid (hU2.below HB1.out hgw)
  clear hU2
  have HI := Lib.hid (erratumId_any EA ed V0.heap.size w1.heap.size es (by omega) g A n cap _ w2 hC2 hFE2 hgV (by omega) hn)
  clear hC2
  go_wp2_with fail
  ((with_reducible refine (HI.out).mono ?_); rintro e w4 ⟨zi, rfl, hC4, hU4⟩)
  have HFE4 := Lib.hid (hFE2.touch hU4 (.inr hgV))
  have HNH4 := Lib.hid (hNH.touch hU4 (.inr (by omega)))
  have HB4 := Lib.hid (hU4.below HB2.out hgw)
  have hs4 : w2.heap.size ≤ w4.heap.size := hU4.size
  clear hC4 hU4 hFE2 hNH
  go_wp2
  go_ret3
  exact ⟨EA, ed, es, HA, hd, hs, zi, rfl, hel, hecp, hwt, HFE4.out.mono (by omega) (by omega), HNH4.out.mono (by omega) (by omega), HB4.out⟩
set_option maxHeartbeats 4000000 in
theorem drawWithdraw_any (A : Option Addr) (n cap : Nat) (w : World) (hA : Bytes w A n) (hn : n ≤ 1099511627776) :
    Calls Tryz.prog 11 #[.slice A n cap] w (CfDr w) := by
  have HD := Lib.hid (drawCopiesFor_any A n cap w hA hn)
  clear hA
  go_enter Tryz.func11, Tryz.ntmps11
  go_wp2_with fail
  ((with_reducible refine (HD.out).mono ?_); rintro e w1 ⟨EA, ed, es, HA, hd, hs, zi, rfl, h1, h2, h3, h4, h5, h6⟩)
  have H4 := Lib.hid h4
  have H5 := Lib.hid h5
  have H6 := Lib.hid h6
  obtain ⟨m, hm⟩ : ∃ z, z = es.length := ⟨_, rfl⟩
  obtain ⟨q, hq⟩ : ∃ z, z = hs.length := ⟨_, rfl⟩
  rw [← hm] at h1 h2 ⊢
  rw [← hq]
  have HM := Lib.hid hm
  have HQ := Lib.hid hq
  clear h4 h5 h6 hm hq
  go_wp2
  go_ret3
  have hm := HM.out
  have hq := HQ.out
  subst hm hq
  exact ⟨EA, ed, es, HA, hd, hs, zi, rfl, h1, h2, h3, H4.out, H5.out, H6.out⟩
end Go.Proofs.YtbnlbcbdhmmlgaaGreatDoor
