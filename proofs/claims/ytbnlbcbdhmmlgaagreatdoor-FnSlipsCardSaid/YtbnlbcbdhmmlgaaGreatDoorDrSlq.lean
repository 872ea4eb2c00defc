/- The draws of a new erratum and of one. No condition. -/
import Derived.Test.YtbnlbcbdhmmlgaaGreatDoorDrSlp
import Derived.Deep.DeepCutAuto
import Derived.BigQuiet
namespace Go.Proofs.YtbnlbcbdhmmlgaaGreatDoor
open Go.RowKit
set_option linter.unusedVariables false
set_option linter.unusedSimpArgs false

set_option maxHeartbeats 4000000 in
set_option maxRecDepth 100000 in
theorem drawNewErratum_any (A : Option Addr) (n cap : Nat) (w : World) (hA : Bytes w A n) (hn : n ≤ 1099511627776) :
    Calls Tryz.prog 15 #[.slice A n cap] w (NrDr w) := by
  obtain ⟨V0, hV0, hB0, hz0, hu0, hf0⟩ := box_world w #[Value.slice A n cap, .int .i64 0, .int .u64 0] 56
  have hC0 : CurAt w.heap.size A n cap 0 V0 := hV0 ▸ CurAt.start hA cap _
  obtain ⟨g, hg⟩ : ∃ g, g = w.heap.size := ⟨_, rfl⟩
  rw [← hg] at hC0
  have HG := Lib.hid hg
  have hgw : w.heap.size ≤ g := by omega
  have hgV : g + 1 ≤ V0.heap.size := by omega
  have HP := Lib.hid (errata_any g A n cap 0 V0 hC0 (by omega) hn)
  have HB0 := Lib.hid hB0
  clear hg hC0 hu0 hf0 hA hB0
  go_enter Tryz.func15, Tryz.ntmps15
  go_wp2_with fail
  rw [← HG.out]
  clear hV0
  ((with_reducible refine (HP.out).mono ?_); rintro e w1 ⟨EA, ed, es, rfl, hel, hecp, hFE, hC1, hU1⟩)
  have HB1 := Lib.hid (hU1.below HB0.out hgw)
  have HFE := Lib.hid hFE
  have hs1 : V0.heap.size ≤ w1.heap.size := hU1.size
  have HH := Lib.hid (erratum_any 1 g A n cap _ w1 hC1 (by omega) hn)
  clear hC1 hU1 hFE
  go_wp2_with fail
  ((with_reducible refine (HH.out).mono ?_); rintro e w2 ⟨x, rfl, hC2, hU2⟩)
  have hs2 : w1.heap.size ≤ w2.heap.size := hU2.size
  obtain ⟨V, hV, hbV, hzV, hcV, _⟩ := box_world w2 #[Value.int .i64 x.id, .int .i64 x.sheet, .int .i64 x.frm, .int .i64 x.til, .int .i64 x.day] 47
  have e1 : World.cell? V ⟨w2.heap.size, 1, none⟩ = some (.int .i64 x.sheet) := hcV 1
  have e2 : World.cell? V ⟨w2.heap.size, 2, none⟩ = some (.int .i64 x.frm) := hcV 2
  have e3 : World.cell? V ⟨w2.heap.size, 3, none⟩ = some (.int .i64 x.til) := hcV 3
  have e4 : World.cell? V ⟨w2.heap.size, 4, none⟩ = some (.int .i64 x.day) := hcV 4
  have HF2 := Lib.hid ((HFE.out.touch hU2 (.inr hgV)).ext hbV)
  have HB2 := Lib.hid ((hU2.below HB1.out hgw).trans (hbV.mono (show w.heap.size ≤ w2.heap.size by omega)))
  have hsV : w2.heap.size ≤ V.heap.size := hbV.size
  have hpc := plus_cell V
  clear hC2 hU2 hcV hbV
  go_upto_region 4 with fail
  clear hV
  refine wp_region_grow (by kernel_rfl) (by kernel_rfl) ?_
  repeat (go_big_quiet_step ((first | (fail))))
  refine wpQuiet_nil ?_
  intro w1 hb1
  obtain ⟨w3, hw3⟩ : ∃ z, z = w1 := ⟨_, rfl⟩
  subst hw3
  have hb3 := hb1
  clear hb1
  have HF3 := Lib.hid (HF2.out.ext hb3)
  have HB3 := Lib.hid (HB2.out.trans (hb3.mono (show w.heap.size ≤ V.heap.size by omega)))
  have hs3 : V.heap.size ≤ w3.heap.size := hb3.size
  clear hb3 hpc
  go_wp2
  refine bodyPost_ret (v := .tuple #[.slice EA es.length ed, .int .i64 x.sheet, .int .i64 x.frm, .int .i64 x.til, .int .i64 x.day]) (by simp [results, Tryz.results15, go_sem]) rfl ?_
  exact ⟨EA, ed, es, x.sheet, x.frm, x.til, x.day, rfl, hel, HF3.out.mono (by omega) (by omega), HB3.out⟩
set_option maxHeartbeats 8000000 in
set_option maxRecDepth 100000 in
theorem drawErratumText_any (A : Option Addr) (n cap : Nat) (w : World) (hA : Bytes w A n) (hn : n ≤ 1099511627776) :
    Calls Tryz.prog 18 #[.slice A n cap] w (E5Dr w) := by
  obtain ⟨R0, hR0, hX0, hy0, _, _⟩ := box_world w #[Value.int .i64 0, .int .i64 0, .int .i64 0, .int .i64 0, .int .i64 0] 47
  have hr0 : VarL R0 w.heap.size [Value.int .i64 0, .int .i64 0, .int .i64 0, .int .i64 0, .int .i64 0] := hR0 ▸ VarL.box w _ _
  obtain ⟨V0, hV0, hB0, hz0, hu0, hf0⟩ := box_world R0 #[Value.slice A n cap, .int .i64 0, .int .u64 0] 56
  have hC0 : CurAt R0.heap.size A n cap 0 V0 := hV0 ▸ CurAt.start (hA.ext hX0) cap _
  have hR1 : R0.heap.size = w.heap.size + 1 := by rw [← hR0]; simp
  obtain ⟨g, hg⟩ : ∃ g, g = w.heap.size + 1 := ⟨_, rfl⟩
  rw [hR1, ← hg] at hC0
  have HG := Lib.hid hg
  have hgw : R0.heap.size ≤ g := by omega
  have hgr : w.heap.size < g := by omega
  have hVR := hr0.ext hB0
  have hltV : g < V0.heap.size := hC0.lt
  have HP := Lib.hid (among_any (some ⟨V0.heap.size, 0, none⟩) 3 3 [1, 42, 99] rfl V0.heap.size (V0.heap.size + 1) g A n cap 0 (V0.alloc (.cells #[Value.int .i64 1, .int .i64 42, .int .i64 99] 3)) (hC0.ext (ext_alloc _ _)) (by omega) hn (lit_flo V0 [1, 42, 99] _ _ rfl) (by simp) (by simp) (.inl hltV))
  have HB0 := Lib.hid hB0
  have HX0 := Lib.hid hX0
  have hT0 := Touch.of_ext (lo := g) (hi := g + 1) (ext_alloc V0 (.cells #[Value.int .i64 1, .int .i64 42, .int .i64 99] 3))
  clear hg hC0 hu0 hf0 hA hB0 hX0 hr0
  go_enter Tryz.func18, Tryz.ntmps18
  go_wp2_with fail
  rw [← HG.out]
  clear hV0 hR0
  ((with_reducible refine (HP.out).mono ?_); rintro e w1 ⟨_, rfl, ⟨q, _, rfl⟩, hC, hU⟩)
  have HE := Lib.hid (erratum_any q g A n cap _ w1 hC (by omega) hn)
  have hT1 := hT0.trans hU
  clear hC hU hT0
  go_wp2_with fail
  ((with_reducible refine (HE.out).mono ?_); rintro e w2 ⟨x, rfl, hC2, hU2⟩)
  have hT := hT1.trans hU2
  have hv := hVR.touch hT (.inl hgr)
  have f0 := hv.cell 0 _ rfl
  have f1 := hv.cell 1 _ rfl
  have f2 := hv.cell 2 _ rfl
  have f3 := hv.cell 3 _ rfl
  have f4 := hv.cell 4 _ rfl
  have fz := hv.fz
  have fl := hv.lt
  have HB := Lib.hid ((hT.below HB0.out hgw).mono (show w.heap.size ≤ R0.heap.size by omega))
  clear hVR hv hC2 hT hT1 hU2
  go_wp2
  refine bodyPost_ret (v := .agg #[.int .i64 x.id, .int .i64 x.sheet, .int .i64 x.frm, .int .i64 x.til, .int .i64 x.day]) (by simp [results, Tryz.results18, go_sem, f0, f1, f2, f3, f4, fl]) rfl ⟨x, rfl, ?_⟩
  exact (set5_touch w2 w.heap.size _ _ _ _ _).below ((HX0.out).trans HB.out) (Nat.le_refl _)
end Go.Proofs.YtbnlbcbdhmmlgaaGreatDoor
