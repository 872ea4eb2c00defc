/- The draw of a scan and its patch. No condition. -/
import Derived.Test.YtjacadkbkkkgfaaDrTwo
namespace Go.Proofs.Ytjacadkbkkkgfaa
open Go.RowKit
set_option linter.unusedVariables false
set_option linter.unusedSimpArgs false

set_option maxHeartbeats 4000000 in
set_option maxRecDepth 100000 in
theorem drawPatchScan_any (A : Option Addr) (n cap : Nat) (w : World) (hA : Bytes w A n) (hn : n ≤ 1099511627776) :
    Calls Try.prog 6 #[.slice A n cap] w (TwoDr w) := by
  obtain ⟨V0, hV0, hB0, hz0, hu0, hf0⟩ := box_world w #[Value.int .i64 0, Value.int .i64 0, Value.slice none 0 0] 26
  have r0 : Var3 V0 w.heap.size (.int .i64 0) (.int .i64 0) (.slice none 0 0) := hV0 ▸ var3_box w _ _ _ _
  have hVs0 : V0.heap.size = w.heap.size + 1 := by rw [← hV0]; simp
  obtain ⟨V1, hV1, hB1, hz1, hu1, hf1⟩ := box_world V0 #[Value.int .i64 0, Value.int .i64 0, Value.slice none 0 0] 26
  have r1 : Var3 V1 V0.heap.size (.int .i64 0) (.int .i64 0) (.slice none 0 0) := hV1 ▸ var3_box V0 _ _ _ _
  have hVs1 : V1.heap.size = w.heap.size + 2 := by rw [← hV1]; simp [hVs0]
  replace r0 := r0.ext hB1
  have hE1 := ext_trans hB0 hB1
  have HP := Lib.hid (drawOtherTiles_any A n cap V1 (hA.ext hE1) hn)
  have HVS0 := Lib.hid hVs0
  have HVS1 := Lib.hid hVs1
  clear hu0 hf0 hu1 hf1 hVs0 hVs1 hA
  go_enter Try.func6, Try.ntmps6
  go_wp2_with fail
  clear hV0 hV1
  ((with_reducible refine (HP.out).mono ?_); rintro e w1 ⟨r, c, S, d, xs, r', c', S', d', ys, rfl, hx, hy, hF, hG, hb1⟩)
  replace r0 := r0.ext hb1
  replace r1 := r1.ext hb1
  rw [HVS1.out] at hF hG
  rw [HVS0.out] at r1 ⊢
  have HB := Lib.hid (ext_trans hE1 hb1)
  have HF := Lib.hid hF
  have HG := Lib.hid hG
  obtain ⟨m, hm⟩ : ∃ z, z = xs.length := ⟨_, rfl⟩
  obtain ⟨k, hk⟩ : ∃ z, z = ys.length := ⟨_, rfl⟩
  rw [← hm, ← hk]
  have HM := Lib.hid hm
  have HK := Lib.hid hk
  have hgt : w.heap.size < w1.heap.size := r0.lt
  have f0 := r0.c0
  have f1 := r0.c1
  have f2 := r0.c2
  have f3 := r0.fz
  have fl := r0.lt
  have h0 := r1.c0
  have h1 := r1.c1
  have h2 := r1.c2
  have h3 := r1.fz
  have hl := r1.lt
  clear r0 r1 hF hG hb1 hE1 hB0 hB1 hm hk
  go_wp2
  refine bodyPost_ret (v := .tuple #[.agg #[.int .i64 r, .int .i64 c, .slice S m d], .agg #[.int .i64 r', .int .i64 c', .slice S' k d']]) (by simp [results, Try.results6, go_sem, f0, f1, f2, fl, h0, h1, h2, hl]) rfl ?_
  rw [HM.out, HK.out]
  exact finTwoN HF.out HG.out HB.out hx hy _ _ _ _ _ _
end Go.Proofs.Ytjacadkbkkkgfaa
