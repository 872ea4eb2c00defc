/- The draw of two scans beside each other. No condition. -/
import Derived.Test.YtjacadkbkkkgfaaDrTwo
namespace Go.Proofs.Ytjacadkbkkkgfaa
open Go.RowKit
set_option linter.unusedVariables false
set_option linter.unusedSimpArgs false

set_option maxHeartbeats 16000000 in
set_option maxRecDepth 100000 in
theorem drawBesideScan_any (A : Option Addr) (n cap : Nat) (w : World) (hA : Bytes w A n) (hn : n ≤ 1099511627776) :
    Calls Try.prog 14 #[.slice A n cap] w (TwoDr w) := by
  obtain ⟨V0, hV0, hB0, hz0, hu0, hf0⟩ := box_world w #[Value.int .i64 0, Value.int .i64 0, Value.slice none 0 0] 26
  have r0 : Var3 V0 w.heap.size (.int .i64 0) (.int .i64 0) (.slice none 0 0) := hV0 ▸ var3_box w _ _ _ _
  have hVs0 : V0.heap.size = w.heap.size + 1 := by rw [← hV0]; simp
  have hE0 := hB0
  obtain ⟨V1, hV1, hB1, hz1, hu1, hf1⟩ := box_world V0 #[Value.int .i64 0, Value.int .i64 0, Value.slice none 0 0] 26
  have r1 : Var3 V1 V0.heap.size (.int .i64 0) (.int .i64 0) (.slice none 0 0) := hV1 ▸ var3_box V0 _ _ _ _
  have hVs1 : V1.heap.size = w.heap.size + 2 := by rw [← hV1]; simp [hVs0]
  replace r0 := r0.ext hB1
  have hE1 := ext_trans hE0 hB1
  obtain ⟨V2, hV2, hB2, hz2, hu2, hf2⟩ := box_world V1 #[Value.slice A n cap, .int .i64 0, .int .u64 0] 70
  have hC : CurAt V1.heap.size A n cap 0 V2 := hV2 ▸ CurAt.start (hA.ext hE1) cap _
  replace r0 := r0.ext hB2
  replace r1 := r1.ext hB2
  have hB := ext_trans hE1 hB2
  obtain ⟨g, hg⟩ : ∃ g, g = V1.heap.size := ⟨_, rfl⟩
  rw [← hg] at hC
  have hgw : w.heap.size + 2 = g := by rw [hg, hVs1]
  have HG := Lib.hid hg
  clear hg hA hu0 hf0 hu1 hf1 hu2 hf2
  have HVS0 := Lib.hid hVs0
  have hVa0 : V0.heap.size ≤ w.heap.size + 1 := by omega
  have hVb0 : w.heap.size + 1 ≤ V0.heap.size := by omega
  have HVS1 := Lib.hid hVs1
  have hVa1 : V1.heap.size ≤ w.heap.size + 2 := by omega
  have hVb1 : w.heap.size + 2 ≤ V1.heap.size := by omega
  have hgx : w.heap.size + 2 ≤ g := by omega
  have hgy : g ≤ w.heap.size + 2 := by omega
  clear hgw hVs0 hVs1
  have hzg : g < V2.heap.size := hC.lt
  go_enter Try.func14, Try.ntmps14
  have HN1 := Lib.hid (size17_any g A n cap _ V2 hC (by omega) hn)
  clear hC
  go_wp2_with fail
  rw [← HG.out]
  clear hV0 hV1 hV2
  ((with_reducible refine (HN1.out).mono ?_); rintro e w1 ⟨_, rfl, ⟨z1, rfl, hy1, hx1⟩, hC, hT1⟩)
  replace r0 := r0.touch hT1 (by omega)
  replace r1 := r1.touch hT1 (by omega)
  replace hB := hT1.below hB (by omega)
  have hz_w1 : V2.heap.size ≤ w1.heap.size := hT1.size
  clear hT1
  obtain ⟨R, rfl⟩ : ∃ R : Nat, z1 = R := ⟨z1.toNat, by omega⟩
  have hlt2 : g < w1.heap.size := hC.lt
  have HN2 := Lib.hid (among_any (some ⟨w1.heap.size, 0, none⟩) 4 4 [1, 2, 3, 4] rfl w1.heap.size (w1.heap.size + 1) g A n cap _ (w1.alloc (.cells #[Value.int .i64 1, Value.int .i64 2, Value.int .i64 3, Value.int .i64 4] 3)) (hC.ext (ext_alloc _ _)) (by omega) hn (lit_flo w1 [1, 2, 3, 4] _ _ rfl) (by simp) (by simp) (.inl hlt2))
  clear hC
  go_wp2_with fail
  ((with_reducible refine (HN2.out).mono ?_); rintro e w2 ⟨_, rfl, ⟨qz, hq2, rfl⟩, hC, hT2⟩)
  replace hT2 := (Touch.of_ext (ext_alloc w1 (.cells #[Value.int .i64 1, Value.int .i64 2, Value.int .i64 3, Value.int .i64 4] 3))).trans hT2
  replace r0 := r0.touch hT2 (by omega)
  replace r1 := r1.touch hT2 (by omega)
  replace hB := hT2.below hB (by omega)
  have hz_w2 : w1.heap.size ≤ w2.heap.size := hT2.size
  clear hT2
  have hq4 : 1 ≤ qz ∧ qz ≤ 4 := by simp only [List.mem_cons, List.mem_nil_iff, or_false] at hq2; omega
  obtain ⟨Q, rfl⟩ : ∃ Q : Nat, qz = Q := ⟨qz.toNat, by omega⟩
  have HN3 := Lib.hid (scan17_any R Q (by omega) (by omega) g A n cap _ w2 hC (by omega) hn)
  clear hC
  go_wp2_with fail
  ((with_reducible refine (HN3.out).mono ?_); rintro e w3 ⟨xr, xc, xA, xd, xs, rfl, hxl, fx, hC, hT3⟩)
  replace r0 := r0.touch hT3 (by omega)
  replace r1 := r1.touch hT3 (by omega)
  replace hB := hT3.below hB (by omega)
  have hz_w3 : w2.heap.size ≤ w3.heap.size := hT3.size
  clear hT3
  obtain ⟨Bx, hVBx, hbBx, hzBx, huBx, hfBx⟩ := box_world w3 #[Value.int .i64 xr, .int .i64 xc, .slice xA xs.length xd] 26
  have vx : Var3 Bx w3.heap.size (.int .i64 xr) (.int .i64 xc) (.slice xA xs.length xd) := hVBx ▸ var3_box w3 _ _ _ _
  replace r0 := r0.ext hbBx
  replace r1 := r1.ext hbBx
  replace fx := fx.ext hbBx
  replace hC := hC.ext hbBx
  replace hB := ext_trans hB hbBx
  clear huBx hfBx
  have HN4 := Lib.hid (one_any 8 g A n cap _ Bx hC (by omega) hn)
  clear hC
  go_wp2_with fail
  clear hVBx
  ((with_reducible refine (HN4.out).mono ?_); rintro e w4 ⟨_, rfl, ⟨b4, rfl⟩, hC, hT4⟩)
  replace r0 := r0.touch hT4 (by omega)
  replace r1 := r1.touch hT4 (by omega)
  replace fx := fx.touch hT4 (by omega)
  replace vx := vx.touch hT4 (by omega)
  replace hB := hT4.below hB (by omega)
  have hz_w4 : Bx.heap.size ≤ w4.heap.size := hT4.size
  clear hT4
  replace hC := hC.mono (show _ ≤ 500 by omega)
  go_upto_if 19 with fail
  go_cut [5] (fun r wx => ∃ R9 : Nat, r = .int .i64 (R9 : Int) ∧ R9 ≤ 6 ∧ CurAt g A n cap (500 + 2) wx ∧ Touch g (g + 1) w4 wx)
  case first =>
    have HNq := Lib.hid (size17_any g A n cap _ w4 hC (by omega) hn)
    have HCq := Lib.hid hC
    clear hC
    cases b4
    · go_wp2
      go_meet
      exact ⟨R, rfl, by omega, HCq.out.mono (by omega), Touch.refl _ _ _⟩
    · go_wp2_with fail
      ((with_reducible refine (HNq.out).mono ?_); rintro e wq ⟨_, rfl, ⟨zq, rfl, hq1, hq6⟩, hCq, hTq⟩)
      obtain ⟨Rq, rfl⟩ : ∃ R : Nat, zq = R := ⟨zq.toNat, by omega⟩
      have HC9 := Lib.hid hCq
      have HT9 := Lib.hid hTq
      clear hCq hTq
      go_wp2_with fail
      go_meet
      exact ⟨Rq, rfl, by omega, HC9.out, HT9.out⟩
  case rest =>
    obtain ⟨R2, rfl, hR26, hC, hT5⟩ := hcut
    obtain ⟨w5, hwz5⟩ : ∃ z, z = wc := ⟨_, rfl⟩
    subst hwz5
    replace r0 := r0.touch hT5 (by omega)
    replace r1 := r1.touch hT5 (by omega)
    replace fx := fx.touch hT5 (by omega)
    replace vx := vx.touch hT5 (by omega)
    replace hB := hT5.below hB (by omega)
    have hz_w5 : w4.heap.size ≤ w5.heap.size := hT5.size
    clear hT5
    obtain ⟨m, hm⟩ : ∃ z, z = xs.length := ⟨_, rfl⟩
    rw [← hm] at vx
    have x0 := vx.c0
    have x1 := vx.c1
    have x2 := vx.c2
    have xl := vx.lt
    have HM := Lib.hid hm
    have HAM := Lib.hid (fun (W : World) (h : CurAt g A n cap 502 W) (hl : FlO one 1 w5.heap.size (w5.heap.size + 1) W (some ⟨w5.heap.size, 0, none⟩) [1, 2, 3, 4]) => among_any (some ⟨w5.heap.size, 0, none⟩) 4 4 [1, 2, 3, 4] rfl w5.heap.size (w5.heap.size + 1) g A n cap _ W h (by omega) hn hl (by simp) (by simp) (.inl hC.lt))
    have HSC := Lib.hid (fun (Q : Nat) (hQ : Q ≤ 6) (W : World) (h : CurAt g A n cap 504 W) => scan17_any R2 Q (by omega) hQ g A n cap _ W h (by omega) hn)
    have HX := Lib.hid vx
    have HFX := Lib.hid fx
    have HR0 := Lib.hid r0
    have HR1 := Lib.hid r1
    have HCC := Lib.hid hC
    have HBL := Lib.hid hB
    have hgl : g + 1 ≤ w5.heap.size := hC.lt
    have hxb : g + 1 ≤ w3.heap.size := by omega
    have hxw : w.heap.size + 1 < w3.heap.size := by omega
    clear hm vx fx r0 r1 hC hB
    go_upto_region 6 with fail
    rw [HVS0.out]
    go_region_held3 (fun w' => World.cell? w' ⟨w3.heap.size, 0, none⟩ = some (.int .i64 xr) ∧ World.cell? w' ⟨w3.heap.size, 1, none⟩ = some (.int .i64 xc) ∧ World.cell? w' ⟨w3.heap.size, 2, none⟩ = some (.slice xA m xd)) (first | with_reducible exact (HX.out.ext (ext_drew _)).tri | with_reducible exact ((HX.out.ext (ext_alloc _ _)).ext (ext_drew _)).tri | with_reducible exact ((HX.out.ext (ext_drew _)).ext (ext_alloc _ _)).tri | with_reducible exact HX7.out.tri | with_reducible exact HX8.out.tri | (with_reducible refine ((HX8.out.touch (set3_touch _ _ _ _ _) ?_).touch (set3_touch _ _ _ _ _) ?_).tri <;> omega) | (with_reducible refine (HX8.out.touch (set3_touch _ _ _ _ _) ?_).tri; omega)) ((first | (go_at_call 49; (with_reducible refine (HSC.out _ ?_ _ HC7.out).mono ?_); omega; rintro e w8q ⟨yr, yc, yA, yd, ys, rfl, hyl, fy, hC8, hT8⟩; have hx8 := HX7.out.touch hT8 (.inr hxb); have HX8 := Lib.hid hx8; have HF8 := Lib.hid (HF7.out.touch hT8 (.inr (by omega))); have HFY := Lib.hid fy; have ra8 := HA7.out.touch hT8 (.inl (by omega)); have rb8 := HB7.out.touch hT8 (.inl (by omega)); rw [HVS0.out] at rb8; have HW8 := Lib.hid (hT8.below HW7.out (by omega)); have hs8 : w7q.heap.size ≤ w8q.heap.size := hT8.size; have f0 := ra8.c0; have f1 := ra8.c1; have f2 := ra8.c2; have f3 := ra8.fz; have fl := ra8.lt; have h0 := rb8.c0; have h1 := rb8.c1; have h2 := rb8.c2; have h3 := rb8.fz; have hl := rb8.lt; have xl8 := hx8.lt; clear hx8 fy ra8 rb8 hC8 hT8) | (go_at_call 50; (with_reducible refine (HAM.out _ ?_ ?_).mono ?_); (first | with_reducible exact HCC.out.ext (ext_trans (ext_alloc _ _) (ext_drew _)) | with_reducible exact HCC.out.ext (ext_trans (ext_drew _) (ext_alloc _ _))); (exact (lit_flo w5 [1, 2, 3, 4] _ _ rfl).ext (ext_drew _)); rintro e w7q ⟨_, rfl, ⟨qy, hqy, rfl⟩, hC7, hT7⟩; (have hqy4 : 1 ≤ qy ∧ qy ≤ 4 := (by simp only [List.mem_cons, List.mem_nil_iff, or_false] at hqy; omega)); (obtain ⟨Q2, rfl⟩ : ∃ Q : Nat, qy = Q := ⟨qy.toNat, (by omega)⟩); have hbq := ext_trans (ext_alloc w5 (.cells #[Value.int .i64 1, Value.int .i64 2, Value.int .i64 3, Value.int .i64 4] 3)) (ext_drew _); have HC7 := Lib.hid hC7; have HX7 := Lib.hid ((HX.out.ext hbq).touch hT7 (.inr hxb)); have HF7 := Lib.hid ((HFX.out.ext hbq).touch hT7 (.inr (by omega))); have HA7 := Lib.hid ((HR0.out.ext hbq).touch hT7 (.inl (by omega))); have HB7 := Lib.hid ((HR1.out.ext hbq).touch hT7 (.inl (by omega))); have HW7 := Lib.hid (hT7.below (ext_trans HBL.out hbq) (by omega)); have hs7 : w5.heap.size ≤ w7q.heap.size := Nat.le_trans hbq.size hT7.size; clear hC7 hT7 hbq hqy)))
    all_goals (go_wp2_with fail)
    all_goals refine bodyPost_ret (v := .tuple #[.agg #[.int .i64 xr, .int .i64 xc, .slice xA m xd], .agg #[.int .i64 yr, .int .i64 yc, .slice yA ys.length yd]]) (by simp [results, Try.results14, go_sem, f0, f1, f2, fl, h0, h1, h2, hl]) rfl ?_
    all_goals rw [HM.out]
    all_goals first
      | exact finTwoN (HF8.out.mono (by omega) (by omega)) (HFY.out.mono (by omega) (Nat.le_refl _)) HW8.out hxl hyl _ _ _ _ _ _
      | exact finTwo (HF8.out.mono (by omega) (by omega)) (HFY.out.mono (by omega) (Nat.le_refl _)) HW8.out hxl hyl _ _ _ _ _ _
end Go.Proofs.Ytjacadkbkkkgfaa
