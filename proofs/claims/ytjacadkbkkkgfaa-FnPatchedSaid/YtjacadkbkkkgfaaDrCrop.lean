/- The draw of a scan and a part of it. No condition. -/
import Derived.Test.YtjacadkbkkkgfaaDrTwo
namespace Go.Proofs.Ytjacadkbkkkgfaa
open Go.RowKit
set_option linter.unusedVariables false
set_option linter.unusedSimpArgs false

/-- what DrawCropScan hands back -/
def CropDr (w : World) (e : Ending) (w' : World) : Prop :=
  ∃ (r c : Int) (A : Option Addr) (d : Nat) (xs : List Tile) (a b p q : Int), e = .returned (.tuple #[.agg #[.int .i64 r, .int .i64 c, .slice A xs.length d], .int .i64 a, .int .i64 b, .int .i64 p, .int .i64 q]) ∧ xs.length ≤ 40 ∧ FlO Tile.ints 3 w.heap.size w'.heap.size w' A xs ∧ Below w.heap.size w w'
theorem finCrop {w0 w : World} {r c : Int} {A : Option Addr} {d : Nat} {xs : List Tile} (h1 : FlO Tile.ints 3 (w0.heap.size + 1) w.heap.size w A xs) (hb : Below w0.heap.size w0 w) (hx : xs.length ≤ 40) (x y z : Value) (a b p q : Int) :
    CropDr w0 (.returned (.tuple #[.agg #[.int .i64 r, .int .i64 c, .slice A xs.length d], .int .i64 a, .int .i64 b, .int .i64 p, .int .i64 q])) (((w.setCell ⟨w0.heap.size, 0, none⟩ x).setCell ⟨w0.heap.size, 1, none⟩ y).setCell ⟨w0.heap.size, 2, none⟩ z) := by
  have t1 := set3_touch w w0.heap.size x y z
  exact ⟨r, c, A, d, xs, a, b, p, q, rfl, hx, (h1.touch t1 (.inr (by omega))).mono (by omega) t1.size, t1.below hb (Nat.le_refl _)⟩
set_option maxHeartbeats 16000000 in
set_option maxRecDepth 100000 in
theorem drawCropScan_any (A : Option Addr) (n cap : Nat) (w : World) (hA : Bytes w A n) (hn : n ≤ 1099511627776) :
    Calls Try.prog 18 #[.slice A n cap] w (CropDr w) := by
  obtain ⟨V0, hV0, hB0, hz0, hu0, hf0⟩ := box_world w #[Value.int .i64 0, Value.int .i64 0, Value.slice none 0 0] 26
  have r0 : Var3 V0 w.heap.size (.int .i64 0) (.int .i64 0) (.slice none 0 0) := hV0 ▸ var3_box w _ _ _ _
  have hVs0 : V0.heap.size = w.heap.size + 1 := by rw [← hV0]; simp
  have hE0 := hB0
  obtain ⟨V1, hV1, hB1, hz1, hu1, hf1⟩ := box_world V0 #[Value.slice A n cap, .int .i64 0, .int .u64 0] 70
  have hC : CurAt V0.heap.size A n cap 0 V1 := hV1 ▸ CurAt.start (hA.ext hE0) cap _
  replace r0 := r0.ext hB1
  have hB := ext_trans hE0 hB1
  obtain ⟨g, hg⟩ : ∃ g, g = V0.heap.size := ⟨_, rfl⟩
  rw [← hg] at hC
  have hgw : w.heap.size + 1 = g := by rw [hg, hVs0]
  have HG := Lib.hid hg
  clear hg hA hu0 hf0 hu1 hf1
  have HVS0 := Lib.hid hVs0
  have hVa0 : V0.heap.size ≤ w.heap.size + 1 := by omega
  have hVb0 : w.heap.size + 1 ≤ V0.heap.size := by omega
  have hgx : w.heap.size + 1 ≤ g := by omega
  have hgy : g ≤ w.heap.size + 1 := by omega
  clear hgw hVs0
  have hzg : g < V1.heap.size := hC.lt
  go_enter Try.func18, Try.ntmps18
  have HN1 := Lib.hid (size17_any g A n cap _ V1 hC (by omega) hn)
  clear hC
  go_wp2_with fail
  rw [← HG.out]
  clear hV0 hV1
  ((with_reducible refine (HN1.out).mono ?_); rintro e w1 ⟨_, rfl, ⟨z1, rfl, hy1, hx1⟩, hC, hT1⟩)
  replace r0 := r0.touch hT1 (by omega)
  replace hB := hT1.below hB (by omega)
  have hz_w1 : V1.heap.size ≤ w1.heap.size := hT1.size
  clear hT1
  obtain ⟨R, rfl⟩ : ∃ R : Nat, z1 = R := ⟨z1.toNat, by omega⟩
  have HN2 := Lib.hid (size17_any g A n cap _ w1 hC (by omega) hn)
  clear hC
  go_wp2_with fail
  ((with_reducible refine (HN2.out).mono ?_); rintro e w2 ⟨_, rfl, ⟨z2, rfl, hy2, hx2⟩, hC, hT2⟩)
  replace r0 := r0.touch hT2 (by omega)
  replace hB := hT2.below hB (by omega)
  have hz_w2 : w1.heap.size ≤ w2.heap.size := hT2.size
  clear hT2
  obtain ⟨Q, rfl⟩ : ∃ R : Nat, z2 = R := ⟨z2.toNat, by omega⟩
  have HN3 := Lib.hid (scan17_any R Q (by omega) (by omega) g A n cap _ w2 hC (by omega) hn)
  clear hC
  go_wp2_with fail
  ((with_reducible refine (HN3.out).mono ?_); rintro e w3 ⟨xr, xc, xA, xd, xs, rfl, hxl, fx, hC, hT3⟩)
  replace r0 := r0.touch hT3 (by omega)
  replace hB := hT3.below hB (by omega)
  have hz_w3 : w2.heap.size ≤ w3.heap.size := hT3.size
  clear hT3
  obtain ⟨Bx, hVBx, hbBx, hzBx, huBx, hfBx⟩ := box_world w3 #[Value.int .i64 xr, .int .i64 xc, .slice xA xs.length xd] 26
  have vx : Var3 Bx w3.heap.size (.int .i64 xr) (.int .i64 xc) (.slice xA xs.length xd) := hVBx ▸ var3_box w3 _ _ _ _
  replace r0 := r0.ext hbBx
  replace fx := fx.ext hbBx
  replace hC := hC.ext hbBx
  replace hB := ext_trans hB hbBx
  clear huBx hfBx
  have HN4 := Lib.hid (fun m : Int => pick_any m g A n cap _ Bx hC (by omega) hn)
  clear hC
  go_wp2_with fail
  clear hVBx
  ((with_reducible refine (HN4.out _).mono ?_); rintro e w4 ⟨_, rfl, ⟨p1, rfl, _, _⟩, hC, hT4⟩)
  replace r0 := r0.touch hT4 (by omega)
  replace fx := fx.touch hT4 (by omega)
  replace vx := vx.touch hT4 (by omega)
  replace hB := hT4.below hB (by omega)
  have hz_w4 : Bx.heap.size ≤ w4.heap.size := hT4.size
  clear hT4
  have HN5 := Lib.hid (fun m : Int => pick_any m g A n cap _ w4 hC (by omega) hn)
  clear hC
  go_wp2_with fail
  ((with_reducible refine (HN5.out _).mono ?_); rintro e w5 ⟨_, rfl, ⟨p2, rfl, _, _⟩, hC, hT5⟩)
  replace r0 := r0.touch hT5 (by omega)
  replace fx := fx.touch hT5 (by omega)
  replace vx := vx.touch hT5 (by omega)
  replace hB := hT5.below hB (by omega)
  have hz_w5 : w4.heap.size ≤ w5.heap.size := hT5.size
  clear hT5
  have HN6 := Lib.hid (fun m : Int => pick_any m g A n cap _ w5 hC (by omega) hn)
  clear hC
  go_wp2_with fail
  ((with_reducible refine (HN6.out _).mono ?_); rintro e w6 ⟨_, rfl, ⟨p3, rfl, _, _⟩, hC, hT6⟩)
  replace r0 := r0.touch hT6 (by omega)
  replace fx := fx.touch hT6 (by omega)
  replace vx := vx.touch hT6 (by omega)
  replace hB := hT6.below hB (by omega)
  have hz_w6 : w5.heap.size ≤ w6.heap.size := hT6.size
  clear hT6
  have HN7 := Lib.hid (fun m : Int => pick_any m g A n cap _ w6 hC (by omega) hn)
  clear hC
  go_wp2_with fail
  ((with_reducible refine (HN7.out _).mono ?_); rintro e w7 ⟨_, rfl, ⟨p4, rfl, _, _⟩, hC, hT7⟩)
  replace r0 := r0.touch hT7 (by omega)
  replace fx := fx.touch hT7 (by omega)
  replace vx := vx.touch hT7 (by omega)
  replace hB := hT7.below hB (by omega)
  have hz_w7 : w6.heap.size ≤ w7.heap.size := hT7.size
  clear hT7
  have HN8 := Lib.hid (fun m : Int => pick_any m g A n cap _ w7 hC (by omega) hn)
  clear hC
  go_wp2_with fail
  ((with_reducible refine (HN8.out _).mono ?_); rintro e w8 ⟨_, rfl, ⟨p5, rfl, _, _⟩, hC, hT8⟩)
  replace r0 := r0.touch hT8 (by omega)
  replace fx := fx.touch hT8 (by omega)
  replace vx := vx.touch hT8 (by omega)
  replace hB := hT8.below hB (by omega)
  have hz_w8 : w7.heap.size ≤ w8.heap.size := hT8.size
  clear hT8
  replace hC := hC.mono (show _ ≤ 900 by omega)
  obtain ⟨m, hm⟩ : ∃ z, z = xs.length := ⟨_, rfl⟩
  have HM := Lib.hid hm
  rw [← hm]
  clear hm
  by_cases h10 : p5 = 0
  · subst h10
    have hlt9 : g < w8.heap.size := hC.lt
    have HAM := Lib.hid (fun v : Int => among_any (some ⟨w8.heap.size, 0, none⟩) 2 2 [-1, v] rfl w8.heap.size (w8.heap.size + 1) g A n cap _ (w8.alloc (.cells #[Value.int .i64 (-1), Value.int .i64 v] 3)) (hC.ext (ext_alloc _ _)) (by omega) hn (lit_flo w8 [-1, v] _ _ rfl) (by simp) (by simp) (.inl hlt9))
    clear hC
    go_wp2_with fail
    ((with_reducible refine (HAM.out _).mono ?_); rintro e w9 ⟨_, rfl, ⟨q9, hq9, rfl⟩, hC, hT9⟩)
    replace hT9 := (Touch.of_ext (ext_alloc _ _)).trans hT9
    replace r0 := r0.touch hT9 (by omega)
    replace fx := fx.touch hT9 (by omega)
    replace vx := vx.touch hT9 (by omega)
    replace hB := hT9.below hB (by omega)
    have hz_w9 : w8.heap.size ≤ w9.heap.size := hT9.size
    clear hT9 hq9
    rw [← HM.out] at vx
    have x0 := vx.c0
    have x1 := vx.c1
    have x2 := vx.c2
    have xl := vx.lt
    have f0 := r0.c0
    have f1 := r0.c1
    have f2 := r0.c2
    have f3 := r0.fz
    have fl := r0.lt
    have HFX := Lib.hid (fx.mono (show w.heap.size + 1 ≤ _ by omega) (show _ ≤ (World.heap w9).size by omega))
    have HBB := Lib.hid hB
    clear vx r0 fx hB hC
    go_wp2
    refine bodyPost_ret (v := .tuple #[.agg #[.int .i64 xr, .int .i64 xc, .slice xA m xd], _, _, _, _]) (by simp [results, Try.results18, go_sem, f0, f1, f2, fl]; exact ⟨rfl, rfl, rfl, rfl⟩) rfl ?_
    rw [HM.out]
    exact finCrop HFX.out HBB.out hxl _ _ _ _ _ _ _
  · have i0 : (p5 == 0) = false := by simp [h10]
    by_cases h11 : p5 = 1
    · subst h11
      have hlt9 : g < w8.heap.size := hC.lt
      have HAM := Lib.hid (fun v : Int => among_any (some ⟨w8.heap.size, 0, none⟩) 2 2 [-1, v] rfl w8.heap.size (w8.heap.size + 1) g A n cap _ (w8.alloc (.cells #[Value.int .i64 (-1), Value.int .i64 v] 3)) (hC.ext (ext_alloc _ _)) (by omega) hn (lit_flo w8 [-1, v] _ _ rfl) (by simp) (by simp) (.inl hlt9))
      clear hC
      go_wp2_with fail
      ((with_reducible refine (HAM.out _).mono ?_); rintro e w9 ⟨_, rfl, ⟨q9, hq9, rfl⟩, hC, hT9⟩)
      replace hT9 := (Touch.of_ext (ext_alloc _ _)).trans hT9
      replace r0 := r0.touch hT9 (by omega)
      replace fx := fx.touch hT9 (by omega)
      replace vx := vx.touch hT9 (by omega)
      replace hB := hT9.below hB (by omega)
      have hz_w9 : w8.heap.size ≤ w9.heap.size := hT9.size
      clear hT9 hq9
      rw [← HM.out] at vx
      have x0 := vx.c0
      have x1 := vx.c1
      have x2 := vx.c2
      have xl := vx.lt
      have f0 := r0.c0
      have f1 := r0.c1
      have f2 := r0.c2
      have f3 := r0.fz
      have fl := r0.lt
      have HFX := Lib.hid (fx.mono (show w.heap.size + 1 ≤ _ by omega) (show _ ≤ (World.heap w9).size by omega))
      have HBB := Lib.hid hB
      clear vx r0 fx hB hC
      go_wp2
      refine bodyPost_ret (v := .tuple #[.agg #[.int .i64 xr, .int .i64 xc, .slice xA m xd], _, _, _, _]) (by simp [results, Try.results18, go_sem, f0, f1, f2, fl]; exact ⟨rfl, rfl, rfl, rfl⟩) rfl ?_
      rw [HM.out]
      exact finCrop HFX.out HBB.out hxl _ _ _ _ _ _ _
    · have i1 : (p5 == 1) = false := by simp [h11]
      by_cases h12 : p5 = 2
      · subst h12
        have hlt9 : g < w8.heap.size := hC.lt
        have HAM := Lib.hid (fun v : Int => among_any (some ⟨w8.heap.size, 0, none⟩) 2 2 [0, v] rfl w8.heap.size (w8.heap.size + 1) g A n cap _ (w8.alloc (.cells #[Value.int .i64 (0), Value.int .i64 v] 3)) (hC.ext (ext_alloc _ _)) (by omega) hn (lit_flo w8 [0, v] _ _ rfl) (by simp) (by simp) (.inl hlt9))
        clear hC
        go_wp2_with fail
        ((with_reducible refine (HAM.out _).mono ?_); rintro e w9 ⟨_, rfl, ⟨q9, hq9, rfl⟩, hC, hT9⟩)
        replace hT9 := (Touch.of_ext (ext_alloc _ _)).trans hT9
        replace r0 := r0.touch hT9 (by omega)
        replace fx := fx.touch hT9 (by omega)
        replace vx := vx.touch hT9 (by omega)
        replace hB := hT9.below hB (by omega)
        have hz_w9 : w8.heap.size ≤ w9.heap.size := hT9.size
        clear hT9 hq9
        rw [← HM.out] at vx
        have x0 := vx.c0
        have x1 := vx.c1
        have x2 := vx.c2
        have xl := vx.lt
        have f0 := r0.c0
        have f1 := r0.c1
        have f2 := r0.c2
        have f3 := r0.fz
        have fl := r0.lt
        have HFX := Lib.hid (fx.mono (show w.heap.size + 1 ≤ _ by omega) (show _ ≤ (World.heap w9).size by omega))
        have HBB := Lib.hid hB
        clear vx r0 fx hB hC
        go_wp2
        refine bodyPost_ret (v := .tuple #[.agg #[.int .i64 xr, .int .i64 xc, .slice xA m xd], _, _, _, _]) (by simp [results, Try.results18, go_sem, f0, f1, f2, fl]; exact ⟨rfl, rfl, rfl, rfl⟩) rfl ?_
        rw [HM.out]
        exact finCrop HFX.out HBB.out hxl _ _ _ _ _ _ _
      · have i2 : (p5 == 2) = false := by simp [h12]
        by_cases h13 : p5 = 3
        · subst h13
          have hlt9 : g < w8.heap.size := hC.lt
          have HAM := Lib.hid (fun v : Int => among_any (some ⟨w8.heap.size, 0, none⟩) 2 2 [0, v] rfl w8.heap.size (w8.heap.size + 1) g A n cap _ (w8.alloc (.cells #[Value.int .i64 (0), Value.int .i64 v] 3)) (hC.ext (ext_alloc _ _)) (by omega) hn (lit_flo w8 [0, v] _ _ rfl) (by simp) (by simp) (.inl hlt9))
          clear hC
          go_wp2_with fail
          ((with_reducible refine (HAM.out _).mono ?_); rintro e w9 ⟨_, rfl, ⟨q9, hq9, rfl⟩, hC, hT9⟩)
          replace hT9 := (Touch.of_ext (ext_alloc _ _)).trans hT9
          replace r0 := r0.touch hT9 (by omega)
          replace fx := fx.touch hT9 (by omega)
          replace vx := vx.touch hT9 (by omega)
          replace hB := hT9.below hB (by omega)
          have hz_w9 : w8.heap.size ≤ w9.heap.size := hT9.size
          clear hT9 hq9
          rw [← HM.out] at vx
          have x0 := vx.c0
          have x1 := vx.c1
          have x2 := vx.c2
          have xl := vx.lt
          have f0 := r0.c0
          have f1 := r0.c1
          have f2 := r0.c2
          have f3 := r0.fz
          have fl := r0.lt
          have HFX := Lib.hid (fx.mono (show w.heap.size + 1 ≤ _ by omega) (show _ ≤ (World.heap w9).size by omega))
          have HBB := Lib.hid hB
          clear vx r0 fx hB hC
          go_wp2
          refine bodyPost_ret (v := .tuple #[.agg #[.int .i64 xr, .int .i64 xc, .slice xA m xd], _, _, _, _]) (by simp [results, Try.results18, go_sem, f0, f1, f2, fl]; exact ⟨rfl, rfl, rfl, rfl⟩) rfl ?_
          rw [HM.out]
          exact finCrop HFX.out HBB.out hxl _ _ _ _ _ _ _
        · have i3 : (p5 == 3) = false := by simp [h13]
          rw [← HM.out] at vx
          have x0 := vx.c0
          have x1 := vx.c1
          have x2 := vx.c2
          have xl := vx.lt
          have f0 := r0.c0
          have f1 := r0.c1
          have f2 := r0.c2
          have f3 := r0.fz
          have fl := r0.lt
          have HFX := Lib.hid (fx.mono (show w.heap.size + 1 ≤ _ by omega) (show _ ≤ (World.heap w8).size by omega))
          have HBB := Lib.hid hB
          clear vx r0 fx hB hC
          go_wp2
          refine bodyPost_ret (v := .tuple #[.agg #[.int .i64 xr, .int .i64 xc, .slice xA m xd], _, _, _, _]) (by simp [results, Try.results18, go_sem, f0, f1, f2, fl]; exact ⟨rfl, rfl, rfl, rfl⟩) rfl ?_
          rw [HM.out]
          exact finCrop HFX.out HBB.out hxl _ _ _ _ _ _ _
end Go.Proofs.Ytjacadkbkkkgfaa
