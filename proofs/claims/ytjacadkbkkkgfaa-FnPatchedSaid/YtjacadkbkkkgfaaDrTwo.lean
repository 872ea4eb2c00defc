/- The draw of two scans. No condition. -/
import Derived.Test.YtjacadkbkkkgfaaDrPut
import Derived.Deep.DeepCutAuto
import Derived.Deep.RegionLaw
namespace Go.Proofs.Ytjacadkbkkkgfaa
open Go.RowKit
set_option linter.unusedVariables false
set_option linter.unusedSimpArgs false

/-- what a draw of two scans hands back -/
def TwoDr (w : World) (e : Ending) (w' : World) : Prop :=
  ∃ (r c : Int) (A : Option Addr) (d : Nat) (xs : List Tile) (r' c' : Int) (B : Option Addr) (d' : Nat) (ys : List Tile), e = .returned (.tuple #[.agg #[.int .i64 r, .int .i64 c, .slice A xs.length d], .agg #[.int .i64 r', .int .i64 c', .slice B ys.length d']]) ∧ xs.length ≤ 40 ∧ ys.length ≤ 40 ∧ FlO Tile.ints 3 w.heap.size w'.heap.size w' A xs ∧ FlO Tile.ints 3 w.heap.size w'.heap.size w' B ys ∧ Below w.heap.size w w'
theorem Var3.tri {w : World} {B : Nat} {a b c : Value} (h : Var3 w B a b c) : w.cell? ⟨B, 0, none⟩ = some a ∧ w.cell? ⟨B, 1, none⟩ = some b ∧ w.cell? ⟨B, 2, none⟩ = some c := ⟨h.c0, h.c1, h.c2⟩
theorem finTwo {w0 w : World} {r c r' c' : Int} {A B : Option Addr} {d d' : Nat} {xs ys : List Tile} (h1 : FlO Tile.ints 3 (w0.heap.size + 2) w.heap.size w A xs) (h2 : FlO Tile.ints 3 (w0.heap.size + 2) w.heap.size w B ys) (hb : Below w0.heap.size w0 w) (hx : xs.length ≤ 40) (hy : ys.length ≤ 40) (x y z x' y' z' : Value) :
    TwoDr w0 (.returned (.tuple #[.agg #[.int .i64 r, .int .i64 c, .slice A xs.length d], .agg #[.int .i64 r', .int .i64 c', .slice B ys.length d']])) (World.drew ((((((w.setCell ⟨w0.heap.size, 0, none⟩ x).setCell ⟨w0.heap.size, 1, none⟩ y).setCell ⟨w0.heap.size, 2, none⟩ z).setCell ⟨w0.heap.size + 1, 0, none⟩ x').setCell ⟨w0.heap.size + 1, 1, none⟩ y').setCell ⟨w0.heap.size + 1, 2, none⟩ z')) := by
  have t1 := set3_touch w w0.heap.size x y z
  have t2 := set3_touch (((w.setCell ⟨w0.heap.size, 0, none⟩ x).setCell ⟨w0.heap.size, 1, none⟩ y).setCell ⟨w0.heap.size, 2, none⟩ z) (w0.heap.size + 1) x' y' z'
  have hs := Nat.le_trans t1.size (Nat.le_trans t2.size (ext_drew _).size)
  exact ⟨r, c, A, d, xs, r', c', B, d', ys, rfl, hx, hy, (((h1.touch t1 (.inr (by omega))).touch t2 (.inr (by omega))).ext (ext_drew _)).mono (by omega) hs, (((h2.touch t1 (.inr (by omega))).touch t2 (.inr (by omega))).ext (ext_drew _)).mono (by omega) hs, (t2.below (t1.below hb (Nat.le_refl _)) (by omega)).drew⟩
theorem finTwoN {w0 w : World} {r c r' c' : Int} {A B : Option Addr} {d d' : Nat} {xs ys : List Tile} (h1 : FlO Tile.ints 3 (w0.heap.size + 2) w.heap.size w A xs) (h2 : FlO Tile.ints 3 (w0.heap.size + 2) w.heap.size w B ys) (hb : Below w0.heap.size w0 w) (hx : xs.length ≤ 40) (hy : ys.length ≤ 40) (x y z x' y' z' : Value) :
    TwoDr w0 (.returned (.tuple #[.agg #[.int .i64 r, .int .i64 c, .slice A xs.length d], .agg #[.int .i64 r', .int .i64 c', .slice B ys.length d']])) ((((((w.setCell ⟨w0.heap.size, 0, none⟩ x).setCell ⟨w0.heap.size, 1, none⟩ y).setCell ⟨w0.heap.size, 2, none⟩ z).setCell ⟨w0.heap.size + 1, 0, none⟩ x').setCell ⟨w0.heap.size + 1, 1, none⟩ y').setCell ⟨w0.heap.size + 1, 2, none⟩ z') := by
  have t1 := set3_touch w w0.heap.size x y z
  have t2 := set3_touch (((w.setCell ⟨w0.heap.size, 0, none⟩ x).setCell ⟨w0.heap.size, 1, none⟩ y).setCell ⟨w0.heap.size, 2, none⟩ z) (w0.heap.size + 1) x' y' z'
  have hs := Nat.le_trans t1.size t2.size
  exact ⟨r, c, A, d, xs, r', c', B, d', ys, rfl, hx, hy, ((h1.touch t1 (.inr (by omega))).touch t2 (.inr (by omega))).mono (by omega) hs, ((h2.touch t1 (.inr (by omega))).touch t2 (.inr (by omega))).mono (by omega) hs, t2.below (t1.below hb (Nat.le_refl _)) (by omega)⟩
set_option maxHeartbeats 16000000 in
set_option maxRecDepth 100000 in
theorem drawOtherTiles_any (A : Option Addr) (n cap : Nat) (w : World) (hA : Bytes w A n) (hn : n ≤ 1099511627776) :
    Calls Try.prog 37 #[.slice A n cap] w (TwoDr w) := by
  obtain ⟨V0, hV0, hB0, hz0, hu0, hf0⟩ := box_world w #[Value.int .i64 0, Value.int .i64 0, Value.slice none 0 0] 26
  have r0 : Var3 V0 w.heap.size (.int .i64 0) (.int .i64 0) (.slice none 0 0) := hV0 ▸ var3_box w _ _ _ _
  have hVs0 : V0.heap.size = w.heap.size + 1 := by rw [← hV0]; simp
  have hE0 := hB0
  obtain ⟨V1, hV1, hB1, hz1, hu1, hf1⟩ := box_world V0 #[Value.int .i64 0, Value.int .i64 0, Value.slice none 0 0] 26
  have r1 : Var3 V1 V0.heap.size (.int .i64 0) (.int .i64 0) (.slice none 0 0) := hV1 ▸ var3_box V0 _ _ _ _
  have hVs1 : V1.heap.size = w.heap.size + 2 := by rw [← hV1]; simp [hVs0]
  replace r0 := r0.ext hB1
  have hE1 := ext_trans hE0 hB1
  obtain ⟨V2, hV2, hB2, hz2, hu2, hf2⟩ := box_world V1 #[Value.slice A n cap, .int .i64 0, .int .u64 0] 70
  have hC : CurAt V1.heap.size A n cap 0 V2 := hV2 ▸ CurAt.start (hA.ext hE1) cap _
  replace r0 := r0.ext hB2
  replace r1 := r1.ext hB2
  have hB := ext_trans hE1 hB2
  obtain ⟨g, hg⟩ : ∃ g, g = V1.heap.size := ⟨_, rfl⟩
  rw [← hg] at hC
  have hgw : w.heap.size + 2 = g := by rw [hg, hVs1]
  have HG := Lib.hid hg
  clear hg hA hu0 hf0 hu1 hf1 hu2 hf2
  have HVS0 := Lib.hid hVs0
  have hVa0 : V0.heap.size ≤ w.heap.size + 1 := by omega
  have hVb0 : w.heap.size + 1 ≤ V0.heap.size := by omega
  have HVS1 := Lib.hid hVs1
  have hVa1 : V1.heap.size ≤ w.heap.size + 2 := by omega
  have hVb1 : w.heap.size + 2 ≤ V1.heap.size := by omega
  have hgx : w.heap.size + 2 ≤ g := by omega
  have hgy : g ≤ w.heap.size + 2 := by omega
  clear hgw hVs0 hVs1
  have hzg : g < V2.heap.size := hC.lt
  go_enter Try.func37, Try.ntmps37
  have HN1 := Lib.hid (size17_any g A n cap _ V2 hC (by omega) hn)
  clear hC
  go_wp2_with fail
  rw [← HG.out]
  clear hV0 hV1 hV2
  ((with_reducible refine (HN1.out).mono ?_); rintro e w1 ⟨_, rfl, ⟨z1, rfl, hy1, hx1⟩, hC, hT1⟩)
  replace r0 := r0.touch hT1 (by omega)
  replace r1 := r1.touch hT1 (by omega)
  replace hB := hT1.below hB (by omega)
  have hz_w1 : V2.heap.size ≤ w1.heap.size := hT1.size
  clear hT1
  obtain ⟨R, rfl⟩ : ∃ R : Nat, z1 = R := ⟨z1.toNat, by omega⟩
  have HN2 := Lib.hid (size17_any g A n cap _ w1 hC (by omega) hn)
  clear hC
  go_wp2_with fail
  ((with_reducible refine (HN2.out).mono ?_); rintro e w2 ⟨_, rfl, ⟨z2, rfl, hy2, hx2⟩, hC, hT2⟩)
  replace r0 := r0.touch hT2 (by omega)
  replace r1 := r1.touch hT2 (by omega)
  replace hB := hT2.below hB (by omega)
  have hz_w2 : w1.heap.size ≤ w2.heap.size := hT2.size
  clear hT2
  obtain ⟨Q, rfl⟩ : ∃ R : Nat, z2 = R := ⟨z2.toNat, by omega⟩
  have HN3 := Lib.hid (scan17_any R Q (by omega) (by omega) g A n cap _ w2 hC (by omega) hn)
  clear hC
  go_wp2_with fail
  ((with_reducible refine (HN3.out).mono ?_); rintro e w3 ⟨xr, xc, xA, xd, xs, rfl, hxl, fx, hC, hT3⟩)
  replace r0 := r0.touch hT3 (by omega)
  replace r1 := r1.touch hT3 (by omega)
  replace hB := hT3.below hB (by omega)
  have hz_w3 : w2.heap.size ≤ w3.heap.size := hT3.size
  clear hT3
  obtain ⟨Bx, hVBx, hbBx, hzBx, huBx, hfBx⟩ := box_world w3 #[Value.int .i64 xr, .int .i64 xc, .slice xA xs.length xd] 26
  have vx : Var3 Bx w3.heap.size (.int .i64 xr) (.int .i64 xc) (.slice xA xs.length xd) := hVBx ▸ var3_box w3 _ _ _ _
  replace r0 := r0.ext hbBx
  replace r1 := r1.ext hbBx
  replace fx := fx.ext hbBx
  replace hC := hC.ext hbBx
  replace hB := ext_trans hB hbBx
  clear huBx hfBx
  have HN4 := Lib.hid (one_any 8 g A n cap _ Bx hC (by omega) hn)
  clear hC
  go_wp2_with fail
  clear hVBx
  ((with_reducible refine (HN4.out).mono ?_); rintro e w4 ⟨_, rfl, ⟨b4, rfl⟩, hC, hT4⟩)
  replace r0 := r0.touch hT4 (by omega)
  replace r1 := r1.touch hT4 (by omega)
  replace fx := fx.touch hT4 (by omega)
  replace vx := vx.touch hT4 (by omega)
  replace hB := hT4.below hB (by omega)
  have hz_w4 : Bx.heap.size ≤ w4.heap.size := hT4.size
  clear hT4
  replace hC := hC.mono (show _ ≤ 500 by omega)
  go_upto_if 21 with fail
  go_cut [5] (fun r wx => ∃ R9 : Nat, r = .int .i64 (R9 : Int) ∧ R9 ≤ 6 ∧ CurAt g A n cap (500 + 2) wx ∧ Touch g (g + 1) w4 wx)
  case first =>
    have HNq := Lib.hid (size17_any g A n cap _ w4 hC (by omega) hn)
    have HCq := Lib.hid hC
    clear hC
    cases b4
    · go_wp2
      go_meet
      exact ⟨R, rfl, by omega, HCq.out.mono (by omega), Touch.refl _ _ _⟩
    · go_wp2_with fail
      ((with_reducible refine (HNq.out).mono ?_); rintro e wq ⟨_, rfl, ⟨zq, rfl, hq1, hq6⟩, hCq, hTq⟩)
      obtain ⟨Rq, rfl⟩ : ∃ R : Nat, zq = R := ⟨zq.toNat, by omega⟩
      have HC9 := Lib.hid hCq
      have HT9 := Lib.hid hTq
      clear hCq hTq
      go_wp2_with fail
      go_meet
      exact ⟨Rq, rfl, by omega, HC9.out, HT9.out⟩
  case rest =>
    obtain ⟨R2, rfl, hR26, hC, hT5⟩ := hcut
    obtain ⟨w5, hwz5⟩ : ∃ z, z = wc := ⟨_, rfl⟩
    subst hwz5
    replace r0 := r0.touch hT5 (by omega)
    replace r1 := r1.touch hT5 (by omega)
    replace fx := fx.touch hT5 (by omega)
    replace vx := vx.touch hT5 (by omega)
    replace hB := hT5.below hB (by omega)
    have hz_w5 : w4.heap.size ≤ w5.heap.size := hT5.size
    clear hT5
    have HN6 := Lib.hid (one_any 8 g A n cap _ w5 hC (by omega) hn)
    clear hC
    go_wp2_with fail
    ((with_reducible refine (HN6.out).mono ?_); rintro e w6 ⟨_, rfl, ⟨b6, rfl⟩, hC, hT6⟩)
    replace r0 := r0.touch hT6 (by omega)
    replace r1 := r1.touch hT6 (by omega)
    replace fx := fx.touch hT6 (by omega)
    replace vx := vx.touch hT6 (by omega)
    replace hB := hT6.below hB (by omega)
    have hz_w6 : w5.heap.size ≤ w6.heap.size := hT6.size
    clear hT6
    replace hC := hC.mono (show _ ≤ 600 by omega)
    go_upto_if 25 with fail
    go_cut [6] (fun r wx => ∃ R9 : Nat, r = .int .i64 (R9 : Int) ∧ R9 ≤ 6 ∧ CurAt g A n cap (600 + 2) wx ∧ Touch g (g + 1) w6 wx)
    case first =>
      have HNq := Lib.hid (size17_any g A n cap _ w6 hC (by omega) hn)
      have HCq := Lib.hid hC
      clear hC
      cases b6
      · go_wp2
        go_meet
        exact ⟨Q, rfl, by omega, HCq.out.mono (by omega), Touch.refl _ _ _⟩
      · go_wp2_with fail
        ((with_reducible refine (HNq.out).mono ?_); rintro e wq ⟨_, rfl, ⟨zq, rfl, hq1, hq6⟩, hCq, hTq⟩)
        obtain ⟨Rq, rfl⟩ : ∃ R : Nat, zq = R := ⟨zq.toNat, by omega⟩
        have HC9 := Lib.hid hCq
        have HT9 := Lib.hid hTq
        clear hCq hTq
        go_wp2_with fail
        go_meet
        exact ⟨Rq, rfl, by omega, HC9.out, HT9.out⟩
    case rest =>
      obtain ⟨Q2, rfl, hQ26, hC, hT7⟩ := hcut
      obtain ⟨w7, hwz7⟩ : ∃ z, z = wc := ⟨_, rfl⟩
      subst hwz7
      replace r0 := r0.touch hT7 (by omega)
      replace r1 := r1.touch hT7 (by omega)
      replace fx := fx.touch hT7 (by omega)
      replace vx := vx.touch hT7 (by omega)
      replace hB := hT7.below hB (by omega)
      have hz_w7 : w6.heap.size ≤ w7.heap.size := hT7.size
      clear hT7
      have HN8 := Lib.hid (scan17_any R2 Q2 (by omega) (by omega) g A n cap _ w7 hC (by omega) hn)
      clear hC
      go_wp2_with fail
      ((with_reducible refine (HN8.out).mono ?_); rintro e w8 ⟨yr, yc, yA, yd, ys, rfl, hyl, fy, hC, hT8⟩)
      replace r0 := r0.touch hT8 (by omega)
      replace r1 := r1.touch hT8 (by omega)
      replace fx := fx.touch hT8 (by omega)
      replace vx := vx.touch hT8 (by omega)
      replace hB := hT8.below hB (by omega)
      have hz_w8 : w7.heap.size ≤ w8.heap.size := hT8.size
      clear hT8
      obtain ⟨By, hVBy, hbBy, hzBy, huBy, hfBy⟩ := box_world w8 #[Value.int .i64 yr, .int .i64 yc, .slice yA ys.length yd] 26
      have vy : Var3 By w8.heap.size (.int .i64 yr) (.int .i64 yc) (.slice yA ys.length yd) := hVBy ▸ var3_box w8 _ _ _ _
      replace r0 := r0.ext hbBy
      replace r1 := r1.ext hbBy
      replace fx := fx.ext hbBy
      replace vx := vx.ext hbBy
      replace fy := fy.ext hbBy
      replace hC := hC.ext hbBy
      replace hB := ext_trans hB hbBy
      clear huBy hfBy
      have HN9 := Lib.hid (one_any 4 g A n cap _ By hC (by omega) hn)
      clear hC
      go_wp2_with fail
      clear hVBy
      ((with_reducible refine (HN9.out).mono ?_); rintro e w9 ⟨_, rfl, ⟨b9, rfl⟩, hC, hT9⟩)
      replace r0 := r0.touch hT9 (by omega)
      replace r1 := r1.touch hT9 (by omega)
      replace fx := fx.touch hT9 (by omega)
      replace vx := vx.touch hT9 (by omega)
      replace fy := fy.touch hT9 (by omega)
      replace vy := vy.touch hT9 (by omega)
      replace hB := hT9.below hB (by omega)
      have hz_w9 : By.heap.size ≤ w9.heap.size := hT9.size
      clear hT9
      go_upto_if 33 with fail
      go_cut [] (fun wx => ∃ (r' c' : Int) (S' : Option Addr) (d' : Nat) (zs : List Tile) (lo hi : Nat), zs.length ≤ 40 ∧ Var3 wx w8.heap.size (.int .i64 r') (.int .i64 c') (.slice S' zs.length d') ∧ FlO Tile.ints 3 lo hi wx S' zs ∧ g + 1 ≤ lo ∧ hi ≤ wx.heap.size ∧ Touch w8.heap.size (w8.heap.size + 1) w9 wx)
      case first =>
        clear hC
        cases b9
        · go_wp2
          go_meet
          exact ⟨yr, yc, yA, yd, ys, _, _, hyl, vy, fy, by omega, by omega, Touch.refl _ _ _⟩
        · obtain ⟨i0, hi, hz0e, hz1e, hz2e⟩ := info_parts infoTile
          obtain ⟨m, hm⟩ : ∃ z, z = xs.length := ⟨_, rfl⟩
          rw [← hm] at vx
          have x0 := vx.c0
          have x1 := vx.c1
          have x2 := vx.c2
          have xl := vx.lt
          have y0 := vy.c0
          have y1 := vy.c1
          have y2 := vy.c2
          have yz := vy.fz
          have yl := vy.lt
          have HFX := Lib.hid fx
          have HVY := Lib.hid vy
          have HVX := Lib.hid vx
          have HM := Lib.hid hm
          have HXL := Lib.hid hxl
          clear fx vy hm hxl fy vx r0 r1 hB
          go_wp2_with fail
          go_region_held3 (fun w' => World.cell? w' ⟨w3.heap.size, 0, none⟩ = some (.int .i64 xr) ∧ World.cell? w' ⟨w3.heap.size, 1, none⟩ = some (.int .i64 xc) ∧ World.cell? w' ⟨w3.heap.size, 2, none⟩ = some (.slice xA m xd)) (first | with_reducible exact (HVX.out.ext (ext_drew _)).tri | with_reducible exact ((HVX.out.ext (ext_alloc _ _)).ext (ext_drew _)).tri | with_reducible exact ((HVX.out.ext (ext_drew _)).ext (ext_alloc _ _)).tri | with_reducible exact HX6.out.tri | (with_reducible refine (HX6.out.touch (set3_touch _ _ _ _ _) ?_).tri; omega)) ((first | (refine step_append_all (f := Tile.ints) rfl (.tmp 38) (.tmp 40) 24 rfl w9.heap.size i0 _ 3 24 Try.underlying24 hi hz0e hz1e hz2e rfl (by decide) (.slice (some ⟨w9.heap.size, 0, none⟩) 0 0) ([] : List Tile) rfl ?_ xA xd xs ?_ ?_ (fun _ => rfl) ?_ (by decide) ?_ ?_; (first | with_reducible exact (OwnF.empty (Nat.le_refl _)).ext (ext_drew _) | with_reducible exact OwnF.empty (Nat.le_refl _)); (rw [← HM.out]; rfl); (first | with_reducible exact (HFX.out.ext (ext_trans (ext_alloc _ _) (ext_drew _))).fl | with_reducible exact (HFX.out.ext (ext_trans (ext_drew _) (ext_alloc _ _))).fl); (have h9 := HXL.out; simp; omega); (simp); intro v6 w6 hown6 hg6 hb6; simp only [List.nil_append] at hown6; (obtain ⟨A9, c9, hv9, hF9⟩ := hown6.form Tile.ints_length); rw [← HM.out] at hv9; subst hv9; (first | with_reducible have hbz := (ext_trans (ext_alloc w9 _) (ext_drew _)).trans hb6 | with_reducible have hbz := (ext_trans (ext_drew w9) (ext_alloc _ _)).trans hb6); have y6 := HVY.out.below hbz yl; have q0 := y6.c0; have q1 := y6.c1; have q2 := y6.c2; have qz := y6.fz; have ql := y6.lt; have x6 := HVX.out.below hbz xl; have p0 := x6.c0; have p1 := x6.c1; have p2 := x6.c2; have HX6 := Lib.hid x6; clear x6; have HBZ := Lib.hid hbz; have HF9 := Lib.hid hF9; have HY6 := Lib.hid y6; clear hown6 hb6 hbz hF9 y6 hg6)))
          all_goals (go_wp2_with fail)
          all_goals go_meet
          all_goals exact ⟨_, _, A9, c9, xs, _, _, HXL.out, by rw [← HM.out]; exact HY6.out.set3 _ _ _, HF9.out.touch (set3_touch _ _ _ _ _) (.inr (by omega)), by omega, by simp [setCell_size], (Touch.of_ext HBZ.out).trans (set3_touch _ _ _ _ _)⟩
      case rest =>
        obtain ⟨zr, zc, zA, zd, zs, zlo, zhi, hzl, vz, fz, hzlo, hzhi, hTz⟩ := hcut
        obtain ⟨wz, hwz⟩ : ∃ z, z = wc := ⟨_, rfl⟩
        subst hwz
        replace r0 := r0.touch hTz (by omega)
        replace r1 := r1.touch hTz (by omega)
        replace fx := fx.touch hTz (by omega)
        replace vx := vx.touch hTz (by omega)
        replace hB := hTz.below hB (by omega)
        have hzz := hTz.size
        rw [HVS0.out] at r1 ⊢
        have x0 := vx.c0
        have x1 := vx.c1
        have x2 := vx.c2
        have xl := vx.lt
        have y0 := vz.c0
        have y1 := vz.c1
        have y2 := vz.c2
        have yl := vz.lt
        have f0 := r0.c0
        have f1 := r0.c1
        have f2 := r0.c2
        have f3 := r0.fz
        have fl := r0.lt
        have h0 := r1.c0
        have h1 := r1.c1
        have h2 := r1.c2
        have h3 := r1.fz
        have hl := r1.lt
        have HFX := Lib.hid (fx.mono (show w.heap.size + 2 ≤ _ by omega) (show _ ≤ wz.heap.size by omega))
        have HFZ := Lib.hid (fz.mono (show w.heap.size + 2 ≤ _ by omega) hzhi)
        have HB := Lib.hid hB
        clear vx vz r0 r1 fx fz hB fy vy hTz hC
        go_wp2_with fail
        go_region
        all_goals (go_wp2_with fail)
        all_goals refine bodyPost_ret (v := .tuple #[.agg #[.int .i64 xr, .int .i64 xc, .slice xA xs.length xd], .agg #[.int .i64 zr, .int .i64 zc, .slice zA zs.length zd]]) (by simp [results, Try.results37, go_sem, f0, f1, f2, fl, h0, h1, h2, hl]) rfl (finTwo HFX.out HFZ.out HB.out hxl hzl _ _ _ _ _ _)
end Go.Proofs.Ytjacadkbkkkgfaa
