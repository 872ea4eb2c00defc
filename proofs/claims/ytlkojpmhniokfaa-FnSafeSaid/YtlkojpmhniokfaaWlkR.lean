/- What is drawn of a walk. No condition. -/
import Derived.Test.YtlkojpmhniokfaaWlkD
import Derived.Test.YtlkojpmhniokfaaLandR
import Derived.Test.YtlkojpmhniokfaaMinS
namespace Go.Proofs.Ytlkojpmhniokfaa
open Go.RowKit
set_option linter.unusedVariables false
set_option linter.unusedSimpArgs false

theorem flo_hi {α : Type} {f : α → List Int} {sz lo hi : Nat} {w : World} {A : Option Addr} {xs : List α} (h : FlO f sz lo hi w A xs) : FlO f sz lo w.heap.size w A xs := fun hn => by
  obtain ⟨b, o, h1, h2, h3, h4, h5⟩ := h hn
  exact ⟨b, o, h1, h2, h3, h2, h5⟩
theorem flo_below {α : Type} {f : α → List Int} {sz lo hi M : Nat} {w w' : World} {A : Option Addr} {xs : List α} (h : FlO f sz lo hi w A xs) (hb : Below M w w') (hm : hi ≤ M) : FlO f sz lo hi w' A xs := fun hn => by
  obtain ⟨b, o, h1, h2, h3, h4, h5, h6⟩ := h hn
  exact ⟨b, o, h1, Nat.lt_of_lt_of_le h2 hb.size, h3, h4, fun j => (hb.frozen (p := ⟨b, j, none⟩) (show b < M by omega)).trans (h5 j), fun i x hx j v hv => (hb.cell (p := ⟨b, _, none⟩) (show b < M by omega)).trans (h6 i x hx j v hv)⟩
def EndW (g : Nat) (C : Option Addr) (n cap K : Nat) (w : World) (e : Ending) (w' : World) : Prop :=
  ∃ (wide high steep : Int) (A : Option Addr) (d : Nat) (xs : List Four) (x y : Int) (ab ao d2 : Nat) (ls : List Leg) (m : Int), e = .returned (.tuple #[.agg #[.int .i64 wide, .int .i64 high, .slice A xs.length d, .int .i64 steep], .int .i64 x, .int .i64 y, .slice (some ⟨ab, ao, none⟩) ls.length d2, .int .i64 m]) ∧ xs.length ≤ 4 ∧ ls.length ≤ 16 ∧ (ls.length ≤ d2 ∧ d2 ≤ 9223372036854775807) ∧ FlO Four.ints 4 w.heap.size w'.heap.size w' A xs ∧ FlO Leg.ints 3 w.heap.size w'.heap.size w' (some ⟨ab, ao, none⟩) ls ∧ CurAt g C n cap K w' ∧ Touch g (g + 1) w w'
set_option maxHeartbeats 16000000 in
set_option maxRecDepth 100000 in
theorem walked_any (g : Nat) (C : Option Addr) (n cap k : Nat) (w : World) (hC : CurAt g C n cap k w) (hk : k ≤ 137438953472) (hn : n ≤ 1099511627776) :
    Calls Try.prog 29 #[.pointer (some ⟨g, 0, none⟩)] w (EndW g C n cap (k + 700) w) := by
  have hgw : g < w.heap.size := hC.lt
  have hT := Touch.refl g (g + 1) w
  obtain ⟨i0, hi, hz0e, hz1e, hz2e⟩ := info_parts infoLeg
  obtain ⟨E1, hVE1, hbE1, hzE1, huE1, hfE1⟩ := box_world w #[Value.int .i64 0, Value.int .i64 0, Value.slice none 0 0, Value.int .i64 0] 26
  have r0 : VarL E1 (World.heap w).size [Value.int .i64 0, Value.int .i64 0, Value.slice none 0 0, Value.int .i64 0] := hVE1 ▸ VarL.box w _ _
  replace hC := hC.ext hbE1
  replace hT := hT.trans (Touch.of_ext hbE1)
  have hyE1 : (World.heap w).size + 1 ≤ (World.heap E1).size := hzE1
  clear huE1 hfE1
  have hgL0 : g < (World.heap E1).size := hC.lt
  go_enter Try.func29, Try.ntmps29
  have HN1 := Lib.hid (land_any g C n cap _ E1 hC (by omega) hn)
  clear hC
  go_wp2_with fail
  clear hVE1
  ((with_reducible refine (HN1.out).mono ?_); rintro e w1 ⟨wide, high, steep, LA, ld, xs, rfl, hxl, hF, hC, hU1⟩)
  replace r0 := r0.touch hU1 (by omega)
  replace hT := hT.trans hU1
  have hz_w1 : (World.heap E1).size ≤ (World.heap w1).size := hU1.size
  clear hU1
  obtain ⟨xl, hxl2⟩ : ∃ z, z = xs.length := ⟨_, rfl⟩
  rw [← hxl2] at hxl ⊢
  have HXL := Lib.hid hxl2
  obtain ⟨L1, hL1⟩ : ∃ z, z = (World.heap E1).size := ⟨_, rfl⟩
  rw [← hL1] at hF
  have hgL1 : g < L1 := by omega
  have hwL1 : w.heap.size < L1 := by omega
  clear hxl2
  obtain ⟨E2, hVE2, hbE2, hzE2, huE2, hfE2⟩ := box_world w1 #[Value.int .i64 wide, Value.int .i64 high, Value.slice LA xl ld, Value.int .i64 steep] 26
  have vx : VarL E2 (World.heap w1).size [Value.int .i64 wide, Value.int .i64 high, Value.slice LA xl ld, Value.int .i64 steep] := hVE2 ▸ VarL.box w1 _ _
  replace r0 := r0.ext hbE2
  replace hF := hF.ext hbE2
  replace hC := hC.ext hbE2
  replace hT := hT.trans (Touch.of_ext hbE2)
  have hyE2 : (World.heap w1).size + 1 ≤ (World.heap E2).size := hzE2
  clear huE2 hfE2
  obtain ⟨E9, hV9, hb9, hz9, _, _⟩ := box_world E2 #[] 65
  have hO : OwnF Leg.ints 3 (World.heap E2).size 65 E9 (.slice (some ⟨(World.heap E2).size, 0, none⟩) 0 0) [] := hV9 ▸ OwnF.empty (Nat.le_refl _)
  replace r0 := r0.ext hb9
  replace vx := vx.ext hb9
  replace hF := hF.ext hb9
  replace hC := hC.ext hb9
  replace hT := hT.trans (Touch.of_ext hb9)
  have hy9 : (World.heap E2).size < (World.heap E9).size := hz9
  obtain ⟨X, hX⟩ : ∃ z, z = (World.heap w1).size := ⟨_, rfl⟩
  obtain ⟨LB, hLB⟩ : ∃ z, z = (World.heap E2).size := ⟨_, rfl⟩
  rw [← hX] at vx
  rw [← hLB] at hO
  have hwX : w.heap.size < X := by omega
  have hXB : X < LB := by omega
  have hLL : L1 ≤ LB := by omega
  have hsB : LB ≤ (World.heap E9).size := by omega
  have hF2 : FlO Four.ints 4 L1 LB E9 LA xs := hF.mono (Nat.le_refl _) (by omega)
  have HBB := Lib.hid hX
  have HLB := Lib.hid hLB
  have HL1 := Lib.hid hL1
  have HN := Lib.hid (pick_any 6 g C n cap _ E9 hC (by omega) hn)
  clear hC hF hX hLB hL1
  go_wp2_with fail
  rw [← HBB.out, ← HLB.out]
  clear hVE2 hV9
  ((with_reducible refine (HN.out).mono ?_); rintro e w1 ⟨_, rfl, ⟨z, rfl, hz0, hz1⟩, hC, hU⟩)
  obtain ⟨N, rfl⟩ : ∃ N : Nat, z = N := ⟨z.toNat, by omega⟩
  have HO1 := Lib.hid (hO.touch hU (by omega))
  have HR1 := Lib.hid (r0.touch hU (.inr (by omega)))
  have HV1 := Lib.hid (vx.touch hU (.inr (by omega)))
  have HF1 := Lib.hid (hF2.touch hU (.inr (by omega)))
  have HT1 := Lib.hid (hT.trans hU)
  have HC1 := Lib.hid hC
  have hs1 : LB ≤ w1.heap.size := Nat.le_trans hsB hU.size
  clear hC hO r0 vx hF2 hT hU HN hsB
  go_wp2
  go_loopw [8, 9] (fun out nv wr => ∃ (ab ao dq yl : Nat) (ys : List Leg) (m : Nat), out = .slice (some ⟨ab, ao, none⟩) yl dq ∧ yl = ys.length ∧ nv = .int .i64 (m : Int) ∧ m ≤ 5 ∧ yl + m ≤ 5 ∧ OwnF Leg.ints 3 LB 65 wr (.slice (some ⟨ab, ao, none⟩) yl dq) ys ∧ LB ≤ wr.heap.size ∧ CurAt g C n cap (k + 110 + (5 - m) * 10) wr ∧ Touch g (g + 1) w wr ∧ VarL wr w.heap.size [Value.int .i64 0, Value.int .i64 0, Value.slice none 0 0, Value.int .i64 0] ∧ VarL wr X [Value.int .i64 wide, .int .i64 high, .slice LA xl ld, .int .i64 steep] ∧ FlO Four.ints 4 L1 LB wr LA xs) (fun _ nv _ => (intOf nv).toNat)
  case atStart => exact ⟨_, _, _, 0, [], N, rfl, rfl, rfl, by omega, by omega, HO1.out, hs1, HC1.out.mono (by omega), HT1.out, HR1.out, HV1.out, HF1.out⟩
  case round =>
    clear HC1 HO1 HT1 HR1 HV1 HF1 hs1
    obtain ⟨ab, ao, dq, yl, ys, m, rfl, hyl, rfl, hm5, hym, hO, hsr, hC, hT, r0, vx, hF⟩ := hrel
    have HYL := Lib.hid hyl
    clear hyl
    by_cases hm : 0 < m
    · have hmi : (0 : Int) < (m : Int) := by omega
      have HN21 := Lib.hid (pick_any 8 g C n cap _ wr hC (by omega) hn)
      clear hC
      go_wp2_with fail
      ((with_reducible refine (HN21.out).mono ?_); rintro e w21 ⟨_, rfl, ⟨q0, rfl, q00, q01⟩, hC, hU21⟩)
      replace hO := hO.touch hU21 (by omega)
      replace r0 := r0.touch hU21 (by omega)
      replace vx := vx.touch hU21 (by omega)
      replace hF := hF.touch hU21 (by omega)
      replace hT := hT.trans hU21
      have hz_w21 : (World.heap wr).size ≤ (World.heap w21).size := hU21.size
      clear hU21
      have hlt22 : g < (World.heap w21).size := hC.lt
      have HN22 := Lib.hid (among_any (some ⟨(World.heap w21).size, 0, none⟩) 6 6 [1, 1, 2, 3, 4, 30] rfl (World.heap w21).size ((World.heap w21).size + 1) g C n cap _ (World.alloc w21 (.cells #[Value.int .i64 (1), Value.int .i64 (1), Value.int .i64 (2), Value.int .i64 (3), Value.int .i64 (4), Value.int .i64 (30)] 3)) (hC.ext (ext_alloc _ _)) (by omega) hn (lit_flo w21 [1, 1, 2, 3, 4, 30] _ _ rfl) (by simp) (by simp) (.inl hlt22))
      clear hC
      go_wp2_with fail
      ((with_reducible refine (HN22.out).mono ?_); rintro e w22 ⟨_, rfl, ⟨q1, _, rfl⟩, hC, hU22⟩)
      replace hU22 := (Touch.of_ext (ext_alloc w21 (.cells #[Value.int .i64 (1), Value.int .i64 (1), Value.int .i64 (2), Value.int .i64 (3), Value.int .i64 (4), Value.int .i64 (30)] 3))).trans hU22
      replace hO := hO.touch hU22 (by omega)
      replace r0 := r0.touch hU22 (by omega)
      replace vx := vx.touch hU22 (by omega)
      replace hF := hF.touch hU22 (by omega)
      replace hT := hT.trans hU22
      have hz_w22 : (World.heap w21).size ≤ (World.heap w22).size := hU22.size
      clear hU22
      have hlt23 : g < (World.heap w22).size := hC.lt
      have HN23 := Lib.hid (among_any (some ⟨(World.heap w22).size, 0, none⟩) 6 6 [0, 0, 5, -10, 40, -130] rfl (World.heap w22).size ((World.heap w22).size + 1) g C n cap _ (World.alloc w22 (.cells #[Value.int .i64 (0), Value.int .i64 (0), Value.int .i64 (5), Value.int .i64 (-10), Value.int .i64 (40), Value.int .i64 (-130)] 3)) (hC.ext (ext_alloc _ _)) (by omega) hn (lit_flo w22 [0, 0, 5, -10, 40, -130] _ _ rfl) (by simp) (by simp) (.inl hlt23))
      clear hC
      go_wp2_with fail
      ((with_reducible refine (HN23.out).mono ?_); rintro e w23 ⟨_, rfl, ⟨q2, _, rfl⟩, hC, hU23⟩)
      replace hU23 := (Touch.of_ext (ext_alloc w22 (.cells #[Value.int .i64 (0), Value.int .i64 (0), Value.int .i64 (5), Value.int .i64 (-10), Value.int .i64 (40), Value.int .i64 (-130)] 3))).trans hU23
      replace hO := hO.touch hU23 (by omega)
      replace r0 := r0.touch hU23 (by omega)
      replace vx := vx.touch hU23 (by omega)
      replace hF := hF.touch hU23 (by omega)
      replace hT := hT.trans hU23
      have hz_w23 : (World.heap w22).size ≤ (World.heap w23).size := hU23.size
      clear hU23
      have HO8 := Lib.hid hO
      have HC8 := Lib.hid hC
      have HT8 := Lib.hid hT
      have HR8 := Lib.hid r0
      have HV8 := Lib.hid vx
      have HF8 := Lib.hid hF
      have hs8 : LB ≤ (World.heap w23).size := by omega
      clear hO hC hT r0 vx hF
      go_wp2_with (at_builtin; refine wpList_append_flat (f := Leg.ints) (y := ⟨q0, q1, q2⟩) rfl _ _ _ rfl LB i0 _ 3 24 Try.underlying27 hi hz0e hz1e hz2e rfl (by decide) _ _ rfl rfl HO8.out rfl ?_ (by decide) hs8 ?_; (have h9 := HYL.out; omega); intro v6 w6 hown6 hg6 hb6; have HC6 := Lib.hid (HC8.out.below' hb6 (by omega)); have HT6 := Lib.hid (HT8.out.far' hb6 (by omega)); have HR6 := Lib.hid (HR8.out.below hb6 (by omega)); have HV6 := Lib.hid (HV8.out.below hb6 (by omega)); have HF6 := Lib.hid (flo_below HF8.out hb6 (Nat.le_refl _)); have hs6 : LB ≤ w6.heap.size := Nat.le_trans hs8 hb6.size; have HO6 := Lib.hid hown6; clear hown6 hg6 hb6)
      obtain ⟨A6, d6, hv6, _, hF6⟩ := HO6.out.formc Leg.ints_length
      obtain ⟨ab6, ao6, hA6⟩ := flo_some hF6 (by simp)
      subst hA6
      subst hv6
      clear hF6
      have hy6 : ∀ e : Leg, (ys ++ [e]).length = yl + 1 := fun e => by rw [List.length_append, ← HYL.out]; rfl
      go_roundw
      case rel => exact ⟨ab6, ao6, d6, _, _, m - 1, rfl, rfl, by go_num, by omega, by have := HYL.out; (try rw [List.length_append]); (try simp only [List.length_cons, List.length_nil]); omega, HO6.out, hs6, HC6.out.mono (by omega), HT6.out, HR6.out, HV6.out, HF6.out⟩
      case measure => simp [intOf]; omega
    · have hm0 : m = 0 := by omega
      subst hm0
      have HN41 := Lib.hid (one_any 12 g C n cap _ wr hC (by omega) hn)
      clear hC
      go_wp2_with fail
      ((with_reducible refine (HN41.out).mono ?_); rintro e w41 ⟨_, rfl, ⟨b, rfl⟩, hC, hU41⟩)
      replace hO := hO.touch hU41 (by omega)
      replace r0 := r0.touch hU41 (by omega)
      replace vx := vx.touch hU41 (by omega)
      replace hF := hF.touch hU41 (by omega)
      replace hT := hT.trans hU41
      have hz_w41 : (World.heap wr).size ≤ (World.heap w41).size := hU41.size
      clear hU41
      go_upto_if 34 with fail
      go_cut [8] (fun rv wx => ∃ (rb ro rd zl LR : Nat) (zs : List Leg), rv = .slice (some ⟨rb, ro, none⟩) zl rd ∧ zl = zs.length ∧ zl ≤ 16 ∧ (zl ≤ rd ∧ rd ≤ 9223372036854775807) ∧ FlO Leg.ints 3 LR wx.heap.size wx (some ⟨rb, ro, none⟩) zs ∧ w.heap.size < LR ∧ CurAt g C n cap (k + 600) wx ∧ Touch g (g + 1) w wx ∧ VarL wx w.heap.size [Value.int .i64 0, Value.int .i64 0, Value.slice none 0 0, Value.int .i64 0] ∧ VarL wx X [Value.int .i64 wide, .int .i64 high, .slice LA xl ld, .int .i64 steep] ∧ FlO Four.ints 4 L1 LB wx LA xs ∧ LB ≤ wx.heap.size)
      case first =>
        cases b
        · obtain ⟨A7, d7, hv7, hcap7, hG⟩ := hO.formc Leg.ints_length
          injection hv7 with h71 h72 h73
          subst h71 h73
          have h72' := h72
          clear h72 hO
          have HG := Lib.hid hG
          have HC8 := Lib.hid hC
          have HT8 := Lib.hid hT
          have HR8 := Lib.hid r0
          have HV8 := Lib.hid vx
          have HF8 := Lib.hid hF
          have HCAP := Lib.hid hcap7
          have hsz : LB ≤ (World.heap w41).size := by omega
          clear hC hT r0 vx hF hG hcap7 h72'
          go_wp2
          go_meet
          exact ⟨_, _, _, yl, LB, ys, rfl, HYL.out, by omega, by have h := HCAP.out; rw [← HYL.out] at h; exact h, HG.out, by omega, HC8.out.mono (by omega), HT8.out, HR8.out, HV8.out, HF8.out, hsz⟩
        · clear hO
          have HN42 := Lib.hid (routeS_any g C n cap _ w41 hC (by omega) hn)
          clear hC
          go_wp2_with fail
          ((with_reducible refine (HN42.out).mono ?_); rintro e w42 ⟨rb, ro, rd, zs, rfl, hzl, hzc, hG, hC, hU42⟩)
          replace r0 := r0.touch hU42 (by omega)
          replace vx := vx.touch hU42 (by omega)
          replace hF := hF.touch hU42 (by omega)
          replace hT := hT.trans hU42
          have hz_w42 : (World.heap w41).size ≤ (World.heap w42).size := hU42.size
          clear hU42
          have HG := Lib.hid hG
          have HC8 := Lib.hid hC
          have HT8 := Lib.hid hT
          have HR8 := Lib.hid r0
          have HV8 := Lib.hid vx
          have HF8 := Lib.hid hF
          have HCAP := Lib.hid hzc
          have hsz : LB ≤ (World.heap w42).size := by omega
          clear hC hT r0 vx hF hG hzc
          go_wp2
          go_meet
          exact ⟨rb, ro, rd, _, _, zs, rfl, rfl, hzl, HCAP.out, HG.out, by omega, HC8.out.mono (by omega), HT8.out, HR8.out, HV8.out, HF8.out, hsz⟩
      case rest =>
        obtain ⟨rb, ro, rd, zl, LR, zs, rfl, hzl2, hzl, hzc, hG, hwLR, hC, hT, r0, vx, hF, hsB2⟩ := hcut
        obtain ⟨wz, hwz⟩ : ∃ z, z = wc := ⟨_, rfl⟩
        subst hwz
        have HZL := Lib.hid hzl2
        have HCAP := Lib.hid hzc
        have hgLR : g < LR := by omega
        clear hzl2 hzc
        have hz_e : LB ≤ (World.heap wz).size := by omega
        have HM := Lib.hid (show ∀ W : World, Fl Leg.ints 3 W (some ⟨rb, ro, none⟩) zs → Calls Try.prog 53 #[.slice (some ⟨rb, ro, none⟩) zl rd] W fun e w' => (∃ (z : Int) (b : Bool), e = .returned (.tuple #[.int .i64 z, .bool b]) ∧ 0 ≤ z ∧ z ≤ 5000000) ∧ Below W.heap.size W w' from fun W h => by have hq := specEnough_any (some ⟨rb, ro, none⟩) rd zs W (by have := HZL.out; omega) h; rwa [← HZL.out] at hq)
        have HG := Lib.hid hG
        have HC8 := Lib.hid hC
        have HT8 := Lib.hid hT
        have HR8 := Lib.hid r0
        have HV8 := Lib.hid vx
        have HF8 := Lib.hid hF
        clear hC hT r0 vx hF hG
        go_wp2_with fail
        ((with_reducible refine (HM.out _ HG.out.fl).mono ?_); rintro e w6 ⟨⟨en, bn, rfl, hen0, hen1⟩, hbe⟩)
        have HW6 := Lib.hid (WS.mk (K := k + 600) (w0 := w) (HC8.out.ext hbe |>.mono (by omega)) (HV8.out.ext hbe) (HF8.out.ext hbe) (HG.out.ext hbe) (HR8.out.ext hbe) (HT8.out.trans (Touch.of_ext hbe)))
        have hs6 : (World.heap wz).size ≤ w6.heap.size := hbe.size
        have hg6 : g < w6.heap.size := HW6.out.cur.lt
        have hgX : g < X := by omega
        have hgR : g < w.heap.size := hgw
        have hgl2 : g < LR := by omega
        have hwL1s : w.heap.size + 1 ≤ L1 := by omega
        have hwL2s : w.heap.size + 1 ≤ LR := by omega
        have dl := HW6.out.box.lt
        obtain ⟨d0, d1, d2, d3⟩ := HW6.out.box.quadB
        have AM := Lib.hid (fun (l : List Int) (m : Nat) (hm : m = l.length) (h0 : 0 < l.length) (h1 : l.length ≤ 1048576) (K : Nat) (hK : K ≤ 549755813888) (W : World) (b : Nat) (h : WS g C n cap X w.heap.size L1 LB LR (World.heap wz).size wide high steep (.slice LA xl ld) LA xs (some ⟨rb, ro, none⟩) zs K w W) (hF : FlO one 1 b (b + 1) W (some ⟨b, 0, none⟩) l) (hb : g < b) => h.among hgX hgR hgL1 hgl2 hn hK l m hm h0 h1 b hF hb)
        have t1 : en.tdiv 2 = en / 2 := Int.tdiv_eq_ediv_of_nonneg hen0
        have e2b : 0 ≤ en / 2 ∧ en / 2 ≤ 5000000 := by omega
        obtain ⟨e2, he2⟩ : ∃ z, z = en / 2 := ⟨_, rfl⟩
        rw [← he2] at t1 e2b
        have y1 : IntKind.i64.wrap e2 = e2 := IntWalk.i64_in _ (by omega)
        have y2 : IntKind.i64.wrap (en - 1) = en - 1 := IntWalk.i64_in _ (by omega)
        have hK1 : k + 606 ≤ 549755813888 := by omega
        clear HC8 HT8 HR8 HV8 HF8 HG hbe he2
        go_upto_region 10 with fail
        go_cut [3, 4, 5, 6] (fun av bv cv dv wx => ∃ (x0 x1 x2 : Int), av = .int .i64 x0 ∧ bv = .int .i64 x1 ∧ cv = .slice (some ⟨rb, ro, none⟩) zl rd ∧ dv = .int .i64 x2 ∧ VarL wx w.heap.size [Value.int .i64 wide, .int .i64 high, .slice LA xl ld, .int .i64 steep] ∧ FlO Four.ints 4 L1 LB wx LA xs ∧ FlO Leg.ints 3 LR (World.heap wz).size wx (some ⟨rb, ro, none⟩) zs ∧ CurAt g C n cap (k + 600 + 2 + 2 + 2) wx ∧ Touch g (g + 1) w wx)
        case first =>
          go_region_held3 (fun w' => World.cell? w' ⟨X, 0, none⟩ = some (.int .i64 wide) ∧ World.cell? w' ⟨X, 1, none⟩ = some (.int .i64 high) ∧ World.cell? w' ⟨X, 2, none⟩ = some (.slice LA xl ld) ∧ World.cell? w' ⟨X, 3, none⟩ = some (.int .i64 steep)) (first | with_reducible exact HKZ.out | (refine VarL.quadB (WS.box (K := k + 600 + 2 + 2 + 2) (show WS g C n cap X w.heap.size L1 LB LR (World.heap wz).size wide high steep (.slice LA xl ld) LA xs (some ⟨rb, ro, none⟩) zs (k + 600 + 2 + 2 + 2) w _ from ?_)); (repeat (first | with_reducible exact HW9.out | with_reducible refine WS.ext ?_ (ext_drew _) | with_reducible refine WS.ext ?_ (ext_alloc _ _))); done) | (refine VarL.quadB (WS.box (K := k + 600 + 2 + 2) (show WS g C n cap X w.heap.size L1 LB LR (World.heap wz).size wide high steep (.slice LA xl ld) LA xs (some ⟨rb, ro, none⟩) zs (k + 600 + 2 + 2) w _ from ?_)); (repeat (first | with_reducible exact HW8.out | with_reducible refine WS.ext ?_ (ext_drew _) | with_reducible refine WS.ext ?_ (ext_alloc _ _))); done) | (refine VarL.quadB (WS.box (K := k + 600 + 2) (show WS g C n cap X w.heap.size L1 LB LR (World.heap wz).size wide high steep (.slice LA xl ld) LA xs (some ⟨rb, ro, none⟩) zs (k + 600 + 2) w _ from ?_)); (repeat (first | with_reducible exact HW7.out | with_reducible refine WS.ext ?_ (ext_drew _) | with_reducible refine WS.ext ?_ (ext_alloc _ _))); done) | (refine VarL.quadB (WS.box (K := k + 600) (show WS g C n cap X w.heap.size L1 LB LR (World.heap wz).size wide high steep (.slice LA xl ld) LA xs (some ⟨rb, ro, none⟩) zs (k + 600) w _ from ?_)); (repeat (first | with_reducible exact HW6.out | with_reducible refine WS.ext ?_ (ext_drew _) | with_reducible refine WS.ext ?_ (ext_alloc _ _))); done)) ((first | (go_at_call 43; (with_reducible refine (AM.out [en, en, en - 1, 0, 100000, e2, 100001] 7 rfl (by simp) (by simp) (k + 600 + 2 + 2) (by omega) _ _ ?_ ?_ ?_).mono ?_); (repeat (first | with_reducible exact HW8.out | with_reducible refine WS.ext ?_ (ext_drew _) | with_reducible refine WS.ext ?_ (ext_alloc _ _))); (repeat (first | with_reducible exact lit_flo _ _ _ _ rfl | with_reducible exact lit_flo1 _ _ _ _ _ rfl | with_reducible exact lit_flo2 _ _ _ _ _ _ rfl | with_reducible exact flo_blk DC21.out _ rfl | with_reducible exact flo_blk DC22.out _ rfl | with_reducible exact flo_blk DC31.out _ rfl | with_reducible exact flo_blk DC32.out _ rfl | with_reducible exact flo_blk DC33.out _ rfl | with_reducible exact flo_blk E0.out _ rfl | with_reducible exact flo_blk E21.out _ rfl | with_reducible exact flo_blk E22.out _ rfl | with_reducible refine FlO.ext ?_ (ext_drew _) | with_reducible refine FlO.ext ?_ (ext_alloc _ _))); (first | omega | (simp; omega)); rintro e w9 ⟨x2, hx2, rfl, hW2, hU2⟩; have HW9 := Lib.hid hW2; have hg9 : g < w9.heap.size := hW2.cur.lt; have hVZ := (hW2.box).touch (set4_tch w9 w.heap.size (.int .i64 wide) (.int .i64 high) (.slice LA xl ld) (.int .i64 steep)) (.inr hwX); have HKZ := Lib.hid (VarL.quadB hVZ); have hrz := set4_var hW2.res (.int .i64 wide) (.int .i64 high) (.slice LA xl ld) (.int .i64 steep); have HRZ := Lib.hid hrz; have ta := set4_tch w9 w.heap.size (.int .i64 wide) (.int .i64 high) (.slice LA xl ld) (.int .i64 steep); have HQ1 := Lib.hid (hW2.bars.touch ta (.inr hwL1s)); have HQ2 := Lib.hid (hW2.legs.touch ta (.inr hwL2s)); have HQ3 := Lib.hid (hW2.cur.touch' (l := w.heap.size) ta hgw); have HQ4 := Lib.hid (hW2.tch.over' (B := w.heap.size) ta (Nat.le_refl _)); clear ta; have k0 := hW2.res.cell 0 _ rfl; have k1 := hW2.res.cell 1 _ rfl; have k2 := hW2.res.cell 2 _ rfl; have k3 := hW2.res.cell 3 _ rfl; have kl := hW2.res.lt; have kz := hW2.res.fz; clear hVZ hrz; clear hW2 hU2 hx2) | (go_at_call 43; (with_reducible refine (AM.out [0, 1, 5, 7, 11, 30] 6 rfl (by simp) (by simp) (k + 600 + 2) (by omega) _ _ ?_ ?_ ?_).mono ?_); (repeat (first | with_reducible exact HW7.out | with_reducible refine WS.ext ?_ (ext_drew _) | with_reducible refine WS.ext ?_ (ext_alloc _ _))); (repeat (first | with_reducible exact lit_flo _ _ _ _ rfl | with_reducible exact lit_flo1 _ _ _ _ _ rfl | with_reducible exact lit_flo2 _ _ _ _ _ _ rfl | with_reducible exact flo_blk C21.out _ rfl | with_reducible exact flo_blk C22.out _ rfl | with_reducible exact flo_blk C31.out _ rfl | with_reducible exact flo_blk C32.out _ rfl | with_reducible exact flo_blk C33.out _ rfl | with_reducible refine FlO.ext ?_ (ext_drew _) | with_reducible refine FlO.ext ?_ (ext_alloc _ _))); (first | omega | (simp; omega)); rintro e w8 ⟨x1, hx1, rfl, hW1, hU1⟩; have HW8 := Lib.hid hW1; have hg8 : g < w8.heap.size := hW1.cur.lt; (try (with_reducible have DC21 := Lib.hid (bq0 C21.out hU1 (by omega)))); (try (with_reducible have DC21 := Lib.hid (bq1 C21.out hU1 (by omega)))); (try (with_reducible have DC21 := Lib.hid (bq2 C21.out hU1 (by omega)))); (try (with_reducible have DC22 := Lib.hid (bq0 C22.out hU1 (by omega)))); (try (with_reducible have DC22 := Lib.hid (bq1 C22.out hU1 (by omega)))); (try (with_reducible have DC22 := Lib.hid (bq2 C22.out hU1 (by omega)))); (try (with_reducible have DC31 := Lib.hid (bq0 C31.out hU1 (by omega)))); (try (with_reducible have DC31 := Lib.hid (bq1 C31.out hU1 (by omega)))); (try (with_reducible have DC31 := Lib.hid (bq2 C31.out hU1 (by omega)))); (try (with_reducible have DC32 := Lib.hid (bq0 C32.out hU1 (by omega)))); (try (with_reducible have DC32 := Lib.hid (bq1 C32.out hU1 (by omega)))); (try (with_reducible have DC32 := Lib.hid (bq2 C32.out hU1 (by omega)))); (try (with_reducible have DC33 := Lib.hid (bq0 C33.out hU1 (by omega)))); (try (with_reducible have DC33 := Lib.hid (bq1 C33.out hU1 (by omega)))); (try (with_reducible have DC33 := Lib.hid (bq2 C33.out hU1 (by omega)))); (try (with_reducible have E0 := Lib.hid (bp11 hU1 hg7))); (try (with_reducible have E21 := Lib.hid (bp21 hU1 hg7))); (try (with_reducible have E22 := Lib.hid (bp22 hU1 hg7))); clear hW1 hU1 hx1) | (go_at_call 43; (with_reducible refine (AM.out [0, 1, 4, 7, 11, 30] 6 rfl (by simp) (by simp) (k + 600) (by omega) _ _ ?_ ?_ ?_).mono ?_); (repeat (first | with_reducible exact HW6.out | with_reducible refine WS.ext ?_ (ext_drew _) | with_reducible refine WS.ext ?_ (ext_alloc _ _))); (repeat (first | with_reducible exact lit_flo _ _ _ _ rfl | with_reducible exact lit_flo1 _ _ _ _ _ rfl | with_reducible exact lit_flo2 _ _ _ _ _ _ rfl | with_reducible refine FlO.ext ?_ (ext_drew _) | with_reducible refine FlO.ext ?_ (ext_alloc _ _))); (first | omega | (simp; omega)); rintro e w7 ⟨x0, hx0, rfl, hW0, hU0⟩; have HW7 := Lib.hid hW0; have hg7 : g < w7.heap.size := hW0.cur.lt; (try (with_reducible have C21 := Lib.hid (bk21 hU0 hg6))); (try (with_reducible have C22 := Lib.hid (bk22 hU0 hg6))); (try (with_reducible have C31 := Lib.hid (bk31 hU0 hg6))); (try (with_reducible have C32 := Lib.hid (bk32 hU0 hg6))); (try (with_reducible have C33 := Lib.hid (bk33 hU0 hg6))); clear hW0 hU0 hx0)))
          all_goals (go_wp2_with fail)
          all_goals go_meet
          all_goals exact ⟨x0, x1, x2, rfl, rfl, rfl, rfl, HRZ.out, HQ1.out, HQ2.out, HQ3.out, HQ4.out⟩
        case rest =>
          obtain ⟨x0, x1, x2, rfl, rfl, rfl, rfl, hr9, hb9, hl9, hc9, ht9⟩ := hcut
          have f0 := hr9.cell 0 _ rfl
          have f1 := hr9.cell 1 _ rfl
          have f2 := hr9.cell 2 _ rfl
          have f3 := hr9.cell 3 _ rfl
          have fl := hr9.lt
          have hs9 := ht9.size
          have H9 := Lib.hid (And.intro hb9 (And.intro hl9 (And.intro hc9 ht9)))
          clear hr9 hb9 hl9 hc9 ht9
          go_wp2
          refine bodyPost_ret (v := .tuple #[.agg #[.int .i64 wide, .int .i64 high, .slice LA xl ld, .int .i64 steep], .int .i64 x0, .int .i64 x1, .slice (some ⟨rb, ro, none⟩) zl rd, .int .i64 x2]) (by simp [results, Try.results29, go_sem, f0, f1, f2, f3, fl]) rfl ⟨wide, high, steep, LA, ld, xs, x0, x1, _, _, rd, zs, x2, by rw [← HXL.out, ← HZL.out], by have := HXL.out; omega, by have := HZL.out; omega, by have h := HCAP.out; rw [← HZL.out]; exact h, (flo_hi H9.out.1).mono (by omega) (Nat.le_refl _), (flo_hi H9.out.2.1).mono (by omega) (Nat.le_refl _), H9.out.2.2.1.mono (by omega), H9.out.2.2.2⟩
end Go.Proofs.Ytlkojpmhniokfaa
