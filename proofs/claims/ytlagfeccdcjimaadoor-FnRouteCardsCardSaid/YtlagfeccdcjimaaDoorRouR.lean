/- A route drawn. No condition. -/
import Derived.Test.YtlagfeccdcjimaaDoorLegR
import Derived.Test.YtlagfeccdcjimaaDoorBoxLaw
import Derived.Test.YtlagfeccdcjimaaDoorAppAt
import Derived.Test.YtlagfeccdcjimaaDoorPut
namespace Go.Proofs.YtlagfeccdcjimaaDoor
open Go.RowKit
set_option linter.unusedVariables false
set_option linter.unusedSimpArgs false

theorem OwnF.formc {α : Type} {f : α → List Int} {sz lo : Nat} {e : TypeId} {w : World} {v : Value} {ys : List α} (h : OwnF f sz lo e w v ys) (hls : ∀ y, (f y).length = sz) : ∃ A c, v = .slice A ys.length c ∧ (ys.length ≤ c ∧ c ≤ 9223372036854775807) ∧ FlO f sz lo w.heap.size w A ys := by
  obtain ⟨A, c, hv, hF⟩ := h.form hls
  obtain ⟨B, d, hv2, h1, h2⟩ := h.caps
  rw [hv] at hv2
  injection hv2 with e1 e2 e3
  subst e3
  exact ⟨A, c, hv, ⟨h1, h2⟩, hF⟩
theorem CurAt.below' {g : Nat} {C : Option Addr} {n cap k M : Nat} {w w' : World} (h : CurAt g C n cap k w) (hb : Below M w w') (hg : g < M) : CurAt g C n cap k w' := by
  have c := fun j => hb.cell (p := ⟨g, j, none⟩) hg
  refine ⟨Nat.lt_of_lt_of_le h.lt hb.size, (c 0).trans h.c0, ?_, ?_, fun j => (hb.frozen (p := ⟨g, j, none⟩) hg).trans (h.fz j), fun i hi => ?_⟩
  · obtain ⟨a, h1, h2⟩ := h.c1; exact ⟨a, h1, (c 1).trans h2⟩
  · obtain ⟨s, h1, h2, h3⟩ := h.c2; exact ⟨s, h1, h2, (c 2).trans h3⟩
  · obtain ⟨b, o, v, h1, h2, h3, h4, h5⟩ := h.code i hi
    exact ⟨b, o, v, h1, h2, h3, h4, (hb.cell (p := ⟨b, _, none⟩) (Nat.lt_trans h2 hg)).trans h5⟩
theorem grown_set5 {w : World} (g j : Nat) (u : Value) : w.grownBy (w.setCell ⟨g, j, none⟩ u) (some g) := ⟨rfl, rfl, rfl, by simp [World.setCell], fun k _ hk => heap_setCell_other w ⟨g, j, none⟩ k u (fun e => hk (by simp [e]))⟩
set_option maxHeartbeats 16000000 in
set_option maxRecDepth 100000 in
theorem route_any (g : Nat) (C : Option Addr) (n cap k : Nat) (w : World) (hC : CurAt g C n cap k w) (hk : k ≤ 274877906944) (hn : n ≤ 1099511627776) :
    Calls Tryd.prog 33 #[.pointer (some ⟨g, 0, none⟩)] w (fun r w' => ∃ (A : Option Addr) (d : Nat) (xs : List Leg), r = .returned (.slice A xs.length d) ∧ xs.length ≤ 16 ∧ (xs.length ≤ d ∧ d ≤ 9223372036854775807) ∧ FlO Leg.ints 3 w.heap.size w'.heap.size w' A xs ∧ CurAt g C n cap (k + 400) w' ∧ Touch g (g + 1) w w') := by
  have hgw : g < w.heap.size := hC.lt
  have hT := Touch.refl g (g + 1) w
  obtain ⟨i0, hi, hz0e, hz1e, hz2e⟩ := info_parts infoLeg
  have HOE := Lib.hid (OwnF.empty (f := Leg.ints) (sz := 3) (e := 52) (Nat.le_refl w.heap.size))
  have hx0 := ext_alloc w (.cells #[] 52)
  have HP := Lib.hid (pick_any 6 g C n cap _ _ (hC.ext hx0) (by omega) hn)
  have HX0 := Lib.hid hx0
  clear hC hT hx0
  go_enter Tryd.func33, Tryd.ntmps33
  go_wp2_with fail
  ((with_reducible refine (HP.out).mono ?_); rintro e w1 ⟨_, rfl, ⟨z, rfl, hz0, hz1⟩, hC, hU⟩)
  obtain ⟨N, rfl⟩ : ∃ N : Nat, z = N := ⟨z.toNat, by omega⟩
  have hO := HOE.out.touch hU (by omega)
  have hT := (Touch.of_ext (lo := g) (hi := g + 1) HX0.out).trans hU
  have hs1 : w.heap.size ≤ w1.heap.size := hT.size
  have HC1 := Lib.hid hC
  have HO1 := Lib.hid hO
  have HT1 := Lib.hid hT
  clear hC hO hT hU HOE HP HX0
  go_wp2
  go_loopw [3, 4] (fun out nv wr => ∃ (A : Option Addr) (dq yl : Nat) (ys : List Leg) (m : Nat), out = .slice A yl dq ∧ yl = ys.length ∧ nv = .int .i64 (m : Int) ∧ m ≤ 5 ∧ yl + m ≤ 5 ∧ OwnF Leg.ints 3 w.heap.size 52 wr (.slice A yl dq) ys ∧ w.heap.size ≤ wr.heap.size ∧ CurAt g C n cap (k + 2 + (5 - m) * 30) wr ∧ Touch g (g + 1) w wr) (fun _ nv _ => (intOf nv).toNat)
  case atStart => exact ⟨_, _, 0, [], N, rfl, rfl, rfl, by omega, by omega, HO1.out, hs1, HC1.out.mono (by omega), HT1.out⟩
  case round =>
    clear HC1 HO1 HT1 hs1
    obtain ⟨A, dq, yl, ys, m, rfl, hyl, rfl, hm5, hym, hO, hsr, hC, hT⟩ := hrel
    by_cases hm : 0 < m
    · have hmi : (0 : Int) < (m : Int) := by omega
      have HYL := Lib.hid hyl
      have HN1 := Lib.hid (leg_any g C n cap _ wr hC (by omega) hn)
      have HO := Lib.hid hO
      have HT := Lib.hid hT
      clear hC hyl hO hT
      go_wp2_with fail
      ((with_reducible refine (HN1.out).mono ?_); rintro e w2 ⟨x, rfl, hC, hU⟩)
      have hO2 := HO.out.touch hU (Nat.succ_le_of_lt hgw)
      have hT2 := HT.out.trans hU
      have hs2 : w.heap.size ≤ w2.heap.size := Nat.le_trans hsr hU.size
      obtain ⟨V, hV, hX, hzV, _, _⟩ := box_world w2 #[Value.int .i64 x.way, .int .i64 x.units, .int .i64 x.climb] 52
      have hve : VarL V w2.heap.size [Value.int .i64 x.way, .int .i64 x.units, .int .i64 x.climb] := hV ▸ VarL.box w2 _ _
      have hO3 := hO2.ext hX
      have hC3 := hC.ext hX
      have hT3 := hT2.trans (Touch.of_ext hX)
      have hs3 : w.heap.size ≤ V.heap.size := Nat.le_trans hs2 hX.size
      have hgv : g + 1 ≤ w2.heap.size := by have := hU.size; omega
      have hbw2 : wr.heap.size ≤ w2.heap.size := hU.size
      clear hU hO2 hC hT2
      by_cases hy0 : yl = 0
      · subst hy0
        have e0 := hve.cell 0 _ rfl
        have e1 := hve.cell 1 _ rfl
        have e2 := hve.cell 2 _ rfl
        have el := hve.lt
        have HO8 := Lib.hid hO3
        have HC8 := Lib.hid hC3
        have HT8 := Lib.hid hT3
        have hs8 := hs3
        clear hO3 hC3 hT3 hve
        go_wp2_with (at_builtin; refine wpList_append_flat (f := Leg.ints) (y := x) rfl _ _ _ rfl w.heap.size i0 _ 3 24 Tryd.underlying26 hi hz0e hz1e hz2e rfl (by decide) _ _ rfl rfl HO8.out rfl ?_ (by decide) hs8 ?_; (have h9 := HYL.out; omega); intro v6 w6 hown6 hg6 hb6; have HC6 := Lib.hid (HC8.out.below' hb6 hgw); have HT6 := Lib.hid (HT8.out.far' hb6 (Nat.le_refl _)); have hs6 : w.heap.size ≤ w6.heap.size := Nat.le_trans hs8 hb6.size; have HO6 := Lib.hid hown6; clear hown6 hg6 hb6)
        obtain ⟨A6, d6, hv6, _⟩ := HO6.out.formc Leg.ints_length
        subst hv6
        have hy6 : ∀ e : Leg, (ys ++ [e]).length = 1 := fun e => by rw [List.length_append, ← HYL.out]; rfl
        go_roundw
        case rel => exact ⟨A6, d6, _, _, m - 1, rfl, rfl, by go_num, by omega, by have := HYL.out; (try rw [List.length_append]); (try simp only [List.length_cons, List.length_nil]); omega, HO6.out, hs6, HC6.out.mono (by omega), HT6.out⟩
        case measure => simp [intOf]; omega
      · have hyi : (0 : Int) < (yl : Int) := by omega
        have HN2 := Lib.hid (one_any 3 g C n cap _ V hC3 (by omega) hn)
        have HO3 := Lib.hid hO3
        have HT3 := Lib.hid hT3
        have HVE := Lib.hid hve
        clear hO3 hC3 hT3 hve
        go_wp2_with fail
        clear hV
        ((with_reducible refine (HN2.out).mono ?_); rintro e w4 ⟨_, rfl, ⟨b, rfl⟩, hC4, hU4⟩)
        have hO4 := HO3.out.touch hU4 (Nat.succ_le_of_lt hgw)
        have hT4 := HT3.out.trans hU4
        have hve4 := HVE.out.touch hU4 (.inr hgv)
        have hs4 : w.heap.size ≤ w4.heap.size := Nat.le_trans hs3 hU4.size
        have e0 := hve4.cell 0 _ rfl
        have e1 := hve4.cell 1 _ rfl
        have e2 := hve4.cell 2 _ rfl
        have el := hve4.lt
        have ez := hve4.fz
        cases b
        · have HO8 := Lib.hid hO4
          have HC8 := Lib.hid hC4
          have HT8 := Lib.hid hT4
          have hs8 := hs4
          clear hO4 hC4 hT4 hU4 hve4
          go_wp2_with (at_builtin; refine wpList_append_flat (f := Leg.ints) (y := x) rfl _ _ _ rfl w.heap.size i0 _ 3 24 Tryd.underlying26 hi hz0e hz1e hz2e rfl (by decide) _ _ rfl rfl HO8.out rfl ?_ (by decide) hs8 ?_; (have h9 := HYL.out; omega); intro v6 w6 hown6 hg6 hb6; have HC6 := Lib.hid (HC8.out.below' hb6 hgw); have HT6 := Lib.hid (HT8.out.far' hb6 (Nat.le_refl _)); have hs6 : w.heap.size ≤ w6.heap.size := Nat.le_trans hs8 hb6.size; have HO6 := Lib.hid hown6; clear hown6 hg6 hb6)
          obtain ⟨A6, d6, hv6, _⟩ := HO6.out.formc Leg.ints_length
          subst hv6
          have hy6 : ∀ e : Leg, (ys ++ [e]).length = yl + 1 := fun e => by rw [List.length_append, ← HYL.out]; rfl
          go_roundw
          case rel => exact ⟨A6, d6, _, _, m - 1, rfl, rfl, by go_num, by omega, by have := HYL.out; (try rw [List.length_append]); (try simp only [List.length_cons, List.length_nil]); omega, HO6.out, hs6, HC6.out.mono (by omega), HT6.out⟩
          case measure => simp [intOf]; omega
        · obtain ⟨A5, d5, hv5, hF5⟩ := hO4.form Leg.ints_length
          injection hv5 with h51 h52 h53
          subst h51 h53
          clear h52
          obtain ⟨q, hq⟩ : ∃ q : Nat, (yl : Int) - 1 = (q : Int) := ⟨yl - 1, by omega⟩
          obtain ⟨y, b, o, hy, hAe, hbb, hc⟩ := hF5.fl.at_ (k := q) (by rw [← HYL.out]; omega)
          subst hAe
          have c0 : World.cell? w4 ⟨b, o + q * 3, none⟩ = some (.int .i64 y.way) := by simpa using hc 0 y.way rfl
          have hq0 : (0 : Int) ≤ (q : Int) := by omega
          have hq1 : (q : Int) < (yl : Int) := by omega
          have htS := Touch.of_set w4 ⟨w2.heap.size, 0, none⟩ (.int .i64 y.way) (Nat.le_refl _) (Nat.lt_succ_self _)
          have hgrS := grown_set5 (w := w4) w2.heap.size 0 (.int .i64 y.way)
          have hneS := (show (Value.slice (some ⟨b, o, none⟩) yl dq).ownBlock = none ∨ (Value.slice (some ⟨b, o, none⟩) yl dq).ownBlock ≠ some w2.heap.size from .inr (by intro e; have := (HO.out.ownBlock _ e).2; have := hbw2; omega))
          have hO5 := hO4.kept hgrS hneS
          have hC5 := hC4.touch' (l := w2.heap.size) htS (by omega)
          have hT5 := hT4.over' (B := w2.heap.size) htS (by omega)
          have hve5 := hve4.set 0 (.int .i64 y.way) (by simp)
          have g0 := hve5.cell 0 _ rfl
          have g1 := hve5.cell 1 _ rfl
          have g2 := hve5.cell 2 _ rfl
          have gl := hve5.lt
          obtain ⟨w5, hw5⟩ : ∃ z, z = w4.setCell ⟨w2.heap.size, 0, none⟩ (.int .i64 y.way) := ⟨_, rfl⟩
          rw [← hw5] at hO5 hC5 hT5 g0 g1 g2 gl
          have hs5 : w.heap.size ≤ w5.heap.size := by rw [hw5, setCell_size]; exact hs4
          have HO8 := Lib.hid hO5
          have HC8 := Lib.hid hC5
          have HT8 := Lib.hid hT5
          have hs8 := hs5
          clear hO4 hC4 hT4 hU4 hve4 hc hy hF5 htS hgrS hneS hO5 hC5 hT5 hve5
          go_upto_region 8 with fail
          rw [← hw5]
          clear hw5 e0 e1 e2 ez el c0
          go_wp2_with (at_builtin; refine wpList_append_flat (f := Leg.ints) (y := ⟨y.way, x.units, x.climb⟩) rfl _ _ _ rfl w.heap.size i0 _ 3 24 Tryd.underlying26 hi hz0e hz1e hz2e rfl (by decide) _ _ rfl rfl HO8.out rfl ?_ (by decide) hs8 ?_; (have h9 := HYL.out; omega); intro v6 w6 hown6 hg6 hb6; have HC6 := Lib.hid (HC8.out.below' hb6 hgw); have HT6 := Lib.hid (HT8.out.far' hb6 (Nat.le_refl _)); have hs6 : w.heap.size ≤ w6.heap.size := Nat.le_trans hs8 hb6.size; have HO6 := Lib.hid hown6; clear hown6 hg6 hb6)
          obtain ⟨A6, d6, hv6, _⟩ := HO6.out.formc Leg.ints_length
          subst hv6
          have hy6 : ∀ e : Leg, (ys ++ [e]).length = yl + 1 := fun e => by rw [List.length_append, ← HYL.out]; rfl
          go_roundw
          case rel => exact ⟨A6, d6, _, _, m - 1, rfl, rfl, by go_num, by omega, by have := HYL.out; (try rw [List.length_append]); (try simp only [List.length_cons, List.length_nil]); omega, HO6.out, hs6, HC6.out.mono (by omega), HT6.out⟩
          case measure => simp [intOf]; omega
    · have hm0 : m = 0 := by omega
      subst hm0
      have HYL := Lib.hid hyl
      have HN1 := Lib.hid (one_any 32 g C n cap _ wr hC (by omega) hn)
      have HO := Lib.hid hO
      have HT := Lib.hid hT
      clear hC hyl hO hT hm
      go_wp2_with fail
      ((with_reducible refine (HN1.out).mono ?_); rintro e w2 ⟨_, rfl, ⟨b, rfl⟩, hC, hU⟩)
      have hO2 := HO.out.touch hU (Nat.succ_le_of_lt hgw)
      have hT2 := HT.out.trans hU
      have hs2 : w.heap.size ≤ w2.heap.size := Nat.le_trans hsr hU.size
      have HO2 := Lib.hid hO2
      have HC2 := Lib.hid hC
      have HT2 := Lib.hid hT2
      cases b
      · obtain ⟨A7, d7, hv7, hcap7, hF7⟩ := hO2.formc Leg.ints_length
        injection hv7 with h71 h72 h73
        subst h71 h73
        have HF7 := Lib.hid hF7
        have HK7 := Lib.hid hcap7
        clear hF7 hcap7 hO2 hC hT2 hU
        go_wp2
        go_ret
        exact ⟨_, _, ys, by rw [← HYL.out]; rfl, by have := HYL.out; omega, HK7.out, HF7.out.mono (Nat.le_refl _) (Nat.le_refl _), HC2.out.mono (by omega), HT2.out⟩
      · clear hO2 hC hT2 hU
        go_wp2
        go_loopw [3] (fun out wr => ∃ (A : Option Addr) (dq yl : Nat) (ys : List Leg), out = .slice A yl dq ∧ yl = ys.length ∧ yl ≤ 16 ∧ OwnF Leg.ints 3 w.heap.size 52 wr (.slice A yl dq) ys ∧ w.heap.size ≤ wr.heap.size ∧ CurAt g C n cap (k + 250 + yl * 3) wr ∧ Touch g (g + 1) w wr) (fun out _ => 17 - (match out with | .slice _ m _ => m | _ => 0))
        case atStart => exact ⟨_, _, yl, ys, rfl, HYL.out, by omega, HO2.out, hs2, HC2.out.mono (by omega), HT2.out⟩
        case round =>
          clear HO2 HC2 HT2 hs2 HYL HN1 HO HT hsr hym hm5
          obtain ⟨A, dq, yl, ys, rfl, hyl, hy12, hO, hsr2, hC, hT⟩ := hrel
          have HYL := Lib.hid hyl
          have HN1 := Lib.hid (pick_any 2 g C n cap _ wr hC (by omega) hn)
          have HO := Lib.hid hO
          have HT := Lib.hid hT
          clear hyl hC hO hT
          go_wp2_with fail
          ((with_reducible refine (HN1.out).mono ?_); rintro e w5 ⟨_, rfl, ⟨y, rfl, hy0, hy1⟩, hC, hU5⟩)
          have hy2 : y < 2 := by omega
          have hO5 := HO.out.touch hU5 (Nat.succ_le_of_lt hgw)
          have HT8 := Lib.hid (HT.out.trans hU5)
          have hs8 : w.heap.size ≤ w5.heap.size := Nat.le_trans hsr2 hU5.size
          have HO8 := Lib.hid hO5
          have HC8 := Lib.hid hC
          by_cases hlt : (yl : Int) < 12 + y
          · have hmod0 := Int.emod_nonneg (yl : Int) (show (8 : Int) ≠ 0 by decide)
            clear hC hU5 hO5
            go_wp2_with (at_builtin; refine wpList_append_flat (f := Leg.ints) (y := ⟨_, _, _⟩) rfl _ _ _ rfl w.heap.size i0 _ 3 24 Tryd.underlying26 hi hz0e hz1e hz2e rfl (by decide) _ _ rfl rfl HO8.out rfl ?_ (by decide) hs8 ?_; (have h9 := HYL.out; omega); intro v6 w6 hown6 hg6 hb6; have HC6 := Lib.hid (HC8.out.below' hb6 hgw); have HT6 := Lib.hid (HT8.out.far' hb6 (Nat.le_refl _)); have hs6 : w.heap.size ≤ w6.heap.size := Nat.le_trans hs8 hb6.size; have HO6 := Lib.hid hown6; clear hown6 hg6 hb6)
            obtain ⟨A6, d6, hv6, _⟩ := HO6.out.formc Leg.ints_length
            subst hv6
            have hy6 : ∀ e : Leg, (ys ++ [e]).length = yl + 1 := fun e => by rw [List.length_append, ← HYL.out]; rfl
            go_roundw
            case rel => exact ⟨A6, d6, _, _, rfl, rfl, by have := HYL.out; simp; omega, HO6.out, hs6, HC6.out.mono (by have := HYL.out; simp; omega), HT6.out⟩
            case measure => have := HYL.out; simp; omega
          · obtain ⟨A7, d7, hv7, hcap7, hF7⟩ := hO5.formc Leg.ints_length
            injection hv7 with h71 h72 h73
            subst h71 h73
            have HF7 := Lib.hid hF7
            have HK7 := Lib.hid hcap7
            clear hC hU5 hO5 hF7 hcap7
            go_wp2
            go_ret
            exact ⟨_, _, ys, by rw [← HYL.out]; rfl, by have := HYL.out; omega, HK7.out, HF7.out.mono (Nat.le_refl _) (Nat.le_refl _), HC8.out.mono (by omega), HT8.out⟩
end Go.Proofs.YtlagfeccdcjimaaDoor
