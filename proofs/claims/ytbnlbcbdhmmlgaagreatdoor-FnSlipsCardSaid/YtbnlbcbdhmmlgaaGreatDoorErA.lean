/- Errata drawn. No condition. -/
import Derived.Test.YtbnlbcbdhmmlgaaGreatDoorErE
import Derived.Test.YtbnlbcbdhmmlgaaGreatDoorMgF
import Derived.Test.YtbnlbcbdhmmlgaaGreatDoorPut
namespace Go.Proofs.YtbnlbcbdhmmlgaaGreatDoor
open Go.RowKit
set_option linter.unusedVariables false
set_option linter.unusedSimpArgs false

theorem OwnF.formc {α : Type} {f : α → List Int} {sz lo : Nat} {e : TypeId} {w : World} {v : Value} {ys : List α} (h : OwnF f sz lo e w v ys) (hls : ∀ y, (f y).length = sz) : ∃ A c, v = .slice A ys.length c ∧ (ys.length ≤ c ∧ c ≤ 9223372036854775807) ∧ FlO f sz lo w.heap.size w A ys := by
  obtain ⟨A, c, hv, hF⟩ := h.form hls
  obtain ⟨B, d, hv2, h1, h2⟩ := h.caps
  rw [hv] at hv2
  injection hv2 with e1 e2 e3
  subst e3
  exact ⟨A, c, hv, ⟨h1, h2⟩, hF⟩
theorem CurAt.below' {g : Nat} {C : Option Addr} {n cap k M : Nat} {w w' : World} (h : CurAt g C n cap k w) (hb : Below M w w') (hg : g < M) : CurAt g C n cap k w' := by
  have c := fun j => hb.cell (p := ⟨g, j, none⟩) hg
  refine ⟨Nat.lt_of_lt_of_le h.lt hb.size, (c 0).trans h.c0, ?_, ?_, fun j => (hb.frozen (p := ⟨g, j, none⟩) hg).trans (h.fz j), fun i hi => ?_⟩
  · obtain ⟨a, h1, h2⟩ := h.c1; exact ⟨a, h1, (c 1).trans h2⟩
  · obtain ⟨s, h1, h2, h3⟩ := h.c2; exact ⟨s, h1, h2, (c 2).trans h3⟩
  · obtain ⟨b, o, v, h1, h2, h3, h4, h5⟩ := h.code i hi
    exact ⟨b, o, v, h1, h2, h3, h4, (hb.cell (p := ⟨b, _, none⟩) (Nat.lt_trans h2 hg)).trans h5⟩
set_option maxHeartbeats 16000000 in
set_option maxRecDepth 100000 in
theorem errata_any (g : Nat) (C : Option Addr) (n cap k : Nat) (w : World) (hC : CurAt g C n cap k w) (hk : k ≤ 274877906944) (hn : n ≤ 1099511627776) :
    Calls Tryz.prog 24 #[.pointer (some ⟨g, 0, none⟩)] w (fun r w' => ∃ (A : Option Addr) (d : Nat) (xs : List Erratum), r = .returned (.slice A xs.length d) ∧ xs.length ≤ 12 ∧ (xs.length ≤ d ∧ d ≤ 9223372036854775807) ∧ FlO Erratum.ints 5 w.heap.size w'.heap.size w' A xs ∧ CurAt g C n cap (k + 400) w' ∧ Touch g (g + 1) w w') := by
  have hgw : g < w.heap.size := hC.lt
  have hT := Touch.refl g (g + 1) w
  obtain ⟨i0, hi, hz0e, hz1e, hz2e⟩ := info_parts infoErratum
  have HOE := Lib.hid (OwnF.empty (f := Erratum.ints) (sz := 5) (e := 47) (Nat.le_refl w.heap.size))
  have hx0 := ext_alloc w (.cells #[] 47)
  have HP := Lib.hid (pick_any 7 g C n cap _ _ (hC.ext hx0) (by omega) hn)
  have HX0 := Lib.hid hx0
  clear hC hT hx0
  go_enter Tryz.func24, Tryz.ntmps24
  go_wp2_with fail
  ((with_reducible refine (HP.out).mono ?_); rintro e w1 ⟨_, rfl, ⟨z, rfl, hz0, hz1⟩, hC, hU⟩)
  obtain ⟨N, rfl⟩ : ∃ N : Nat, z = N := ⟨z.toNat, by omega⟩
  have hO := HOE.out.touch hU (by omega)
  have hT := (Touch.of_ext (lo := g) (hi := g + 1) HX0.out).trans hU
  have hs1 : w.heap.size ≤ w1.heap.size := hT.size
  have HC1 := Lib.hid hC
  have HO1 := Lib.hid hO
  have HT1 := Lib.hid hT
  clear hC hO hT hU
  go_wp2
  go_loopw [3, 4, 5] (fun out iv nv wr => ∃ (v : Value) (xs : List Erratum) (i : Int) (m : Nat), out = v ∧ iv = .int .i64 i ∧ nv = .int .i64 (m : Int) ∧ m ≤ 6 ∧ xs.length + m ≤ 6 ∧ OwnF Erratum.ints 5 w.heap.size 47 wr v xs ∧ w.heap.size ≤ wr.heap.size ∧ CurAt g C n cap (k + 2 + (6 - m) * 30) wr ∧ Touch g (g + 1) w wr) (fun _ _ nv _ => (intOf nv).toNat)
  case atStart => exact ⟨_, [], 0, N, rfl, rfl, rfl, by omega, by simp; omega, HO1.out, hs1, HC1.out.mono (by omega), HT1.out⟩
  case round =>
    obtain ⟨v, xs, i, m, rfl, rfl, rfl, hm6, hxm, hO, hsr, hC, hT⟩ := hrel
    by_cases hm : 0 < m
    · have hmi : (0 : Int) < (m : Int) := by omega
      have HO := Lib.hid hO
      have HT := Lib.hid hT
      have HN1 := Lib.hid (pick_any 3 g C n cap _ wr hC (by omega) hn)
      clear hC hO hT
      go_wp2_with fail
      ((with_reducible refine (HN1.out).mono ?_); rintro e w2 ⟨_, rfl, ⟨y1, rfl, _, _⟩, hC, hU2⟩)
      have HN2 := Lib.hid (pick_any 150 g C n cap _ w2 hC (by omega) hn)
      have HU2 := Lib.hid hU2
      clear hC hU2
      go_wp2_with fail
      ((with_reducible refine (HN2.out).mono ?_); rintro e w3 ⟨_, rfl, ⟨y2, rfl, _, _⟩, hC, hU3⟩)
      have HN3 := Lib.hid (fun id : Int => erratum_any id g C n cap _ w3 hC (by omega) hn)
      have HU3 := Lib.hid (HU2.out.trans hU3)
      clear hC hU3
      go_wp2_with fail
      ((with_reducible refine (HN3.out _).mono ?_); rintro e w4 ⟨er, rfl, hC, hU4⟩)
      have hU := HU3.out.trans hU4
      have hs4 : w.heap.size ≤ w4.heap.size := Nat.le_trans hsr hU.size
      have hO4 := HO.out.touch hU (Nat.succ_le_of_lt hgw)
      obtain ⟨A4, d4, hv4, _⟩ := hO4.form Erratum.ints_length
      have HO4 := Lib.hid hO4
      have HC4 := Lib.hid hC
      have HT4 := Lib.hid (HT.out.trans hU)
      obtain ⟨x4, hx4⟩ : ∃ z, z = xs.length := ⟨_, rfl⟩
      rw [← hx4] at hv4
      subst hv4
      have HX4 := Lib.hid hx4
      have hxl : x4 + m ≤ 6 := by omega
      clear hC hU hU4 hO4 hx4 hxm
      go_wp2_with (at_builtin; refine wpList_append_flat (f := Erratum.ints) (y := er) rfl _ _ _ rfl w.heap.size i0 _ 5 40 Tryz.underlying24 hi hz0e hz1e hz2e rfl (by decide) _ _ rfl rfl HO4.out rfl ?_ (by decide) hs4 ?_; (have h9 := HX4.out; omega); intro v6 w6 hown6 hg6 hb6; have HC6 := Lib.hid (HC4.out.below' hb6 hgw); have HT6 := Lib.hid (HT4.out.far' hb6 (Nat.le_refl _)); have hs6 : w.heap.size ≤ w6.heap.size := Nat.le_trans hs4 hb6.size; have HO6 := Lib.hid hown6; clear hown6 hg6 hb6)
      go_roundw
      case rel => exact ⟨_, xs ++ [er], _, m - 1, rfl, rfl, by go_num, by omega, by have := HX4.out; simp; omega, HO6.out, hs6, HC6.out.mono (by omega), HT6.out⟩
      case measure => simp [intOf]; omega
    · have hm0 : m = 0 := by omega
      subst hm0
      have HO := Lib.hid hO
      have HT := Lib.hid hT
      have HN1 := Lib.hid (one_any 24 g C n cap _ wr hC (by omega) hn)
      clear hC hO hT
      go_wp2_with fail
      ((with_reducible refine (HN1.out).mono ?_); rintro e w2 ⟨_, rfl, ⟨b, rfl⟩, hC, hU2⟩)
      have hO2 := HO.out.touch hU2 (Nat.succ_le_of_lt hgw)
      have hT2 := HT.out.trans hU2
      have hs2 : w.heap.size ≤ w2.heap.size := Nat.le_trans hsr hU2.size
      obtain ⟨A4, d4, hv4, hK4, hF4⟩ := hO2.formc Erratum.ints_length
      have HF4 := Lib.hid (hF4.mono (Nat.le_refl _) (Nat.le_refl _))
      have HT2 := Lib.hid hT2
      have HC2 := Lib.hid hC
      have hxl : xs.length ≤ 12 := by omega
      cases b
      · subst hv4
        have HXL := Lib.hid hxl
        clear hC hO2 hU2 hF4 hT2 hxm hxl
        go_wp2
        go_ret
        exact ⟨A4, d4, xs, rfl, HXL.out, hK4, HF4.out, HC2.out.mono (by omega), HT2.out⟩
      · clear hv4 hF4 hO2 hU2 hC hT2
        go_wp2
        have HO9 := Lib.hid (OwnF.empty (f := Erratum.ints) (sz := 5) (e := 47) hs2)
        have HC9 := Lib.hid (HC2.out.ext (ext_alloc w2 (.cells #[] 47)))
        have HT9 := Lib.hid (HT2.out.trans (Touch.of_ext (ext_alloc w2 (.cells #[] 47))))
        have hs9 : w.heap.size ≤ (w2.alloc (.cells #[] 47)).heap.size := by simp; omega
        go_loopw [3, 6] (fun out iv wr => ∃ (v : Value) (ys : List Erratum) (j : Nat), out = v ∧ iv = .int .i64 (j : Int) ∧ j ≤ 12 ∧ ys.length ≤ j ∧ OwnF Erratum.ints 5 w.heap.size 47 wr v ys ∧ w.heap.size ≤ wr.heap.size ∧ CurAt g C n cap (k + 200 + j * 3) wr ∧ Touch g (g + 1) w wr) (fun _ iv _ => 12 - (intOf iv).toNat)
        case atStart => exact ⟨_, [], 0, rfl, rfl, by omega, by simp, HO9.out, hs9, HC9.out.mono (by omega), HT9.out⟩
        case round =>
          obtain ⟨v, ys, j, rfl, rfl, hj, hyj, hO, hsr2, hC, hT⟩ := hrel
          have HO := Lib.hid hO
          have HT := Lib.hid hT
          have HN1 := Lib.hid (pick_any 2 g C n cap _ wr hC (by omega) hn)
          clear hC hO hT
          go_wp2_with fail
          ((with_reducible refine (HN1.out).mono ?_); rintro e w5 ⟨_, rfl, ⟨y, rfl, hy0, hy1⟩, hC, hU5⟩)
          have hy2 : y < 2 := by omega
          have hO5 := HO.out.touch hU5 (Nat.succ_le_of_lt hgw)
          have hT5 := HT.out.trans hU5
          have hs5 : w.heap.size ≤ w5.heap.size := Nat.le_trans hsr2 hU5.size
          obtain ⟨A5, d5, hv5, hK5, hF5⟩ := hO5.formc Erratum.ints_length
          obtain ⟨x5, hx5⟩ : ∃ z, z = ys.length := ⟨_, rfl⟩
          rw [← hx5] at hv5
          subst hv5
          have HX5 := Lib.hid hx5
          have HO5 := Lib.hid hO5
          have HF5 := Lib.hid hF5
          have HT5 := Lib.hid hT5
          have HC5 := Lib.hid hC
          have hyl : x5 ≤ j := by omega
          clear hC hU5 hO5 hF5 hT5 hx5 hyj
          by_cases hlt : (j : Int) < 10 + y
          · go_wp2_with (at_builtin; refine wpList_append_flat (f := Erratum.ints) (y := ⟨_, _, _, _, _⟩) rfl _ _ _ rfl w.heap.size i0 _ 5 40 Tryz.underlying24 hi hz0e hz1e hz2e rfl (by decide) _ _ rfl rfl HO5.out rfl ?_ (by decide) hs5 ?_; (have h9 := HX5.out; omega); intro v6 w6 hown6 hg6 hb6; have HC6 := Lib.hid (HC5.out.below' hb6 hgw); have HT6 := Lib.hid (HT5.out.far' hb6 (Nat.le_refl _)); have hs6 : w.heap.size ≤ w6.heap.size := Nat.le_trans hs5 hb6.size; have HO6 := Lib.hid hown6; clear hown6 hg6 hb6)
            go_roundw
            case rel => exact ⟨_, _, j + 1, rfl, by go_num, by omega, by have := HX5.out; simp; omega, HO6.out, hs6, HC6.out.mono (by omega), HT6.out⟩
            case measure => simp [intOf]; omega
          · go_wp2
            go_ret
            exact ⟨A5, d5, ys, by rw [← HX5.out]; rfl, by have := HX5.out; omega, hK5, HF5.out, HC5.out.mono (by omega), HT5.out⟩
end Go.Proofs.YtbnlbcbdhmmlgaaGreatDoor
