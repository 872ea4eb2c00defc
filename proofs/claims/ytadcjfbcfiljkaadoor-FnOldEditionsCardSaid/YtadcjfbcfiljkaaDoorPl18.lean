/- Places, a sheet and a day drawn. No condition. -/
import Derived.Test.YtadcjfbcfiljkaaDoorErD
import Derived.Test.YtadcjfbcfiljkaaDoorEdV
import Derived.Test.YtadcjfbcfiljkaaDoorMxMn
import Derived.Test.YtadcjfbcfiljkaaDoorBoxLaw
import Derived.Test.YtadcjfbcfiljkaaDoorPut
import Derived.Test.YtadcjfbcfiljkaaDoorFamInt
import Derived.Deep.DeepCutAuto
import Derived.Deep.RegionHeld3
import Derived.BigQuiet
namespace Go.Proofs.YtadcjfbcfiljkaaDoor
open Go.RowKit
set_option linter.unusedVariables false
set_option linter.unusedSimpArgs false

theorem CurAt.below' {g : Nat} {C : Option Addr} {n cap k M : Nat} {w w' : World} (h : CurAt g C n cap k w) (hb : Below M w w') (hg : g < M) : CurAt g C n cap k w' := by
  have c := fun j => hb.cell (p := ⟨g, j, none⟩) hg
  refine ⟨Nat.lt_of_lt_of_le h.lt hb.size, (c 0).trans h.c0, ?_, ?_, fun j => (hb.frozen (p := ⟨g, j, none⟩) hg).trans (h.fz j), fun i hi => ?_⟩
  · obtain ⟨a, h1, h2⟩ := h.c1; exact ⟨a, h1, (c 1).trans h2⟩
  · obtain ⟨s, h1, h2, h3⟩ := h.c2; exact ⟨s, h1, h2, (c 2).trans h3⟩
  · obtain ⟨b, o, v, h1, h2, h3, h4, h5⟩ := h.code i hi
    exact ⟨b, o, v, h1, h2, h3, h4, (hb.cell (p := ⟨b, _, none⟩) (Nat.lt_trans h2 hg)).trans h5⟩
set_option maxHeartbeats 16000000 in
set_option maxRecDepth 100000 in
theorem places18_any (g : Nat) (C : Option Addr) (n cap k : Nat) (w : World) (hC : CurAt g C n cap k w) (hk : k ≤ 412316860416) (hn : n ≤ 1099511627776) :
    Calls Tryd.prog 52 #[.pointer (some ⟨g, 0, none⟩)] w (fun r w' => ∃ (A : Option Addr) (m d : Nat) (l : List Int), r = .returned (.slice A m d) ∧ m = l.length ∧ m ≤ 12 ∧ OwnF one 1 w.heap.size 3 w' (.slice A m d) l ∧ CurAt g C n cap (k + 60) w' ∧ Touch g (g + 1) w w') := by
  have hgw : g < w.heap.size := hC.lt
  have hT := Touch.refl g (g + 1) w
  obtain ⟨i0, hi, hz0e, hz1e, hz2e⟩ := info_parts infoInt
  have HOE := Lib.hid (OwnF.empty (f := one) (sz := 1) (e := 3) (Nat.le_refl w.heap.size))
  have hx0 := ext_alloc w (.cells #[] 3)
  have HP := Lib.hid (pick_any 4 g C n cap _ _ (hC.ext hx0) (by omega) hn)
  have HX0 := Lib.hid hx0
  clear hC hT hx0
  go_enter Tryd.func52, Tryd.ntmps52
  go_wp2_with fail
  ((with_reducible refine (HP.out).mono ?_); rintro e w1 ⟨_, rfl, ⟨z, rfl, hz0, hz1⟩, hC, hU⟩)
  obtain ⟨N, rfl⟩ : ∃ N : Nat, z = N := ⟨z.toNat, by omega⟩
  have hO := HOE.out.touch hU (by omega)
  have hT := (Touch.of_ext (lo := g) (hi := g + 1) HX0.out).trans hU
  have hs1 : w.heap.size ≤ w1.heap.size := hT.size
  have HC1 := Lib.hid hC
  have HO1 := Lib.hid hO
  have HT1 := Lib.hid hT
  clear hC hO hT hU
  go_wp2
  go_loopw [3, 4] (fun out nv wr => ∃ (v : Value) (xs : List Int) (m : Nat), out = v ∧ nv = .int .i64 (m : Int) ∧ m ≤ 3 ∧ xs.length + m ≤ 3 ∧ OwnF one 1 w.heap.size 3 wr v xs ∧ w.heap.size ≤ wr.heap.size ∧ CurAt g C n cap (k + 2 + (3 - m) * 4) wr ∧ Touch g (g + 1) w wr) (fun _ nv _ => (intOf nv).toNat)
  case atStart => exact ⟨_, [], N, rfl, rfl, by omega, by simp; omega, HO1.out, hs1, HC1.out.mono (by omega), HT1.out⟩
  case round =>
    clear HC1 HO1 HT1 HP HX0 HOE hs1 hz0 hz1
    obtain ⟨v, xs, m, rfl, rfl, hm3, hxm, hO, hsr, hC, hT⟩ := hrel
    by_cases hm : 0 < m
    · have hmi : (0 : Int) < (m : Int) := by omega
      have hlt1 : g < (World.heap wr).size := hC.lt
      have HN1 := Lib.hid (among_any (some ⟨(World.heap wr).size, 0, none⟩) 5 5 [0, 3, 5, 40, 999] rfl (World.heap wr).size ((World.heap wr).size + 1) g C n cap _ (World.alloc wr (.cells #[Value.int .i64 (0), Value.int .i64 (3), Value.int .i64 (5), Value.int .i64 (40), Value.int .i64 (999)] 3)) (hC.ext (ext_alloc _ _)) (by omega) hn (lit_flo wr [0, 3, 5, 40, 999] _ _ rfl) (by simp) (by simp) (.inl hlt1))
      clear hC
      go_wp2_with fail
      ((with_reducible refine (HN1.out).mono ?_); rintro e w1 ⟨_, rfl, ⟨q1, _, rfl⟩, hC, hU1⟩)
      replace hU1 := (Touch.of_ext (ext_alloc wr (.cells #[Value.int .i64 (0), Value.int .i64 (3), Value.int .i64 (5), Value.int .i64 (40), Value.int .i64 (999)] 3))).trans hU1
      replace hO := hO.touch hU1 (by omega)
      replace hT := hT.trans hU1
      have hz_w1 : (World.heap wr).size ≤ (World.heap w1).size := hU1.size
      clear hU1
      have hs2 : w.heap.size ≤ (World.heap w1).size := by omega
      have HPUT := Lib.hid (l1PutOwnS_any w.heap.size _ xs q1 w1 (by omega) hs2 hO)
      have hpl := putI_len xs q1
      have HCC := Lib.hid hC
      have HTT := Lib.hid hT
      clear hO hC hT
      go_wp2_with fail
      ((with_reducible refine (HPUT.out).mono ?_); rintro e w9 ⟨v9, rfl, hO9, hb9⟩)
      have HO9 := Lib.hid hO9
      have HC9 := Lib.hid (HCC.out.ext hb9)
      have HT9 := Lib.hid (HTT.out.trans (Touch.of_ext hb9))
      have hs9 : w.heap.size ≤ w9.heap.size := Nat.le_trans hs2 hb9.size
      clear hO9 hb9
      go_wp2
      go_roundw
      case rel => exact ⟨v9, putI xs q1, m - 1, rfl, by go_num, by omega, by omega, HO9.out, hs9, HC9.out.mono (by omega), HT9.out⟩
      case measure => simp [intOf]; omega
    · have hm0 : m = 0 := by omega
      subst hm0
      have hxl : xs.length ≤ 3 := by omega
      clear hm hm3 hxm
      have HN1 := Lib.hid (one_any 60 g C n cap _ wr hC (by omega) hn)
      clear hC
      go_wp2_with fail
      ((with_reducible refine (HN1.out).mono ?_); rintro e w1 ⟨_, rfl, ⟨b, rfl⟩, hC, hU1⟩)
      replace hO := hO.touch hU1 (by omega)
      replace hT := hT.trans hU1
      have hz_w1 : (World.heap wr).size ≤ (World.heap w1).size := hU1.size
      clear hU1
      have hs2 : w.heap.size ≤ (World.heap w1).size := by omega
      go_upto_if 19 with fail
      go_cut [3] (fun out wx => ∃ (v : Value) (xs : List Int), out = v ∧ xs.length ≤ 4 ∧ OwnF one 1 w.heap.size 3 wx v xs ∧ w.heap.size ≤ wx.heap.size ∧ CurAt g C n cap (k + 20) wx ∧ Touch g (g + 1) w wx)
      case first =>
        cases b
        · have HO := Lib.hid hO
          have HC := Lib.hid hC
          have HT := Lib.hid hT
          clear hO hC hT
          go_wp2
          go_meet
          exact ⟨_, xs, rfl, by omega, HO.out, hs2, HC.out.mono (by omega), HT.out⟩
        · skip
          have hlt2 : g < (World.heap w1).size := hC.lt
          have HN2 := Lib.hid (among_any (some ⟨(World.heap w1).size, 0, none⟩) 3 3 [-1, 1000, 0] rfl (World.heap w1).size ((World.heap w1).size + 1) g C n cap _ (World.alloc w1 (.cells #[Value.int .i64 (-1), Value.int .i64 (1000), Value.int .i64 (0)] 3)) (hC.ext (ext_alloc _ _)) (by omega) hn (lit_flo w1 [-1, 1000, 0] _ _ rfl) (by simp) (by simp) (.inl hlt2))
          clear hC
          go_wp2_with fail
          ((with_reducible refine (HN2.out).mono ?_); rintro e w2 ⟨_, rfl, ⟨q2, _, rfl⟩, hC, hU2⟩)
          replace hU2 := (Touch.of_ext (ext_alloc w1 (.cells #[Value.int .i64 (-1), Value.int .i64 (1000), Value.int .i64 (0)] 3))).trans hU2
          replace hO := hO.touch hU2 (by omega)
          replace hT := hT.trans hU2
          have hz_w2 : (World.heap w1).size ≤ (World.heap w2).size := hU2.size
          clear hU2
          have hs4 : w.heap.size ≤ (World.heap w2).size := by omega
          go_wp2_with (at_builtin; refine wpList_append_flat (f := one) (y := q2) rfl _ _ _ rfl w.heap.size i0 _ 1 8 Tryd.underlying31 hi hz0e hz1e hz2e rfl (by decide) _ _ rfl rfl hO rfl ?_ (by decide) hs4 ?_; omega; intro v6 w6 hown6 hg6 hb6; have HC6 := Lib.hid (hC.below' hb6 hgw); have HT6 := Lib.hid (hT.far' hb6 (Nat.le_refl _)); have hs6 : w.heap.size ≤ w6.heap.size := Nat.le_trans hs4 hb6.size; have HO6 := Lib.hid hown6; clear hown6 hg6 hb6)
          go_meet
          exact ⟨_, xs ++ [q2], rfl, by simp; omega, HO6.out, hs6, HC6.out.mono (by omega), HT6.out⟩
      case rest =>
        clear hC hO hT
        obtain ⟨v2, ys, rfl, hyl, hO, hsz, hC, hT⟩ := hcut
        obtain ⟨wz, hwz⟩ : ∃ z, z = wc := ⟨_, rfl⟩
        subst hwz
        have HN3 := Lib.hid (one_any 40 g C n cap _ wz hC (by omega) hn)
        clear hC
        go_wp2_with fail
        ((with_reducible refine (HN3.out).mono ?_); rintro e w3 ⟨_, rfl, ⟨b2, rfl⟩, hC, hU3⟩)
        replace hO := hO.touch hU3 (by omega)
        replace hT := hT.trans hU3
        have hz_w3 : (World.heap wz).size ≤ (World.heap w3).size := hU3.size
        clear hU3
        have hs3 : w.heap.size ≤ (World.heap w3).size := by omega
        cases b2
        · obtain ⟨A7, d7, hv7, hF7⟩ := hO.form one_length
          obtain ⟨m7, hm7⟩ : ∃ z, z = ys.length := ⟨_, rfl⟩
          rw [← hm7] at hv7
          subst hv7
          have HM := Lib.hid hm7
          have HO := Lib.hid hO
          have HC := Lib.hid hC
          have HT := Lib.hid hT
          clear hO hC hT hF7 hm7
          go_wp2
          go_ret
          exact ⟨A7, m7, d7, ys, rfl, HM.out, by have := HM.out; omega, HO.out, HC.out.mono (by omega), HT.out⟩
        · have hx9 := ext_alloc w3 (.cells #[] 3)
          have HOE := Lib.hid (OwnF.empty (f := one) (sz := 1) (e := 3) hs3)
          have HC := Lib.hid (hC.ext hx9)
          have HT := Lib.hid (hT.trans (Touch.of_ext hx9))
          have hs4 : w.heap.size ≤ (w3.alloc (.cells #[] 3)).heap.size := Nat.le_trans hs3 hx9.size
          clear hO hC hT hx9
          go_wp2
          go_loopw [3, 5] (fun out nv wr => ∃ (v : Value) (zs : List Int) (j : Nat), out = v ∧ nv = .int .i64 (j : Int) ∧ j ≤ 11 ∧ zs.length = j ∧ OwnF one 1 w.heap.size 3 wr v zs ∧ w.heap.size ≤ wr.heap.size ∧ CurAt g C n cap (k + 24 + j * 2) wr ∧ Touch g (g + 1) w wr) (fun _ nv _ => 11 - (intOf nv).toNat)
          case atStart => exact ⟨_, [], 0, rfl, rfl, by omega, rfl, HOE.out, hs4, HC.out.mono (by omega), HT.out⟩
          case round =>
            clear HOE HC HT hs4
            obtain ⟨v, zs, j, rfl, rfl, hj, hzj, hO, hsr, hC, hT⟩ := hrel
            have HN31 := Lib.hid (pick_any 2 g C n cap _ wr hC (by omega) hn)
            clear hC
            go_wp2_with fail
            ((with_reducible refine (HN31.out).mono ?_); rintro e w31 ⟨_, rfl, ⟨u, rfl, u0, u1⟩, hC, hU31⟩)
            replace hO := hO.touch hU31 (by omega)
            replace hT := hT.trans hU31
            have hz_w31 : (World.heap wr).size ≤ (World.heap w31).size := hU31.size
            clear hU31
            have hs4 : w.heap.size ≤ (World.heap w31).size := by omega
            by_cases hlt : (j : Int) < 10 + u
            · go_wp2_with (at_builtin; refine wpList_append_flat (f := one) (y := 7 * (j : Int)) rfl _ _ _ rfl w.heap.size i0 _ 1 8 Tryd.underlying31 hi hz0e hz1e hz2e rfl (by decide) _ _ rfl rfl hO rfl ?_ (by decide) hs4 ?_; omega; intro v6 w6 hown6 hg6 hb6; have HC6 := Lib.hid (hC.below' hb6 hgw); have HT6 := Lib.hid (hT.far' hb6 (Nat.le_refl _)); have hs6 : w.heap.size ≤ w6.heap.size := Nat.le_trans hs4 hb6.size; have HO6 := Lib.hid hown6; clear hown6 hg6 hb6)
              go_roundw
              case rel => exact ⟨_, zs ++ [7 * (j : Int)], j + 1, rfl, by go_num, by omega, by simp; omega, HO6.out, hs6, HC6.out.mono (by omega), HT6.out⟩
              case measure => simp [intOf]; omega
            · obtain ⟨A7, d7, hv7, hF7⟩ := hO.form one_length
              obtain ⟨m7, hm7⟩ : ∃ z, z = zs.length := ⟨_, rfl⟩
              rw [← hm7] at hv7
              subst hv7
              have HM := Lib.hid hm7
              have HO := Lib.hid hO
              have HC := Lib.hid hC
              have HT := Lib.hid hT
              clear hO hC hT hF7 hm7
              go_wp2
              go_ret
              exact ⟨A7, m7, d7, zs, rfl, HM.out, by have := HM.out; omega, HO.out, HC.out.mono (by omega), HT.out⟩
theorem FlO.takeF {α : Type} {f : α → List Int} {sz lo hi : Nat} {w : World} {A : Option Addr} {xs : List α} (h : FlO f sz lo hi w A xs) (m : Nat) : FlO f sz lo hi w A (xs.take m) := fun hn => by
  obtain ⟨b, o, h1, h2, h3, h4, h5, h6⟩ := h (fun e => hn (by rw [e]; simp))
  exact ⟨b, o, h1, h2, h3, h4, h5, fun i x hx => h6 i x (by
    by_cases hi : i < m
    · rwa [List.getElem?_take_of_lt hi] at hx
    · rw [List.getElem?_eq_none (by simp; omega)] at hx; cases hx)⟩
set_option maxHeartbeats 4000000 in
set_option maxRecDepth 100000 in
theorem sheet18_any (g : Nat) (C : Option Addr) (n cap k : Nat) (w : World) (hC : CurAt g C n cap k w) (hk : k ≤ 412316860416) (hn : n ≤ 1099511627776) :
    Calls Tryd.prog 34 #[.pointer (some ⟨g, 0, none⟩)] w (fun r w' => ∃ z : Int, r = .returned (.int .i64 z) ∧ CurAt g C n cap (k + 8) w' ∧ Touch g (g + 1) w w') := by
  have hx := ext_alloc w (.cells #[Value.int .i64 (1), Value.int .i64 (1), Value.int .i64 (1), Value.int .i64 (2), Value.int .i64 (7), Value.int .i64 (999), Value.int .i64 (5), Value.int .i64 (0), Value.int .i64 (1000)] 3)
  have HP := Lib.hid (pick_any 24 g C n cap _ _ (hC.ext hx) (by omega) hn)
  have HL := Lib.hid (lit_flo w [1, 1, 1, 2, 7, 999, 5, 0, 1000] 3 #[Value.int .i64 (1), Value.int .i64 (1), Value.int .i64 (1), Value.int .i64 (2), Value.int .i64 (7), Value.int .i64 (999), Value.int .i64 (5), Value.int .i64 (0), Value.int .i64 (1000)] rfl)
  have HX := Lib.hid hx
  have hgW : g < (World.heap w).size := hC.lt
  clear hC hx
  go_enter Tryd.func34, Tryd.ntmps34
  go_wp2_with fail
  ((with_reducible refine (HP.out).mono ?_); rintro e v1 ⟨_, rfl, ⟨z, rfl, hz0, hz1⟩, hC, hU⟩)
  have HL1 := HL.out.touch hU (.inr (Nat.succ_le_of_lt hgW))
  have HU := Lib.hid (((Touch.of_ext (lo := g) (hi := g + 1) HX.out).trans hU))
  have hgg : g < (World.heap w).size ∨ (World.heap w).size + 1 ≤ g := .inl hgW
  have HA6 := Lib.hid (among_any (some ⟨(World.heap w).size, 0, none⟩) 9 8 [1, 1, 1, 2, 7, 999, 5, 0] rfl (World.heap w).size ((World.heap w).size + 1) g C n cap _ v1 hC (by omega) hn (HL1.takeF 8) (by simp) (by simp) hgg)
  have HA7 := Lib.hid (among_any (some ⟨(World.heap w).size, 0, none⟩) 9 9 [1, 1, 1, 2, 7, 999, 5, 0, 1000] rfl (World.heap w).size ((World.heap w).size + 1) g C n cap _ v1 hC (by omega) hn HL1 (by simp) (by simp) hgg)
  clear hC hU HL1
  by_cases h12 : z < 12
  · have hz12 : z / 12 = 0 := by omega
    go_wp2_with fail
    ((with_reducible refine (HA6.out).mono ?_); rintro e v2 ⟨_, rfl, ⟨y, _, rfl⟩, hC2, hU2⟩)
    have HC2 := Lib.hid hC2
    have HU2 := Lib.hid (HU.out.trans hU2)
    clear hC2 hU2
    go_wp2
    go_ret
    exact ⟨y, rfl, HC2.out.mono (by omega), HU2.out⟩
  · have hz12 : z / 12 = 1 := by omega
    go_wp2_with fail
    ((with_reducible refine (HA7.out).mono ?_); rintro e v2 ⟨_, rfl, ⟨y, _, rfl⟩, hC2, hU2⟩)
    have HC2 := Lib.hid hC2
    have HU2 := Lib.hid (HU.out.trans hU2)
    clear hC2 hU2
    go_wp2
    go_ret
    exact ⟨y, rfl, HC2.out.mono (by omega), HU2.out⟩
set_option maxHeartbeats 16000000 in
set_option maxRecDepth 100000 in
theorem day18_any (LA : Option Addr) (ld lo q : Nat) (xs : List Nest) (hq : q = xs.length) (hql : q ≤ 400) (g : Nat) (C : Option Addr) (n cap k : Nat) (w : World) (hC : CurAt g C n cap k w) (hN : NlA lo w LA xs) (hgl : g + 1 ≤ lo) (hk : k ≤ 412316860416) (hn : n ≤ 1099511627776) :
    Calls Tryd.prog 38 #[.pointer (some ⟨g, 0, none⟩), .slice LA q ld] w (fun r w' => ∃ z : Int, r = .returned (.int .i64 z) ∧ CurAt g C n cap (k + 8) w' ∧ Touch g (g + 1) w w') := by
  by_cases h0 : q = 0
  · subst h0
    clear hq hN
    have hx := ext_alloc w (.cells #[Value.int .i64 (0), Value.int .i64 (50), Value.int .i64 (4000), Value.int .i64 (-1), Value.int .i64 (4001)] 3)
    have HP := Lib.hid (pick_any 24 g C n cap _ _ (hC.ext hx) (by omega) hn)
    have HL := Lib.hid (lit_flo w [0, 50, 4000, -1, 4001] 3 #[Value.int .i64 (0), Value.int .i64 (50), Value.int .i64 (4000), Value.int .i64 (-1), Value.int .i64 (4001)] rfl)
    have HX := Lib.hid hx
    have hgW : g < (World.heap w).size := hC.lt
    clear hC hx
    go_enter Tryd.func38, Tryd.ntmps38
    go_wp2_with fail
    ((with_reducible refine (HP.out).mono ?_); rintro e v1 ⟨_, rfl, ⟨z, rfl, hz0, hz1⟩, hC, hU⟩)
    have HL1 := HL.out.touch hU (.inr (Nat.succ_le_of_lt hgW))
    have HU := Lib.hid (((Touch.of_ext (lo := g) (hi := g + 1) HX.out).trans hU))
    have hgg : g < (World.heap w).size ∨ (World.heap w).size + 1 ≤ g := .inl hgW
    have HA6 := Lib.hid (among_any (some ⟨(World.heap w).size, 0, none⟩) 5 4 [0, 50, 4000, -1] rfl (World.heap w).size ((World.heap w).size + 1) g C n cap _ v1 hC (by omega) hn (HL1.takeF 4) (by simp) (by simp) hgg)
    have HA7 := Lib.hid (among_any (some ⟨(World.heap w).size, 0, none⟩) 5 5 [0, 50, 4000, -1, 4001] rfl (World.heap w).size ((World.heap w).size + 1) g C n cap _ v1 hC (by omega) hn HL1 (by simp) (by simp) hgg)
    clear hC hU HL1
    by_cases h12 : z < 12
    · have hz12 : z / 12 = 0 := by omega
      go_wp2_with fail
      ((with_reducible refine (HA6.out).mono ?_); rintro e v2 ⟨_, rfl, ⟨y, _, rfl⟩, hC2, hU2⟩)
      have HC2 := Lib.hid hC2
      have HU2 := Lib.hid (HU.out.trans hU2)
      clear hC2 hU2
      go_wp2
      go_ret
      exact ⟨y, rfl, HC2.out.mono (by omega), HU2.out⟩
    · have hz12 : z / 12 = 1 := by omega
      go_wp2_with fail
      ((with_reducible refine (HA7.out).mono ?_); rintro e v2 ⟨_, rfl, ⟨y, _, rfl⟩, hC2, hU2⟩)
      have HC2 := Lib.hid hC2
      have HU2 := Lib.hid (HU.out.trans hU2)
      clear hC2 hU2
      go_wp2
      go_ret
      exact ⟨y, rfl, HC2.out.mono (by omega), HU2.out⟩
  · have hq0 : ((q : Int) == 0) = false := by simp; omega
    have HQ := Lib.hid hq
    have HN := Lib.hid hN
    have HN1 := Lib.hid (one_any 5 g C n cap _ w hC (by omega) hn)
    clear hC hq hN
    go_enter Tryd.func38, Tryd.ntmps38
    go_wp2_with fail
    ((with_reducible refine (HN1.out).mono ?_); rintro e w1 ⟨_, rfl, ⟨b, rfl⟩, hC, hU1⟩)
    cases b
    · obtain ⟨lb, lv, hLA, hll, hlw, hce⟩ := (HN.out.touch hU1 hgl) (fun e => by have h := HQ.out; rw [e] at h; exact h0 (by simpa using h))
      subst hLA
      have HCE := Lib.hid (fun (j : Nat) (x : Nest) (h : xs[j]? = some x) => (show World.cell? w1 ⟨lb, lv + j * 4 + 2, none⟩ = some (.int .i64 x.c) from by obtain ⟨_, _, h1, _⟩ := hce j x h; exact h1.cc))
      have hlg : lb ≠ g := by omega
      have KP := Lib.hid (fun (W : World) (h : Touch g (g + 1) w1 W) => (show ∀ o, World.cell? W ⟨lb, o, none⟩ = World.cell? w1 ⟨lb, o, none⟩ from fun o => h.cell (b := lb) (o := o) hlw (by omega)))
      have PK := Lib.hid (fun (W : World) (h : CurAt g C n cap (k + 2) W) => pick_any (q : Int) g C n cap (k + 2) W h (by omega) hn)
      have AM := Lib.hid (fun (W : World) (B : Nat) (h : CurAt g C n cap (k + 4) W) (hF : FlO one 1 B (B + 1) W (some ⟨B, 0, none⟩) [-1, 0, 0, 1, 30]) (hb : g < B) => among_any (some ⟨B, 0, none⟩) 5 5 [-1, 0, 0, 1, 30] rfl B (B + 1) g C n cap (k + 4) W h (by omega) hn hF (by simp) (by simp) (.inl hb))
      have hg1 : g < w1.heap.size := hC.lt
      have hg1' : g + 1 ≤ w1.heap.size := hg1
      have HC1 := Lib.hid hC
      have HU1 := Lib.hid hU1
      clear hC hU1 hce
      have HLW := Lib.hid (lit_flo w1 [-1, 0, 0, 1, 30] 3 #[Value.int .i64 (-1), .int .i64 0, .int .i64 0, .int .i64 1, .int .i64 30] rfl)
      go_upto_region 3 with fail
      go_region_held3 (fun w' => ∀ o, World.cell? w' ⟨lb, o, none⟩ = World.cell? w1 ⟨lb, o, none⟩) (first | with_reducible exact KP.out _ (Touch.of_ext (ext_drew _)) | with_reducible exact KP.out _ (Touch.of_ext (ext_trans (ext_alloc _ _) (ext_drew _))) | with_reducible exact KP.out _ HT5.out | with_reducible exact KP.out _ (HT5.out.trans (Touch.of_ext (ext_alloc _ _))) | with_reducible exact KP.out _ HT6.out) ((first | (go_at_call 55; (with_reducible refine (l1Mn_any _ _ _).mono ?_); rintro e _ ⟨rfl, rfl⟩) | (go_at_call 56; (with_reducible refine (l1Mx_any _ _ _).mono ?_); rintro e _ ⟨rfl, rfl⟩) | (go_at_call 40; (with_reducible refine (PK.out _ ?_).mono ?_); (first | with_reducible exact HC1.out.ext (ext_drew _) | with_reducible exact HC1.out.ext (ext_trans (ext_alloc _ _) (ext_drew _))); rintro e w5 ⟨_, rfl, ⟨z, rfl, hz0, hz1⟩, hC5, hU5⟩; (obtain ⟨j, rfl⟩ : ∃ j : Nat, z = j := ⟨z.toNat, by omega⟩); have hjq : j < q := (by omega); (obtain ⟨x, hx⟩ : ∃ x, xs[j]? = some x := ⟨_, List.getElem?_eq_getElem (by rw [← HQ.out]; exact hjq)⟩); have c0 := HCE.out j x hx; have hj0 : (0 : Int) ≤ (j : Int) := (by omega); have hj1 : (j : Int) < (q : Int) := (by omega); have HC5 := Lib.hid hC5; (first | with_reducible have HT5 := Lib.hid ((Touch.of_ext (ext_drew w1)).trans hU5) | with_reducible have HT5 := Lib.hid ((Touch.of_ext (ext_trans (ext_alloc w1 _) (ext_drew _))).trans hU5)); (try (with_reducible have HLT := Lib.hid ((HLW.out.ext (ext_drew _)).touch hU5 (.inr hg1')))); have hg5 : g < w5.heap.size := hC5.lt; clear hC5 hU5 hx) | (go_at_call 39; (with_reducible refine (AM.out _ _ ?_ ?_ ?_).mono ?_); (first | with_reducible exact HC5.out.ext (ext_alloc _ _) | with_reducible exact HC5.out); (first | exact lit_flo w5 [-1, 0, 0, 1, 30] _ _ rfl | exact HLT.out); (first | with_reducible exact hg5 | with_reducible exact hg1); rintro e w6 ⟨_, rfl, ⟨y, _, rfl⟩, hC6, hU6⟩; have HC6 := Lib.hid hC6; (first | with_reducible have HT6 := Lib.hid ((HT5.out.trans (Touch.of_ext (ext_alloc _ _))).trans hU6) | with_reducible have HT6 := Lib.hid (HT5.out.trans hU6)); clear hC6 hU6)))
      all_goals (go_wp2_with fail)
      all_goals go_ret
      all_goals exact ⟨_, rfl, HC6.out.mono (by omega), HU1.out.trans HT6.out⟩
    · have HU1 := Lib.hid hU1
      clear hU1
      have hx := ext_alloc w1 (.cells #[Value.int .i64 (0), Value.int .i64 (50), Value.int .i64 (4000), Value.int .i64 (-1), Value.int .i64 (4001)] 3)
      have HP := Lib.hid (pick_any 24 g C n cap _ _ (hC.ext hx) (by omega) hn)
      have HL := Lib.hid (lit_flo w1 [0, 50, 4000, -1, 4001] 3 #[Value.int .i64 (0), Value.int .i64 (50), Value.int .i64 (4000), Value.int .i64 (-1), Value.int .i64 (4001)] rfl)
      have HX := Lib.hid hx
      have hgW : g < (World.heap w1).size := hC.lt
      clear hC hx
      go_wp2_with fail
      ((with_reducible refine (HP.out).mono ?_); rintro e v1 ⟨_, rfl, ⟨z, rfl, hz0, hz1⟩, hC, hU⟩)
      have HL1 := HL.out.touch hU (.inr (Nat.succ_le_of_lt hgW))
      have HU := Lib.hid ((HU1.out).trans ((Touch.of_ext (lo := g) (hi := g + 1) HX.out).trans hU))
      have hgg : g < (World.heap w1).size ∨ (World.heap w1).size + 1 ≤ g := .inl hgW
      have HA6 := Lib.hid (among_any (some ⟨(World.heap w1).size, 0, none⟩) 5 4 [0, 50, 4000, -1] rfl (World.heap w1).size ((World.heap w1).size + 1) g C n cap _ v1 hC (by omega) hn (HL1.takeF 4) (by simp) (by simp) hgg)
      have HA7 := Lib.hid (among_any (some ⟨(World.heap w1).size, 0, none⟩) 5 5 [0, 50, 4000, -1, 4001] rfl (World.heap w1).size ((World.heap w1).size + 1) g C n cap _ v1 hC (by omega) hn HL1 (by simp) (by simp) hgg)
      clear hC hU HL1
      by_cases h12 : z < 12
      · have hz12 : z / 12 = 0 := by omega
        go_wp2_with fail
        ((with_reducible refine (HA6.out).mono ?_); rintro e v2 ⟨_, rfl, ⟨y, _, rfl⟩, hC2, hU2⟩)
        have HC2 := Lib.hid hC2
        have HU2 := Lib.hid (HU.out.trans hU2)
        clear hC2 hU2
        go_wp2
        go_ret
        exact ⟨y, rfl, HC2.out.mono (by omega), HU2.out⟩
      · have hz12 : z / 12 = 1 := by omega
        go_wp2_with fail
        ((with_reducible refine (HA7.out).mono ?_); rintro e v2 ⟨_, rfl, ⟨y, _, rfl⟩, hC2, hU2⟩)
        have HC2 := Lib.hid hC2
        have HU2 := Lib.hid (HU.out.trans hU2)
        clear hC2 hU2
        go_wp2
        go_ret
        exact ⟨y, rfl, HC2.out.mono (by omega), HU2.out⟩
end Go.Proofs.YtadcjfbcfiljkaaDoor
