/- A sheet and a day drawn. No condition. -/
import Derived.Test.YtadcjfbcfiljkaaErD
import Derived.Test.YtadcjfbcfiljkaaEdV
import Derived.Test.YtadcjfbcfiljkaaMxMn
import Derived.Test.YtadcjfbcfiljkaaBoxLaw
import Derived.Deep.DeepCutAuto
import Derived.Deep.RegionHeld3
import Derived.BigQuiet
namespace Go.Proofs.Ytadcjfbcfiljkaa
open Go.RowKit
set_option linter.unusedVariables false
set_option linter.unusedSimpArgs false

theorem FlO.takeF {α : Type} {f : α → List Int} {sz lo hi : Nat} {w : World} {A : Option Addr} {xs : List α} (h : FlO f sz lo hi w A xs) (m : Nat) : FlO f sz lo hi w A (xs.take m) := fun hn => by
  obtain ⟨b, o, h1, h2, h3, h4, h5, h6⟩ := h (fun e => hn (by rw [e]; simp))
  exact ⟨b, o, h1, h2, h3, h4, h5, fun i x hx => h6 i x (by
    by_cases hi : i < m
    · rwa [List.getElem?_take_of_lt hi] at hx
    · rw [List.getElem?_eq_none (by simp; omega)] at hx; cases hx)⟩
set_option maxHeartbeats 4000000 in
set_option maxRecDepth 100000 in
theorem sheet18_any (g : Nat) (C : Option Addr) (n cap k : Nat) (w : World) (hC : CurAt g C n cap k w) (hk : k ≤ 412316860416) (hn : n ≤ 1099511627776) :
    Calls Try.prog 26 #[.pointer (some ⟨g, 0, none⟩)] w (fun r w' => ∃ z : Int, r = .returned (.int .i64 z) ∧ CurAt g C n cap (k + 8) w' ∧ Touch g (g + 1) w w') := by
  have hx := ext_alloc w (.cells #[Value.int .i64 (1), Value.int .i64 (1), Value.int .i64 (1), Value.int .i64 (2), Value.int .i64 (7), Value.int .i64 (999), Value.int .i64 (5), Value.int .i64 (0), Value.int .i64 (1000)] 3)
  have HP := Lib.hid (pick_any 24 g C n cap _ _ (hC.ext hx) (by omega) hn)
  have HL := Lib.hid (lit_flo w [1, 1, 1, 2, 7, 999, 5, 0, 1000] 3 #[Value.int .i64 (1), Value.int .i64 (1), Value.int .i64 (1), Value.int .i64 (2), Value.int .i64 (7), Value.int .i64 (999), Value.int .i64 (5), Value.int .i64 (0), Value.int .i64 (1000)] rfl)
  have HX := Lib.hid hx
  have hgW : g < (World.heap w).size := hC.lt
  clear hC hx
  go_enter Try.func26, Try.ntmps26
  go_wp2_with fail
  ((with_reducible refine (HP.out).mono ?_); rintro e v1 ⟨_, rfl, ⟨z, rfl, hz0, hz1⟩, hC, hU⟩)
  have HL1 := HL.out.touch hU (.inr (Nat.succ_le_of_lt hgW))
  have HU := Lib.hid (((Touch.of_ext (lo := g) (hi := g + 1) HX.out).trans hU))
  have hgg : g < (World.heap w).size ∨ (World.heap w).size + 1 ≤ g := .inl hgW
  have HA6 := Lib.hid (among_any (some ⟨(World.heap w).size, 0, none⟩) 9 8 [1, 1, 1, 2, 7, 999, 5, 0] rfl (World.heap w).size ((World.heap w).size + 1) g C n cap _ v1 hC (by omega) hn (HL1.takeF 8) (by simp) (by simp) hgg)
  have HA7 := Lib.hid (among_any (some ⟨(World.heap w).size, 0, none⟩) 9 9 [1, 1, 1, 2, 7, 999, 5, 0, 1000] rfl (World.heap w).size ((World.heap w).size + 1) g C n cap _ v1 hC (by omega) hn HL1 (by simp) (by simp) hgg)
  clear hC hU HL1
  by_cases h12 : z < 12
  · have hz12 : z / 12 = 0 := by omega
    go_wp2_with fail
    ((with_reducible refine (HA6.out).mono ?_); rintro e v2 ⟨_, rfl, ⟨y, _, rfl⟩, hC2, hU2⟩)
    have HC2 := Lib.hid hC2
    have HU2 := Lib.hid (HU.out.trans hU2)
    clear hC2 hU2
    go_wp2
    go_ret
    exact ⟨y, rfl, HC2.out.mono (by omega), HU2.out⟩
  · have hz12 : z / 12 = 1 := by omega
    go_wp2_with fail
    ((with_reducible refine (HA7.out).mono ?_); rintro e v2 ⟨_, rfl, ⟨y, _, rfl⟩, hC2, hU2⟩)
    have HC2 := Lib.hid hC2
    have HU2 := Lib.hid (HU.out.trans hU2)
    clear hC2 hU2
    go_wp2
    go_ret
    exact ⟨y, rfl, HC2.out.mono (by omega), HU2.out⟩
set_option maxHeartbeats 16000000 in
set_option maxRecDepth 100000 in
theorem day18_any (LA : Option Addr) (ld lo q : Nat) (xs : List Nest) (hq : q = xs.length) (hql : q ≤ 400) (g : Nat) (C : Option Addr) (n cap k : Nat) (w : World) (hC : CurAt g C n cap k w) (hN : NlA lo w LA xs) (hgl : g + 1 ≤ lo) (hk : k ≤ 412316860416) (hn : n ≤ 1099511627776) :
    Calls Try.prog 22 #[.pointer (some ⟨g, 0, none⟩), .slice LA q ld] w (fun r w' => ∃ z : Int, r = .returned (.int .i64 z) ∧ CurAt g C n cap (k + 8) w' ∧ Touch g (g + 1) w w') := by
  by_cases h0 : q = 0
  · subst h0
    clear hq hN
    have hx := ext_alloc w (.cells #[Value.int .i64 (0), Value.int .i64 (50), Value.int .i64 (4000), Value.int .i64 (-1), Value.int .i64 (4001)] 3)
    have HP := Lib.hid (pick_any 24 g C n cap _ _ (hC.ext hx) (by omega) hn)
    have HL := Lib.hid (lit_flo w [0, 50, 4000, -1, 4001] 3 #[Value.int .i64 (0), Value.int .i64 (50), Value.int .i64 (4000), Value.int .i64 (-1), Value.int .i64 (4001)] rfl)
    have HX := Lib.hid hx
    have hgW : g < (World.heap w).size := hC.lt
    clear hC hx
    go_enter Try.func22, Try.ntmps22
    go_wp2_with fail
    ((with_reducible refine (HP.out).mono ?_); rintro e v1 ⟨_, rfl, ⟨z, rfl, hz0, hz1⟩, hC, hU⟩)
    have HL1 := HL.out.touch hU (.inr (Nat.succ_le_of_lt hgW))
    have HU := Lib.hid (((Touch.of_ext (lo := g) (hi := g + 1) HX.out).trans hU))
    have hgg : g < (World.heap w).size ∨ (World.heap w).size + 1 ≤ g := .inl hgW
    have HA6 := Lib.hid (among_any (some ⟨(World.heap w).size, 0, none⟩) 5 4 [0, 50, 4000, -1] rfl (World.heap w).size ((World.heap w).size + 1) g C n cap _ v1 hC (by omega) hn (HL1.takeF 4) (by simp) (by simp) hgg)
    have HA7 := Lib.hid (among_any (some ⟨(World.heap w).size, 0, none⟩) 5 5 [0, 50, 4000, -1, 4001] rfl (World.heap w).size ((World.heap w).size + 1) g C n cap _ v1 hC (by omega) hn HL1 (by simp) (by simp) hgg)
    clear hC hU HL1
    by_cases h12 : z < 12
    · have hz12 : z / 12 = 0 := by omega
      go_wp2_with fail
      ((with_reducible refine (HA6.out).mono ?_); rintro e v2 ⟨_, rfl, ⟨y, _, rfl⟩, hC2, hU2⟩)
      have HC2 := Lib.hid hC2
      have HU2 := Lib.hid (HU.out.trans hU2)
      clear hC2 hU2
      go_wp2
      go_ret
      exact ⟨y, rfl, HC2.out.mono (by omega), HU2.out⟩
    · have hz12 : z / 12 = 1 := by omega
      go_wp2_with fail
      ((with_reducible refine (HA7.out).mono ?_); rintro e v2 ⟨_, rfl, ⟨y, _, rfl⟩, hC2, hU2⟩)
      have HC2 := Lib.hid hC2
      have HU2 := Lib.hid (HU.out.trans hU2)
      clear hC2 hU2
      go_wp2
      go_ret
      exact ⟨y, rfl, HC2.out.mono (by omega), HU2.out⟩
  · have hq0 : ((q : Int) == 0) = false := by simp; omega
    have HQ := Lib.hid hq
    have HN := Lib.hid hN
    have HN1 := Lib.hid (one_any 5 g C n cap _ w hC (by omega) hn)
    clear hC hq hN
    go_enter Try.func22, Try.ntmps22
    go_wp2_with fail
    ((with_reducible refine (HN1.out).mono ?_); rintro e w1 ⟨_, rfl, ⟨b, rfl⟩, hC, hU1⟩)
    cases b
    · obtain ⟨lb, lv, hLA, hll, hlw, hce⟩ := (HN.out.touch hU1 hgl) (fun e => by have h := HQ.out; rw [e] at h; exact h0 (by simpa using h))
      subst hLA
      have HCE := Lib.hid (fun (j : Nat) (x : Nest) (h : xs[j]? = some x) => (show World.cell? w1 ⟨lb, lv + j * 4 + 2, none⟩ = some (.int .i64 x.c) from by obtain ⟨_, _, h1, _⟩ := hce j x h; exact h1.cc))
      have hlg : lb ≠ g := by omega
      have KP := Lib.hid (fun (W : World) (h : Touch g (g + 1) w1 W) => (show ∀ o, World.cell? W ⟨lb, o, none⟩ = World.cell? w1 ⟨lb, o, none⟩ from fun o => h.cell (b := lb) (o := o) hlw (by omega)))
      have PK := Lib.hid (fun (W : World) (h : CurAt g C n cap (k + 2) W) => pick_any (q : Int) g C n cap (k + 2) W h (by omega) hn)
      have AM := Lib.hid (fun (W : World) (B : Nat) (h : CurAt g C n cap (k + 4) W) (hF : FlO one 1 B (B + 1) W (some ⟨B, 0, none⟩) [-1, 0, 0, 1, 30]) (hb : g < B) => among_any (some ⟨B, 0, none⟩) 5 5 [-1, 0, 0, 1, 30] rfl B (B + 1) g C n cap (k + 4) W h (by omega) hn hF (by simp) (by simp) (.inl hb))
      have hg1 : g < w1.heap.size := hC.lt
      have hg1' : g + 1 ≤ w1.heap.size := hg1
      have HC1 := Lib.hid hC
      have HU1 := Lib.hid hU1
      clear hC hU1 hce
      have HLW := Lib.hid (lit_flo w1 [-1, 0, 0, 1, 30] 3 #[Value.int .i64 (-1), .int .i64 0, .int .i64 0, .int .i64 1, .int .i64 30] rfl)
      go_upto_region 3 with fail
      go_region_held3 (fun w' => ∀ o, World.cell? w' ⟨lb, o, none⟩ = World.cell? w1 ⟨lb, o, none⟩) (first | with_reducible exact KP.out _ (Touch.of_ext (ext_drew _)) | with_reducible exact KP.out _ (Touch.of_ext (ext_trans (ext_alloc _ _) (ext_drew _))) | with_reducible exact KP.out _ HT5.out | with_reducible exact KP.out _ (HT5.out.trans (Touch.of_ext (ext_alloc _ _))) | with_reducible exact KP.out _ HT6.out) ((first | (go_at_call 50; (with_reducible refine (l1Mn_any _ _ _).mono ?_); rintro e _ ⟨rfl, rfl⟩) | (go_at_call 51; (with_reducible refine (l1Mx_any _ _ _).mono ?_); rintro e _ ⟨rfl, rfl⟩) | (go_at_call 24; (with_reducible refine (PK.out _ ?_).mono ?_); (first | with_reducible exact HC1.out.ext (ext_drew _) | with_reducible exact HC1.out.ext (ext_trans (ext_alloc _ _) (ext_drew _))); rintro e w5 ⟨_, rfl, ⟨z, rfl, hz0, hz1⟩, hC5, hU5⟩; (obtain ⟨j, rfl⟩ : ∃ j : Nat, z = j := ⟨z.toNat, by omega⟩); have hjq : j < q := (by omega); (obtain ⟨x, hx⟩ : ∃ x, xs[j]? = some x := ⟨_, List.getElem?_eq_getElem (by rw [← HQ.out]; exact hjq)⟩); have c0 := HCE.out j x hx; have hj0 : (0 : Int) ≤ (j : Int) := (by omega); have hj1 : (j : Int) < (q : Int) := (by omega); have HC5 := Lib.hid hC5; (first | with_reducible have HT5 := Lib.hid ((Touch.of_ext (ext_drew w1)).trans hU5) | with_reducible have HT5 := Lib.hid ((Touch.of_ext (ext_trans (ext_alloc w1 _) (ext_drew _))).trans hU5)); (try (with_reducible have HLT := Lib.hid ((HLW.out.ext (ext_drew _)).touch hU5 (.inr hg1')))); have hg5 : g < w5.heap.size := hC5.lt; clear hC5 hU5 hx) | (go_at_call 44; (with_reducible refine (AM.out _ _ ?_ ?_ ?_).mono ?_); (first | with_reducible exact HC5.out.ext (ext_alloc _ _) | with_reducible exact HC5.out); (first | exact lit_flo w5 [-1, 0, 0, 1, 30] _ _ rfl | exact HLT.out); (first | with_reducible exact hg5 | with_reducible exact hg1); rintro e w6 ⟨_, rfl, ⟨y, _, rfl⟩, hC6, hU6⟩; have HC6 := Lib.hid hC6; (first | with_reducible have HT6 := Lib.hid ((HT5.out.trans (Touch.of_ext (ext_alloc _ _))).trans hU6) | with_reducible have HT6 := Lib.hid (HT5.out.trans hU6)); clear hC6 hU6)))
      all_goals (go_wp2_with fail)
      all_goals go_ret
      all_goals exact ⟨_, rfl, HC6.out.mono (by omega), HU1.out.trans HT6.out⟩
    · have HU1 := Lib.hid hU1
      clear hU1
      have hx := ext_alloc w1 (.cells #[Value.int .i64 (0), Value.int .i64 (50), Value.int .i64 (4000), Value.int .i64 (-1), Value.int .i64 (4001)] 3)
      have HP := Lib.hid (pick_any 24 g C n cap _ _ (hC.ext hx) (by omega) hn)
      have HL := Lib.hid (lit_flo w1 [0, 50, 4000, -1, 4001] 3 #[Value.int .i64 (0), Value.int .i64 (50), Value.int .i64 (4000), Value.int .i64 (-1), Value.int .i64 (4001)] rfl)
      have HX := Lib.hid hx
      have hgW : g < (World.heap w1).size := hC.lt
      clear hC hx
      go_wp2_with fail
      ((with_reducible refine (HP.out).mono ?_); rintro e v1 ⟨_, rfl, ⟨z, rfl, hz0, hz1⟩, hC, hU⟩)
      have HL1 := HL.out.touch hU (.inr (Nat.succ_le_of_lt hgW))
      have HU := Lib.hid ((HU1.out).trans ((Touch.of_ext (lo := g) (hi := g + 1) HX.out).trans hU))
      have hgg : g < (World.heap w1).size ∨ (World.heap w1).size + 1 ≤ g := .inl hgW
      have HA6 := Lib.hid (among_any (some ⟨(World.heap w1).size, 0, none⟩) 5 4 [0, 50, 4000, -1] rfl (World.heap w1).size ((World.heap w1).size + 1) g C n cap _ v1 hC (by omega) hn (HL1.takeF 4) (by simp) (by simp) hgg)
      have HA7 := Lib.hid (among_any (some ⟨(World.heap w1).size, 0, none⟩) 5 5 [0, 50, 4000, -1, 4001] rfl (World.heap w1).size ((World.heap w1).size + 1) g C n cap _ v1 hC (by omega) hn HL1 (by simp) (by simp) hgg)
      clear hC hU HL1
      by_cases h12 : z < 12
      · have hz12 : z / 12 = 0 := by omega
        go_wp2_with fail
        ((with_reducible refine (HA6.out).mono ?_); rintro e v2 ⟨_, rfl, ⟨y, _, rfl⟩, hC2, hU2⟩)
        have HC2 := Lib.hid hC2
        have HU2 := Lib.hid (HU.out.trans hU2)
        clear hC2 hU2
        go_wp2
        go_ret
        exact ⟨y, rfl, HC2.out.mono (by omega), HU2.out⟩
      · have hz12 : z / 12 = 1 := by omega
        go_wp2_with fail
        ((with_reducible refine (HA7.out).mono ?_); rintro e v2 ⟨_, rfl, ⟨y, _, rfl⟩, hC2, hU2⟩)
        have HC2 := Lib.hid hC2
        have HU2 := Lib.hid (HU.out.trans hU2)
        clear hC2 hU2
        go_wp2
        go_ret
        exact ⟨y, rfl, HC2.out.mono (by omega), HU2.out⟩
end Go.Proofs.Ytadcjfbcfiljkaa
