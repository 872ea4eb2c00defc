/- A sheet and a day drawn. No condition. -/
import Derived.Test.YtnikeelpcokffaaDoorErD
import Derived.Test.YtnikeelpcokffaaDoorMxMn
import Derived.Test.YtnikeelpcokffaaDoorBoxLaw
import Derived.Test.YtnikeelpcokffaaDoorFamInt
import Derived.Test.YtnikeelpcokffaaDoorFamLoan
import Derived.Test.YtnikeelpcokffaaDoorTypes
import Derived.Deep.DeepCutAuto
import Derived.Deep.RegionHeld3
import Derived.BigQuiet
namespace Go.Proofs.YtnikeelpcokffaaDoor
open Go.RowKit
set_option linter.unusedVariables false
set_option linter.unusedSimpArgs false

theorem FlO.takeF {α : Type} {f : α → List Int} {sz lo hi : Nat} {w : World} {A : Option Addr} {xs : List α} (h : FlO f sz lo hi w A xs) (m : Nat) : FlO f sz lo hi w A (xs.take m) := fun hn => by
  obtain ⟨b, o, h1, h2, h3, h4, h5, h6⟩ := h (fun e => hn (by rw [e]; simp))
  exact ⟨b, o, h1, h2, h3, h4, h5, fun i x hx => h6 i x (by
    by_cases hi : i < m
    · rwa [List.getElem?_take_of_lt hi] at hx
    · rw [List.getElem?_eq_none (by simp; omega)] at hx; cases hx)⟩
set_option maxHeartbeats 4000000 in
set_option maxRecDepth 100000 in
theorem loanSheet_any (g : Nat) (C : Option Addr) (n cap k : Nat) (w : World) (hC : CurAt g C n cap k w) (hk : k ≤ 412316860416) (hn : n ≤ 1099511627776) :
    Calls Tryd.prog 40 #[.pointer (some ⟨g, 0, none⟩)] w (fun r w' => ∃ z : Int, r = .returned (.int .i64 z) ∧ CurAt g C n cap (k + 8) w' ∧ Touch g (g + 1) w w') := by
  have hx := ext_alloc w (.cells #[Value.int .i64 (1), Value.int .i64 (1), Value.int .i64 (2), Value.int .i64 (7), Value.int .i64 (999), Value.int .i64 (5), Value.int .i64 (0), Value.int .i64 (1000)] 3)
  have HP := Lib.hid (pick_any 24 g C n cap _ _ (hC.ext hx) (by omega) hn)
  have HL := Lib.hid (lit_flo w [1, 1, 2, 7, 999, 5, 0, 1000] 3 #[Value.int .i64 (1), Value.int .i64 (1), Value.int .i64 (2), Value.int .i64 (7), Value.int .i64 (999), Value.int .i64 (5), Value.int .i64 (0), Value.int .i64 (1000)] rfl)
  have HX := Lib.hid hx
  have hgW : g < (World.heap w).size := hC.lt
  clear hC hx
  go_enter Tryd.func40, Tryd.ntmps40
  go_wp2_with fail
  ((with_reducible refine (HP.out).mono ?_); rintro e v1 ⟨_, rfl, ⟨z, rfl, hz0, hz1⟩, hC, hU⟩)
  have HL1 := HL.out.touch hU (.inr (Nat.succ_le_of_lt hgW))
  have HU := Lib.hid (((Touch.of_ext (lo := g) (hi := g + 1) HX.out).trans hU))
  have hgg : g < (World.heap w).size ∨ (World.heap w).size + 1 ≤ g := .inl hgW
  have HA6 := Lib.hid (among_any (some ⟨(World.heap w).size, 0, none⟩) 8 7 [1, 1, 2, 7, 999, 5, 0] rfl (World.heap w).size ((World.heap w).size + 1) g C n cap _ v1 hC (by omega) hn (HL1.takeF 7) (by simp) (by simp) hgg)
  have HA7 := Lib.hid (among_any (some ⟨(World.heap w).size, 0, none⟩) 8 8 [1, 1, 2, 7, 999, 5, 0, 1000] rfl (World.heap w).size ((World.heap w).size + 1) g C n cap _ v1 hC (by omega) hn HL1 (by simp) (by simp) hgg)
  clear hC hU HL1
  by_cases h12 : z < 12
  · have hz12 : z / 12 = 0 := by omega
    go_wp2_with fail
    ((with_reducible refine (HA6.out).mono ?_); rintro e v2 ⟨_, rfl, ⟨y, _, rfl⟩, hC2, hU2⟩)
    have HC2 := Lib.hid hC2
    have HU2 := Lib.hid (HU.out.trans hU2)
    clear hC2 hU2
    go_wp2
    go_ret
    exact ⟨y, rfl, HC2.out.mono (by omega), HU2.out⟩
  · have hz12 : z / 12 = 1 := by omega
    go_wp2_with fail
    ((with_reducible refine (HA7.out).mono ?_); rintro e v2 ⟨_, rfl, ⟨y, _, rfl⟩, hC2, hU2⟩)
    have HC2 := Lib.hid hC2
    have HU2 := Lib.hid (HU.out.trans hU2)
    clear hC2 hU2
    go_wp2
    go_ret
    exact ⟨y, rfl, HC2.out.mono (by omega), HU2.out⟩
set_option maxHeartbeats 16000000 in
set_option maxRecDepth 100000 in
theorem loanDay_any (LA : Option Addr) (ld lo hi q : Nat) (xs : List Loan) (hq : q = xs.length) (hql : q ≤ 17) (g : Nat) (C : Option Addr) (n cap k : Nat) (w : World) (hC : CurAt g C n cap k w) (hF : FlO Loan.ints 5 lo hi w LA xs) (hgl : g + 1 ≤ lo) (hk : k ≤ 412316860416) (hn : n ≤ 1099511627776) :
    Calls Tryd.prog 28 #[.pointer (some ⟨g, 0, none⟩), .slice LA q ld] w (fun r w' => ∃ z : Int, r = .returned (.int .i64 z) ∧ CurAt g C n cap (k + 8) w' ∧ Touch g (g + 1) w w') := by
  by_cases h0 : q = 0
  · subst h0
    clear hq hF
    have hx := ext_alloc w (.cells #[Value.int .i64 (0), Value.int .i64 (14), Value.int .i64 (15), Value.int .i64 (200), Value.int .i64 (4000), Value.int .i64 (-1), Value.int .i64 (4001)] 3)
    have HP := Lib.hid (pick_any 24 g C n cap _ _ (hC.ext hx) (by omega) hn)
    have HL := Lib.hid (lit_flo w [0, 14, 15, 200, 4000, -1, 4001] 3 #[Value.int .i64 (0), Value.int .i64 (14), Value.int .i64 (15), Value.int .i64 (200), Value.int .i64 (4000), Value.int .i64 (-1), Value.int .i64 (4001)] rfl)
    have HX := Lib.hid hx
    have hgW : g < (World.heap w).size := hC.lt
    clear hC hx
    go_enter Tryd.func28, Tryd.ntmps28
    go_wp2_with fail
    ((with_reducible refine (HP.out).mono ?_); rintro e v1 ⟨_, rfl, ⟨z, rfl, hz0, hz1⟩, hC, hU⟩)
    have HL1 := HL.out.touch hU (.inr (Nat.succ_le_of_lt hgW))
    have HU := Lib.hid (((Touch.of_ext (lo := g) (hi := g + 1) HX.out).trans hU))
    have hgg : g < (World.heap w).size ∨ (World.heap w).size + 1 ≤ g := .inl hgW
    have HA6 := Lib.hid (among_any (some ⟨(World.heap w).size, 0, none⟩) 7 6 [0, 14, 15, 200, 4000, -1] rfl (World.heap w).size ((World.heap w).size + 1) g C n cap _ v1 hC (by omega) hn (HL1.takeF 6) (by simp) (by simp) hgg)
    have HA7 := Lib.hid (among_any (some ⟨(World.heap w).size, 0, none⟩) 7 7 [0, 14, 15, 200, 4000, -1, 4001] rfl (World.heap w).size ((World.heap w).size + 1) g C n cap _ v1 hC (by omega) hn HL1 (by simp) (by simp) hgg)
    clear hC hU HL1
    by_cases h12 : z < 12
    · have hz12 : z / 12 = 0 := by omega
      go_wp2_with fail
      ((with_reducible refine (HA6.out).mono ?_); rintro e v2 ⟨_, rfl, ⟨y, _, rfl⟩, hC2, hU2⟩)
      have HC2 := Lib.hid hC2
      have HU2 := Lib.hid (HU.out.trans hU2)
      clear hC2 hU2
      go_wp2
      go_ret
      exact ⟨y, rfl, HC2.out.mono (by omega), HU2.out⟩
    · have hz12 : z / 12 = 1 := by omega
      go_wp2_with fail
      ((with_reducible refine (HA7.out).mono ?_); rintro e v2 ⟨_, rfl, ⟨y, _, rfl⟩, hC2, hU2⟩)
      have HC2 := Lib.hid hC2
      have HU2 := Lib.hid (HU.out.trans hU2)
      clear hC2 hU2
      go_wp2
      go_ret
      exact ⟨y, rfl, HC2.out.mono (by omega), HU2.out⟩
  · have hq0 : ((q : Int) == 0) = false := by simp; omega
    have HQ := Lib.hid hq
    have hgw : g < w.heap.size := hC.lt
    have HN1 := Lib.hid (one_any 5 g C n cap _ w hC (by omega) hn)
    clear hC hq
    go_enter Tryd.func28, Tryd.ntmps28
    go_wp2_with fail
    ((with_reducible refine (HN1.out).mono ?_); rintro e w1 ⟨_, rfl, ⟨b, rfl⟩, hC, hU1⟩)
    cases b
    · replace hF := hF.touch hU1 (.inr hgl)
      have hT := hU1
      have hs1 : w.heap.size ≤ w1.heap.size := hU1.size
      clear hU1
      skip
      have HN2 := Lib.hid (pick_any (q : Int) g C n cap _ w1 hC (by omega) hn)
      clear hC
      go_wp2_with fail
      ((with_reducible refine (HN2.out).mono ?_); rintro e w2 ⟨_, rfl, ⟨z, rfl, z0, z1⟩, hC, hU2⟩)
      replace hF := hF.touch hU2 (by omega)
      replace hT := hT.trans hU2
      have hz_w2 : (World.heap w1).size ≤ (World.heap w2).size := hU2.size
      clear hU2
      obtain ⟨j, rfl⟩ : ∃ j : Nat, z = j := ⟨z.toNat, by omega⟩
      have hjq : j < q := by omega
      have hj0 : (0 : Int) ≤ (j : Int) := by omega
      have hj1 : (j : Int) < (q : Int) := by omega
      obtain ⟨x, b, o, hx, hAe, hbl, hcl⟩ := hF.fl.at_ (k := j) (by rw [← HQ.out]; exact hjq)
      subst hAe
      have c0 : World.cell? w2 ⟨b, o + j * 5, none⟩ = some (.int .i64 x.sheet) := hcl 0 _ rfl
      have c1 : World.cell? w2 ⟨b, o + j * 5 + 1, none⟩ = some (.int .i64 x.reader) := hcl 1 _ rfl
      have c2 : World.cell? w2 ⟨b, o + j * 5 + 2, none⟩ = some (.int .i64 x.out) := hcl 2 _ rfl
      have c3 : World.cell? w2 ⟨b, o + j * 5 + 3, none⟩ = some (.int .i64 x.due) := hcl 3 _ rfl
      have c4 : World.cell? w2 ⟨b, o + j * 5 + 4, none⟩ = some (.int .i64 x.back) := hcl 4 _ rfl
      obtain ⟨D1, hD1⟩ : ∃ D, IntKind.i64.wrap (x.due + 1) = D := ⟨_, rfl⟩
      obtain ⟨D2, hD2⟩ : ∃ D, IntKind.i64.wrap (x.due + 100) = D := ⟨_, rfl⟩
      obtain ⟨D3, hD3⟩ : ∃ D, IntKind.i64.wrap (x.due + 101) = D := ⟨_, rfl⟩
      obtain ⟨D4, hD4⟩ : ∃ D, IntKind.i64.wrap (x.out - 1) = D := ⟨_, rfl⟩
      clear hcl hx
      clear hF
      obtain ⟨E1, hVE1, hbE1, hzE1, huE1, hfE1⟩ := box_world w2 #[Value.int .i64 x.sheet, Value.int .i64 x.reader, Value.int .i64 x.out, Value.int .i64 x.due, Value.int .i64 x.back] 43
      have ve : VarL E1 (World.heap w2).size [Value.int .i64 x.sheet, Value.int .i64 x.reader, Value.int .i64 x.out, Value.int .i64 x.due, Value.int .i64 x.back] := hVE1 ▸ VarL.box w2 _ _
      replace hC := hC.ext hbE1
      replace hT := hT.trans (Touch.of_ext hbE1)
      have hyE1 : (World.heap w2).size + 1 ≤ (World.heap E1).size := hzE1
      clear huE1 hfE1
      have e0 := ve.cell 0 _ rfl
      have e1 := ve.cell 1 _ rfl
      have e2 := ve.cell 2 _ rfl
      have e3 := ve.cell 3 _ rfl
      have e4 := ve.cell 4 _ rfl
      have ez := ve.fz
      have el := ve.lt
      have hlt3 : g < (World.heap E1).size := hC.lt
      have HN3 := Lib.hid (among_any (some ⟨(World.heap E1).size, 0, none⟩) 7 7 [x.out, x.due, D1, D2, D3, x.back, D4] rfl (World.heap E1).size ((World.heap E1).size + 1) g C n cap _ (World.alloc E1 (.cells #[Value.int .i64 (x.out), Value.int .i64 (x.due), Value.int .i64 (D1), Value.int .i64 (D2), Value.int .i64 (D3), Value.int .i64 (x.back), Value.int .i64 (D4)] 3)) (hC.ext (ext_alloc _ _)) (by omega) hn (lit_flo E1 [x.out, x.due, D1, D2, D3, x.back, D4] _ _ rfl) (by simp) (by simp) (.inl hlt3))
      clear hC
      go_wp2_with fail
      clear hVE1
      ((with_reducible refine (HN3.out).mono ?_); rintro e w3 ⟨_, rfl, ⟨y, _, rfl⟩, hC, hU3⟩)
      replace hU3 := (Touch.of_ext (ext_alloc E1 (.cells #[Value.int .i64 (x.out), Value.int .i64 (x.due), Value.int .i64 (D1), Value.int .i64 (D2), Value.int .i64 (D3), Value.int .i64 (x.back), Value.int .i64 (D4)] 3))).trans hU3
      replace ve := ve.touch hU3 (by omega)
      replace hT := hT.trans hU3
      have hz_w3 : (World.heap E1).size ≤ (World.heap w3).size := hU3.size
      clear hU3
      have HC := Lib.hid hC
      have HT := Lib.hid hT
      clear hC hT ve e0 e1 e2 e3 e4 ez el c0 c1 c2 c3 c4
      go_wp2_with fail
      ((with_reducible refine (l1Mx_any _ _ _).mono ?_); rintro e _ ⟨rfl, rfl⟩)
      go_wp2_with fail
      ((with_reducible refine (l1Mn_any _ _ _).mono ?_); rintro e _ ⟨rfl, rfl⟩)
      go_wp2
      go_ret
      exact ⟨_, rfl, HC.out.mono (by omega), HT.out⟩
    · have HU1 := Lib.hid hU1
      clear hU1
      have hx := ext_alloc w1 (.cells #[Value.int .i64 (0), Value.int .i64 (14), Value.int .i64 (15), Value.int .i64 (200), Value.int .i64 (4000), Value.int .i64 (-1), Value.int .i64 (4001)] 3)
      have HP := Lib.hid (pick_any 24 g C n cap _ _ (hC.ext hx) (by omega) hn)
      have HL := Lib.hid (lit_flo w1 [0, 14, 15, 200, 4000, -1, 4001] 3 #[Value.int .i64 (0), Value.int .i64 (14), Value.int .i64 (15), Value.int .i64 (200), Value.int .i64 (4000), Value.int .i64 (-1), Value.int .i64 (4001)] rfl)
      have HX := Lib.hid hx
      have hgW : g < (World.heap w1).size := hC.lt
      clear hC hx
      go_wp2_with fail
      ((with_reducible refine (HP.out).mono ?_); rintro e v1 ⟨_, rfl, ⟨z, rfl, hz0, hz1⟩, hC, hU⟩)
      have HL1 := HL.out.touch hU (.inr (Nat.succ_le_of_lt hgW))
      have HU := Lib.hid ((HU1.out).trans ((Touch.of_ext (lo := g) (hi := g + 1) HX.out).trans hU))
      have hgg : g < (World.heap w1).size ∨ (World.heap w1).size + 1 ≤ g := .inl hgW
      have HA6 := Lib.hid (among_any (some ⟨(World.heap w1).size, 0, none⟩) 7 6 [0, 14, 15, 200, 4000, -1] rfl (World.heap w1).size ((World.heap w1).size + 1) g C n cap _ v1 hC (by omega) hn (HL1.takeF 6) (by simp) (by simp) hgg)
      have HA7 := Lib.hid (among_any (some ⟨(World.heap w1).size, 0, none⟩) 7 7 [0, 14, 15, 200, 4000, -1, 4001] rfl (World.heap w1).size ((World.heap w1).size + 1) g C n cap _ v1 hC (by omega) hn HL1 (by simp) (by simp) hgg)
      clear hC hU HL1
      by_cases h12 : z < 12
      · have hz12 : z / 12 = 0 := by omega
        go_wp2_with fail
        ((with_reducible refine (HA6.out).mono ?_); rintro e v2 ⟨_, rfl, ⟨y, _, rfl⟩, hC2, hU2⟩)
        have HC2 := Lib.hid hC2
        have HU2 := Lib.hid (HU.out.trans hU2)
        clear hC2 hU2
        go_wp2
        go_ret
        exact ⟨y, rfl, HC2.out.mono (by omega), HU2.out⟩
      · have hz12 : z / 12 = 1 := by omega
        go_wp2_with fail
        ((with_reducible refine (HA7.out).mono ?_); rintro e v2 ⟨_, rfl, ⟨y, _, rfl⟩, hC2, hU2⟩)
        have HC2 := Lib.hid hC2
        have HU2 := Lib.hid (HU.out.trans hU2)
        clear hC2 hU2
        go_wp2
        go_ret
        exact ⟨y, rfl, HC2.out.mono (by omega), HU2.out⟩
end Go.Proofs.YtnikeelpcokffaaDoor
