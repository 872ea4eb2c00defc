/- FnSafe: its draw, SafeLegs with its capacity, spec.IsLand, and the law's facts. No condition. -/
import Derived.Test.YtlkojpmhniokfaaWlkR
import Derived.Test.YtlkojpmhniokfaaDrD
import Derived.Test.YtlkojpmhniokfaaSafeD
import Derived.Test.YtlkojpmhniokfaaStpW
import Derived.Test.YtlkojpmhniokfaaFaultS
import Derived.Test.YtlkojpmhniokfaaFaultI
import Derived.Test.YtlkojpmhniokfaaCut
import Derived.Test.YtlkojpmhniokfaaPut
import Derived.Test.YtlkojpmhniokfaaLandOk
namespace Go.Proofs.Ytlkojpmhniokfaa
open Go.RowKit
set_option linter.unusedVariables false
set_option linter.unusedSimpArgs false

def FfDr (w : World) (e : Ending) (w' : World) : Prop :=
  ∃ (wide high steep : Int) (A : Option Addr) (d : Nat) (xs : List Four) (x y : Int) (ab ao d2 : Nat) (ls : List Leg) (m : Int), e = .returned (.tuple #[.agg #[.int .i64 wide, .int .i64 high, .slice A xs.length d, .int .i64 steep], .int .i64 x, .int .i64 y, .slice (some ⟨ab, ao, none⟩) ls.length d2, .int .i64 m]) ∧ xs.length ≤ 4 ∧ ls.length ≤ 16 ∧ (ls.length ≤ d2 ∧ d2 ≤ 9223372036854775807) ∧ FlO Four.ints 4 w.heap.size w'.heap.size w' A xs ∧ FlO Leg.ints 3 w.heap.size w'.heap.size w' (some ⟨ab, ao, none⟩) ls ∧ Below w.heap.size w w'
set_option maxHeartbeats 4000000 in
set_option maxRecDepth 100000 in
theorem drawFirstFault_any (A : Option Addr) (n cap : Nat) (w : World) (hA : Bytes w A n) (hn : n ≤ 1099511627776) :
    Calls Try.prog 6 #[.slice A n cap] w (FfDr w) := by
  obtain ⟨R0, hR0, hD0, hs0, hp0, hq0⟩ := box_world w #[Value.int .i64 0, Value.int .i64 0, Value.slice none 0 0, Value.int .i64 0] 26
  have r0 : VarL R0 w.heap.size [Value.int .i64 0, Value.int .i64 0, Value.slice none 0 0, Value.int .i64 0] := hR0 ▸ VarL.box w _ _
  obtain ⟨V0, hV0, hB0, hz0, hu0, hf0⟩ := box_world R0 #[Value.slice A n cap, .int .i64 0, .int .u64 0] 57
  have hC0 : CurAt R0.heap.size A n cap 0 V0 := hV0 ▸ CurAt.start (hA.ext hD0) cap _
  replace r0 := r0.ext hB0
  have hBV := ext_trans hD0 hB0
  obtain ⟨g, hg⟩ : ∃ g, g = R0.heap.size := ⟨_, rfl⟩
  rw [← hg] at hC0
  have HG := Lib.hid hg
  have hgw : w.heap.size < g := by omega
  have hgw2 : w.heap.size ≤ g := by omega
  have hgV : g + 1 ≤ V0.heap.size := by omega
  have HP := Lib.hid (walked_any g A n cap 0 V0 hC0 (by omega) hn)
  have HBV := Lib.hid hBV
  clear hg hC0 hu0 hf0 hA hp0 hq0 hB0 hBV
  go_enter Try.func6, Try.ntmps6
  go_wp2_with fail
  rw [← HG.out]
  clear hR0 hV0
  ((with_reducible refine (HP.out).mono ?_); rintro e w1 ⟨wide, high, steep, LA, ld, xs, x, y, ab, ao, rd, ls, m, rfl, hl, hrl, hrc, hF, hG, hC, hU⟩)
  have hT := hU
  replace r0 := r0.touch hU (.inl hgw)
  have hz_w1 : V0.heap.size ≤ w1.heap.size := hU.size
  clear hU
  obtain ⟨E1, hVE1, hbE1, hzE1, huE1, hfE1⟩ := box_world w1 #[Value.int .i64 wide, Value.int .i64 high, Value.slice LA xs.length ld, Value.int .i64 steep] 26
  have vx : VarL E1 (World.heap w1).size [Value.int .i64 wide, Value.int .i64 high, Value.slice LA xs.length ld, Value.int .i64 steep] := hVE1 ▸ VarL.box w1 _ _
  replace hF := hF.ext hbE1
  replace hG := hG.ext hbE1
  replace r0 := r0.ext hbE1
  replace hC := hC.ext hbE1
  replace hT := hT.trans (Touch.of_ext hbE1)
  have hyE1 : (World.heap w1).size + 1 ≤ (World.heap E1).size := hzE1
  clear huE1 hfE1
  have f0 := r0.cell 0 _ rfl
  have v0 := vx.cell 0 _ rfl
  have f1 := r0.cell 1 _ rfl
  have v1 := vx.cell 1 _ rfl
  have f2 := r0.cell 2 _ rfl
  have v2 := vx.cell 2 _ rfl
  have f3 := r0.cell 3 _ rfl
  have v3 := vx.cell 3 _ rfl
  have fl := r0.lt
  have fz := r0.fz
  have HB := Lib.hid (hT.below HBV.out hgw2)
  have HF := Lib.hid hF
  have HG9 := Lib.hid hG
  have HRC := Lib.hid hrc
  have hsw : w.heap.size + 1 ≤ R0.heap.size := hs0
  clear hF r0 vx hC hT hG hrc
  go_wp2
  have ta := set4_tch E1 w.heap.size (.int .i64 wide) (.int .i64 high) (.slice LA xs.length ld) (.int .i64 steep)
  refine bodyPost_ret (v := .tuple #[.agg #[.int .i64 wide, .int .i64 high, .slice LA xs.length ld, .int .i64 steep], .int .i64 x, .int .i64 y, .slice (some ⟨ab, ao, none⟩) ls.length rd, .int .i64 m]) (by simp [results, Try.results6, go_sem, f0, f1, f2, f3, fl]) rfl ⟨wide, high, steep, LA, ld, xs, x, y, ab, ao, rd, ls, m, rfl, hl, hrl, HRC.out, (HF.out.touch ta (.inr (by omega))).mono (by omega) (by have := ta.size; omega), (HG9.out.touch ta (.inr (by omega))).mono (by omega) (by have := ta.size; omega), ta.below HB.out (Nat.le_refl _)⟩
def RetLC {α : Type} (f : α → List Int) (sz : Nat) (w : World) (ys : List α) (ok : Bool) (e : Ending) (w' : World) : Prop :=
  ∃ B d, e = .returned (.tuple #[.slice B ys.length d, .bool ok]) ∧ (ys.length ≤ d ∧ d ≤ 9223372036854775807) ∧ FlO f sz w.heap.size w'.heap.size w' B ys ∧ Below w.heap.size w w'
set_option maxHeartbeats 1000000 in
set_option maxRecDepth 100000 in
theorem safeLegsC_any (wide high steep e n most : Int) (A : Option Addr) (c : Nat) (xs : List Four) (b o : Nat) (d : Nat) (ls : List Leg) (w : World) (hn : xs.length ≤ 1048576) (hA : Fl Four.ints 4 w A xs) (hm : ls.length ≤ 1048576) (hB : Fl Leg.ints 3 w (some ⟨b, o, none⟩) ls) (hcap : ls.length ≤ d) (hcm : d ≤ 9223372036854775807) :
    Calls Try.prog 13 #[.agg #[.int .i64 wide, .int .i64 high, .slice A xs.length c, .int .i64 steep], .int .i64 e, .int .i64 n, .slice (some ⟨b, o, none⟩) ls.length d, .int .i64 most] w (RetLC Leg.ints 3 w (sel (Asked wide high steep e n xs ls most) (ls.take (faultL wide high steep most xs ls 0 e n 0).2.toNat)) (tb (Asked wide high steep e n xs ls most))) := by
  obtain ⟨V0, hV0, hC0, hz0, hcv, _⟩ := box_world w #[Value.int .i64 wide, .int .i64 high, .slice A xs.length c, .int .i64 steep] 26
  obtain ⟨i0, hi, hzz0, hzz1, hzz2⟩ := info_parts infoLeg
  have hask := canStart_any wide high steep e n most A c xs (some ⟨b, o, none⟩) d ls V0 hn (hA.ext hC0) hm (hB.ext hC0)
  have hflt := fun (h : Asked wide high steep e n xs ls most) W hW => firstFault_any wide high steep e n most A c xs (some ⟨b, o, none⟩) d ls W hn (Fl.ext hA hW) (Fl.ext hB hW) hcap hcm ⟨h.1.2.1, h.1.2.2.1⟩ ⟨h.1.2.2.2.1, h.1.2.2.2.2.1⟩ ⟨h.1.2.2.2.2.2.2.1, h.1.2.2.2.2.2.2.2⟩ h.2.2.1 h.2.1.2 h.2.2.2
  obtain ⟨ji, hi1, hi2, hi3, hi4, hi5⟩ := faultL_idx (wide := wide) (high := high) (steep := steep) (most := most) (bars := xs) ls 0 e n 0
  generalize faultL wide high steep most xs ls 0 e n 0 = R at *
  obtain ⟨p, q⟩ := R
  simp only at hi1 hi4 hi5
  subst hi1
  simp only [Nat.zero_add] at hi3 hi4 hi5
  generalize Asked wide high steep e n xs ls most = Q at *
  have hTL : (ls.take ji).length = ji := by rw [List.length_take]; omega
  have HTL := Lib.hid hTL
  rw [show ((ji : Int)).toNat = ji from by omega]
  clear hTL
  obtain ⟨T, hT⟩ : ∃ T, T = ls.take ji := ⟨_, rfl⟩
  have hBT := hB.takeC ji
  rw [← hT] at HTL hBT ⊢
  clear hT
  have hj1 : (ji : Int) ≤ (d : Int) := by omega
  generalize hLL : ls.length = L at *
  clear hLL
  by_cases h : Q
  · rw [tb_t h] at hask
    rw [tb_t h, sel_t h]
    have H := Lib.hid h
    clear h
    generalize xs.length = m at *
    have e0 : World.cell? V0 ⟨w.heap.size, 0, none⟩ = some (.int .i64 wide) := hcv 0
    have e1 : World.cell? V0 ⟨w.heap.size, 1, none⟩ = some (.int .i64 high) := hcv 1
    have e2 : World.cell? V0 ⟨w.heap.size, 2, none⟩ = some (.slice A m c) := hcv 2
    have e3 : World.cell? V0 ⟨w.heap.size, 3, none⟩ = some (.int .i64 steep) := hcv 3
    have HASK := Lib.hid hask
    have HFLT := Lib.hid hflt
    have HI4 := Lib.hid hi4
    have HI5 := Lib.hid hi5
    clear hask hflt hcv hi4 hi5
    go_enter Try.func13, Try.ntmps13
    go_wp2_with fail
    ((with_reducible refine (HASK.out).mono ?_); rintro e w1 ⟨rfl, hb1⟩)
    have hx1 := ext_trans hC0 hb1
    have f0 := (hb1.cell (p := ⟨w.heap.size, 0, none⟩) hz0).trans e0
    have f1 := (hb1.cell (p := ⟨w.heap.size, 1, none⟩) hz0).trans e1
    have f2 := (hb1.cell (p := ⟨w.heap.size, 2, none⟩) hz0).trans e2
    have f3 := (hb1.cell (p := ⟨w.heap.size, 3, none⟩) hz0).trans e3
    go_wp2_with fail
    ((with_reducible refine (HFLT.out H.out w1 hx1).mono ?_); rintro e w2 ⟨rfl, hb2⟩)
    go_wp2_with (at_builtin; refine wpList_append_all (f := Leg.ints) rfl _ _ _ rfl w2.heap.size i0 _ 3 24 Try.underlying27 hi hzz0 hzz1 hzz2 rfl (by decide) _ [] rfl OwnF.none_ (some ⟨b, o, none⟩) d T (congrArg (fun n => Value.slice _ n d) HTL.out.symm) ((hBT.ext hx1).ext hb2) (fun _ => rfl) ?_ (by decide) (Nat.le_refl _) ?_; (rw [HTL.out]; simp; omega); intro v5 w5 hown5 hg5 hb5; rw [List.nil_append] at hown5; obtain ⟨B5, d5, hv5, hF5⟩ := hown5.form (fun _ => rfl); obtain ⟨A9, c9, hv9, h91, h92⟩ := hown5.caps; have hcc : T.length ≤ d5 ∧ d5 ≤ 9223372036854775807 := (by rw [hv5] at hv9; cases hv9; exact ⟨h91, h92⟩); clear hv9; rw [HTL.out] at hv5; subst hv5)
    go_ret2
    refine ⟨B5, d5, by rw [HTL.out]; rfl, hcc, hF5.mono (ext_trans hx1 hb2).size (Nat.le_refl _), (ext_trans hx1 hb2).trans ((hb5).mono (ext_trans hx1 hb2).size)⟩
  · rw [tb_f h] at hask
    rw [tb_f h, sel_f h]
    clear h
    generalize xs.length = m at *
    have e0 : World.cell? V0 ⟨w.heap.size, 0, none⟩ = some (.int .i64 wide) := hcv 0
    have e1 : World.cell? V0 ⟨w.heap.size, 1, none⟩ = some (.int .i64 high) := hcv 1
    have e2 : World.cell? V0 ⟨w.heap.size, 2, none⟩ = some (.slice A m c) := hcv 2
    have e3 : World.cell? V0 ⟨w.heap.size, 3, none⟩ = some (.int .i64 steep) := hcv 3
    have HASK := Lib.hid hask
    have HFLT := Lib.hid hflt
    have HI4 := Lib.hid hi4
    have HI5 := Lib.hid hi5
    clear hask hflt hcv hi4 hi5
    go_enter Try.func13, Try.ntmps13
    go_wp2_with fail
    ((with_reducible refine (HASK.out).mono ?_); rintro e w1 ⟨rfl, hb1⟩)
    have hx1 := ext_trans hC0 hb1
    go_wp2
    go_ret2
    exact ⟨none, 0, rfl, ⟨by simp, by omega⟩, FlO.nil, hx1⟩
set_option maxHeartbeats 4000000 in
set_option maxRecDepth 100000 in
theorem specIsLand_any (wide high steep : Int) (A : Option Addr) (c : Nat) (xs : List Four) (w : World) (hn : xs.length ≤ 1152921504606846976) (hA : Fl Four.ints 4 w A xs) :
    Calls Try.prog 10 #[.agg #[.int .i64 wide, .int .i64 high, .slice A xs.length c, .int .i64 steep]] w fun e w' => e = .returned (.bool (tb (Lnd wide high steep xs))) ∧ Below w.heap.size w w' := by
  obtain ⟨V0, hV0, hC0, hz0, hcv, _⟩ := box_world w #[Value.int .i64 wide, .int .i64 high, .slice A xs.length c, .int .i64 steep] 26
  have e0 : World.cell? V0 ⟨w.heap.size, 0, none⟩ = some (.int .i64 wide) := hcv 0
  have e1 : World.cell? V0 ⟨w.heap.size, 1, none⟩ = some (.int .i64 high) := hcv 1
  have e2 : World.cell? V0 ⟨w.heap.size, 2, none⟩ = some (.slice A xs.length c) := hcv 2
  have e3 : World.cell? V0 ⟨w.heap.size, 3, none⟩ = some (.int .i64 steep) := hcv 3
  have HP := Lib.hid (l16Good_any wide high steep A c xs V0 hn (hA.ext hC0))
  have HB := Lib.hid hC0
  clear hcv hA hn hz0 hC0
  go_enter Try.func10, Try.ntmps10
  go_wp2_with fail
  clear hV0
  ((with_reducible refine (HP.out).mono ?_); rintro e w1 ⟨rfl, hb⟩)
  go_wp2
  go_ret
  exact ⟨rfl, ext_trans HB.out hb⟩
section
variable {wide high steep most : Int} {bars : List Four}
theorem faultL_pre : ∀ (ls : List Leg) (k : Nat) (e n s : Int) (i : Nat), (faultL wide high steep most bars ls k e n s).2 = ((k + i : Nat) : Int) → i ≤ ls.length →
    (faultL wide high steep most bars (ls.take i) k e n s).1 = 0 ∧ ((faultL wide high steep most bars ls k e n s).1 ≠ 0 → i < ls.length ∧ faultL wide high steep most bars (ls.take (i + 1)) k e n s = faultL wide high steep most bars ls k e n s)
  | [], k, e, n, s, i, h, hi => by
    have hi0 : i = 0 := by simpa using hi
    subst hi0
    refine ⟨rfl, fun h => absurd rfl h⟩
  | x :: r, k, e, n, s, i, h, hi => by
    rw [List.length_cons] at hi
    by_cases h1 : steep * x.units < absI x.climb
    · rw [faultL_steep h1] at h ⊢
      have hi0 : i = 0 := by simp only at h; omega
      subst hi0
      refine ⟨rfl, fun _ => ⟨by rw [List.length_cons]; omega, ?_⟩⟩
      rw [List.take_succ_cons, faultL_steep h1]
    · by_cases h2 : walkF wide high bars (stepE x.way) (stepN x.way) x.units.toNat e n = 0
      · by_cases h3 : 150 * most < s + partsL x
        · rw [faultL_late h1 h2 h3] at h ⊢
          have hi0 : i = 0 := by simp only at h; omega
          subst hi0
          refine ⟨rfl, fun _ => ⟨by rw [List.length_cons]; omega, ?_⟩⟩
          rw [List.take_succ_cons, faultL_late h1 h2 h3]
        · rw [faultL_go h1 h2 h3] at h ⊢
          obtain ⟨j, a1, a2, _⟩ := faultL_idx (wide := wide) (high := high) (steep := steep) (most := most) (bars := bars) r (k + 1) (e + stepE x.way * x.units) (n + stepN x.way * x.units) (s + partsL x)
          obtain ⟨m, rfl⟩ : ∃ m, i = m + 1 := ⟨i - 1, by omega⟩
          obtain ⟨g1, g2⟩ := faultL_pre r (k + 1) (e + stepE x.way * x.units) (n + stepN x.way * x.units) (s + partsL x) m (by rw [h]; omega) (by omega)
          refine ⟨?_, fun hne => ?_⟩
          · rw [List.take_succ_cons, faultL_go h1 h2 h3]; exact g1
          · obtain ⟨g3, g4⟩ := g2 hne
            refine ⟨by rw [List.length_cons]; omega, ?_⟩
            rw [List.take_succ_cons, faultL_go h1 h2 h3]; exact g4
      · rw [faultL_walk h1 rfl h2] at h ⊢
        have hi0 : i = 0 := by simp only at h; omega
        subst hi0
        refine ⟨rfl, fun _ => ⟨by rw [List.length_cons]; omega, ?_⟩⟩
        rw [List.take_succ_cons, faultL_walk h1 rfl h2]
theorem faultL_flat : ∀ (ls : List Leg) (k : Nat) (e n s : Int), (faultL wide high steep most bars ls k e n s).1 = 0 → ∀ (i : Nat) (x : Leg), ls[i]? = some x → ¬ steep * x.units < absI x.climb
  | [], _, _, _, _, _, i, x, hx => by simp at hx
  | y :: r, k, e, n, s, h, i, x, hx => by
    by_cases h1 : steep * y.units < absI y.climb
    · rw [faultL_steep h1] at h; simp at h
    · by_cases h2 : walkF wide high bars (stepE y.way) (stepN y.way) y.units.toNat e n = 0
      · by_cases h3 : 150 * most < s + partsL y
        · rw [faultL_late h1 h2 h3] at h; simp at h
        · rw [faultL_go h1 h2 h3] at h
          match i, hx with
          | 0, hx => simp at hx; subst hx; exact h1
          | i + 1, hx => exact faultL_flat r _ _ _ _ h i x (by simpa using hx)
      · rw [faultL_walk h1 rfl h2] at h; exact absurd h h2
end
section
variable {W H S e n m : Int} {xs : List Four} {ls : List Leg}
theorem asked_take (h : Asked W H S e n xs ls m) (k : Nat) : Asked W H S e n xs (ls.take k) m :=
  ⟨h.1, h.2.1, ⟨fun i x hx => h.2.2.1.1 i x (by
    rw [List.getElem?_take] at hx
    split at hx
    · exact hx
    · cases hx), Nat.le_trans (List.length_take_le' _ _) h.2.2.1.2⟩, h.2.2.2⟩
theorem safe_one (h : Asked W H S e n xs ls m) : ∃ j : Nat, (faultL W H S m xs ls 0 e n 0).2 = (j : Int) ∧ j ≤ ls.length ∧ Asked W H S e n xs (ls.take j) m ∧ (faultL W H S m xs (ls.take j) 0 e n 0).1 = 0 ∧
    (j < ls.length → faultP (faultL W H S m xs ls 0 e n 0) = (j : Int) ∧ Asked W H S e n xs (ls.take (j + 1)) m ∧ (faultL W H S m xs (ls.take (j + 1)) 0 e n 0).1 ≠ 0) ∧ ((faultL W H S m xs ls 0 e n 0).1 = 0 → ¬ j < ls.length) := by
  obtain ⟨j, a1, a2, a3, a4, a5⟩ := faultL_idx (wide := W) (high := H) (steep := S) (most := m) (bars := xs) ls 0 e n 0
  simp only [Nat.zero_add] at a3 a4 a5
  obtain ⟨b1, b2⟩ := faultL_pre ls 0 e n 0 j (by rw [a1]; simp) a3
  refine ⟨j, a1, a3, asked_take h j, b1, fun hj => ?_, fun h0 => by have := a4 h0; omega⟩
  have hne : (faultL W H S m xs ls 0 e n 0).1 ≠ 0 := fun h0 => by have := a4 h0; omega
  obtain ⟨_, b3⟩ := b2 hne
  exact ⟨by unfold faultP; rw [if_neg hne]; exact a1, asked_take h (j + 1), by rw [b3]; exact hne⟩
theorem safe_flat (h : Asked W H S e n xs ls m ∧ (faultL W H S m xs ls 0 e n 0).1 = 0) : sel (SlOk W H S xs ls) (stpTo S ls ls.length) = [] := by
  rw [stpTo_nil _ fun i x _ hx => faultL_flat ls 0 e n 0 h.2 i x hx]
  by_cases q : SlOk W H S xs ls
  · rw [sel_t q]
  · rw [sel_f q]
end
end Go.Proofs.Ytlkojpmhniokfaa
