/- SteepLegs on both sides. No condition. -/
import Derived.Test.YtlkojpmhniokfaaLegP
import Derived.Test.YtlkojpmhniokfaaLandOk
import Derived.Test.YtlkojpmhniokfaaFamInt
namespace Go.Proofs.Ytlkojpmhniokfaa
open Go.RowKit
set_option linter.unusedVariables false
set_option linter.unusedSimpArgs false

noncomputable def stpTo (steep : Int) (ls : List Leg) : Nat → List Int
  | 0 => []
  | k + 1 => stpTo steep ls k ++ (match ls[k]? with | some x => sel (steep * x.units < absI x.climb) [(k : Int)] | none => [])
theorem stpTo_t {steep : Int} {ls : List Leg} {k : Nat} {x : Leg} (h : ls[k]? = some x) (q : steep * x.units < absI x.climb) : stpTo steep ls (k + 1) = stpTo steep ls k ++ [(k : Int)] := by rw [stpTo, h]; simp only; rw [sel_t q]
theorem stpTo_f {steep : Int} {ls : List Leg} {k : Nat} {x : Leg} (h : ls[k]? = some x) (q : ¬ steep * x.units < absI x.climb) : stpTo steep ls (k + 1) = stpTo steep ls k := by rw [stpTo, h]; simp only; rw [sel_f q, List.append_nil]
theorem stpTo_len (steep : Int) (ls : List Leg) : ∀ k, (stpTo steep ls k).length ≤ k
  | 0 => by simp [stpTo]
  | k + 1 => by
    have ih := stpTo_len steep ls k
    rw [stpTo, List.length_append]
    rcases ls[k]? with _ | x
    · simp; omega
    · have := sel_len (steep * x.units < absI x.climb) [(k : Int)]
      simp only [List.length_cons, List.length_nil] at this
      simp only
      omega
theorem stpTo_nil {steep : Int} {ls : List Leg} : ∀ k, (∀ i x, i < k → ls[i]? = some x → ¬ steep * x.units < absI x.climb) → stpTo steep ls k = []
  | 0, _ => rfl
  | k + 1, h => by
    rw [stpTo, stpTo_nil k fun i x hi hx => h i x (by omega) hx]
    rcases hx : ls[k]? with _ | x
    · rfl
    · simp only; rw [sel_f (h k x (by omega) hx)]; rfl
def SlOk (wide high steep : Int) (bars : List Four) (ls : List Leg) : Prop := Lnd wide high steep bars ∧ Rt ls
set_option maxHeartbeats 4000000 in
set_option maxRecDepth 100000 in
theorem steepLegs_any (wide high steep : Int) (A : Option Addr) (c : Nat) (xs : List Four) (B : Option Addr) (d : Nat) (ls : List Leg) (w : World) (hn : xs.length ≤ 1048576) (hA : Fl Four.ints 4 w A xs) (hm : ls.length ≤ 1048576) (hB : Fl Leg.ints 3 w B ls) :
    Calls Try.prog 16 #[.agg #[.int .i64 wide, .int .i64 high, .slice A xs.length c, .int .i64 steep], .slice B ls.length d] w (RetL one 1 w (sel (SlOk wide high steep xs ls) (stpTo steep ls ls.length)) (tb (SlOk wide high steep xs ls))) := by
  obtain ⟨i0, hi, hy0, hy1, hy2⟩ := info_parts infoInt
  obtain ⟨V0, hV0, hC0, hz0, hcv, _⟩ := box_world w #[Value.int .i64 wide, .int .i64 high, .slice A xs.length c, .int .i64 steep] 26
  have e0 : World.cell? V0 ⟨w.heap.size, 0, none⟩ = some (.int .i64 wide) := hcv 0
  have e1 : World.cell? V0 ⟨w.heap.size, 1, none⟩ = some (.int .i64 high) := hcv 1
  have e2 : World.cell? V0 ⟨w.heap.size, 2, none⟩ = some (.slice A xs.length c) := hcv 2
  have e3 : World.cell? V0 ⟨w.heap.size, 3, none⟩ = some (.int .i64 steep) := hcv 3
  have hgl := isLand_any wide high steep A c xs V0 (by omega) (hA.ext hC0)
  have hgr := fun W hW => isRoute_any B d ls W hm hW
  have hsl : Lnd wide high steep xs → 1 ≤ steep ∧ steep ≤ 100 := fun h => ⟨h.2.2.2.2.2.2.1, h.2.2.2.2.2.2.2⟩
  have hok : SlOk wide high steep xs ls ↔ Lnd wide high steep xs ∧ Rt ls := Iff.rfl
  generalize SlOk wide high steep xs ls = OK at hok ⊢
  generalize Lnd wide high steep xs = L at hgl hsl hok
  have hrl : Rt ls → Legs ls ∧ ls.length ≤ 12 := fun h => h
  generalize Rt ls = R at hgr hok hrl
  obtain ⟨n, hnn⟩ : ∃ n, n = List.length ls := ⟨_, rfl⟩
  rw [← hnn] at hm hgr hrl ⊢
  generalize xs.length = q at *
  have HN := Lib.hid hnn
  have HGL := Lib.hid hgl
  have HGR := Lib.hid hgr
  have HSL := Lib.hid hsl
  have HRL := Lib.hid hrl
  have HOK := Lib.hid hok
  clear hnn hgl hgr hsl hrl hok hcv
  go_enter Try.func16, Try.ntmps16
  go_wp2_with fail
  ((with_reducible refine (HGL.out).mono ?_); rintro e w1 ⟨rfl, hb1⟩)
  have hx1 := hb1
  have f0 := (hx1.cell (p := ⟨w.heap.size, 0, none⟩) hz0).trans e0
  have f1 := (hx1.cell (p := ⟨w.heap.size, 1, none⟩) hz0).trans e1
  have f2 := (hx1.cell (p := ⟨w.heap.size, 2, none⟩) hz0).trans e2
  have f3 := (hx1.cell (p := ⟨w.heap.size, 3, none⟩) hz0).trans e3
  clear hV0
  by_cases h1 : L
  · rw [tb_t h1]
    have HS := Lib.hid (HSL.out h1)
    have H1 := Lib.hid h1
    clear h1
    go_wp2_with fail
    ((with_reducible refine (HGR.out _ ((hB.ext hC0).ext hx1)).mono ?_); rintro e w2 ⟨rfl, hb2⟩)
    have hx2 := ext_trans hx1 hb2
    by_cases h2 : R
    · rw [tb_t h2]
      have HT : Hid OK := HOK.out.2 ⟨H1.out, h2⟩
      have HR := Lib.hid (HRL.out h2)
      have hn12 : n ≤ 12 := (HRL.out h2).2
      clear h2
      go_wp2
      go_loopw [6, 19] (fun v i wr => ∃ k : Nat, k ≤ n ∧ i = .int .i64 k ∧ Below V0.heap.size V0 wr ∧ OwnF one 1 V0.heap.size 3 wr v (stpTo steep ls k)) (fun _ i _ => n - (intOf i).toNat)
      case atStart => exact ⟨0, by omega, rfl, hx2, OwnF.none_⟩
      case round =>
        obtain ⟨k, hk, rfl, hbr, hown⟩ := hrel
        have hzr := hbr.size
        have hzb : w.heap.size < wr.heap.size := Nat.lt_of_lt_of_le hz0 hzr
        by_cases hlt : k < n
        · obtain ⟨x, b, o, hx, hAe, hbb, hc⟩ := ((hB.ext hC0).ext hbr).at_ (k := k) (by rw [← HN.out]; exact hlt)
          subst hAe
          have c0 : World.cell? wr ⟨b, o + k * 3, none⟩ = some (.int .i64 x.way) := hc 0 _ rfl
          have c1 : World.cell? wr ⟨b, o + k * 3 + 1, none⟩ = some (.int .i64 x.units) := hc 1 _ rfl
          have c2 : World.cell? wr ⟨b, o + k * 3 + 2, none⟩ = some (.int .i64 x.climb) := hc 2 _ rfl
          have hL := HR.out.1 k x hx
          have hlen : (stpTo steep ls k).length ≤ 1048576 := Nat.le_trans (stpTo_len _ _ _) (by omega)
          have g0 := (hbr.cell (p := ⟨w.heap.size, 0, none⟩) hz0).trans e0
          have g1 := (hbr.cell (p := ⟨w.heap.size, 1, none⟩) hz0).trans e1
          have g2 := (hbr.cell (p := ⟨w.heap.size, 2, none⟩) hz0).trans e2
          have g3 := (hbr.cell (p := ⟨w.heap.size, 3, none⟩) hz0).trans e3
          obtain ⟨W1, hW1, hX1, hz1, hg, _⟩ := box_world wr #[Value.int .i64 x.way, .int .i64 x.units, .int .i64 x.climb] 65
          have r0 : World.cell? W1 ⟨wr.heap.size, 0, none⟩ = some (.int .i64 x.way) := hg 0
          have r1 : World.cell? W1 ⟨wr.heap.size, 1, none⟩ = some (.int .i64 x.units) := hg 1
          have r2 : World.cell? W1 ⟨wr.heap.size, 2, none⟩ = some (.int .i64 x.climb) := hg 2
          have l0 := (hX1.cell (p := ⟨w.heap.size, 0, none⟩) hzb).trans g0
          have l1 := (hX1.cell (p := ⟨w.heap.size, 1, none⟩) hzb).trans g1
          have l2 := (hX1.cell (p := ⟨w.heap.size, 2, none⟩) hzb).trans g2
          have l3 := (hX1.cell (p := ⟨w.heap.size, 3, none⟩) hzb).trans g3
          clear hg
          have HX := Lib.hid hx
          have HO1 := Lib.hid (hown.ext hX1)
          have HB1 := Lib.hid (ext_trans hbr hX1)
          have HST := Lib.hid (fun W => isSteep_any wide high steep (.slice A q c) rfl x hL HS.out W)
          clear hc hx hown hL
          have hk0 : (0 : Int) ≤ (k : Int) := by omega
          have hk1 : (k : Int) < (n : Int) := by omega
          by_cases hs : steep * x.units < absI x.climb
          · have HST1 := Lib.hid (fun W => show Calls Try.prog 37 #[.agg #[.int .i64 wide, .int .i64 high, .slice A q c, .int .i64 steep], .agg #[.int .i64 x.way, .int .i64 x.units, .int .i64 x.climb]] W (fun e w' => e = .returned (.bool true) ∧ Below W.heap.size W w') from by have h := HST.out W; rwa [tb_t hs] at h)
            have HQ := Lib.hid hs
            clear hs
            go_wp2_with fail
            ((with_reducible refine (HST1.out _).mono ?_); rintro e w5 ⟨rfl, hbc⟩)
            have HB2 := Lib.hid (ext_trans HB1.out hbc)
            have hz2 : V0.heap.size ≤ w5.heap.size := HB2.out.size
            have hown2 := HO1.out.ext hbc
            go_wp2_with (at_builtin; refine wpList_append_flat (f := one) (y := (k : Int)) rfl _ _ _ rfl V0.heap.size i0 _ 1 8 Try.underlying38 hi hy0 hy1 hy2 rfl (by decide) _ _ rfl rfl hown2 rfl ?_ (by decide) ?_ ?_; omega; exact hz2; intro v' w6 hown6 hg6 hb6)
            go_roundw
            case rel => exact ⟨k + 1, by omega, by go_num, HB2.out.trans hb6, by rw [stpTo_t HX.out HQ.out]; exact hown6⟩
            case measure => simp [intOf]; omega
          · have HST1 := Lib.hid (fun W => show Calls Try.prog 37 #[.agg #[.int .i64 wide, .int .i64 high, .slice A q c, .int .i64 steep], .agg #[.int .i64 x.way, .int .i64 x.units, .int .i64 x.climb]] W (fun e w' => e = .returned (.bool false) ∧ Below W.heap.size W w') from by have h := HST.out W; rwa [tb_f hs] at h)
            have HQ := Lib.hid hs
            clear hs
            go_wp2_with fail
            ((with_reducible refine (HST1.out _).mono ?_); rintro e w5 ⟨rfl, hbc⟩)
            have HB2 := Lib.hid (ext_trans HB1.out hbc)
            have hown2 := HO1.out.ext hbc
            go_wp2
            go_roundw
            case rel => exact ⟨k + 1, by omega, by go_num, HB2.out, by rw [stpTo_f HX.out (by have := HQ.out; omega)]; exact hown2⟩
            case measure => simp [intOf]; omega
        · have hkn : k = n := by omega
          subst hkn
          go_wp2
          go_ret2
          rw [sel_t HT.out, tb_t HT.out]
          obtain ⟨B9, d9, hv9, hF9⟩ := hown.form one_length
          exact ⟨B9, d9, by rw [hv9]; rfl, hF9.mono hC0.size (Nat.le_refl _), ext_trans hC0 hbr⟩
    · rw [tb_f h2]
      go_wp2
      go_ret2
      have hno : ¬ OK := fun h => h2 (HOK.out.1 h).2
      rw [sel_f hno, tb_f hno]
      exact ⟨none, 0, rfl, FlO.nil, ext_trans hC0 hx2⟩
  · rw [tb_f h1]
    go_wp2
    go_ret2
    have hno : ¬ OK := fun h => h1 (HOK.out.1 h).1
    rw [sel_f hno, tb_f hno]
    exact ⟨none, 0, rfl, FlO.nil, ext_trans hC0 hx1⟩
set_option maxHeartbeats 4000000 in
set_option maxRecDepth 100000 in
theorem specSteepLegs_any (wide high steep : Int) (A : Option Addr) (c : Nat) (xs : List Four) (B : Option Addr) (d : Nat) (ls : List Leg) (w : World) (hn : xs.length ≤ 1048576) (hA : Fl Four.ints 4 w A xs) (hm : ls.length ≤ 1048576) (hB : Fl Leg.ints 3 w B ls) :
    Calls Try.prog 17 #[.agg #[.int .i64 wide, .int .i64 high, .slice A xs.length c, .int .i64 steep], .slice B ls.length d] w (RetL one 1 w (sel (SlOk wide high steep xs ls) (stpTo steep ls ls.length)) (tb (SlOk wide high steep xs ls))) := by
  obtain ⟨i0, hi, hy0, hy1, hy2⟩ := info_parts infoInt
  obtain ⟨V0, hV0, hC0, hz0, hcv, _⟩ := box_world w #[Value.int .i64 wide, .int .i64 high, .slice A xs.length c, .int .i64 steep] 26
  have e0 : World.cell? V0 ⟨w.heap.size, 0, none⟩ = some (.int .i64 wide) := hcv 0
  have e1 : World.cell? V0 ⟨w.heap.size, 1, none⟩ = some (.int .i64 high) := hcv 1
  have e2 : World.cell? V0 ⟨w.heap.size, 2, none⟩ = some (.slice A xs.length c) := hcv 2
  have e3 : World.cell? V0 ⟨w.heap.size, 3, none⟩ = some (.int .i64 steep) := hcv 3
  obtain ⟨V1, hV1, hC1, hs1, _, _⟩ := box_world V0 #[] 3
  have hO0 : OwnF one 1 V0.heap.size 3 V1 (.slice (some ⟨V0.heap.size, 0, none⟩) 0 0) [] := hV1 ▸ OwnF.empty (Nat.le_refl _)
  have j0 := (hC1.cell (p := ⟨w.heap.size, 0, none⟩) hz0).trans e0
  have j1 := (hC1.cell (p := ⟨w.heap.size, 1, none⟩) hz0).trans e1
  have j2 := (hC1.cell (p := ⟨w.heap.size, 2, none⟩) hz0).trans e2
  have j3 := (hC1.cell (p := ⟨w.heap.size, 3, none⟩) hz0).trans e3
  have hgl := l16Good_any wide high steep A c xs V1 (by omega) (hA.ext (ext_trans hC0 hC1))
  have hgr := fun W hW => l15Good_any B d ls W hm hW
  have hsl : Lnd wide high steep xs → 1 ≤ steep ∧ steep ≤ 100 := fun h => ⟨h.2.2.2.2.2.2.1, h.2.2.2.2.2.2.2⟩
  have hok : SlOk wide high steep xs ls ↔ Lnd wide high steep xs ∧ Rt ls := Iff.rfl
  generalize SlOk wide high steep xs ls = OK at hok ⊢
  generalize Lnd wide high steep xs = L at hgl hsl hok
  have hrl : Rt ls → Legs ls ∧ ls.length ≤ 12 := fun h => h
  generalize Rt ls = R at hgr hok hrl
  obtain ⟨n, hnn⟩ : ∃ n, n = List.length ls := ⟨_, rfl⟩
  rw [← hnn] at hm hgr hrl ⊢
  generalize xs.length = q at *
  have HN := Lib.hid hnn
  have HGL := Lib.hid hgl
  have HGR := Lib.hid hgr
  have HSL := Lib.hid hsl
  have HRL := Lib.hid hrl
  have HOK := Lib.hid hok
  clear hnn hgl hgr hsl hrl hok hcv
  go_enter Try.func17, Try.ntmps17
  go_wp2_with fail
  ((with_reducible refine (HGL.out).mono ?_); rintro e w1 ⟨rfl, hb1⟩)
  have hx1 := ext_trans hC1 hb1
  have f0 := (hx1.cell (p := ⟨w.heap.size, 0, none⟩) hz0).trans e0
  have f1 := (hx1.cell (p := ⟨w.heap.size, 1, none⟩) hz0).trans e1
  have f2 := (hx1.cell (p := ⟨w.heap.size, 2, none⟩) hz0).trans e2
  have f3 := (hx1.cell (p := ⟨w.heap.size, 3, none⟩) hz0).trans e3
  clear hV0 hV1
  by_cases h1 : L
  · rw [tb_t h1]
    have HS := Lib.hid (HSL.out h1)
    have H1 := Lib.hid h1
    clear h1
    go_wp2_with fail
    ((with_reducible refine (HGR.out _ ((hB.ext hC0).ext hx1)).mono ?_); rintro e w2 ⟨rfl, hb2⟩)
    have hx2 := ext_trans hx1 hb2
    by_cases h2 : R
    · rw [tb_t h2]
      have HT : Hid OK := HOK.out.2 ⟨H1.out, h2⟩
      have HR := Lib.hid (HRL.out h2)
      have hn12 : n ≤ 12 := (HRL.out h2).2
      clear h2
      have hO2 := (hO0.ext hb1).ext hb2
      go_wp2
      go_loopw [6, 7] (fun v i wr => ∃ k : Nat, k ≤ n ∧ i = .int .i64 k ∧ Below V0.heap.size V0 wr ∧ OwnF one 1 V0.heap.size 3 wr v (stpTo steep ls k)) (fun _ i _ => n - (intOf i).toNat)
      case atStart => exact ⟨0, by omega, rfl, hx2, hO2⟩
      case round =>
        obtain ⟨k, hk, rfl, hbr, hown⟩ := hrel
        have hzr := hbr.size
        have hzb : w.heap.size < wr.heap.size := Nat.lt_of_lt_of_le hz0 hzr
        by_cases hlt : k < n
        · obtain ⟨x, b, o, hx, hAe, hbb, hc⟩ := ((hB.ext hC0).ext hbr).at_ (k := k) (by rw [← HN.out]; exact hlt)
          subst hAe
          have c0 : World.cell? wr ⟨b, o + k * 3, none⟩ = some (.int .i64 x.way) := hc 0 _ rfl
          have c1 : World.cell? wr ⟨b, o + k * 3 + 1, none⟩ = some (.int .i64 x.units) := hc 1 _ rfl
          have c2 : World.cell? wr ⟨b, o + k * 3 + 2, none⟩ = some (.int .i64 x.climb) := hc 2 _ rfl
          have hL := HR.out.1 k x hx
          have hlen : (stpTo steep ls k).length ≤ 1048576 := Nat.le_trans (stpTo_len _ _ _) (by omega)
          have g0 := (hbr.cell (p := ⟨w.heap.size, 0, none⟩) hz0).trans e0
          have g1 := (hbr.cell (p := ⟨w.heap.size, 1, none⟩) hz0).trans e1
          have g2 := (hbr.cell (p := ⟨w.heap.size, 2, none⟩) hz0).trans e2
          have g3 := (hbr.cell (p := ⟨w.heap.size, 3, none⟩) hz0).trans e3
          have hpc := plus_cell wr
          have HX := Lib.hid hx
          have HO1 := Lib.hid (hown)
          have HB1 := Lib.hid (hbr)
          have HST := Lib.hid (fun W => l16Steep_any wide high steep (.slice A q c) rfl x hL HS.out W)
          clear hc hx hown hL
          have hk0 : (0 : Int) ≤ (k : Int) := by omega
          have hk1 : (k : Int) < (n : Int) := by omega
          by_cases hs : steep * x.units < absI x.climb
          · have HST1 := Lib.hid (fun W => show Calls Try.prog 39 #[.agg #[.int .i64 wide, .int .i64 high, .slice A q c, .int .i64 steep], .agg #[.int .i64 x.way, .int .i64 x.units, .int .i64 x.climb]] W (fun e w' => e = .returned (.bool true) ∧ Below W.heap.size W w') from by have h := HST.out W; rwa [tb_t hs] at h)
            have HQ := Lib.hid hs
            clear hs
            go_wp2_with fail
            refine wp_region_grow (by kernel_rfl) (by kernel_rfl) ?_
            repeat (go_big_quiet_step ((first | (go_at_call 39; exact quiet_below (HST1.out _)))))
            refine wpQuiet_nil ?_
            intro w1 hb1
            obtain ⟨w5, hw5⟩ : ∃ z, z = w1 := ⟨_, rfl⟩
            subst hw5
            have hbc := hb1
            have HB2 := Lib.hid (ext_trans HB1.out hbc)
            have hz2 : V0.heap.size ≤ w5.heap.size := HB2.out.size
            have hown2 := HO1.out.ext hbc
            go_wp2_with (at_builtin; refine wpList_append_flat (f := one) (y := (k : Int)) rfl _ _ _ rfl V0.heap.size i0 _ 1 8 Try.underlying38 hi hy0 hy1 hy2 rfl (by decide) _ _ rfl rfl hown2 rfl ?_ (by decide) ?_ ?_; omega; exact hz2; intro v' w6 hown6 hg6 hb6)
            go_roundw
            case rel => exact ⟨k + 1, by omega, by go_num, HB2.out.trans hb6, by rw [stpTo_t HX.out HQ.out]; exact hown6⟩
            case measure => simp [intOf]; omega
          · have HST1 := Lib.hid (fun W => show Calls Try.prog 39 #[.agg #[.int .i64 wide, .int .i64 high, .slice A q c, .int .i64 steep], .agg #[.int .i64 x.way, .int .i64 x.units, .int .i64 x.climb]] W (fun e w' => e = .returned (.bool false) ∧ Below W.heap.size W w') from by have h := HST.out W; rwa [tb_f hs] at h)
            have HQ := Lib.hid hs
            clear hs
            go_wp2_with fail
            refine wp_region_grow (by kernel_rfl) (by kernel_rfl) ?_
            repeat (go_big_quiet_step ((first | (go_at_call 39; exact quiet_below (HST1.out _)))))
            refine wpQuiet_nil ?_
            intro w1 hb1
            obtain ⟨w5, hw5⟩ : ∃ z, z = w1 := ⟨_, rfl⟩
            subst hw5
            have hbc := hb1
            have HB2 := Lib.hid (ext_trans HB1.out hbc)
            have hown2 := HO1.out.ext hbc
            go_wp2
            go_roundw
            case rel => exact ⟨k + 1, by omega, by go_num, HB2.out, by rw [stpTo_f HX.out (by have := HQ.out; omega)]; exact hown2⟩
            case measure => simp [intOf]; omega
        · have hkn : k = n := by omega
          subst hkn
          go_wp2
          go_ret2
          rw [sel_t HT.out, tb_t HT.out]
          obtain ⟨B9, d9, hv9, hF9⟩ := hown.form one_length
          exact ⟨B9, d9, by rw [hv9]; rfl, hF9.mono hC0.size (Nat.le_refl _), ext_trans hC0 hbr⟩
    · rw [tb_f h2]
      go_wp2
      go_ret2
      have hno : ¬ OK := fun h => h2 (HOK.out.1 h).2
      rw [sel_f hno, tb_f hno]
      exact ⟨some ⟨V0.heap.size, 0, none⟩, 0, rfl, FlO.nil, ext_trans hC0 hx2⟩
  · rw [tb_f h1]
    go_wp2
    go_ret2
    have hno : ¬ OK := fun h => h1 (HOK.out.1 h).1
    rw [sel_f hno, tb_f hno]
    exact ⟨some ⟨V0.heap.size, 0, none⟩, 0, rfl, FlO.nil, ext_trans hC0 hx1⟩
end Go.Proofs.Ytlkojpmhniokfaa
