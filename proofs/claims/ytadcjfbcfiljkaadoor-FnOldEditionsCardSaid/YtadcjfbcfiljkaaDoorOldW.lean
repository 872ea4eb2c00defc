/- OldEditions on both sides. -/
import Derived.Test.YtadcjfbcfiljkaaDoorOld
namespace Go.Proofs.YtadcjfbcfiljkaaDoor
open Go.RowKit
set_option linter.unusedVariables false
set_option linter.unusedSimpArgs false

set_option maxHeartbeats 1000000 in
set_option maxRecDepth 100000 in
theorem oldEditions_any (A : Option Addr) (c : Nat) (xs : List Nest) (day m : Int) (w : World) (hn : wt xs ≤ 1048576) (hcap : xs.length ≤ c) (hcm : c ≤ 9223372036854775807) (hA : Nl w A xs) :
    Calls Tryd.prog 14 #[.slice A xs.length c, .int .i64 day, .int .i64 m] w (RetL one 1 w (sel (OdOk xs day m) (oldS xs day m)) (tb (OdOk xs day m))) := by
  obtain ⟨i0, hi, hz0, hz1, hz2⟩ := info_parts infoInt
  have hare := areEditions_any A c xs w hn hcap hcm hA
  have hcur := fun (a : Int) W hW => current_any A c xs a day W (Nat.le_trans (wt_len xs) hn) hW
  have hn1 := Nat.le_trans (wt_len xs) hn
  have hds : Eds xs → ∀ (i : Nat) (x : Nest), xs[i]? = some x → 0 ≤ x.c ∧ x.c ≤ 4000 := fun h i x hx => (h.1 i x hx).1.2.2.2.2.2.1
  have hso := fun (h : Eds xs) => old_sorted h day m
  have hPQ := fun (i : Nat) (x : Nest) => (Iff.rfl : oldI xs day m i x = true ↔ oldI xs day m i x = true)
  obtain ⟨n, hnn⟩ : ∃ n, n = List.length xs := ⟨_, rfl⟩
  rw [← hnn] at hare hcur hcap hn1 hso ⊢
  have hN := Lib.hid hnn
  have HA := Lib.hid hare
  have HC := Lib.hid hcur
  have HD := Lib.hid hds
  have HSO := Lib.hid hso
  clear hare hcur hnn hds hso hPQ
  go_enter Tryd.func14, Tryd.ntmps14
  go_wp2_with fail
  refine (HA.out).mono ?_
  rintro e w1 ⟨rfl, hb1⟩
  by_cases h1 : Eds xs
  · rw [tb_t h1]
    have H1 := Lib.hid h1
    clear h1
    by_cases h2 : 0 ≤ day ∧ day ≤ 4000
    · go_wp2_with fail
      refine (isDay_t day _ h2).mono ?_
      rintro e w9 ⟨rfl, rfl⟩
      by_cases h3 : 0 ≤ m ∧ m ≤ 4000
      · go_wp2_with fail
        refine (within_t m 0 4000 _ h3).mono ?_
        rintro e w9 ⟨rfl, rfl⟩
        have HO : Hid (OdOk xs day m) := ⟨H1.out, h2, h3⟩
        go_wp2
        go_loopw [8, 26] (fun v i wr => ∃ k : Nat, k ≤ n ∧ i = .int .i64 k ∧ Below w.heap.size w wr ∧ OwnF one 1 w.heap.size 3 wr v (colTo (oldI xs day m) xs k)) (fun _ i _ => n - (intOf i).toNat)
        case atStart => exact ⟨0, by omega, rfl, hb1, OwnF.none_⟩
        case round =>
          obtain ⟨k, hk, rfl, hbr, hown⟩ := hrel
          have hzr := hbr.size
          by_cases hlt : k < n
          · obtain ⟨x, b, o, A', d', hx, rfl, hb, hc, hfl⟩ := (hA.ext hbr).at_ (k := k) (by rw [← hN.out]; exact hlt)
            have hxd := HD.out H1.out k x hx
            have c0 : World.cell? wr ⟨b, o + k * 4, none⟩ = some (.int .i64 x.a) := hc.ca
            have c1 : World.cell? wr ⟨b, o + k * 4 + 1, none⟩ = some (.int .i64 x.b) := hc.cb
            have c2 : World.cell? wr ⟨b, o + k * 4 + 2, none⟩ = some (.int .i64 x.c) := hc.cc
            have c3 : World.cell? wr ⟨b, o + k * 4 + 3, none⟩ = some (.slice A' x.l.length d') := hc.cl
            have hlen : (colTo (oldI xs day m) xs k).length ≤ 1048576 := Nat.le_trans (colTo_len _ _ _) (by omega)
            obtain ⟨q, hq⟩ : ∃ q, q = curN day (ofS x.a xs) := ⟨_, rfl⟩
            have hcur := HC.out x.a
            rw [← hq] at hcur
            have HCU := Lib.hid hcur
            have hPt : x.b = q → m ≤ day - x.c → oldI xs day m k x = true := fun h1 h2 => by unfold oldI; rw [← hq]; simp [h1, h2]
            have hPf1 : x.b ≠ q → oldI xs day m k x = false := fun h1 => by unfold oldI; rw [← hq]; simp [h1]
            have hPf2 : ¬ m ≤ day - x.c → oldI xs day m k x = false := fun h1 => by unfold oldI; simp only [decide_eq_false_iff_not]; exact fun h => h1 h.2
            have HX := Lib.hid hx
            have HPT := Lib.hid hPt
            have HPF1 := Lib.hid hPf1
            have HPF2 := Lib.hid hPf2
            obtain ⟨W0, hW0, hB0, hz0', hg, _⟩ := box_world wr #[Value.int .i64 x.a, .int .i64 x.b, .int .i64 x.c, .slice A' x.l.length d'] 33
            have g0 : World.cell? W0 ⟨wr.heap.size, 0, none⟩ = some (.int .i64 x.a) := hg 0
            have g1 : World.cell? W0 ⟨wr.heap.size, 1, none⟩ = some (.int .i64 x.b) := hg 1
            have g2 : World.cell? W0 ⟨wr.heap.size, 2, none⟩ = some (.int .i64 x.c) := hg 2
            have hbW := ext_trans hbr hB0
            have hown0 := hown.ext hB0
            have hA0 := hA.ext hbW
            have hpc := plus_cell W0
            clear hg hx hc hA hcur hq hPt hPf1 hPf2 hfl
            have hk0 : (0 : Int) ≤ (k : Int) := by omega
            have hk1 : (k : Int) < (n : Int) := by omega
            by_cases hq : x.b = q
            · subst hq
              by_cases hd : m ≤ day - x.c
              · go_wp2_with fail
                refine wp_region_grow (by kernel_rfl) (by kernel_rfl) ?_
                repeat (go_big_quiet_step ((first | (go_at_call 32; exact quiet_below (HCU.out _ (hA0.ext (plus_below _ _)))))))
                refine wpQuiet_nil ?_
                intro w1 hb1
                have hbV := ext_trans hbW hb1
                have hown1 := hown0.ext hb1
                have hc1 := bcell hb1
                have hzq : wr.heap.size < w1.heap.size := Nat.lt_of_lt_of_le hz0' hb1.size
                go_wp2_with (at_builtin; refine wpList_append_flat (f := one) (y := x.a) rfl _ _ _ rfl w.heap.size i0 _ 1 8 Tryd.underlying31 hi hz0 hz1 hz2 rfl (by decide) _ _ rfl rfl hown1 rfl ?_ (by decide) ?_ ?_; omega; exact hbV.size; intro v' w3 hown3 hg3 hb3)
                go_roundw
                case rel => exact ⟨k + 1, by omega, by go_num, hbV.trans hb3, by rw [colTo_t HX.out (HPT.out (by trivial) hd)]; exact hown3⟩
                case measure => simp [intOf]; omega
              · go_wp2_with fail
                refine wp_region_grow (by kernel_rfl) (by kernel_rfl) ?_
                repeat (go_big_quiet_step ((first | (go_at_call 32; exact quiet_below (HCU.out _ (hA0.ext (plus_below _ _)))))))
                refine wpQuiet_nil ?_
                intro w1 hb1
                go_wp2
                go_roundw
                case rel => exact ⟨k + 1, by omega, by go_num, ext_trans hbW hb1, by rw [colTo_f HX.out (HPF2.out hd)]; exact hown0.ext hb1⟩
                case measure => simp [intOf]; omega
            · have hqn : (x.b == q) = false := by rw [beq_eq_false_iff_ne]; exact hq
              have HQ := Lib.hid hq
              clear hq
              go_wp2_with fail
              refine wp_region_grow (by kernel_rfl) (by kernel_rfl) ?_
              repeat (go_big_quiet_step ((first | (go_at_call 32; exact quiet_below (HCU.out _ (hA0.ext (plus_below _ _)))))))
              refine wpQuiet_nil ?_
              intro w1 hb1
              go_wp2
              go_roundw
              case rel => exact ⟨k + 1, by omega, by go_num, ext_trans hbW hb1, by rw [colTo_f HX.out (HPF1.out HQ.out)]; exact hown0.ext hb1⟩
              case measure => simp [intOf]; omega
          · have hkn : k = n := by omega
            subst hkn
            obtain ⟨A1, c1, hv, _, _⟩ := hown.caps
            subst hv
            have hll : (colTo (oldI xs day m) xs k).length ≤ 16777216 := Nat.le_trans (colTo_len _ _ _) (by omega)
            have hso2 := HSO.out H1.out
            generalize colTo (oldI xs day m) xs k = L at hown hll hso2
            go_wp2_with fail
            refine (sortOwn_any w.heap.size _ L wr hll hzr hown).mono ?_
            rintro e w4 ⟨rfl, hown4, _, hb4⟩
            go_wp2
            go_ret2
            have hl2 : (L.mergeSort leI).length = L.length := List.length_mergeSort L
            obtain ⟨A2, c2, hv2, hF2⟩ := hown4.form one_length
            rw [hl2] at hv2
            injection hv2 with e1 e2 e3
            rw [hso2] at hF2 hl2
            rw [sel_t HO.out, tb_t HO.out]
            refine ⟨A2, c1, ?_, hF2, hbr.trans hb4⟩
            rw [← e1, hl2]
            rfl
      · go_wp2_with fail
        refine (within_f m 0 4000 _ h3).mono ?_
        rintro e w9 ⟨rfl, rfl⟩
        go_wp2
        go_ret2
        have hok : ¬ (OdOk xs day m) := fun h => h3 h.2.2
        rw [sel_f hok, tb_f hok]
        exact ⟨none, 0, rfl, FlO.nil, hb1⟩
    · go_wp2_with fail
      refine (isDay_f day _ h2).mono ?_
      rintro e w9 ⟨rfl, rfl⟩
      go_wp2
      go_ret2
      have hok : ¬ (OdOk xs day m) := fun h => h2 h.2.1
      rw [sel_f hok, tb_f hok]
      exact ⟨none, 0, rfl, FlO.nil, hb1⟩
  · rw [tb_f h1]
    have H1 := Lib.hid h1
    clear h1
    go_wp2
    go_ret2
    have hok : ¬ (OdOk xs day m) := fun h => H1.out h.1
    rw [sel_f hok, tb_f hok]
    exact ⟨none, 0, rfl, FlO.nil, hb1⟩

set_option maxHeartbeats 1000000 in
set_option maxRecDepth 100000 in
theorem specOldEditions_any (A : Option Addr) (c : Nat) (xs : List Nest) (day m : Int) (w : World) (hn : wt xs ≤ 1048576) (hcap : xs.length ≤ c) (hcm : c ≤ 9223372036854775807) (hA : Nl w A xs) :
    Calls Tryd.prog 15 #[.slice A xs.length c, .int .i64 day, .int .i64 m] w (RetL one 1 w (sel (OdOk xs day m) (oldS xs day m)) (tb (OdOk xs day m))) := by
  obtain ⟨W0, hW0, hB0, hzw, _, _⟩ := box_world w #[] 3
  have hown0 : OwnF one 1 w.heap.size 3 W0 (.slice (some ⟨w.heap.size, 0, none⟩) 0 0) [] := hW0 ▸ OwnF.empty (Nat.le_refl _)
  have hare := l18Good_any A c xs W0 hn hcap hcm (hA.ext hB0)
  have hon := fun (a : Int) W hW => l18On_any A c xs a day W (Nat.le_trans (wt_len xs) hn) hW
  have hn1 := Nat.le_trans (wt_len xs) hn
  have hds : Eds xs → ∀ (i : Nat) (x : Nest), xs[i]? = some x → 0 ≤ x.c ∧ x.c ≤ 4000 := fun h i x hx => (h.1 i x hx).1.2.2.2.2.2.1
  have hoS : oldS xs day m = putAll (colTo (oldP xs day m) xs xs.length) := rfl
  obtain ⟨n, hnn⟩ : ∃ n, n = List.length xs := ⟨_, rfl⟩
  have hPd : ∀ (i : Nat) (x : Nest), oldP xs day m i x = decide (onI x.a day xs n = i ∧ m ≤ day - x.c) := fun i x => by rw [hnn]; rfl
  rw [← hnn] at hare hon hcap hn1 hoS ⊢
  have hN := Lib.hid hnn
  have HA := Lib.hid hare
  have HC := Lib.hid hon
  have HD := Lib.hid hds
  have HSO := Lib.hid hoS
  have HPD := Lib.hid hPd
  clear hare hon hnn hds hoS hPd
  go_enter Tryd.func15, Tryd.ntmps15
  go_wp2_with fail
  refine (HA.out).mono ?_
  rintro e w1 ⟨rfl, hb1⟩
  by_cases h1 : Eds xs
  · rw [tb_t h1]
    have H1 := Lib.hid h1
    clear h1
    by_cases h2 : 0 ≤ day ∧ day ≤ 4000
    · go_wp2_with fail
      refine (l2Day_t day _ h2).mono ?_
      rintro e w9 ⟨rfl, rfl⟩
      by_cases h3 : 0 ≤ m ∧ m ≤ 4000
      · go_wp2_with fail
        refine (l1In_t m 0 4000 _ h3).mono ?_
        rintro e w9 ⟨rfl, rfl⟩
        have HO : Hid (OdOk xs day m) := ⟨H1.out, h2, h3⟩
        go_wp2
        go_loopw [8, 9] (fun v i wr => ∃ k : Nat, k ≤ n ∧ i = .int .i64 k ∧ Below w.heap.size w wr ∧ OwnF one 1 w.heap.size 3 wr v (putAll (colTo (oldP xs day m) xs k))) (fun _ i _ => n - (intOf i).toNat)
        case atStart => exact ⟨0, by omega, rfl, (ext_trans hB0 hb1), hown0.ext hb1⟩
        case round =>
          obtain ⟨k, hk, rfl, hbr, hown⟩ := hrel
          have hzr := hbr.size
          by_cases hlt : k < n
          · obtain ⟨x, b, o, A', d', hx, rfl, hb, hc, hfl⟩ := (hA.ext hbr).at_ (k := k) (by rw [← hN.out]; exact hlt)
            have hxd := HD.out H1.out k x hx
            have c0 : World.cell? wr ⟨b, o + k * 4, none⟩ = some (.int .i64 x.a) := hc.ca
            have c1 : World.cell? wr ⟨b, o + k * 4 + 1, none⟩ = some (.int .i64 x.b) := hc.cb
            have c2 : World.cell? wr ⟨b, o + k * 4 + 2, none⟩ = some (.int .i64 x.c) := hc.cc
            have c3 : World.cell? wr ⟨b, o + k * 4 + 3, none⟩ = some (.slice A' x.l.length d') := hc.cl
            have hlen : (putAll (colTo (oldP xs day m) xs k)).length ≤ 1048576 := Nat.le_trans (putAll_len _) (Nat.le_trans (colTo_len _ _ _) (by omega))
            obtain ⟨q, hq⟩ : ∃ q, q = onI x.a day xs n := ⟨_, rfl⟩
            have hcur := HC.out x.a
            rw [← hq] at hcur
            have HCU := Lib.hid hcur
            have hPt : q = (k : Int) → m ≤ day - x.c → oldP xs day m k x = true := fun h1 h2 => by rw [HPD.out, ← hq]; simp [h1, h2]
            have hPf1 : q ≠ (k : Int) → oldP xs day m k x = false := fun h1 => by rw [HPD.out, ← hq]; simp [h1]
            have hPf2 : ¬ m ≤ day - x.c → oldP xs day m k x = false := fun h1 => by rw [HPD.out]; simp only [decide_eq_false_iff_not]; exact fun h => h1 h.2
            have HX := Lib.hid hx
            have HPT := Lib.hid hPt
            have HPF1 := Lib.hid hPf1
            have HPF2 := Lib.hid hPf2
            have hA0 := hA.ext hbr
            have hpc := plus_cell wr
            clear hx hc hA hcur hq hPt hPf1 hPf2 hfl
            have hk0 : (0 : Int) ≤ (k : Int) := by omega
            have hk1 : (k : Int) < (n : Int) := by omega
            by_cases hq : q = (k : Int)
            · subst hq
              by_cases hd : m ≤ day - x.c
              · go_wp2_with fail
                refine (HCU.out wr hA0).mono ?_
                rintro e w2 ⟨rfl, rfl⟩
                go_wp2_with fail
                refine (l1PutOwn_any w.heap.size _ (putAll (colTo (oldP xs day m) xs k)) x.a wr (by omega) hzr hown).mono ?_
                rintro e w3 ⟨v3, rfl, hown3, hb3⟩
                go_wp2
                go_roundw
                case rel => exact ⟨k + 1, by omega, by go_num, hbr.trans hb3, by rw [colTo_t HX.out (HPT.out (by trivial) hd), putAll_snoc]; exact hown3⟩
                case measure => simp [intOf]; omega
              · go_wp2_with fail
                refine (HCU.out wr hA0).mono ?_
                rintro e w2 ⟨rfl, rfl⟩
                go_wp2
                go_roundw
                case rel => exact ⟨k + 1, by omega, by go_num, hbr, by rw [colTo_f HX.out (HPF2.out hd)]; exact hown⟩
                case measure => simp [intOf]; omega
            · have hqn : (q == (k : Int)) = false := by rw [beq_eq_false_iff_ne]; exact hq
              have HQ := Lib.hid hq
              clear hq
              go_wp2_with fail
              refine (HCU.out wr hA0).mono ?_
              rintro e w2 ⟨rfl, rfl⟩
              go_wp2
              go_roundw
              case rel => exact ⟨k + 1, by omega, by go_num, hbr, by rw [colTo_f HX.out (HPF1.out HQ.out)]; exact hown⟩
              case measure => simp [intOf]; omega
          · have hkn : k = n := by omega
            subst hkn
            go_wp2
            go_ret2
            rw [← HSO.out] at hown
            obtain ⟨B, d, hv, hF⟩ := hown.form one_length
            rw [sel_t HO.out, tb_t HO.out]
            exact ⟨B, d, by rw [hv]; rfl, hF, hbr⟩
      · go_wp2_with fail
        refine (l1In_f m 0 4000 _ h3).mono ?_
        rintro e w9 ⟨rfl, rfl⟩
        go_wp2
        go_ret2
        have hok : ¬ (OdOk xs day m) := fun h => h3 h.2.2
        rw [sel_f hok, tb_f hok]
        exact ⟨some ⟨w.heap.size, 0, none⟩, 0, rfl, FlO.nil, (ext_trans hB0 hb1)⟩
    · go_wp2_with fail
      refine (l2Day_f day _ h2).mono ?_
      rintro e w9 ⟨rfl, rfl⟩
      go_wp2
      go_ret2
      have hok : ¬ (OdOk xs day m) := fun h => h2 h.2.1
      rw [sel_f hok, tb_f hok]
      exact ⟨some ⟨w.heap.size, 0, none⟩, 0, rfl, FlO.nil, (ext_trans hB0 hb1)⟩
  · rw [tb_f h1]
    have H1 := Lib.hid h1
    clear h1
    go_wp2
    go_ret2
    have hok : ¬ (OdOk xs day m) := fun h => H1.out h.1
    rw [sel_f hok, tb_f hok]
    exact ⟨some ⟨w.heap.size, 0, none⟩, 0, rfl, FlO.nil, (ext_trans hB0 hb1)⟩
end Go.Proofs.YtadcjfbcfiljkaaDoor
