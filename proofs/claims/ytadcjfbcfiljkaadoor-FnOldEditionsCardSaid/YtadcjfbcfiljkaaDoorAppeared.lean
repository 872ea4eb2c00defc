/- Which editions appeared on some days: AppearedIn on both sides. -/
import Derived.Test.YtadcjfbcfiljkaaDoorLst
import Derived.Test.YtadcjfbcfiljkaaDoorOwn2
import Derived.Test.YtadcjfbcfiljkaaDoorFamRows
import Derived.Test.YtadcjfbcfiljkaaDoorAreEds
import Derived.Test.YtadcjfbcfiljkaaDoorGoodEds
import Derived.StillTailTactics
namespace Go.Proofs.YtadcjfbcfiljkaaDoor
open Go.RowKit
set_option linter.unusedVariables false
set_option linter.unusedSimpArgs false

def appD (f u : Int) (xs : List Nest) : List (List Int) := (xs.filter fun e => decide (f ≤ e.c ∧ e.c ≤ u)).map fun e => [e.a, e.b]
theorem appD_t {f u : Int} {xs : List Nest} {x : Nest} (h : f ≤ x.c ∧ x.c ≤ u) : appD f u (xs ++ [x]) = appD f u xs ++ [[x.a, x.b]] := by simp [appD, h]
theorem appD_f {f u : Int} {xs : List Nest} {x : Nest} (h : ¬ (f ≤ x.c ∧ x.c ≤ u)) : appD f u (xs ++ [x]) = appD f u xs := by unfold appD; rw [List.filter_append, List.filter_cons_of_neg (by simpa using h)]; simp
theorem appD_wt (f u : Int) (xs : List Nest) : rwt (appD f u xs) ≤ 3 * xs.length := by
  have h : ∀ l : List Nest, rwt (l.map fun e => [e.a, e.b]) = 3 * l.length := fun l => by
    induction l with
    | nil => rfl
    | cons x r ih => rw [List.map_cons, rwt, ih]; simp; omega
  unfold appD
  rw [h]
  have := List.length_filter_le (fun e : Nest => decide (f ≤ e.c ∧ e.c ≤ u)) xs
  omega
def ApOk (xs : List Nest) (f u : Int) : Prop := Eds xs ∧ (0 ≤ f ∧ f ≤ 4000) ∧ (0 ≤ u ∧ u ≤ 4000) ∧ f ≤ u
theorem appD_sel (f u : Int) (xs : List Nest) : rwt (sel (ApOk xs f u) (appD f u xs)) ≤ 1048576 := by
  by_cases h : ApOk xs f u
  · rw [sel_t h]
    have := appD_wt f u xs
    have := h.1.2
    omega
  · rw [sel_f h]
    simp [rwt]
set_option maxHeartbeats 1000000 in
set_option maxRecDepth 100000 in
theorem appearedIn_any (A : Option Addr) (c : Nat) (xs : List Nest) (f u : Int) (w : World) (hn : wt xs ≤ 1048576) (hcap : xs.length ≤ c) (hcm : c ≤ 9223372036854775807) (hA : Nl w A xs) :
    Calls Tryd.prog 17 #[.slice A xs.length c, .int .i64 f, .int .i64 u] w (RetS w (sel (ApOk xs f u) (appD f u xs)) (tb (ApOk xs f u))) := by
  obtain ⟨i0, hi, hz0, hz1, hz2⟩ := info_parts infoRows
  have hare := areEditions_any A c xs w hn hcap hcm hA
  have hn1 := Nat.le_trans (wt_len xs) hn
  obtain ⟨n, hnn⟩ : ∃ n, n = List.length xs := ⟨_, rfl⟩
  rw [← hnn] at hare hcap hn1 ⊢
  have hN := Lib.hid hnn
  have HA := Lib.hid hare
  clear hare hnn
  go_enter Tryd.func17, Tryd.ntmps17
  go_wp2_with fail
  refine (HA.out).mono ?_
  rintro e w1 ⟨rfl, hb1⟩
  by_cases h1 : Eds xs
  · rw [tb_t h1]
    have H1 := Lib.hid h1
    clear h1
    by_cases h2 : 0 ≤ f ∧ f ≤ 4000
    · go_wp2_with fail
      refine (isDay_t f _ h2).mono ?_
      rintro e w9 ⟨rfl, rfl⟩
      by_cases h3 : 0 ≤ u ∧ u ≤ 4000
      · go_wp2_with fail
        refine (isDay_t u _ h3).mono ?_
        rintro e w9 ⟨rfl, rfl⟩
        by_cases h4 : f ≤ u
        · skip
          have HO : Hid (ApOk xs f u) := ⟨H1.out, h2, h3, h4⟩
          have hfu : ¬ u < f := by omega
          go_wp2
          go_loopw [8, 31] (fun v i wr => ∃ (k : Nat) (ys : List (GV (List Int))), k ≤ n ∧ i = .int .i64 k ∧ Below w.heap.size w wr ∧ OwnG nohd slf 0 w.heap.size 31 3 wr v ys ∧ Hid (ys.map GV.x = appD f u (xs.take k)) ∧ ys.length ≤ k) (fun _ i _ => n - (intOf i).toNat)
          case atStart => exact ⟨0, [], by omega, rfl, hb1, OwnG.none_, rfl, by simp⟩
          case round =>
            obtain ⟨k, ys, hk, rfl, hbr, hown, hys, hyl⟩ := hrel
            have hzr := hbr.size
            by_cases hlt : k < n
            · obtain ⟨x, b, o, A', d', hx, rfl, hb, hc, _⟩ := (hA.ext hbr).at_ (k := k) (by rw [← hN.out]; exact hlt)
              have c0 : World.cell? wr ⟨b, o + k * 4, none⟩ = some (.int .i64 x.a) := hc.ca
              have c1 : World.cell? wr ⟨b, o + k * 4 + 1, none⟩ = some (.int .i64 x.b) := hc.cb
              have c2 : World.cell? wr ⟨b, o + k * 4 + 2, none⟩ = some (.int .i64 x.c) := hc.cc
              have c3 : World.cell? wr ⟨b, o + k * 4 + 3, none⟩ = some (.slice A' x.l.length d') := hc.cl
              have htk := take_get hx
              obtain ⟨W0, hW0, hB0, hz0', hg, _⟩ := box_world wr #[Value.int .i64 x.a, .int .i64 x.b, .int .i64 x.c, .slice A' x.l.length d'] 33
              have g0 : World.cell? W0 ⟨wr.heap.size, 0, none⟩ = some (.int .i64 x.a) := hg 0
              have g1 : World.cell? W0 ⟨wr.heap.size, 1, none⟩ = some (.int .i64 x.b) := hg 1
              have g2 : World.cell? W0 ⟨wr.heap.size, 2, none⟩ = some (.int .i64 x.c) := hg 2
              obtain ⟨W1, hW1, hB1, hz1', _, _⟩ := box_world W0 #[Value.int .i64 x.a, .int .i64 x.b] 3
              have hlit : OwnF one 1 w.heap.size 3 W1 (.slice (some ⟨W0.heap.size, 0, none⟩) 2 2) [x.a, x.b] := hW1 ▸ OwnF.lit (ext_trans hbr hB0).size [x.a, x.b] (by simp [maxLen])
              have hown0 := hown.ext hB0
              have hown1 := hown0.ext hB1
              have hfr := hown0.fresh (Nat.le_refl _)
              have hbW := ext_trans hbr hB0
              have hbV := ext_trans hbW hB1
              have HT := Lib.hid htk
              have HF := Lib.hid hfr
              have HLI := Lib.hid hlit
              clear hc hA hx hg htk hfr hlit
              have hk0 : (0 : Int) ≤ (k : Int) := by omega
              have hk1 : (k : Int) < (n : Int) := by omega
              by_cases hp : f ≤ x.c ∧ x.c ≤ u
              · go_wp2_with fail
                refine (within_t x.c f u _ hp).mono ?_
                rintro e w2 ⟨rfl, rfl⟩
                have HP := Lib.hid hp
                clear hp
                go_wp2_with (at_builtin; refine wpList_append_g (y := ⟨[x.a, x.b], some ⟨W0.heap.size, 0, none⟩, 2⟩) (hd := nohd) (tl := slf) rfl _ _ _ rfl w.heap.size 0 i0 _ 24 Tryd.underlying39 hi hz0 hz1 hz2 rfl (fun _ => rfl) _ ys rfl rfl hown1 (by decide) HLI.out (fun _ z hz hl => HF.out z hz hl) (by omega) (by decide) hbV.size ?_; intro v' w3 hown3 hg3 hb3)
                go_roundw
                case rel => exact ⟨k + 1, _, by omega, by go_num, hbV.trans hb3, hown3, by
                  show List.map GV.x (ys ++ [_]) = _
                  rw [HT.out, appD_t HP.out, List.map_append, hys.out]; rfl, by simp; omega⟩
                case measure => simp [intOf]; omega
              · go_wp2_with fail
                refine (within_f x.c f u _ hp).mono ?_
                rintro e w2 ⟨rfl, rfl⟩
                have HP := Lib.hid hp
                clear hp
                go_wp2
                go_roundw
                case rel => exact ⟨k + 1, ys, by omega, by go_num, hbW, hown0, by
                  show List.map GV.x ys = _
                  rw [HT.out, appD_f HP.out, hys.out], by omega⟩
                case measure => simp [intOf]; omega
            · have hkn : k = n := by omega
              subst hkn
              go_wp2
              go_ret2
              have hys' := hys.out
              rw [take_all (by rw [← hN.out]; exact Nat.le_refl _)] at hys'
              obtain ⟨B, d, hv, hF⟩ := hown.form (fun _ => rfl) (by decide)
              rw [hys'] at hv hF
              rw [sel_t HO.out, tb_t HO.out]
              exact ⟨B, d, by rw [hv]; rfl, hF, hbr⟩
        · have hfu : u < f := by omega
          go_wp2
          go_ret2
          have hok : ¬ (ApOk xs f u) := fun h => (fun (q : f ≤ u) => (by omega : False)) h.2.2.2
          rw [sel_f hok, tb_f hok]
          exact ⟨none, 0, rfl, GlO.nil, hb1⟩
      · go_wp2_with fail
        refine (isDay_f u _ h3).mono ?_
        rintro e w9 ⟨rfl, rfl⟩
        go_wp2
        go_ret2
        have hok : ¬ (ApOk xs f u) := fun h => h3 h.2.2.1
        rw [sel_f hok, tb_f hok]
        exact ⟨none, 0, rfl, GlO.nil, hb1⟩
    · go_wp2_with fail
      refine (isDay_f f _ h2).mono ?_
      rintro e w9 ⟨rfl, rfl⟩
      go_wp2
      go_ret2
      have hok : ¬ (ApOk xs f u) := fun h => h2 h.2.1
      rw [sel_f hok, tb_f hok]
      exact ⟨none, 0, rfl, GlO.nil, hb1⟩
  · rw [tb_f h1]
    have H1 := Lib.hid h1
    clear h1
    go_wp2
    go_ret2
    have hok : ¬ (ApOk xs f u) := fun h => H1.out h.1
    rw [sel_f hok, tb_f hok]
    exact ⟨none, 0, rfl, GlO.nil, hb1⟩

set_option maxHeartbeats 1000000 in
set_option maxRecDepth 100000 in
theorem specAppearedIn_any (A : Option Addr) (c : Nat) (xs : List Nest) (f u : Int) (w : World) (hn : wt xs ≤ 1048576) (hcap : xs.length ≤ c) (hcm : c ≤ 9223372036854775807) (hA : Nl w A xs) :
    Calls Tryd.prog 18 #[.slice A xs.length c, .int .i64 f, .int .i64 u] w (RetS w (sel (ApOk xs f u) (appD f u xs)) (tb (ApOk xs f u))) := by
  obtain ⟨i0, hi, hz0, hz1, hz2⟩ := info_parts infoRows
  obtain ⟨W0, hW0, hB0, hzw, _, _⟩ := box_world w #[] 31
  have hown0 : OwnG nohd slf 0 w.heap.size 31 3 W0 (.slice (some ⟨w.heap.size, 0, none⟩) 0 0) [] := hW0 ▸ OwnG.empty (Nat.le_refl _)
  have hare := l18Good_any A c xs W0 hn hcap hcm (hA.ext hB0)
  have hn1 := Nat.le_trans (wt_len xs) hn
  obtain ⟨n, hnn⟩ : ∃ n, n = List.length xs := ⟨_, rfl⟩
  rw [← hnn] at hare hcap hn1 ⊢
  have hN := Lib.hid hnn
  have HA := Lib.hid hare
  clear hare hnn
  go_enter Tryd.func18, Tryd.ntmps18
  go_wp2_with fail
  refine (HA.out).mono ?_
  rintro e w1 ⟨rfl, hb1⟩
  by_cases h1 : Eds xs
  · rw [tb_t h1]
    have H1 := Lib.hid h1
    clear h1
    by_cases h2 : 0 ≤ f ∧ f ≤ 4000
    · go_wp2_with fail
      refine (l2Day_t f _ h2).mono ?_
      rintro e w9 ⟨rfl, rfl⟩
      by_cases h3 : 0 ≤ u ∧ u ≤ 4000
      · go_wp2_with fail
        refine (l2Day_t u _ h3).mono ?_
        rintro e w9 ⟨rfl, rfl⟩
        by_cases h4 : f ≤ u
        · skip
          have HO : Hid (ApOk xs f u) := ⟨H1.out, h2, h3, h4⟩
          have hfu : ¬ u < f := by omega
          go_wp2
          go_loopw [8, 9] (fun v i wr => ∃ (k : Nat) (ys : List (GV (List Int))), k ≤ n ∧ i = .int .i64 k ∧ Below w.heap.size w wr ∧ OwnG nohd slf 0 w.heap.size 31 3 wr v ys ∧ Hid (ys.map GV.x = appD f u (xs.take k)) ∧ ys.length ≤ k) (fun _ i _ => n - (intOf i).toNat)
          case atStart => exact ⟨0, [], by omega, rfl, (ext_trans hB0 hb1), hown0.ext hb1, rfl, by simp⟩
          case round =>
            obtain ⟨k, ys, hk, rfl, hbr, hown, hys, hyl⟩ := hrel
            have hzr := hbr.size
            by_cases hlt : k < n
            · obtain ⟨x, b, o, A', d', hx, rfl, hb, hc, _⟩ := hA.at_ (k := k) (by rw [← hN.out]; exact hlt)
              have c0 : World.cell? w ⟨b, o + k * 4, none⟩ = some (.int .i64 x.a) := hc.ca
              have c1 : World.cell? w ⟨b, o + k * 4 + 1, none⟩ = some (.int .i64 x.b) := hc.cb
              have c2 : World.cell? w ⟨b, o + k * 4 + 2, none⟩ = some (.int .i64 x.c) := hc.cc
              have c3 : World.cell? w ⟨b, o + k * 4 + 3, none⟩ = some (.slice A' x.l.length d') := hc.cl
              have hcw := bcell hbr
              have htk := take_get hx
              have HT := Lib.hid htk
              clear hc hA hx htk
              have hk0 : (0 : Int) ≤ (k : Int) := by omega
              have hk1 : (k : Int) < (n : Int) := by omega
              by_cases hp : f ≤ x.c ∧ x.c ≤ u
              · go_wp2_with fail
                refine (l1In_t x.c f u _ hp).mono ?_
                rintro e w2 ⟨rfl, rfl⟩
                have HP := Lib.hid hp
                clear hp
                have HF := Lib.hid (hown.fresh (Nat.le_refl wr.heap.size))
                have HLB := Lib.hid (lit_box (lo := w.heap.size) (et := 3) (e := 31) wr hzr [x.a, x.b] (by simp [maxLen]))
                go_wp2_with fail
                go_region_held3 (fun w' => Below (World.heap w).size w w' ∧ ∀ b o, b < (World.heap w).size → w'.cell? ⟨b, o, none⟩ = World.cell? w ⟨b, o, none⟩) (first | exact cls_of (ext_drew _) | exact cls_of hbr.drew | exact cls_alloc (by assumption) _ | exact cls_grow (by assumption) hb3) ((first | (refine step_append_g (et := 3) (y := ⟨[x.a, x.b], some ⟨wr.heap.size, 0, none⟩, 2⟩) (hd := nohd) (tl := slf) rfl (.tmp 44) (.tmp 56) 39 rfl w.heap.size 0 i0 _ 24 Tryd.underlying39 hi hz0 hz1 hz2 rfl (fun _ => rfl) _ ys (wr.heap.size + 1) rfl ?_ HLB.out.2.1 (hown.ext HLB.out.2.2) (by decide) HLB.out.1 (fun _ z hz hl => HF.out z hz hl) (by omega) (by decide) (hbr.trans (HLB.out.2.2.mono hzr)).size ?_; (first | rfl | (simp; done) | go_loud (fail "X")); intro v' w3 hown3 hg3 hb3)))
                go_wp2
                go_roundw
                case rel => exact ⟨k + 1, _, by omega, by go_num, (hbr.trans (HLB.out.2.2.mono hzr)).trans hb3, hown3, by
                  show List.map GV.x (ys ++ [_]) = _
                  rw [HT.out, appD_t HP.out, List.map_append, hys.out]; rfl, by simp; omega⟩
                case measure => simp [intOf]; omega
              · go_wp2_with fail
                refine (l1In_f x.c f u _ hp).mono ?_
                rintro e w2 ⟨rfl, rfl⟩
                have HP := Lib.hid hp
                clear hp
                go_wp2
                go_roundw
                case rel => exact ⟨k + 1, ys, by omega, by go_num, hbr, hown, by
                  show List.map GV.x ys = _
                  rw [HT.out, appD_f HP.out, hys.out], by omega⟩
                case measure => simp [intOf]; omega
            · have hkn : k = n := by omega
              subst hkn
              go_wp2
              go_ret2
              have hys' := hys.out
              rw [take_all (by rw [← hN.out]; exact Nat.le_refl _)] at hys'
              obtain ⟨B, d, hv, hF⟩ := hown.form (fun _ => rfl) (by decide)
              rw [hys'] at hv hF
              rw [sel_t HO.out, tb_t HO.out]
              exact ⟨B, d, by rw [hv]; rfl, hF, hbr⟩
        · have hfu : u < f := by omega
          go_wp2
          go_ret2
          have hok : ¬ (ApOk xs f u) := fun h => (fun (q : f ≤ u) => (by omega : False)) h.2.2.2
          rw [sel_f hok, tb_f hok]
          exact ⟨some ⟨w.heap.size, 0, none⟩, 0, rfl, GlO.nil, (ext_trans hB0 hb1)⟩
      · go_wp2_with fail
        refine (l2Day_f u _ h3).mono ?_
        rintro e w9 ⟨rfl, rfl⟩
        go_wp2
        go_ret2
        have hok : ¬ (ApOk xs f u) := fun h => h3 h.2.2.1
        rw [sel_f hok, tb_f hok]
        exact ⟨some ⟨w.heap.size, 0, none⟩, 0, rfl, GlO.nil, (ext_trans hB0 hb1)⟩
    · go_wp2_with fail
      refine (l2Day_f f _ h2).mono ?_
      rintro e w9 ⟨rfl, rfl⟩
      go_wp2
      go_ret2
      have hok : ¬ (ApOk xs f u) := fun h => h2 h.2.1
      rw [sel_f hok, tb_f hok]
      exact ⟨some ⟨w.heap.size, 0, none⟩, 0, rfl, GlO.nil, (ext_trans hB0 hb1)⟩
  · rw [tb_f h1]
    have H1 := Lib.hid h1
    clear h1
    go_wp2
    go_ret2
    have hok : ¬ (ApOk xs f u) := fun h => H1.out h.1
    rw [sel_f hok, tb_f hok]
    exact ⟨some ⟨w.heap.size, 0, none⟩, 0, rfl, GlO.nil, (ext_trans hB0 hb1)⟩
end Go.Proofs.YtadcjfbcfiljkaaDoor
