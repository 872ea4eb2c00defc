/- In which editions of a sheet a place was changed: PlaceHistory on both sides. -/
import Derived.Test.YtadcjfbcfiljkaaDoorHist
namespace Go.Proofs.YtadcjfbcfiljkaaDoor
open Go.RowKit
set_option linter.unusedVariables false
set_option linter.unusedSimpArgs false

def PhOk (xs : List Nest) (sheet place : Int) : Prop := Eds xs ∧ (1 ≤ sheet ∧ sheet ≤ 999) ∧ (0 ≤ place ∧ place ≤ 999)
set_option maxHeartbeats 1000000 in
set_option maxRecDepth 100000 in
theorem placeHistory_any (A : Option Addr) (c : Nat) (xs : List Nest) (sheet place : Int) (w : World) (hn : wt xs ≤ 1048576) (hcap : xs.length ≤ c) (hcm : c ≤ 9223372036854775807) (hA : Nl w A xs) :
    Calls Tryd.prog 12 #[.slice A xs.length c, .int .i64 sheet, .int .i64 place] w (RetL one 1 w (sel (PhOk xs sheet place) (hist place (ofS sheet xs))) (tb (PhOk xs sheet place))) := by
  have hare := areEditions_any A c xs w hn hcap hcm hA
  have hhi := fun W hW => history_any A c xs sheet place W hn hW
  generalize hist place (ofS sheet xs) = ys at hhi ⊢
  generalize xs.length = n at hare hhi hcap ⊢
  have HA := Lib.hid hare
  have HH := Lib.hid hhi
  clear hare hhi
  go_enter Tryd.func12, Tryd.ntmps12
  go_wp2_with fail
  refine (HA.out).mono ?_
  rintro e w1 ⟨rfl, hb1⟩
  by_cases h1 : Eds xs
  · rw [tb_t h1]
    have H1 := Lib.hid h1
    clear h1
    by_cases h2 : 1 ≤ sheet ∧ sheet ≤ 999
    · go_wp2_with fail
      refine (isId_t sheet _ h2).mono ?_
      rintro e w9 ⟨rfl, rfl⟩
      by_cases h3 : 0 ≤ place ∧ place ≤ 999
      · go_wp2_with fail
        refine (isPlaceOf_t place _ h3).mono ?_
        rintro e w9 ⟨rfl, rfl⟩
        have HO : Hid (PhOk xs sheet place) := ⟨H1.out, h2, h3⟩
        go_wp2_with fail
        refine (HH.out _ (hA.ext hb1)).mono ?_
        rintro e w3 ⟨B, d, rfl, hF, hb3⟩
        go_wp2
        go_ret2
        rw [sel_t HO.out, tb_t HO.out]
        exact ⟨B, d, rfl, hF.mono (hb1).size (Nat.le_refl _), ext_trans hb1 hb3⟩
      · go_wp2_with fail
        refine (isPlaceOf_f place _ h3).mono ?_
        rintro e w9 ⟨rfl, rfl⟩
        go_wp2
        go_ret2
        have hok : ¬ (PhOk xs sheet place) := fun h => h3 h.2.2
        rw [sel_f hok, tb_f hok]
        exact ⟨none, 0, rfl, FlO.nil, hb1⟩
    · go_wp2_with fail
      refine (isId_f sheet _ h2).mono ?_
      rintro e w9 ⟨rfl, rfl⟩
      go_wp2
      go_ret2
      have hok : ¬ (PhOk xs sheet place) := fun h => h2 h.2.1
      rw [sel_f hok, tb_f hok]
      exact ⟨none, 0, rfl, FlO.nil, hb1⟩
  · rw [tb_f h1]
    have H1 := Lib.hid h1
    clear h1
    go_wp2
    go_ret2
    have hok : ¬ (PhOk xs sheet place) := fun h => H1.out h.1
    rw [sel_f hok, tb_f hok]
    exact ⟨none, 0, rfl, FlO.nil, hb1⟩

set_option maxHeartbeats 1000000 in
set_option maxRecDepth 100000 in
theorem specPlaceHistory_any (A : Option Addr) (c : Nat) (xs : List Nest) (sheet place : Int) (w : World) (hn : wt xs ≤ 1048576) (hcap : xs.length ≤ c) (hcm : c ≤ 9223372036854775807) (hA : Nl w A xs) :
    Calls Tryd.prog 36 #[.slice A xs.length c, .int .i64 sheet, .int .i64 place] w (RetL one 1 w (sel (PhOk xs sheet place) (hist place (ofS sheet xs))) (tb (PhOk xs sheet place))) := by
  obtain ⟨i0, hi, hz0, hz1, hz2⟩ := info_parts infoInt
  obtain ⟨W0, hW0, hB0, hzw, _, _⟩ := box_world w #[] 3
  have hown0 : OwnF one 1 w.heap.size 3 W0 (.slice (some ⟨w.heap.size, 0, none⟩) 0 0) [] := hW0 ▸ OwnF.empty (Nat.le_refl _)
  have hare := l18Good_any A c xs W0 hn hcap hcm (hA.ext hB0)
  have hn1 := Nat.le_trans (wt_len xs) hn
  have hin : ∀ y ∈ xs, y.l.length ≤ 1048576 := fun y hy => Nat.le_trans (wt_in hy) hn
  obtain ⟨n, hnn⟩ : ∃ n, n = List.length xs := ⟨_, rfl⟩
  rw [← hnn] at hare hcap hn1 ⊢
  have hN := Lib.hid hnn
  have HA := Lib.hid hare
  clear hare hnn
  go_enter Tryd.func36, Tryd.ntmps36
  go_wp2_with fail
  refine (HA.out).mono ?_
  rintro e w1 ⟨rfl, hb1⟩
  by_cases h1 : Eds xs
  · rw [tb_t h1]
    have H1 := Lib.hid h1
    clear h1
    by_cases h2 : 1 ≤ sheet ∧ sheet ≤ 999
    · go_wp2_with fail
      refine (l18Id_t sheet _ h2).mono ?_
      rintro e w9 ⟨rfl, rfl⟩
      by_cases h3 : 0 ≤ place ∧ place ≤ 999
      · go_wp2_with fail
        refine (l1In_t place 0 999 _ h3).mono ?_
        rintro e w9 ⟨rfl, rfl⟩
        have HO : Hid (PhOk xs sheet place) := ⟨H1.out, h2, h3⟩
        go_wp2
        go_loopw [8, 9] (fun v i wr => ∃ k : Nat, k ≤ n ∧ i = .int .i64 k ∧ Below w.heap.size w wr ∧ OwnF one 1 w.heap.size 3 wr v (hist place (ofS sheet (xs.take k)))) (fun _ i _ => n - (intOf i).toNat)
        case atStart => exact ⟨0, by omega, rfl, (ext_trans hB0 hb1), hown0.ext hb1⟩
        case round =>
          obtain ⟨k, hk, rfl, hbr, hown⟩ := hrel
          have hzr := hbr.size
          by_cases hlt : k < n
          · obtain ⟨x, b, o, A', d', hx, rfl, hb, hc, hfl⟩ := (hA.ext hbr).at_ (k := k) (by rw [← hN.out]; exact hlt)
            have hxl := hin x (List.mem_of_getElem? hx)
            have c0 : World.cell? wr ⟨b, o + k * 4, none⟩ = some (.int .i64 x.a) := hc.ca
            have c1 : World.cell? wr ⟨b, o + k * 4 + 1, none⟩ = some (.int .i64 x.b) := hc.cb
            have c2 : World.cell? wr ⟨b, o + k * 4 + 2, none⟩ = some (.int .i64 x.c) := hc.cc
            have c3 : World.cell? wr ⟨b, o + k * 4 + 3, none⟩ = some (.slice A' x.l.length d') := hc.cl
            have hlen : (hist place (ofS sheet (xs.take k))).length ≤ 1048576 := Nat.le_trans (hist_len _ _) (Nat.le_trans (ofS_len _ _) (by rw [List.length_take]; omega))
            have htk := take_get hx
            have HT := Lib.hid htk
            clear hc hA hx htk
            have hk0 : (0 : Int) ≤ (k : Int) := by omega
            have hk1 : (k : Int) < (n : Int) := by omega
            by_cases hs : x.a = sheet
            · have HS := Lib.hid hs
              by_cases hp : place ∈ x.l
              · go_wp2_with fail
                refine (l1Has_any A' d' x.l place wr (by omega) hfl).mono ?_
                rintro e w2 ⟨rfl, rfl⟩
                rw [tb_t hp]
                have HP := Lib.hid hp
                clear hp
                go_wp2_with (at_builtin; refine wpList_append_flat (f := one) (y := x.b) rfl _ _ _ rfl w.heap.size i0 _ 1 8 Tryd.underlying31 hi hz0 hz1 hz2 rfl (by decide) _ _ rfl rfl hown rfl ?_ (by decide) ?_ ?_; omega; exact hzr; intro v' w3 hown3 hg3 hb3)
                go_roundw
                case rel => exact ⟨k + 1, by omega, by go_num, hbr.trans hb3, by rw [HT.out, ofS_snoc_t HS.out, hist_t HP.out]; exact hown3⟩
                case measure => simp [intOf]; omega
              · go_wp2_with fail
                refine (l1Has_any A' d' x.l place wr (by omega) hfl).mono ?_
                rintro e w2 ⟨rfl, rfl⟩
                rw [tb_f hp]
                have HP := Lib.hid hp
                clear hp
                go_wp2
                go_roundw
                case rel => exact ⟨k + 1, by omega, by go_num, hbr, by rw [HT.out, ofS_snoc_t HS.out, hist_f HP.out]; exact hown⟩
                case measure => simp [intOf]; omega
            · have HS := Lib.hid hs
              go_wp2
              go_roundw
              case rel => exact ⟨k + 1, by omega, by go_num, hbr, by rw [HT.out, ofS_snoc_f HS.out]; exact hown⟩
              case measure => simp [intOf]; omega
          · have hkn : k = n := by omega
            subst hkn
            go_wp2
            go_ret2
            rw [take_all (by rw [← hN.out]; exact Nat.le_refl _)] at hown
            obtain ⟨B, d, hv, hF⟩ := hown.form one_length
            rw [sel_t HO.out, tb_t HO.out]
            exact ⟨B, d, by rw [hv]; rfl, hF, hbr⟩
      · go_wp2_with fail
        refine (l1In_f place 0 999 _ h3).mono ?_
        rintro e w9 ⟨rfl, rfl⟩
        go_wp2
        go_ret2
        have hok : ¬ (PhOk xs sheet place) := fun h => h3 h.2.2
        rw [sel_f hok, tb_f hok]
        exact ⟨some ⟨w.heap.size, 0, none⟩, 0, rfl, FlO.nil, (ext_trans hB0 hb1)⟩
    · go_wp2_with fail
      refine (l18Id_f sheet _ h2).mono ?_
      rintro e w9 ⟨rfl, rfl⟩
      go_wp2
      go_ret2
      have hok : ¬ (PhOk xs sheet place) := fun h => h2 h.2.1
      rw [sel_f hok, tb_f hok]
      exact ⟨some ⟨w.heap.size, 0, none⟩, 0, rfl, FlO.nil, (ext_trans hB0 hb1)⟩
  · rw [tb_f h1]
    have H1 := Lib.hid h1
    clear h1
    go_wp2
    go_ret2
    have hok : ¬ (PhOk xs sheet place) := fun h => H1.out h.1
    rw [sel_f hok, tb_f hok]
    exact ⟨some ⟨w.heap.size, 0, none⟩, 0, rfl, FlO.nil, (ext_trans hB0 hb1)⟩
end Go.Proofs.YtadcjfbcfiljkaaDoor
