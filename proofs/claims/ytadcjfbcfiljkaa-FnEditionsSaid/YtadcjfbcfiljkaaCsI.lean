/- The places that later editions changed: the program's side. -/
import Derived.Test.YtadcjfbcfiljkaaCsD
namespace Go.Proofs.Ytadcjfbcfiljkaa
open Go.RowKit
set_option linter.unusedVariables false
set_option linter.unusedSimpArgs false

set_option maxHeartbeats 1000000 in
set_option maxRecDepth 100000 in
theorem changedSince_any (A : Option Addr) (c : Nat) (xs : List Nest) (sheet number day : Int) (w : World) (hn : wt xs ≤ 1048576) (hcap : xs.length ≤ c) (hcm : c ≤ 9223372036854775807) (hA : Nl w A xs) :
    Calls Try.prog 11 #[.slice A xs.length c, .int .i64 sheet, .int .i64 number, .int .i64 day] w (RetL one 1 w (sel (CsOk xs sheet number day) (sinceL sheet number day xs)) (tb (CsOk xs sheet number day))) := by
  obtain ⟨i0, hi, hz0, hz1, hz2⟩ := info_parts infoInt
  have hare := fun W hW => areEditions_any A c xs W hn hcap hcm hW
  have hed := editionsOf_cap A c xs sheet w (le22 (Nat.le_trans (wt_len xs) hn)) hA
  have hyl := Nat.le_trans (ofS_len sheet xs) (Nat.le_trans (wt_len xs) hn)
  have hsum : lsum (ofS sheet xs) ≤ 1048576 := Nat.le_trans (lsum_filter _ xs) (by unfold wt at hn; omega)
  have hsi := fun (h : Eds xs) q => since_eq h sheet day q
  obtain ⟨ys, hys⟩ : ∃ ys, ys = ofS sheet xs := ⟨_, rfl⟩
  have hok0 : CsOk xs sheet number day ↔ (Eds xs ∧ (0 ≤ day ∧ day ≤ 4000) ∧ (1 ≤ number ∧ number ≤ (ys.length : Int))) := by rw [hys]; exact Iff.rfl
  rw [← hys] at hed hyl hsum hsi
  obtain ⟨n, hnn⟩ : ∃ n, n = List.length xs := ⟨_, rfl⟩
  rw [← hnn] at hare hed hcap ⊢
  obtain ⟨L, hL⟩ : ∃ L, L = List.length ys := ⟨_, rfl⟩
  rw [← hL] at hyl hok0
  have hN := Lib.hid hnn
  have HL := Lib.hid hL
  have HA := Lib.hid hare
  have HED := Lib.hid hed
  have HSI := Lib.hid hsi
  have HOK0 := Lib.hid hok0
  clear hare hed hnn hL hys hsi hok0
  go_enter Try.func11, Try.ntmps11
  go_wp2_with fail
  refine (HED.out).mono ?_
  rintro e w0 ⟨B, d, rfl, hY, ⟨hcp1, hcp2, hcpf⟩, hb00⟩
  rw [← HL.out] at hcp1 ⊢
  go_wp2_with fail
  refine (HA.out _ (hA.ext hb00)).mono ?_
  rintro e w1 ⟨rfl, hb1⟩
  by_cases h1 : Eds xs
  · rw [tb_t h1]
    have H1 := Lib.hid h1
    clear h1
    by_cases h2 : 0 ≤ day ∧ day ≤ 4000
    · go_wp2_with fail
      refine (isDay_t day _ h2).mono ?_
      rintro e w9 ⟨rfl, rfl⟩
      by_cases h3 : 1 ≤ number ∧ number ≤ (L : Int)
      · go_wp2_with fail
        refine (within_t number 1 L _ h3).mono ?_
        rintro e w9 ⟨rfl, rfl⟩
        have HO : Hid (Eds xs ∧ (0 ≤ day ∧ day ≤ 4000) ∧ (1 ≤ number ∧ number ≤ (L : Int))) := ⟨H1.out, h2, h3⟩
        obtain ⟨hq1, hq2⟩ := h3
        obtain ⟨q, rfl⟩ : ∃ q : Nat, number = (q : Int) := ⟨number.toNat, by omega⟩
        have hYw := hY.ext hb1
        have hb01 := ((ext_trans hb00 hb1)).size
        obtain ⟨bb, oo, hBo, hbb, _⟩ := _root_.id hYw (fun e' => by have h := HL.out; rw [e'] at h; simp at h; omega)
        have hq3 : (q : Int) ≤ (d : Int) := by omega
        have hq4 : (0 : Int) ≤ (q : Int) := by omega
        have hq5 : (L : Int) ≤ (d : Int) := by omega
        clear hcpf
        by_cases hdq : d = q
        · have hLq : L = q := by omega
          have hBo2 := hBo
          subst hBo
          have hLz : L - q = 0 := by omega
          have hdq' := hdq.symm
          subst hdq'
          have hLq' := hLq.symm
          subst hLq'
          go_wp2
          go_loopw [11, 36] (fun v i wr => ∃ k : Nat, k ≤ 0 ∧ i = .int .i64 k ∧ Below w1.heap.size w1 wr ∧ OwnF one 1 w1.heap.size 3 wr v (catC day ((ys.drop q).take k))) (fun _ i _ => 0 - (intOf i).toNat)
          case atStart => exact ⟨0, by omega, rfl, Below.refl _ _, OwnF.none_⟩
          case round =>
            obtain ⟨k, hk, rfl, hbr, hown⟩ := hrel
            have hzr := hbr.size
            have hcl := Nat.le_trans (catC_len day ((ys.drop q).take k)) (Nat.le_trans (by have := lsum_le (ys.drop q) k; exact this) (Nat.le_trans (lsum_drop ys q) hsum))
            by_cases hlt : k < 0
            · exfalso; omega
            · have hkn : k = 0 := by omega
              rw [take_all (by rw [List.length_drop, ← HL.out]; omega : (ys.drop q).length ≤ k)] at hown hcl
              obtain ⟨A1, c1, hv, _, _⟩ := hown.caps
              have hcat : catC day (ys.drop q) = (sinceF sheet (q : Int) day xs).flatMap Nest.l := HSI.out H1.out q
              generalize catC day (ys.drop q) = C at hown hcl hcat hv
              have HCAT := Lib.hid hcat
              clear hkn hcat
              subst hv
              have hk3 : ¬ (k : Int) < (0 : Int) := by omega
              skip
              go_wp2_with fail
              refine (sortOwn_any w1.heap.size _ C wr (by omega) hzr hown).mono ?_
              rintro e w4 ⟨rfl, hown4, _, hb4⟩
              have hl4 : (C.mergeSort leI).length = C.length := List.length_mergeSort C
              go_wp2_with fail
              refine (compactOwn_any w1.heap.size (.slice A1 C.length c1) (C.mergeSort leI) w4 (by rw [hl4]; omega) (hbr.trans hb4).size hown4).mono ?_
              rintro e w5 ⟨v5, rfl, hown5, hb5⟩
              have hcp := compact_put C
              rw [hcp, HCAT.out] at hown5
              obtain ⟨A5, c5, hv5, hF5⟩ := hown5.form one_length
              subst hv5
              have HF5 := Lib.hid hF5
              clear hown5 hF5 hown4 hl4 hcp
              go_wp2
              go_ret2
              have hok2 : CsOk xs sheet (q : Int) day := HOK0.out.2 HO.out
              rw [sel_t hok2, tb_t hok2]
              exact ⟨A5, c5, rfl, HF5.out.mono hb01 (Nat.le_refl _), ext_trans (ext_trans hb00 hb1) ((hbr.trans hb4).trans hb5)⟩
        · subst hBo
          go_wp2
          go_loopw [11, 36] (fun v i wr => ∃ k : Nat, k ≤ L - q ∧ i = .int .i64 k ∧ Below w1.heap.size w1 wr ∧ OwnF one 1 w1.heap.size 3 wr v (catC day ((ys.drop q).take k))) (fun _ i _ => (L - q) - (intOf i).toNat)
          case atStart => exact ⟨0, by omega, rfl, Below.refl _ _, OwnF.none_⟩
          case round =>
            obtain ⟨k, hk, rfl, hbr, hown⟩ := hrel
            have hzr := hbr.size
            have hcl := Nat.le_trans (catC_len day ((ys.drop q).take k)) (Nat.le_trans (by have := lsum_le (ys.drop q) k; exact this) (Nat.le_trans (lsum_drop ys q) hsum))
            by_cases hlt : k < L - q
            · obtain ⟨x, hx⟩ : ∃ x, ys[q + k]? = some x := ⟨_, List.getElem?_eq_getElem (by rw [← HL.out]; omega)⟩
              have hYr := hYw.ext hbr
              obtain ⟨A', d', hc, hfl⟩ := hYr.get hx
              have hcc : NAt wr bb (oo + q * 4 + k * 4) x A' d' := by rw [show oo + q * 4 + k * 4 = oo + (q + k) * 4 from by omega]; exact hc
              have c0 : World.cell? wr ⟨bb, oo + q * 4 + k * 4, none⟩ = some (.int .i64 x.a) := hcc.ca
              have c1 : World.cell? wr ⟨bb, oo + q * 4 + k * 4 + 1, none⟩ = some (.int .i64 x.b) := hcc.cb
              have c2 : World.cell? wr ⟨bb, oo + q * 4 + k * 4 + 2, none⟩ = some (.int .i64 x.c) := hcc.cc
              have c3 : World.cell? wr ⟨bb, oo + q * 4 + k * 4 + 3, none⟩ = some (.slice A' x.l.length d') := hcc.cl
              have hxl : x.l.length ≤ 1048576 := Nat.le_trans (wt_in' (List.mem_of_getElem? hx)) hsum
              have hx2 : (ys.drop q)[k]? = some x := by rw [List.getElem?_drop]; exact hx
              have HT := Lib.hid (take_get hx2)
              obtain ⟨W0, hW0, hB0, hz0', hg, _⟩ := box_world wr #[Value.int .i64 x.a, .int .i64 x.b, .int .i64 x.c, .slice A' x.l.length d'] 53
              have g2 : World.cell? W0 ⟨wr.heap.size, 2, none⟩ = some (.int .i64 x.c) := hg 2
              have g3 : World.cell? W0 ⟨wr.heap.size, 3, none⟩ = some (.slice A' x.l.length d') := hg 3
              have hbW := ext_trans hbr hB0
              have hownW := hown.ext hB0
              have hflW := hfl.ext hB0
              clear hc hcc hx hx2 hg hYr hown
              have hk0 : (0 : Int) ≤ (k : Int) := by omega
              have hk1 : (k : Int) < ((L - q : Nat) : Int) := by omega
              skip
              by_cases hd : x.c ≤ day
              · have HD := Lib.hid hd
                go_wp2_with (at_builtin; refine wpList_append_all (f := one) rfl _ _ _ rfl w1.heap.size i0 _ 1 8 Try.underlying25 hi hz0 hz1 hz2 rfl (by decide) _ (catC day ((ys.drop q).take k)) rfl hownW A' d' x.l rfl hflW (fun _ => rfl) ?_ (by decide) hbW.size ?_; omega; intro v6 w6 hown6 hg6 hb6)
                go_roundw
                case rel => exact ⟨k + 1, by omega, by go_num, hbW.trans hb6, by rw [HT.out, catC_t HD.out]; exact hown6⟩
                case measure => simp [intOf]; omega
              · have HD := Lib.hid hd
                go_wp2
                go_roundw
                case rel => exact ⟨k + 1, by omega, by go_num, hbW, by rw [HT.out, catC_f HD.out]; exact hownW⟩
                case measure => simp [intOf]; omega
            · have hkn : k = L - q := by omega
              rw [take_all (by rw [List.length_drop, ← HL.out]; omega : (ys.drop q).length ≤ k)] at hown hcl
              obtain ⟨A1, c1, hv, _, _⟩ := hown.caps
              have hcat : catC day (ys.drop q) = (sinceF sheet (q : Int) day xs).flatMap Nest.l := HSI.out H1.out q
              generalize catC day (ys.drop q) = C at hown hcl hcat hv
              have HCAT := Lib.hid hcat
              clear hkn hcat
              subst hv
              have hk3 : ¬ (k : Int) < ((L - q : Nat) : Int) := by omega
              skip
              go_wp2_with fail
              refine (sortOwn_any w1.heap.size _ C wr (by omega) hzr hown).mono ?_
              rintro e w4 ⟨rfl, hown4, _, hb4⟩
              have hl4 : (C.mergeSort leI).length = C.length := List.length_mergeSort C
              go_wp2_with fail
              refine (compactOwn_any w1.heap.size (.slice A1 C.length c1) (C.mergeSort leI) w4 (by rw [hl4]; omega) (hbr.trans hb4).size hown4).mono ?_
              rintro e w5 ⟨v5, rfl, hown5, hb5⟩
              have hcp := compact_put C
              rw [hcp, HCAT.out] at hown5
              obtain ⟨A5, c5, hv5, hF5⟩ := hown5.form one_length
              subst hv5
              have HF5 := Lib.hid hF5
              clear hown5 hF5 hown4 hl4 hcp
              go_wp2
              go_ret2
              have hok2 : CsOk xs sheet (q : Int) day := HOK0.out.2 HO.out
              rw [sel_t hok2, tb_t hok2]
              exact ⟨A5, c5, rfl, HF5.out.mono hb01 (Nat.le_refl _), ext_trans (ext_trans hb00 hb1) ((hbr.trans hb4).trans hb5)⟩
      · go_wp2_with fail
        refine (within_f number 1 L _ h3).mono ?_
        rintro e w9 ⟨rfl, rfl⟩
        go_wp2
        go_ret2
        have hok : ¬ (Eds xs ∧ (0 ≤ day ∧ day ≤ 4000) ∧ (1 ≤ number ∧ number ≤ (L : Int))) := fun h => h3 h.2.2
        have hok2 : ¬ (CsOk xs sheet number day) := fun h => hok (HOK0.out.1 h)
        rw [sel_f hok2, tb_f hok2]
        exact ⟨none, 0, rfl, FlO.nil, (ext_trans hb00 hb1)⟩
    · go_wp2_with fail
      refine (isDay_f day _ h2).mono ?_
      rintro e w9 ⟨rfl, rfl⟩
      go_wp2
      go_ret2
      have hok : ¬ (Eds xs ∧ (0 ≤ day ∧ day ≤ 4000) ∧ (1 ≤ number ∧ number ≤ (L : Int))) := fun h => h2 h.2.1
      have hok2 : ¬ (CsOk xs sheet number day) := fun h => hok (HOK0.out.1 h)
      rw [sel_f hok2, tb_f hok2]
      exact ⟨none, 0, rfl, FlO.nil, (ext_trans hb00 hb1)⟩
  · rw [tb_f h1]
    have H1 := Lib.hid h1
    clear h1
    go_wp2
    go_ret2
    have hok : ¬ (Eds xs ∧ (0 ≤ day ∧ day ≤ 4000) ∧ (1 ≤ number ∧ number ≤ (L : Int))) := fun h => H1.out h.1
    have hok2 : ¬ (CsOk xs sheet number day) := fun h => hok (HOK0.out.1 h)
    rw [sel_f hok2, tb_f hok2]
    exact ⟨none, 0, rfl, FlO.nil, (ext_trans hb00 hb1)⟩
end Go.Proofs.Ytadcjfbcfiljkaa
