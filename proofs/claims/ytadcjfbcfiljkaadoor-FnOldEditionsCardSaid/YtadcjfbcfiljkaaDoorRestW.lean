/- RestlessPlace on both sides. -/
import Derived.Test.YtadcjfbcfiljkaaDoorRestless
namespace Go.Proofs.YtadcjfbcfiljkaaDoor
open Go.RowKit
set_option linter.unusedVariables false
set_option linter.unusedSimpArgs false

set_option maxHeartbeats 1000000 in
set_option maxRecDepth 100000 in
theorem restlessPlace_any (A : Option Addr) (c : Nat) (xs : List Nest) (sheet : Int) (w : World) (hn : wt xs ≤ 1048576) (hcap : xs.length ≤ c) (hcm : c ≤ 9223372036854775807) (hA : Nl w A xs) :
    Calls Tryd.prog 10 #[.slice A xs.length c, .int .i64 sheet] w (fun e w' => e = .returned (.tuple #[.int .i64 (seli (ReOk xs sheet) (restS xs sheet).1), .int .i64 (seli (ReOk xs sheet) (restS xs sheet).2), .bool (tb ((ReOk xs sheet) ∧ 0 < (restS xs sheet).2))]) ∧ Below w.heap.size w w') := by
  have hare := areEditions_any A c xs w hn hcap hcm hA
  have hhi := fun (p : Int) W hW => history_any A c xs sheet p W hn hW
  obtain ⟨R, hR⟩ : ∃ R, restS xs sheet = R := ⟨_, rfl⟩
  rw [hR]
  unfold restS at hR
  generalize ofS sheet xs = ys at hhi hR
  generalize xs.length = m at hare hhi hcap ⊢
  have HA := Lib.hid hare
  have HH := Lib.hid hhi
  have HR := Lib.hid hR
  clear hare hhi hR
  go_enter Tryd.func10, Tryd.ntmps10
  go_wp2_with fail
  refine (HA.out).mono ?_
  rintro e w1 ⟨rfl, hb1⟩
  by_cases h1 : Eds xs
  · rw [tb_t h1]
    have H1 := Lib.hid h1
    clear h1
    by_cases h2 : 1 ≤ sheet ∧ sheet ≤ 999
    · go_wp2_with fail
      refine (isId_t sheet _ h2).mono ?_
      rintro e w9 ⟨rfl, rfl⟩
      have HO : Hid (ReOk xs sheet) := ⟨H1.out, h2⟩
      go_wp2_with fail
      go_loopw [7, 8, 19] (fun b' m' i wr => ∃ (k : Nat), k ≤ 1000 ∧ i = .int .i64 k ∧ b' = .int .i64 (bestTo (cntP ys) k).1 ∧ m' = .int .i64 (bestTo (cntP ys) k).2 ∧ Below w.heap.size w wr) (fun _ _ i _ => 1000 - (intOf i).toNat)
      case atStart => exact ⟨0, by omega, rfl, rfl, rfl, hb1⟩
      case round =>
        obtain ⟨k, hk, rfl, rfl, rfl, hbr⟩ := hrel
        by_cases hlt : k < 1000
        · have hk1 : (k : Int) < 1000 := by omega
          have hst : bestTo (cntP ys) (k + 1) = if (bestTo (cntP ys) k).2 < cntP ys k then ((k : Int), cntP ys k) else bestTo (cntP ys) k := rfl
          generalize bestTo (cntP ys) k = s at hst ⊢
          have HST := Lib.hid hst
          clear hst
          go_wp2_with fail
          refine (HH.out k wr (hA.ext hbr)).mono ?_
          rintro e w3 ⟨B, d, rfl, hF, hb3⟩
          have hx3 := ext_trans hbr hb3
          clear hF
          obtain ⟨q, hq⟩ : ∃ q : Nat, q = (hist k ys).length := ⟨_, rfl⟩
          rw [← hq]
          have hcq : cntP ys k = (q : Int) := by unfold cntP; rw [hq]
          have HCQ := Lib.hid hcq
          clear hq hcq
          by_cases hc : s.2 < (q : Int)
          · go_wp2
            go_roundw
            case rel => exact ⟨k + 1, by omega, by go_num, by rw [HST.out, HCQ.out, if_pos (by omega)], by rw [HST.out, HCQ.out, if_pos (by omega)], hx3⟩
            case measure => simp [intOf]; omega
          · go_wp2
            go_roundw
            case rel => exact ⟨k + 1, by omega, by go_num, by rw [HST.out, HCQ.out, if_neg (by omega)], by rw [HST.out, HCQ.out, if_neg (by omega)], hx3⟩
            case measure => simp [intOf]; omega
        · have hkn : k = 1000 := by omega
          subst hkn
          have hs := HR.out
          rw [hs]
          go_wp2
          go_ret3
          exact ⟨ret_iib (seli_t HO.out).symm (seli_t HO.out).symm (tb_dec ⟨fun h => h.2, fun h => ⟨HO.out, h⟩⟩), hbr⟩
    · go_wp2_with fail
      refine (isId_f sheet _ h2).mono ?_
      rintro e w9 ⟨rfl, rfl⟩
      go_wp2
      go_ret3
      have hok : ¬ (ReOk xs sheet) := fun h => h2 h.2
      exact ⟨ret_iib (seli_f hok).symm (seli_f hok).symm (tb_f (fun h => hok h.1)).symm, hb1⟩
  · rw [tb_f h1]
    have H1 := Lib.hid h1
    clear h1
    go_wp2
    go_ret3
    have hok : ¬ (ReOk xs sheet) := fun h => H1.out h.1
    exact ⟨ret_iib (seli_f hok).symm (seli_f hok).symm (tb_f (fun h => hok h.1)).symm, hb1⟩

set_option maxHeartbeats 1000000 in
set_option maxRecDepth 100000 in
theorem specRestlessPlace_any (A : Option Addr) (c : Nat) (xs : List Nest) (sheet : Int) (w : World) (hn : wt xs ≤ 1048576) (hcap : xs.length ≤ c) (hcm : c ≤ 9223372036854775807) (hA : Nl w A xs) :
    Calls Tryd.prog 11 #[.slice A xs.length c, .int .i64 sheet] w (fun e w' => e = .returned (.tuple #[.int .i64 (seli (ReOk xs sheet) (restS xs sheet).1), .int .i64 (seli (ReOk xs sheet) (restS xs sheet).2), .bool (tb ((ReOk xs sheet) ∧ 0 < (restS xs sheet).2))]) ∧ Below w.heap.size w w') := by
  have hare := l18Good_any A c xs w hn hcap hcm hA
  have hph := fun (p : Int) W hW => specPlaceHistory_any A c xs sheet p W hn hcap hcm hW
  have hphk : ReOk xs sheet → ∀ p : Int, 0 ≤ p ∧ p ≤ 999 → PhOk xs sheet p := fun h p hp => ⟨h.1, h.2, hp⟩
  have hpls : Eds xs → ∀ y ∈ xs, ∀ p ∈ y.l, 0 ≤ p ∧ p ≤ 999 := fun h y hy => h.places hy
  have hin : ∀ y ∈ xs, y.l.length ≤ 1048576 := fun y hy => Nat.le_trans (wt_in hy) hn
  obtain ⟨R, hR⟩ : ∃ R, restS xs sheet = R := ⟨_, rfl⟩
  rw [hR]
  unfold restS at hR
  have hR2 : Eds xs → (plc (ofS sheet (xs.drop 0))).foldl (upd (cntP (ofS sheet xs))) (0, 0) = R := fun h => (rest_eq (ofS sheet xs) (fun y hy => h.places (ofS_mem hy))).trans hR
  generalize hist_ys : ofS sheet xs = ys at hph hR2
  clear hist_ys hR
  have hn1 := Nat.le_trans (wt_len xs) hn
  obtain ⟨n, hnn⟩ : ∃ n, n = List.length xs := ⟨_, rfl⟩
  rw [← hnn] at hare hph hcap hn1 ⊢
  have hN := Lib.hid hnn
  have HA := Lib.hid hare
  have HH := Lib.hid hph
  have HK := Lib.hid hphk
  have HL := Lib.hid hpls
  have HR := Lib.hid hR2
  clear hare hph hphk hpls hR2 hnn
  go_enter Tryd.func11, Tryd.ntmps11
  go_wp2_with fail
  refine (HA.out).mono ?_
  rintro e w1 ⟨rfl, hb1⟩
  by_cases h1 : Eds xs
  · rw [tb_t h1]
    have H1 := Lib.hid h1
    clear h1
    by_cases h2 : 1 ≤ sheet ∧ sheet ≤ 999
    · go_wp2_with fail
      refine (l18Id_t sheet _ h2).mono ?_
      rintro e w9 ⟨rfl, rfl⟩
      have HO : Hid (ReOk xs sheet) := ⟨H1.out, h2⟩
      go_wp2_with fail
      go_loopw [7, 8, 9] (fun b' m' i wr => ∃ (k : Nat) (s : Int × Int), k ≤ n ∧ i = .int .i64 k ∧ b' = .int .i64 s.1 ∧ m' = .int .i64 s.2 ∧ Below w.heap.size w wr ∧ Hid ((plc (ofS sheet (xs.drop k))).foldl (upd (cntP ys)) s = R)) (fun _ _ i _ => n - (intOf i).toNat)
      case atStart => exact ⟨0, (0, 0), by omega, rfl, rfl, rfl, hb1, HR.out H1.out⟩
      case round =>
        obtain ⟨k, s, hk, rfl, rfl, rfl, hbr, hst⟩ := hrel
        by_cases hlt : k < n
        · obtain ⟨x, b, o, A', d', hx, rfl, hb, hc, hfl⟩ := (hA.ext hbr).at_ (k := k) (by rw [← hN.out]; exact hlt)
          have hxl := hin x (List.mem_of_getElem? hx)
          have hxp := HL.out H1.out x (List.mem_of_getElem? hx)
          have hbrc := fun (wi : World) (h : Below wr.heap.size wr wi) => bcell h
          have HX := Lib.hid hx
          have hk0 : (0 : Int) ≤ (k : Int) := by omega
          have hk1 : (k : Int) < (n : Int) := by omega
          by_cases hs : x.a = sheet
          · have HS := Lib.hid hs
            have hst1 : Hid ((x.l.drop 0 ++ plc (ofS sheet (xs.drop (k + 1)))).foldl (upd (cntP ys)) s = R) := by
              unfold Hid
              have h := hst.out
              rw [drop_get HX.out, ofS_cons_t HS.out, plc_cons] at h
              exact h
            have HXP := Lib.hid hxp
            have c0 : World.cell? wr ⟨b, o + k * 4, none⟩ = some (.int .i64 x.a) := hc.ca
            have c1 : World.cell? wr ⟨b, o + k * 4 + 1, none⟩ = some (.int .i64 x.b) := hc.cb
            have c2 : World.cell? wr ⟨b, o + k * 4 + 2, none⟩ = some (.int .i64 x.c) := hc.cc
            have c3 : World.cell? wr ⟨b, o + k * 4 + 3, none⟩ = some (.slice A' x.l.length d') := hc.cl
            have HC := Lib.hid hc
            clear hxp hx hs hst hc hbrc
            obtain ⟨wo, hwo⟩ : ∃ x, x = wr := ⟨_, rfl⟩
            subst hwo
            go_wp2_with fail
            go_loopw [7, 8, 10] (fun b' m' i wi => ∃ (j : Nat) (s : Int × Int), j ≤ x.l.length ∧ i = .int .i64 j ∧ b' = .int .i64 s.1 ∧ m' = .int .i64 s.2 ∧ Below wo.heap.size wo wi ∧ Hid ((x.l.drop j ++ plc (ofS sheet (xs.drop (k + 1)))).foldl (upd (cntP ys)) s = R)) (fun _ _ i _ => x.l.length - (intOf i).toNat)
            case atStart => exact ⟨0, s, by omega, rfl, rfl, rfl, Below.refl _ _, hst1⟩
            case round =>
              clear hst1
              obtain ⟨j, s, hj, rfl, rfl, rfl, hbi, hst2⟩ := hrel
              have hci := bcell hbi
              have hbwi := Nat.lt_of_lt_of_le hb hbi.size
              have hcc : NAt wr b (o + k * 4) x A' d' := HC.out.cells fun j => hbi.cell (p := ⟨b, j, none⟩) hb
              have e0 : World.cell? wr ⟨b, o + k * 4, none⟩ = some (.int .i64 x.a) := hcc.ca
              have e1 : World.cell? wr ⟨b, o + k * 4 + 1, none⟩ = some (.int .i64 x.b) := hcc.cb
              have e2 : World.cell? wr ⟨b, o + k * 4 + 2, none⟩ = some (.int .i64 x.c) := hcc.cc
              have e3 : World.cell? wr ⟨b, o + k * 4 + 3, none⟩ = some (.slice A' x.l.length d') := hcc.cl
              have hAi := hA.ext (ext_trans hbr hbi)
              have hs := HS.out
              clear hcc hci
              by_cases hjl : j < x.l.length
              · obtain ⟨p, b2, o2, hp, rfl, hb2, hc2⟩ := (hfl.ext hbi).at_ (k := j) hjl
                have c9 : World.cell? wr ⟨b2, o2 + j, none⟩ = some (.int .i64 p) := by have := hc2 0 p rfl; simpa using this
                have hpp := HXP.out p (List.mem_of_getElem? hp)
                have hok := HK.out HO.out p hpp
                have HP := Lib.hid hp
                have hj0 : (0 : Int) ≤ (j : Int) := by omega
                have hj1 : (j : Int) < (x.l.length : Int) := by omega
                clear hc2 hp hA hfl
                go_wp2_with fail
                refine (HH.out p wr hAi).mono ?_
                rw [sel_t hok, tb_t hok]
                rintro e w3 ⟨B, d, rfl, hF, hb3⟩
                have hx3 := ext_trans hbi hb3
                clear hF
                obtain ⟨q, hq⟩ : ∃ q : Nat, q = (hist p ys).length := ⟨_, rfl⟩
                rw [← hq]
                have hcq : cntP ys p = (q : Int) := by unfold cntP; rw [hq]
                have HCQ := Lib.hid hcq
                clear hq hcq hok
                by_cases hc1 : s.2 < (q : Int)
                · go_wp2
                  go_roundw
                  case rel => exact ⟨j + 1, ((p : Int), (q : Int)), by omega, by go_num, rfl, rfl, hx3, by unfold Hid; rw [← hst2.out, drop_get HP.out, List.cons_append, List.foldl_cons]; congr 1; unfold upd; rw [HCQ.out, if_pos (by omega)]⟩
                  case measure => simp [intOf]; omega
                · by_cases hc2 : (q : Int) = s.2
                  · obtain ⟨s1, s2⟩ := s
                    simp only [] at hc1 hc2 hst2 ⊢
                    subst hc2
                    by_cases hc3 : p < s1
                    · go_wp2
                      go_roundw
                      case rel => exact ⟨j + 1, ((p : Int), (q : Int)), by omega, by go_num, rfl, rfl, hx3, by unfold Hid; rw [← hst2.out, drop_get HP.out, List.cons_append, List.foldl_cons]; congr 1; unfold upd; rw [HCQ.out, if_pos (.inr ⟨rfl, hc3⟩)]⟩
                      case measure => simp [intOf]; omega
                    · go_wp2
                      go_roundw
                      case rel => exact ⟨j + 1, (s1, (q : Int)), by omega, by go_num, rfl, rfl, hx3, by unfold Hid; rw [← hst2.out, drop_get HP.out, List.cons_append, List.foldl_cons]; congr 1; unfold upd; rw [HCQ.out, if_neg (fun h => by rcases h with h | h; exact absurd h (Int.lt_irrefl _); have h2 : p < s1 := h.2; omega)]⟩
                      case measure => simp [intOf]; omega
                  · have hc2' : ((q : Int) == s.2) = false := by simpa using hc2
                    go_wp2
                    go_roundw
                    case rel => exact ⟨j + 1, s, by omega, by go_num, rfl, rfl, hx3, by unfold Hid; rw [← hst2.out, drop_get HP.out, List.cons_append, List.foldl_cons]; congr 1; unfold upd; rw [HCQ.out, if_neg (by omega)]⟩
                    case measure => simp [intOf]; omega
              · have hjn : j = x.l.length := by omega
                have hnj : ¬ (j : Int) < (x.l.length : Int) := by omega
                go_wp2_with fail
                go_roundw
                case rel => exact ⟨k + 1, s, by omega, by go_num, rfl, rfl, ext_trans hbr hbi, by unfold Hid; rw [← hst2.out, List.drop_of_length_le (show x.l.length ≤ j by omega)]; rfl⟩
                case measure => simp [intOf]; omega
          · have HS := Lib.hid hs
            have hst1 : Hid ((plc (ofS sheet (xs.drop (k + 1)))).foldl (upd (cntP ys)) s = R) := by
              unfold Hid
              have h := hst.out
              rwa [drop_get HX.out, ofS_cons_f HS.out] at h
            have c0 : World.cell? wr ⟨b, o + k * 4, none⟩ = some (.int .i64 x.a) := hc.ca
            have c1 : World.cell? wr ⟨b, o + k * 4 + 1, none⟩ = some (.int .i64 x.b) := hc.cb
            have c2 : World.cell? wr ⟨b, o + k * 4 + 2, none⟩ = some (.int .i64 x.c) := hc.cc
            have c3 : World.cell? wr ⟨b, o + k * 4 + 3, none⟩ = some (.slice A' x.l.length d') := hc.cl
            clear hc hst hxp hx
            by_cases hl : 0 < (x.l.length : Int)
            · go_wp2_with fail
              refine wp_loop_rounds 1 ?_; rw [rounds_succ]
              go_wp2_with fail
              go_roundw
              case rel => exact ⟨k + 1, s, by omega, by go_num, rfl, rfl, hbr, hst1⟩
              case measure => simp [intOf]; omega
            · go_wp2_with fail
              refine wp_loop_rounds 1 ?_; rw [rounds_succ]
              go_wp2_with fail
              go_roundw
              case rel => exact ⟨k + 1, s, by omega, by go_num, rfl, rfl, hbr, hst1⟩
              case measure => simp [intOf]; omega
        · have hkn : k = n := by omega
          subst hkn
          go_wp2
          go_ret3
          have hs := hst.out
          rw [drop_all (by rw [← hN.out]; exact Nat.le_refl _)] at hs
          have hs2 : s = R := hs
          subst hs2
          exact ⟨ret_iib (seli_t HO.out).symm (seli_t HO.out).symm (tb_dec ⟨fun h => h.2, fun h => ⟨HO.out, h⟩⟩), hbr⟩
    · go_wp2_with fail
      refine (l18Id_f sheet _ h2).mono ?_
      rintro e w9 ⟨rfl, rfl⟩
      go_wp2
      go_ret3
      have hok : ¬ (ReOk xs sheet) := fun h => h2 h.2
      exact ⟨ret_iib (seli_f hok).symm (seli_f hok).symm (tb_f (fun h => hok h.1)).symm, hb1⟩
  · rw [tb_f h1]
    have H1 := Lib.hid h1
    clear h1
    go_wp2
    go_ret3
    have hok : ¬ (ReOk xs sheet) := fun h => H1.out h.1
    exact ⟨ret_iib (seli_f hok).symm (seli_f hok).symm (tb_f (fun h => hok h.1)).symm, hb1⟩
end Go.Proofs.YtadcjfbcfiljkaaDoor
