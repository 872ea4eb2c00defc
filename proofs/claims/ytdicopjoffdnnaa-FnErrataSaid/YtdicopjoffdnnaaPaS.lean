/- All slips that are missing put: the reference's side. -/
import Derived.Test.YtdicopjoffdnnaaPutD
namespace Go.Proofs.Ytdicopjoffdnnaa
open Go.RowKit
set_option linter.unusedVariables false
set_option linter.unusedSimpArgs false

set_option maxHeartbeats 4000000 in
set_option maxRecDepth 100000 in
theorem specPutAll_any (A : Option Addr) (c : Nat) (xs : List Erratum) (C : Option Addr) (cc : Nat) (hs : List Nest) (day : Int) (w : World) (hne : xs.length ≤ 1048576) (hA : Fl Erratum.ints 5 w A xs) (hn : wt hs ≤ 1048576) (hC : Nl w C hs) :
    Calls Try.prog 7 #[.slice A xs.length c, .slice C hs.length cc, .int .i64 day] w (RetPa w (sel (PaOk xs hs day) (hs.map (addH xs day))) (seli (PaOk xs hs day) (cntTo xs day hs hs.length)) (tb (PaOk xs hs day))) := by
  obtain ⟨i0, hi, hz0, hz1, hz2⟩ := info_parts infoInt
  have hare := fun W hX hY => l19Good_any A c xs C cc hs W hne hX hn hY
  have hcp := fun W hY => l19OwnI_any C cc hs W (Nat.le_trans hn (by decide)) hY
  have hmi := fun x A' d W hl hX hY => l19Missing_any A c xs x A' d day W hne hl hX hY
  have hin := fun x (hx : x ∈ hs) => Nat.le_trans (wt_in hx) hn
  have hn1 := Nat.le_trans (wt_len hs) hn
  have hb10 : HeldOk xs hs → xs.length ≤ 10 ∧ hs.length ≤ 10 := fun h => ⟨h.1.2, h.2.2⟩
  have hle := fun x => miss_len x day xs
  have hct := fun k => cntTo_le xs day hs k
  obtain ⟨m, hmm⟩ : ∃ m, m = List.length hs := ⟨_, rfl⟩
  obtain ⟨ne, hnn⟩ : ∃ n, n = List.length xs := ⟨_, rfl⟩
  rw [← hmm] at hn1 hare hcp hb10 ⊢
  rw [← hnn] at hne hare hmi hb10 hle hct ⊢
  have hM := Lib.hid hmm
  have hN := Lib.hid hnn
  have HA := Lib.hid hare
  have HCP := Lib.hid hcp
  have HMI := Lib.hid hmi
  have HB10 := Lib.hid hb10
  have HLE := Lib.hid hle
  have HCT := Lib.hid hct
  clear hmm hnn hare hcp hmi hb10 hle hct
  go_enter Try.func7, Try.ntmps7
  go_wp2_with fail
  refine (HA.out _ hA hC).mono ?_
  rintro e w1 ⟨rfl, hb1⟩
  by_cases h1 : HeldOk xs hs
  · rw [tb_t h1]
    have H1 := Lib.hid h1
    clear h1
    by_cases h2 : 0 ≤ day ∧ day ≤ 4000
    · go_wp2_with fail
      refine (l2Day_t day _ h2).mono ?_
      rintro e w9 ⟨rfl, rfl⟩
      have HO : Hid (PaOk xs hs day) := ⟨H1.out, h2⟩
      obtain ⟨hl10, hm10⟩ := HB10.out H1.out
      go_wp2_with fail
      refine (HCP.out _ (hC.ext (ext_trans (Below.refl _ _) hb1))).mono ?_
      rintro e w3 ⟨v3, ys, rfl, hown3, hys3, hia3, hb3⟩
      obtain ⟨A5, c5, hv3, _, _, hG3⟩ := hown3.full (fun _ => rfl) (by decide)
      rw [hys3, ← hM.out] at hv3
      rw [hys3] at hG3
      subst hv3
      have hbG : Below w.heap.size w w1 := (ext_trans (Below.refl _ _) hb1)
      have hN3 : NlO w1.heap.size w3.heap.size w3 A5 hs := hG3.n
      have hpw := fun k => pa_wt xs hs day k (by rw [← hN.out]; exact hl10) (by rw [← hM.out]; exact hm10) hn
      have HPW := Lib.hid hpw
      clear hys3 hown3 hia3 hG3 hpw
      go_wp2
      go_loopw [9, 10, 11] (fun v q i wr => ∃ (k : Nat) (A5 : Option Addr) (c5 : Nat), k ≤ m ∧ i = .int .i64 k ∧ q = .int .i64 (cntTo xs day hs k) ∧ v = .slice A5 m c5 ∧ Below w1.heap.size w1 wr ∧ NlO w1.heap.size wr.heap.size wr A5 (updTo (addH xs day) hs k)) (fun _ _ i _ => m - (intOf i).toNat)
      case atStart => exact ⟨0, A5, c5, by omega, rfl, by simp [cntTo], rfl, hb3, by rw [updTo_zero]; exact hN3⟩
      case round =>
        clear hN3
        obtain ⟨k, A6, c6, hk, rfl, rfl, rfl, hbr, hNr⟩ := hrel
        have hzr := hbr.size
        by_cases hlt : k < m
        · obtain ⟨x, b, o, A', d', hx, rfl, hb, hc, hfl⟩ := (hC.ext (ext_trans hbG hbr)).at_ (k := k) (by rw [← hM.out]; exact hlt)
          have c0 : World.cell? wr ⟨b, o + k * 4, none⟩ = some (.int .i64 x.a) := hc.ca
          have c1 : World.cell? wr ⟨b, o + k * 4 + 1, none⟩ = some (.int .i64 x.b) := hc.cb
          have c2 : World.cell? wr ⟨b, o + k * 4 + 2, none⟩ = some (.int .i64 x.c) := hc.cc
          have c3 : World.cell? wr ⟨b, o + k * 4 + 3, none⟩ = some (.slice A' x.l.length d') := hc.cl
          have hxl := hin x (List.mem_of_getElem? hx)
          have hml := HLE.out x
          have hct := HCT.out k
          have hst := cntTo_step (day := day) (xs := xs) hx
          have hAx := hA.ext (ext_trans hbG hbr)
          have hct2 : cntTo xs day hs k ≤ 100 := Nat.le_trans hct (Nat.le_trans (Nat.mul_le_mul (by omega : k ≤ 10) hl10) (by decide))
          obtain ⟨wo, hwo⟩ : ∃ x, x = wr := ⟨_, rfl⟩
          subst hwo
          have HX := Lib.hid hx
          have HNR := Lib.hid hNr
          have HST0 := Lib.hid hst
          clear hc hx hNr hst hct
          have hk0 : (0 : Int) ≤ (k : Int) := by omega
          have hk1 : (k : Int) < (m : Int) := by omega
          go_wp2_with fail
          refine (HMI.out x A' d' wo (by omega) hAx hfl).mono ?_
          rintro e w2 ⟨Bq, eq, rfl, hF, hb2⟩
          have k3 := (hb2.cell (p := ⟨b, o + k * 4 + 3, none⟩) hb).trans c3
          obtain ⟨ids, hids⟩ : ∃ ids, ids = miss x day xs := ⟨_, rfl⟩
          rw [← hids] at hF hml ⊢
          obtain ⟨ni, hni⟩ : ∃ n, n = ids.length := ⟨_, rfl⟩
          rw [← hni] at hml ⊢
          have HID := Lib.hid hids
          have HNI := Lib.hid hni
          clear hids hni c0 c1 c2 c3
          go_wp2_with fail
          refine (l1Own_any A' d' x.l w2 (by omega) (hfl.ext hb2)).mono ?_
          rintro e w4 ⟨B4, d4, rfl, hown4, hb4⟩
          have hF4 := hF.fl.ext hb4
          clear k3
          go_wp2
          go_loopw [13, 14] (fun v' i' wi => ∃ q : Nat, q ≤ ni ∧ i' = .int .i64 q ∧ Below w2.heap.size w2 wi ∧ OwnF one 1 w2.heap.size 3 wi v' (putL x.l (ids.take q))) (fun _ i' _ => ni - (intOf i').toNat)
          case atStart => exact ⟨0, by omega, rfl, hb4, hown4⟩
          case round =>
            clear hown4
            obtain ⟨q, hq, rfl, hbi, hownI⟩ := hrel
            have hzi := hbi.size
            by_cases hql : q < ni
            · obtain ⟨p, b2, o2, hp, hA2, hb2', hc2⟩ := ((hF.fl).ext hbi).at_ (k := q) (by rw [← HNI.out]; exact hql)
              subst hA2
              have c9 : World.cell? wr ⟨b2, o2 + q, none⟩ = some (.int .i64 p) := by have := hc2 0 p rfl; simpa using this
              have HTQ := Lib.hid (take_get hp)
              have hlen : (putL x.l (ids.take q)).length ≤ 16777215 := Nat.le_trans (putL_len _ _) (by rw [List.length_take]; omega)
              have hq0 : (0 : Int) ≤ (q : Int) := by omega
              have hq1 : (q : Int) < (ni : Int) := by omega
              clear hc2 hp
              go_wp2_with fail
              refine (l1PutOwn_any w2.heap.size _ (putL x.l (ids.take q)) p wr hlen hzi hownI).mono ?_
              rintro e w9 ⟨v9, rfl, hown9, hb9⟩
              go_wp2
              go_roundw
              case rel => exact ⟨q + 1, by omega, by go_num, hbi.trans hb9, by rw [HTQ.out]; unfold putL; rw [List.foldl_append]; exact hown9⟩
              case measure => simp [intOf]; omega
            · have hqn : q = ni := by omega
              rw [take_all (by rw [← HNI.out]; omega : ids.length ≤ q)] at hownI
              have hqn2 : ¬ (q : Int) < (ni : Int) := by omega
              have hlen : (putL x.l ids).length ≤ 16777215 := Nat.le_trans (putL_len _ _) (by rw [← HNI.out]; omega)
              obtain ⟨B7, d7, hv7, hF7⟩ := hownI.form one_length
              subst hv7
              have hwt := l19With_any A6 c6 (updTo (addH xs day) hs k) k x (updTo_get HX.out) B7 d7 (putL x.l ids) wr (by have := HPW.out k; omega) (HNR.out.nl.ext (ext_trans hb2 hbi)) (by omega) hF7.fl
              rw [updTo_len, ← hM.out] at hwt
              have hst : withS (updTo (addH xs day) hs k) k x (putL x.l ids) = updTo (addH xs day) hs (k + 1) := by rw [HID.out]; exact updTo_step (f := addH xs day) HX.out
              rw [hst] at hwt
              have HWT := Lib.hid hwt
              clear hwt hst hqn hF7 hownI
              go_wp2_with fail
              refine (HWT.out).mono ?_
              rintro e w8 ⟨v8, zs, rfl, hown8, hzs8, hb8⟩
              obtain ⟨A8, c8, hv8, _, _, hG8⟩ := hown8.full (fun _ => rfl) (by decide)
              rw [hzs8, updTo_len, ← hM.out] at hv8
              rw [hzs8] at hG8
              subst hv8
              have HG8 := Lib.hid hG8
              clear hown8 hzs8 hG8
              go_wp2
              go_roundw
              case rel =>
                refine ⟨k + 1, A8, c8, by omega, by go_num, ?_, rfl, ext_trans hbr (ext_trans hb2 (ext_trans hbi hb8)), HG8.out.n.mono (by have := hb2.size; omega) (Nat.le_refl _)⟩
                have h1 := HST0.out
                rw [← HID.out, ← HNI.out] at h1
                congr 1
                omega
              case measure => simp [intOf]; omega
        · have hkn : k = m := by omega
          subst hkn
          rw [updTo_all (by rw [← hM.out]; exact Nat.le_refl _)] at hNr
          have hN6 := hNr.mono hbG.size (Nat.le_refl _)
          have hbw : Below w.heap.size w wr := ext_trans hbG hbr
          clear hNr
          go_wp2
          go_ret3
          rw [sel_t HO.out, seli_t HO.out, tb_t HO.out]
          exact ⟨A6, c6, by rw [List.length_map]; first | rfl | (rw [← hM.out]; rfl) | (rw [hM.out]; rfl), hN6, hbw⟩
    · go_wp2_with fail
      refine (l2Day_f day _ h2).mono ?_
      rintro e w9 ⟨rfl, rfl⟩
      go_wp2
      go_ret3
      have hok : ¬ (PaOk xs hs day) := fun h => h2 h.2
      rw [sel_f hok, seli_f hok, tb_f hok]
      exact ⟨some ⟨_, 0, none⟩, 0, rfl, NlO.nil, ext_trans (ext_trans (Below.refl _ _) hb1) (ext_alloc _ _)⟩
  · rw [tb_f h1]
    have H1 := Lib.hid h1
    clear h1
    go_wp2
    go_ret3
    have hok : ¬ (PaOk xs hs day) := fun h => H1.out h.1
    rw [sel_f hok, seli_f hok, tb_f hok]
    exact ⟨some ⟨_, 0, none⟩, 0, rfl, NlO.nil, ext_trans (ext_trans (Below.refl _ _) hb1) (ext_alloc _ _)⟩
end Go.Proofs.Ytdicopjoffdnnaa
