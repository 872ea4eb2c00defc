/- All slips that are missing put: the program's side. -/
import Derived.Test.YtdicopjoffdnnaaPutD
namespace Go.Proofs.Ytdicopjoffdnnaa
open Go.RowKit
set_option linter.unusedVariables false
set_option linter.unusedSimpArgs false

set_option maxHeartbeats 4000000 in
set_option maxRecDepth 100000 in
theorem putAll_any (A : Option Addr) (c : Nat) (xs : List Erratum) (C : Option Addr) (cc : Nat) (hs : List Nest) (day : Int) (w : World) (hne : xs.length ≤ 1048576) (hA : Fl Erratum.ints 5 w A xs) (hn : wt hs ≤ 1048576) (hC : Nl w C hs) :
    Calls Try.prog 6 #[.slice A xs.length c, .slice C hs.length cc, .int .i64 day] w (RetPa w (sel (PaOk xs hs day) (hs.map (addH xs day))) (seli (PaOk xs hs day) (cntTo xs day hs hs.length)) (tb (PaOk xs hs day))) := by
  obtain ⟨i0, hi, hz0, hz1, hz2⟩ := info_parts infoInt
  have hare := fun W hX hY => areHeld_any A c xs C cc hs W hne hX hn hY
  have hcp := fun W hY => copyHeldI_any C cc hs W (Nat.le_trans hn (by decide)) hY
  have hmi := fun x A' d W hl hX hY => missing_any A c xs x A' d day W hne hl hX hY
  have hin := fun x (hx : x ∈ hs) => Nat.le_trans (wt_in hx) hn
  have hn1 := Nat.le_trans (wt_len hs) hn
  have hb10 : HeldOk xs hs → xs.length ≤ 10 ∧ hs.length ≤ 10 := fun h => ⟨h.1.2, h.2.2⟩
  have hle := fun x => miss_len x day xs
  have hct := fun k => cntTo_le xs day hs k
  obtain ⟨m, hmm⟩ : ∃ m, m = List.length hs := ⟨_, rfl⟩
  obtain ⟨ne, hnn⟩ : ∃ n, n = List.length xs := ⟨_, rfl⟩
  rw [← hmm] at hn1 hare hcp hb10 ⊢
  rw [← hnn] at hne hare hmi hb10 hle hct ⊢
  have hM := Lib.hid hmm
  have hN := Lib.hid hnn
  have HA := Lib.hid hare
  have HCP := Lib.hid hcp
  have HMI := Lib.hid hmi
  have HB10 := Lib.hid hb10
  have HLE := Lib.hid hle
  have HCT := Lib.hid hct
  clear hmm hnn hare hcp hmi hb10 hle hct
  go_enter Try.func6, Try.ntmps6
  go_wp2_with fail
  refine (HA.out _ hA hC).mono ?_
  rintro e w1 ⟨rfl, hb1⟩
  by_cases h1 : HeldOk xs hs
  · rw [tb_t h1]
    have H1 := Lib.hid h1
    clear h1
    by_cases h2 : 0 ≤ day ∧ day ≤ 4000
    · go_wp2_with fail
      refine (isDay_t day _ h2).mono ?_
      rintro e w9 ⟨rfl, rfl⟩
      have HO : Hid (PaOk xs hs day) := ⟨H1.out, h2⟩
      obtain ⟨hl10, hm10⟩ := HB10.out H1.out
      go_wp2_with fail
      refine (HCP.out _ (hC.ext (ext_trans (Below.refl _ _) hb1))).mono ?_
      rintro e w3 ⟨v3, ys, rfl, hown3, hys3, hia3, hb3⟩
      have hyl3 : ys.length = m := by have h := congrArg List.length hys3; rwa [List.length_map, ← hM.out] at h
      obtain ⟨A5, c5, hv3, _, _⟩ := hown3.caps
      rw [hyl3] at hv3
      subst hv3
      have HYS := Lib.hid hys3
      have hbG : Below w.heap.size w w1 := (ext_trans (Below.refl _ _) hb1)
      clear hys3 hyl3
      go_wp2
      go_loopw [10, 27] (fun q i wr => ∃ (k : Nat) (zs : List (GV Nest)), k ≤ m ∧ i = .int .i64 k ∧ q = .int .i64 (cntTo xs day hs k) ∧ Below w1.heap.size w1 wr ∧ OwnG hdN Nest.l 3 w1.heap.size 35 3 wr (.slice A5 m c5) zs ∧ InjA zs ∧ Hid (zs.map GV.x = updTo (addH xs day) hs k)) (fun _ i _ => m - (intOf i).toNat)
      case atStart => exact ⟨0, ys, by omega, rfl, by simp [cntTo], hb3, hown3, hia3, by unfold Hid; rw [updTo_zero]; exact HYS.out⟩
      case round =>
        clear hown3 hia3
        obtain ⟨k, zs, hk, rfl, rfl, hbr, hown, hia, hzs⟩ := hrel
        have hzr := hbr.size
        have hzl : zs.length = m := by have h := congrArg List.length hzs.out; rwa [List.length_map, updTo_len, ← hM.out] at h
        have HZL := Lib.hid hzl
        clear hzl
        by_cases hlt : k < m
        · obtain ⟨x, b, o, A', d', hx, rfl, hb, hc, hfl⟩ := (hC.ext (ext_trans hbG hbr)).at_ (k := k) (by rw [← hM.out]; exact hlt)
          have e0 : World.cell? wr ⟨b, o + k * 4, none⟩ = some (.int .i64 x.a) := hc.ca
          have e1 : World.cell? wr ⟨b, o + k * 4 + 1, none⟩ = some (.int .i64 x.b) := hc.cb
          have e2 : World.cell? wr ⟨b, o + k * 4 + 2, none⟩ = some (.int .i64 x.c) := hc.cc
          have e3 : World.cell? wr ⟨b, o + k * 4 + 3, none⟩ = some (.slice A' x.l.length d') := hc.cl
          obtain ⟨y, hy, hyx⟩ := map_get (by rw [hzs.out]; exact updTo_get hx : (zs.map GV.x)[k]? = some x)
          subst hyx
          obtain ⟨g, cp, hv, hgl, hgw, hgf, hgc, _⟩ := hown.blockN (fun e => by rw [e] at hy; simp at hy)
          rw [HZL.out] at hv
          injection hv with e1 _ e3
          subst e1 e3
          have hcc := hgc k y hy
          have c3 : World.cell? wr ⟨g, k * 4 + 3, none⟩ = some (.slice y.A y.x.l.length y.d) := hcc.cl
          have hxl := hin y.x (List.mem_of_getElem? hx)
          have hct := HCT.out k
          have hst := cntTo_step (day := day) (xs := xs) hx
          have hml := HLE.out y.x
          have hsp := held_put H1.out day hx
          obtain ⟨W0, hW0, hB0, hz0', hg, _⟩ := box_world wr #[Value.int .i64 y.x.a, .int .i64 y.x.b, .int .i64 y.x.c, .slice A' y.x.l.length d'] 35
          have g0 : World.cell? W0 ⟨wr.heap.size, 0, none⟩ = some (.int .i64 y.x.a) := hg 0
          have g1 : World.cell? W0 ⟨wr.heap.size, 1, none⟩ = some (.int .i64 y.x.b) := hg 1
          have g2 : World.cell? W0 ⟨wr.heap.size, 2, none⟩ = some (.int .i64 y.x.c) := hg 2
          have g3 : World.cell? W0 ⟨wr.heap.size, 3, none⟩ = some (.slice A' y.x.l.length d') := hg 3
          have hAx := hA.ext (ext_trans (ext_trans hbG hbr) hB0)
          have hflx := hfl.ext hB0
          have HY := Lib.hid hy
          have HX := Lib.hid hx
          have HOW := Lib.hid hown
          have HSP := Lib.hid hsp
          have HST0 := Lib.hid hst
          have HGF := Lib.hid hgf
          clear hc hcc hgc hx hy hown hg hsp hst hgf
          have hk0 : (0 : Int) ≤ (k : Int) := by omega
          have hk1 : (k : Int) < (m : Int) := by omega
          go_wp2_with fail
          refine (HMI.out y.x A' d' W0 (by omega) hAx hflx).mono ?_
          rintro e w2 ⟨Bq, eq, rfl, hF, hb2⟩
          have hbx2 := ext_trans hB0 hb2
          have hown2 := HOW.out.ext hbx2
          have hin2 := hown2.inn k y HY.out
          have hnr := hown2.ne_row HY.out (by decide) y.x.l.length y.d
          have hlow := hin2.low y.x.l.length y.d
          have f3 : World.cell? w2 ⟨g, k * 4 + 3, none⟩ = some (.slice y.A y.x.l.length y.d) := (hbx2.cell (p := ⟨g, k * 4 + 3, none⟩) hgw).trans c3
          have ff : w2.frozen? ⟨g, k * 4 + 3, none⟩ = false := (hbx2.frozen (p := ⟨g, k * 4 + 3, none⟩) hgw).trans (HGF.out _)
          have hgw2 : g < w2.heap.size := Nat.lt_of_lt_of_le hgw hbx2.size
          have hzw2 : w1.heap.size ≤ w2.heap.size := Nat.le_trans hzr hbx2.size
          have hbw2 : Below w1.heap.size w1 w2 := ext_trans hbr hbx2
          obtain ⟨ids, hids⟩ : ∃ ids, ids = miss y.x day xs := ⟨_, rfl⟩
          rw [← hids] at hF hml ⊢
          obtain ⟨ni, hni⟩ : ∃ n, n = ids.length := ⟨_, rfl⟩
          rw [← hni] at hml ⊢
          have HID := Lib.hid hids
          have HNI := Lib.hid hni
          have HIN2 := Lib.hid hin2
          have HOW2 := Lib.hid hown2
          have HNR := Lib.hid hnr
          have HLO := Lib.hid hlow
          have hct2 : cntTo xs day hs k ≤ 100 := Nat.le_trans hct (Nat.le_trans (Nat.mul_le_mul (by omega : k ≤ 10) hl10) (by decide))
          clear hids hni hin2 hown2 hnr hlow g0 g1 g2 g3 hct e0 e1 e2 e3 c3
          go_wp2_with (at_builtin; refine wpList_append_all_at (f := one) rfl _ _ _ rfl w1.heap.size i0 _ 1 8 Try.underlying31 hi hz0 hz1 hz2 rfl (by decide) (.slice y.A y.x.l.length y.d) y.x.l rfl HIN2.out Bq eq ids (by rw [← HNI.out]; rfl) hF.fl (fun _ => rfl) ?_ (by decide) hzw2 ?_; (rw [← HNI.out]; omega); intro v5 w5 hown5 hg5 hb5 hat5; (obtain ⟨L, hL⟩ : ∃ L, L = y.x.l ++ ids := ⟨_, rfl⟩); rw [← hL] at hown5; (obtain ⟨B7, d7, hv7, _⟩ := hown5.form one_length); subst hv7; have HL := Lib.hid hL; clear hL; have hgk : w5.heap[g]? = w2.heap[g]? := hg5.block g hgw2 HNR.out; have r3 : World.cell? w5 ⟨g, k * 4 + 3, none⟩ = some (.slice y.A y.x.l.length y.d) := (World.cell?_of_block (w := w2) (a := ⟨g, k * 4 + 3, none⟩) hgk).trans f3; have rf : w5.frozen? ⟨g, k * 4 + 3, none⟩ = false := (World.frozen?_of_block (w := w2) (a := ⟨g, k * 4 + 3, none⟩) hgk).trans ff; (obtain ⟨W6, hW6⟩ : ∃ W6, w5.setCell ⟨g, k * 4 + 3, none⟩ (.slice B7 L.length d7) = W6 := ⟨_, rfl⟩); have hst6 := HOW2.out.setTail (W := w5) (l := L) (B := B7) (d := d7) (g := g) (c := c5) hia HY.out (by decide) (by rw [HZL.out]) hg5 hown5 (base_at hown5 HIN2.out hat5); rw [hW6] at hst6; have r6 : World.cell? W6 ⟨g, k * 4 + 3, none⟩ = some (.slice B7 L.length d7) := (hW6 ▸ World.cell?_setCell_same w5 _ _ r3); have HST := Lib.hid hst6; clear hst6 hgk f3 ff hown5)
          have hL2 : L.length ≤ 16777216 := by rw [HL.out, List.length_append, ← HNI.out]; omega
          have hbw5 : Below w1.heap.size w1 w5 := hbw2.grown hg5 hzw2 HLO.out
          have hbw6 : Below w1.heap.size w1 W6 := hbw5.grown HST.out.2.2 hbw5.size (fun q hq => by injection hq with hq; omega)
          have hy6 : (zs.set k (y.put L B7 d7))[k]? = some (y.put L B7 d7) := by rw [List.getElem?_set_self (lt_of_get HY.out)]
          have hso := sortOwn_any w1.heap.size (.slice B7 L.length d7) L W6 hL2 hbw6.size (HST.out.1.inn k _ hy6)
          have HSO := Lib.hid hso
          have HY6 := Lib.hid hy6
          have HLO6 := Lib.hid ((HST.out.1.inn k _ hy6).low L.length d7)
          clear hso hy6 hg5
          try clear hW6
          go_wp2_with fail
          refine (HSO.out).mono ?_
          rintro e w7 ⟨rfl, hown7, hg7, hb7⟩
          have hl7 : (L.mergeSort leI).length = L.length := List.length_mergeSort L
          have hown7' : OwnF one 1 w1.heap.size 3 w7 (.slice B7 (L.mergeSort leI).length d7) (L.mergeSort leI) := by rw [hl7]; exact hown7
          have ht7 := HST.out.1.turned HST.out.2.1 HY6.out (by decide) (n := L.length) (m := d7) hg7 hown7' hl7
          have HT7 := Lib.hid ht7
          clear hown7 hown7' ht7 hl7
          go_wp2
          go_roundw
          case rel =>
            refine ⟨k + 1, _, by omega, by go_num, ?_, hbw6.grown hg7 hbw6.size HLO6.out, HT7.out.1, HT7.out.2, ?_⟩
            · have h1 := HST0.out
              rw [← HID.out, ← HNI.out] at h1
              congr 1
              omega
            · unfold Hid
              rw [List.set_set, ← updTo_step HX.out, ← hzs.out, List.map_set]
              congr 1
              show ({ y.x with l := L.mergeSort leI } : Nest) = addH xs day y.x
              unfold addH
              rw [HL.out, HID.out, HSP.out]
          case measure => simp [intOf]; omega
        · have hkn : k = m := by omega
          subst hkn
          have hz := hzs.out
          rw [updTo_all (by rw [← hM.out]; exact Nat.le_refl _)] at hz
          obtain ⟨A6, c6, hv6, _, _, hG6⟩ := hown.full (fun _ => rfl) (by decide)
          rw [hz] at hv6 hG6
          injection hv6 with e1 _ e3
          subst e1 e3
          have hN6 : NlO w.heap.size wr.heap.size wr A5 (hs.map (addH xs day)) := hG6.n.mono hbG.size (Nat.le_refl _)
          have hbw : Below w.heap.size w wr := ext_trans hbG hbr
          clear hz hG6 hown hia
          go_wp2
          go_ret3
          rw [sel_t HO.out, seli_t HO.out, tb_t HO.out]
          exact ⟨A5, c5, by rw [List.length_map]; first | rfl | (rw [← hM.out]; rfl) | (rw [hM.out]; rfl), hN6, hbw⟩
    · go_wp2_with fail
      refine (isDay_f day _ h2).mono ?_
      rintro e w9 ⟨rfl, rfl⟩
      go_wp2
      go_ret3
      have hok : ¬ (PaOk xs hs day) := fun h => h2 h.2
      rw [sel_f hok, seli_f hok, tb_f hok]
      exact ⟨none, 0, rfl, NlO.nil, (ext_trans (Below.refl _ _) hb1)⟩
  · rw [tb_f h1]
    have H1 := Lib.hid h1
    clear h1
    go_wp2
    go_ret3
    have hok : ¬ (PaOk xs hs day) := fun h => H1.out h.1
    rw [sel_f hok, seli_f hok, tb_f hok]
    exact ⟨none, 0, rfl, NlO.nil, (ext_trans (Below.refl _ _) hb1)⟩
end Go.Proofs.Ytdicopjoffdnnaa
