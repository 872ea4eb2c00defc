/- An erratum taken out, and its slip out of all copies: the reference's side. -/
import Derived.Test.YtbnlbcbdhmmlgaaGreatDoorWdI
namespace Go.Proofs.YtbnlbcbdhmmlgaaGreatDoor
open Go.RowKit
set_option linter.unusedVariables false
set_option linter.unusedSimpArgs false

set_option maxHeartbeats 4000000 in
set_option maxRecDepth 100000 in
theorem specWithdraw_any (A : Option Addr) (c : Nat) (xs : List Erratum) (C : Option Addr) (cc : Nat) (hs : List Nest) (id : Int) (w : World) (hne : xs.length ≤ 1048576) (hA : Fl Erratum.ints 5 w A xs) (hn : wt hs ≤ 1048576) (hC : Nl w C hs) (hcap : xs.length ≤ c) (hcm : c ≤ 9223372036854775807) :
    Calls Tryz.prog 13 #[.slice A xs.length c, .slice C hs.length cc, .int .i64 id] w (RetWd w (sel (FoOk xs hs (atE xs id)) (dropAt xs (atE xs id))) (sel (FoOk xs hs (atE xs id)) (hs.map (delH id))) (tb (FoOk xs hs (atE xs id)))) := by
  obtain ⟨i0, hi, hz0, hz1, hz2⟩ := info_parts infoInt
  obtain ⟨i0e, hie, hz0e, hz1e, hz2e⟩ := info_parts infoErratum
  have hat := l19Find_any A c xs id w (by omega) hA
  have hare := fun W hX hY => l19Good_any A c xs C cc hs W hne hX hn hY
  have hcp := fun W hY => l19OwnI_any C cc hs W (Nat.le_trans hn (by decide)) hY
  have hin := fun x (hx : x ∈ hs) => Nat.le_trans (wt_in hx) hn
  have hn1 := Nat.le_trans (wt_len hs) hn
  have hp := atE_p xs id
  have hnl := fun (j : Nat) (e : Erratum) (h : xs[j]? = some e) => lt_of_get h
  rw [show idxB (fun x : Erratum => decide (x.id = id)) 0 xs = atE xs id from rfl] at hat
  generalize atE xs id = r at hat hp ⊢
  obtain ⟨m, hmm⟩ : ∃ m, m = List.length hs := ⟨_, rfl⟩
  obtain ⟨ne, hnn⟩ : ∃ n, n = List.length xs := ⟨_, rfl⟩
  rw [← hmm] at hn1 hare hcp ⊢
  rw [← hnn] at hne hare hat hnl hcap ⊢
  have hM := Lib.hid hmm
  have hN := Lib.hid hnn
  have HA := Lib.hid hare
  have HAT := Lib.hid hat
  have HP := Lib.hid hp
  have HCP := Lib.hid hcp
  have HNL := Lib.hid hnl
  clear hmm hnn hare hat hp hcp hnl
  go_enter Tryz.func13, Tryz.ntmps13
  go_wp2_with fail
  refine (HAT.out).mono ?_
  rintro e w0 ⟨rfl, hw0⟩
  subst hw0
  go_wp2_with fail
  refine (HA.out _ (hA.ext (Below.refl _ _)) (hC.ext (Below.refl _ _))).mono ?_
  rintro e w1 ⟨rfl, hb1⟩
  by_cases h1 : HeldOk xs hs
  · rw [tb_t h1]
    have H1 := Lib.hid h1
    clear h1
    by_cases h2 : 0 ≤ r
    · obtain ⟨j, y0, rfl, hj⟩ := HP.out h2
      have HJ := Lib.hid hj
      have hjn := HNL.out j y0 hj
      clear hj
      have HO : Hid (FoOk xs hs (j : Int)) := ⟨H1.out, h2⟩
      go_wp2_with fail
      refine (HCP.out _ (hC.ext (ext_trans (Below.refl _ _) hb1))).mono ?_
      rintro e w3 ⟨v3, ys, rfl, hown3, hys3, hia3, hb3⟩
      obtain ⟨A5, c5, hv3, _, _, hG3⟩ := hown3.full (fun _ => rfl) (by decide)
      rw [hys3, ← hM.out] at hv3
      rw [hys3] at hG3
      subst hv3
      have hbG : Below w.heap.size w w1 := (ext_trans (Below.refl _ _) hb1)
      have hN3 : NlO w1.heap.size w3.heap.size w3 A5 hs := hG3.n
      have hjr : ¬ (j : Int) < 0 := by omega
      clear hys3 hown3 hia3 hG3
      go_wp2
      go_loopw [10, 11] (fun v i wr => ∃ (k : Nat) (A5 : Option Addr) (c5 : Nat), k ≤ m ∧ i = .int .i64 k ∧ v = .slice A5 m c5 ∧ Below w1.heap.size w1 wr ∧ NlO w1.heap.size wr.heap.size wr A5 (updTo (delH id) hs k)) (fun _ i _ => m - (intOf i).toNat)
      case atStart => exact ⟨0, A5, c5, by omega, rfl, rfl, hb3, by rw [updTo_zero]; exact hN3⟩
      case round =>
        clear hN3 hjr
        obtain ⟨k, A6, c6, hk, rfl, rfl, hbr, hNr⟩ := hrel
        have hzr := hbr.size
        by_cases hlt : k < m
        · obtain ⟨x, b, o, A', d', hx, rfl, hb, hc, hfl⟩ := (hC.ext (ext_trans hbG hbr)).at_ (k := k) (by rw [← hM.out]; exact hlt)
          have c0 : World.cell? wr ⟨b, o + k * 4, none⟩ = some (.int .i64 x.a) := hc.ca
          have c1 : World.cell? wr ⟨b, o + k * 4 + 1, none⟩ = some (.int .i64 x.b) := hc.cb
          have c2 : World.cell? wr ⟨b, o + k * 4 + 2, none⟩ = some (.int .i64 x.c) := hc.cc
          have c3 : World.cell? wr ⟨b, o + k * 4 + 3, none⟩ = some (.slice A' x.l.length d') := hc.cl
          have hxl := hin x (List.mem_of_getElem? hx)
          obtain ⟨wo, hwo⟩ : ∃ x, x = wr := ⟨_, rfl⟩
          subst hwo
          obtain ⟨W0, hW0, hB0, hz0', _, _⟩ := box_world wo #[] 3
          have hown0 : OwnF one 1 wo.heap.size 3 W0 (.slice (some ⟨wo.heap.size, 0, none⟩) 0 0) [] := hW0 ▸ OwnF.empty (Nat.le_refl _)
          have HX := Lib.hid hx
          have HNR := Lib.hid hNr
          clear hc hx hNr
          have hk0 : (0 : Int) ≤ (k : Int) := by omega
          have hk1 : (k : Int) < (m : Int) := by omega
          go_wp2_with fail
          clear hW0
          go_loopw [12, 13] (fun v' i' wi => ∃ q : Nat, q ≤ x.l.length ∧ i' = .int .i64 q ∧ Below wo.heap.size wo wi ∧ OwnF one 1 wo.heap.size 3 wi v' (noV id (x.l.take q))) (fun _ i' _ => x.l.length - (intOf i').toNat)
          case atStart => exact ⟨0, by omega, rfl, hB0, hown0⟩
          case round =>
            clear hown0
            obtain ⟨q, hq, rfl, hbi, hownI⟩ := hrel
            have hzi := hbi.size
            have d3 := (hbi.cell (p := ⟨b, o + k * 4 + 3, none⟩) hb).trans c3
            by_cases hql : q < x.l.length
            · obtain ⟨p, b2, o2, hp, rfl, hb2, hc2⟩ := (hfl.ext hbi).at_ (k := q) hql
              have c9 : World.cell? wr ⟨b2, o2 + q, none⟩ = some (.int .i64 p) := by have := hc2 0 p rfl; simpa using this
              have HTQ := Lib.hid (take_get hp)
              have hlen : (noV id (x.l.take q)).length ≤ 1048576 := Nat.le_trans (noV_len _ _) (by rw [List.length_take]; omega)
              have hq0 : (0 : Int) ≤ (q : Int) := by omega
              have hq1 : (q : Int) < (x.l.length : Int) := by omega
              clear hc2 hp
              by_cases hv : p = id
              · have HV := Lib.hid hv
                have e1 : (p != id) = false := by simp [hv]
                have e2 : (p == id) = true := by simp [hv]
                clear hv
                go_wp2
                go_roundw
                case rel => exact ⟨q + 1, by omega, by go_num, hbi, by rw [HTQ.out, noV_t HV.out]; exact hownI⟩
                case measure => simp [intOf]; omega
              · have HV := Lib.hid hv
                have e1 : (p != id) = true := by simp [hv]
                have e2 : (p == id) = false := by simp [hv]
                clear hv
                go_wp2_with (at_builtin; refine wpList_append_flat (f := one) (y := p) rfl _ _ _ rfl wo.heap.size i0 _ 1 8 Tryz.underlying31 hi hz0 hz1 hz2 rfl (by decide) _ _ rfl rfl hownI rfl ?_ (by decide) ?_ ?_; omega; exact hzi; intro v9 w9 hown9 hg9 hb9)
                go_roundw
                case rel => exact ⟨q + 1, by omega, by go_num, hbi.trans hb9, by rw [HTQ.out, noV_f HV.out]; exact hown9⟩
                case measure => simp [intOf]; omega
            · have hqn : q = x.l.length := by omega
              rw [take_all (by omega : x.l.length ≤ q)] at hownI
              have hqn2 : ¬ (q : Int) < (x.l.length : Int) := by omega
              have hlen : (noV id x.l).length ≤ 1048576 := Nat.le_trans (noV_len _ _) hxl
              obtain ⟨B7, d7, hv7, hF7⟩ := hownI.form one_length
              subst hv7
              have hwt := l19With_any A6 c6 (updTo (delH id) hs k) k x (updTo_get HX.out) B7 d7 (noV id x.l) wr (Nat.le_trans (updTo_wt 0 k (fun y _ => delH_len id y)) (by omega)) (HNR.out.nl.ext hbi) (by omega) hF7.fl
              rw [updTo_len, ← hM.out] at hwt
              have hst : withS (updTo (delH id) hs k) k x (noV id x.l) = updTo (delH id) hs (k + 1) := updTo_step (f := delH id) HX.out
              rw [hst] at hwt
              have HWT := Lib.hid hwt
              clear hwt hst hqn hF7 hownI
              go_wp2_with fail
              refine (HWT.out).mono ?_
              rintro e w8 ⟨v8, zs, rfl, hown8, hzs8, hb8⟩
              obtain ⟨A8, c8, hv8, _, _, hG8⟩ := hown8.full (fun _ => rfl) (by decide)
              rw [hzs8, updTo_len, ← hM.out] at hv8
              rw [hzs8] at hG8
              subst hv8
              have HG8 := Lib.hid hG8
              clear hown8 hzs8 hG8
              go_wp2
              go_roundw
              case rel => exact ⟨k + 1, A8, c8, by omega, by go_num, rfl, ext_trans hbr (ext_trans hbi hb8), HG8.out.n.mono (by omega) (Nat.le_refl _)⟩
              case measure => simp [intOf]; omega
        · have hkn : k = m := by omega
          subst hkn
          rw [updTo_all (by rw [← hM.out]; exact Nat.le_refl _)] at hNr
          have hN6 := hNr.mono hbG.size (Nat.le_refl _)
          have hbw : Below w.heap.size w wr := ext_trans hbG hbr
          clear hNr
          have HT1 : Hid ((xs.take j).length = j) := by unfold Hid; rw [List.length_take]; have := hN.out; omega
          have HT2 : Hid ((xs.drop (j + 1)).length = ne - (j + 1)) := by unfold Hid; rw [List.length_drop]; have := hN.out; omega
          have hXA := hA.ext hbw
          obtain ⟨be, oe, hAe, hbe, _⟩ := _root_.id hXA (fun e' => by have h := HJ.out; rw [e'] at h; simp at h)
          subst hAe
          have hwr : IntKind.i64.wrap ((j : Int) + 1) = (j : Int) + 1 := IntWalk.i64_in _ (by omega)
          have hj0 : (0 : Int) ≤ (j : Int) := by omega
          have hj4 : ¬ (j : Int) < 0 := by omega
          have hj1 : (j : Int) ≤ (c : Int) := by omega
          have hj2 : (0 : Int) ≤ (j : Int) + 1 := by omega
          have hj3 : (j : Int) + 1 ≤ (ne : Int) := by omega
          have hj5 : (ne : Int) ≤ (c : Int) := by omega
          have hj6 : (j : Int) + 1 ≤ (c : Int) := by omega
          by_cases hcj : c = j + 1
          · have hnj : ne = j + 1 := by omega
            have hdn : xs.drop (j + 1) = [] := drop_all (by rw [← hN.out]; omega)
            subst hcj hnj
            have HT2 : Hid ((xs.drop (j + 1)).length = 0) := by unfold Hid; rw [hdn]; rfl
            have hj7 : (j : Int) ≤ (j : Int) + 1 := by omega
            go_wp2_with fail
            go_region_held3 (fun w' => Below (World.heap wr).size wr w' ∧ ∀ b o, b < (World.heap wr).size → w'.cell? ⟨b, o, none⟩ = World.cell? wr ⟨b, o, none⟩) (first | exact cls_of (ext_drew _) | exact cls_of (ext_trans (ext_alloc _ _) (ext_drew _)) | exact cls_of hx3 | exact cls_of hx5) ((first | (refine step_append_all (f := Erratum.ints) rfl (.tmp 71) (.tmp 74) 24 rfl (World.heap wr).size i0e _ 5 40 Tryz.underlying24 hie hz0e hz1e hz2e rfl (by decide) (.slice (some ⟨(World.heap wr).size, 0, none⟩) 0 0) [] rfl ?_ (some ⟨be, oe, none⟩) (j + 1) (xs.take j) (by rw [HT1.out]; rfl) ?_ (fun _ => rfl) ?_ (by decide) ?_ ?_; (exact (OwnF.empty (Nat.le_refl _)).ext (ext_drew _)); (exact (hXA.ext (ext_trans (ext_alloc _ _) (ext_drew _))).takeK j); (rw [HT1.out]; simp; omega); (simp; try omega); intro v3 w3 hown3 hg3 hb3; rw [List.nil_append] at hown3; have hx3 : Below (World.heap wr).size wr w3 := (ext_trans (ext_alloc wr _) (ext_drew _)).trans hb3; have hs3 := hx3.size) | (refine step_append_all (f := Erratum.ints) rfl (.tmp 75) (.tmp 79) 24 rfl (World.heap wr).size i0e _ 5 40 Tryz.underlying24 hie hz0e hz1e hz2e rfl (by decide) _ (xs.take j) rfl hown3 (some ⟨be, oe, none⟩) (0) (xs.drop (j + 1)) (by rw [HT2.out]; rfl) ?_ (fun _ => rfl) ?_ (by decide) hs3 ?_; (exact (by rw [hdn]; exact Fl.nil)); (rw [HT1.out, HT2.out]; omega); intro v5 w5 hown5 hg5 hb5; have hx5 : Below (World.heap wr).size wr w5 := hx3.trans hb5)))
            all_goals
              go_wp2
              go_ret3
              obtain ⟨B5, d5, hv5, hF5⟩ := hown5.form (fun _ => rfl)
              rw [sel_t HO.out, sel_t HO.out, tb_t HO.out, dropAt_j]
              refine ⟨B5, d5, A6, c6, (World.heap wr).size, ?_, (hbw).size, hx5.size, hF5, hN6.ext hx5, ext_trans hbw hx5⟩
              rw [hv5, List.length_map]
              first | rfl | (rw [← hM.out]; rfl) | (rw [hM.out]; rfl)
          · have hdK := hXA.dropK (j + 1)
            go_wp2_with fail
            go_region_held3 (fun w' => Below (World.heap wr).size wr w' ∧ ∀ b o, b < (World.heap wr).size → w'.cell? ⟨b, o, none⟩ = World.cell? wr ⟨b, o, none⟩) (first | exact cls_of (ext_drew _) | exact cls_of (ext_trans (ext_alloc _ _) (ext_drew _)) | exact cls_of hx3 | exact cls_of hx5) ((first | (refine step_append_all (f := Erratum.ints) rfl (.tmp 71) (.tmp 74) 24 rfl (World.heap wr).size i0e _ 5 40 Tryz.underlying24 hie hz0e hz1e hz2e rfl (by decide) (.slice (some ⟨(World.heap wr).size, 0, none⟩) 0 0) [] rfl ?_ (some ⟨be, oe, none⟩) c (xs.take j) (by rw [HT1.out]; rfl) ?_ (fun _ => rfl) ?_ (by decide) ?_ ?_; (exact (OwnF.empty (Nat.le_refl _)).ext (ext_drew _)); (exact (hXA.ext (ext_trans (ext_alloc _ _) (ext_drew _))).takeK j); (rw [HT1.out]; simp; omega); (simp; try omega); intro v3 w3 hown3 hg3 hb3; rw [List.nil_append] at hown3; have hx3 : Below (World.heap wr).size wr w3 := (ext_trans (ext_alloc wr _) (ext_drew _)).trans hb3; have hs3 := hx3.size) | (refine step_append_all (f := Erratum.ints) rfl (.tmp 75) (.tmp 79) 24 rfl (World.heap wr).size i0e _ 5 40 Tryz.underlying24 hie hz0e hz1e hz2e rfl (by decide) _ (xs.take j) rfl hown3 (some ⟨be, oe + (j + 1) * 5, none⟩) (c - (j + 1)) (xs.drop (j + 1)) (by rw [HT2.out]; rfl) ?_ (fun _ => rfl) ?_ (by decide) hs3 ?_; (exact (hdK.ext hx3)); (rw [HT1.out, HT2.out]; omega); intro v5 w5 hown5 hg5 hb5; have hx5 : Below (World.heap wr).size wr w5 := hx3.trans hb5)))
            all_goals
              go_wp2
              go_ret3
              obtain ⟨B5, d5, hv5, hF5⟩ := hown5.form (fun _ => rfl)
              rw [sel_t HO.out, sel_t HO.out, tb_t HO.out, dropAt_j]
              refine ⟨B5, d5, A6, c6, (World.heap wr).size, ?_, (hbw).size, hx5.size, hF5, hN6.ext hx5, ext_trans hbw hx5⟩
              rw [hv5, List.length_map]
              first | rfl | (rw [← hM.out]; rfl) | (rw [hM.out]; rfl)
    · have hrlt : r < 0 := by omega
      go_wp2
      go_ret3
      have hok : ¬ (FoOk xs hs r) := fun h => (fun (q : 0 ≤ r) => (by omega : False)) h.2
      rw [sel_f hok, sel_f hok, tb_f hok]
      exact ⟨some ⟨_, 0, none⟩, 0, some ⟨_, 0, none⟩, 0, w.heap.size, rfl, Nat.le_refl _, (ext_trans (ext_trans (ext_trans (Below.refl _ _) hb1) (ext_alloc _ _)) (ext_alloc _ _)).size, FlO.nil, NlO.nil, ext_trans (ext_trans (ext_trans (Below.refl _ _) hb1) (ext_alloc _ _)) (ext_alloc _ _)⟩
  · rw [tb_f h1]
    have H1 := Lib.hid h1
    clear h1
    go_wp2
    go_ret3
    have hok : ¬ (FoOk xs hs r) := fun h => H1.out h.1
    rw [sel_f hok, sel_f hok, tb_f hok]
    exact ⟨some ⟨_, 0, none⟩, 0, some ⟨_, 0, none⟩, 0, w.heap.size, rfl, Nat.le_refl _, (ext_trans (ext_trans (ext_trans (Below.refl _ _) hb1) (ext_alloc _ _)) (ext_alloc _ _)).size, FlO.nil, NlO.nil, ext_trans (ext_trans (ext_trans (Below.refl _ _) hb1) (ext_alloc _ _)) (ext_alloc _ _)⟩
end Go.Proofs.YtbnlbcbdhmmlgaaGreatDoor
