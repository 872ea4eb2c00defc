/- Which copies are valid: the program's AreHeld. -/
import Derived.Test.YtbnlbcbdhmmlgaaGreatDoorMgC
namespace Go.Proofs.YtbnlbcbdhmmlgaaGreatDoor
open Go.RowKit
set_option linter.unusedVariables false
set_option linter.unusedSimpArgs false

set_option maxHeartbeats 4000000 in
set_option maxRecDepth 100000 in
theorem areHeld_any (A : Option Addr) (c : Nat) (xs : List Erratum) (C : Option Addr) (cc : Nat) (hs : List Nest) (w : World) (hne : xs.length ≤ 1048576) (hA : Fl Erratum.ints 5 w A xs) (hn : wt hs ≤ 1048576) (hC : Nl w C hs) :
    Calls Tryz.prog 30 #[.slice A xs.length c, .slice C hs.length cc] w fun e w' => e = .returned (.bool (tb (HeldOk xs hs))) ∧ Below w.heap.size w w' := by
  have hin := fun x (hx : x ∈ hs) => Nat.le_trans (wt_in hx) hn
  have hn1 := Nat.le_trans (wt_len hs) hn
  have hare := fun W hW => areErrata_any A c xs W (by omega) hW
  have hea := fun (v : Int) W hW => erratumAt_any A c xs v W (by omega) hW
  obtain ⟨n, hnn⟩ : ∃ n, n = List.length hs := ⟨_, rfl⟩
  obtain ⟨ne, hnne⟩ : ∃ n, n = List.length xs := ⟨_, rfl⟩
  rw [← hnn] at hn1 ⊢
  rw [← hnne] at hne hare hea ⊢
  have hN := Lib.hid hnn
  have HNE := Lib.hid hnne
  have HAR := Lib.hid hare
  have HEA := Lib.hid hea
  clear hnn hnne hare hea
  by_cases h1 : Errs xs
  · have H1 := Lib.hid h1
    clear h1
    by_cases h10 : n ≤ 10
    · have h10' : ¬ (10 : Int) < (n : Int) := by omega
      go_enter Tryz.func30, Tryz.ntmps30
      go_wp2_with fail
      refine (HAR.out w hA).mono ?_
      rintro e w1 ⟨rfl, hb1⟩
      rw [tb_t H1.out]
      go_wp2
      go_loopw [20] (fun i wr => ∃ k : Nat, k ≤ n ∧ i = .int .i64 k ∧ Below w.heap.size w wr ∧ Hid (∀ j h, j < k → hs[j]? = some h → HI xs hs j h)) (fun i _ => n - (intOf i).toNat)
      case atStart => exact ⟨0, by omega, rfl, hb1, fun j h hj => by omega⟩
      case round =>
        obtain ⟨k, hk, rfl, hbr, hst⟩ := hrel
        obtain ⟨wo, hwo⟩ : ∃ x, x = wr := ⟨_, rfl⟩
        subst hwo
        by_cases hlt : k < n
        · skip
          obtain ⟨x, b, o, A', d, hx, rfl, hb, hc, hfl⟩ := (hC.ext hbr).at_ (k := k) (by rw [← hN.out]; exact hlt)
          have hxl : x.l.length ≤ 1152921504606846976 := by have := hin x (List.mem_of_getElem? hx); omega
          have c0 : World.cell? wo ⟨b, o + k * 4, none⟩ = some (.int .i64 x.a) := hc.ca
          have c1 : World.cell? wo ⟨b, o + k * 4 + 1, none⟩ = some (.int .i64 x.b) := hc.cb
          have c2 : World.cell? wo ⟨b, o + k * 4 + 2, none⟩ = some (.int .i64 x.c) := hc.cc
          have c3 : World.cell? wo ⟨b, o + k * 4 + 3, none⟩ = some (.slice A' x.l.length d) := hc.cl
          have HX := Lib.hid hx
          obtain ⟨W0, hW0, hB0, hz0', hg, _⟩ := box_world wo #[Value.int .i64 x.a, .int .i64 x.b, .int .i64 x.c, .slice A' x.l.length d] 41
          have g0 : World.cell? W0 ⟨wo.heap.size, 0, none⟩ = some (.int .i64 x.a) := hg 0
          have g1 : World.cell? W0 ⟨wo.heap.size, 1, none⟩ = some (.int .i64 x.b) := hg 1
          have g2 : World.cell? W0 ⟨wo.heap.size, 2, none⟩ = some (.int .i64 x.c) := hg 2
          have g3 : World.cell? W0 ⟨wo.heap.size, 3, none⟩ = some (.slice A' x.l.length d) := hg 3
          have hf0 := hfl.ext hB0
          have hcr0 := bcell hB0
          have hbW0 : b < W0.heap.size := Nat.lt_of_lt_of_le hb hB0.size
          have hbW := ext_trans hbr hB0
          have hpc := plus_cell W0
          clear hg hx hc hfl
          have hk0 : (0 : Int) ≤ (k : Int) := by omega
          have hk1 : (k : Int) < (n : Int) := by omega
          rcases Nat.eq_zero_or_pos k with h0 | hpos
          · have hd : decide ((0 : Int) < (k : Int)) = false := by simp; omega
            have hd2 : decide (0 < k) = false := by simp; omega
            have H0 := Lib.hid h0
            clear h0
            by_cases h1 : 1 ≤ x.a ∧ x.a ≤ 999
            · by_cases h2 : 1 ≤ x.b ∧ x.b ≤ 999
              · by_cases h3 : 1 ≤ x.c ∧ x.c ≤ 9
                · by_cases h4 : Rising x.l
                  · go_wp2_with fail
                    refine wp_region_grow (by kernel_rfl) (by kernel_rfl) ?_
                    repeat (go_big_quiet_step ((first | (go_at_call 64; exact quiet_same (isId_t x.a _ (by assumption))) | (go_at_call 64; exact quiet_same (isId_t x.b _ (by assumption))) | (go_at_call 65; exact quiet_same (within_t x.c 1 9 _ (by assumption))) | (go_at_call 66; exact quiet_below (isRising_t A' d x.l _ hxl (hf0.ext (plus_below _ _)) (by assumption))))))
                    refine wpQuiet_nil ?_
                    intro w1 hb1
                    have hxb := ext_trans hbW hb1
                    have q0 : World.cell? w1 ⟨wo.heap.size, 0, none⟩ = some (.int .i64 x.a) := (hb1.cell (p := ⟨wo.heap.size, 0, none⟩) hz0').trans g0
                    have q1 : World.cell? w1 ⟨wo.heap.size, 1, none⟩ = some (.int .i64 x.b) := (hb1.cell (p := ⟨wo.heap.size, 1, none⟩) hz0').trans g1
                    have q2 : World.cell? w1 ⟨wo.heap.size, 2, none⟩ = some (.int .i64 x.c) := (hb1.cell (p := ⟨wo.heap.size, 2, none⟩) hz0').trans g2
                    have q3 : World.cell? w1 ⟨wo.heap.size, 3, none⟩ = some (.slice A' x.l.length d) := (hb1.cell (p := ⟨wo.heap.size, 3, none⟩) hz0').trans g3
                    have hzb : wo.heap.size < w1.heap.size := Nat.lt_of_lt_of_le hz0' hb1.size
                    have hF1 := hf0.ext hb1
                    have hX1 := hA.ext hxb
                    have HH1 := Lib.hid h1
                    have HH2 := Lib.hid h2
                    have HH3 := Lib.hid h3
                    have HH4 := Lib.hid h4
                    have HH5 : Hid (∀ (m0 : Nat) (p : Nest), k = m0 + 1 → hs[m0]? = some p → p.a < x.a) := fun m p h => by have := H0.out; omega
                    clear g0 g1 g2 g3 hpc hcr0 hf0 hC hA 
                    go_wp2_with fail
                    go_loopw [65] (fun i wr => ∃ q : Nat, q ≤ x.l.length ∧ i = .int .i64 q ∧ Below w1.heap.size w1 wr ∧ Hid (∀ (m : Nat) (id : Int), m < q → x.l[m]? = some id → SlipOk xs x id)) (fun i _ => x.l.length - (intOf i).toNat)
                    case atStart => exact ⟨0, by omega, rfl, Below.refl _ _, fun m id h => by omega⟩
                    case round =>
                      obtain ⟨q, hq, rfl, hbi, hall⟩ := hrel
                      have hci := bcell hbi
                      have hzi := hbi.size
                      have hzc : wo.heap.size < wr.heap.size := Nat.lt_of_lt_of_le hzb hzi
                      have p0 : World.cell? wr ⟨wo.heap.size, 0, none⟩ = some (.int .i64 x.a) := (hbi.cell (p := ⟨wo.heap.size, 0, none⟩) hzb).trans q0
                      have p1 : World.cell? wr ⟨wo.heap.size, 1, none⟩ = some (.int .i64 x.b) := (hbi.cell (p := ⟨wo.heap.size, 1, none⟩) hzb).trans q1
                      have p2 : World.cell? wr ⟨wo.heap.size, 2, none⟩ = some (.int .i64 x.c) := (hbi.cell (p := ⟨wo.heap.size, 2, none⟩) hzb).trans q2
                      have p3 : World.cell? wr ⟨wo.heap.size, 3, none⟩ = some (.slice A' x.l.length d) := (hbi.cell (p := ⟨wo.heap.size, 3, none⟩) hzb).trans q3
                      clear hci q0 q1 q2 q3
                      by_cases hql : q < x.l.length
                      · obtain ⟨id, b2, o2, hid, rfl, hb2, hc2⟩ := (hF1.ext hbi).at_ (k := q) hql
                        have c9 : World.cell? wr ⟨b2, o2 + q, none⟩ = some (.int .i64 id) := by have := hc2 0 id rfl; simpa using this
                        have hX2 := hX1.ext hbi
                        have hea := HEA.out id wr hX2
                        have hip := idxB_p (fun e : Erratum => decide (e.id = id)) xs 0
                        have hsl : SlipOk xs x id ↔ ∃ (j : Nat) (e : Erratum), idxB (fun x => decide (x.id = id)) 0 xs = (j : Int) ∧ xs[j]? = some e ∧ Con e x := Iff.rfl
                        generalize idxB (fun e : Erratum => decide (e.id = id)) 0 xs = r at hea hip hsl
                        have HEI := Lib.hid hea
                        have HID := Lib.hid hid
                        have HSL := Lib.hid hsl
                        have hq0 : (0 : Int) ≤ (q : Int) := by omega
                        have hq1 : (q : Int) < (x.l.length : Int) := by omega
                        clear hea hid hsl hc2 hF1 hX1
                        go_wp2_with fail
                        refine (HEI.out).mono ?_
                        rintro e w5 ⟨rfl, hb5w⟩
                        have hb5 : Below wr.heap.size wr w5 := hb5w
                        clear hb5w
                        have hx5 := ext_trans hxb (ext_trans hbi hb5)
                        have hpc5 := plus_cell w5
                        have hc5 := bcell hb5
                        have hz5 : wo.heap.size < w5.heap.size := Nat.lt_of_lt_of_le hzc hb5.size
                        rcases hip with ⟨rfl, hno⟩ | ⟨j, e, hr, hj, _⟩
                        · have HNO := Lib.hid hno
                          clear hno
                          go_wp2_with fail
                          refine wp_region_grow (by kernel_rfl) (by kernel_rfl) ?_
                          repeat (go_big_quiet_step ((first | (fail))))
                          refine wpQuiet_nil ?_
                          intro w1 hb1
                          go_wp2
                          go_ret
                          exact ⟨ret_bool (tb_f (fun h => by
                            obtain ⟨j, e, h1, _⟩ := HSL.out.1 ((h.2.1 (k) x HX.out).2.2.2.2.2 q id HID.out)
                            omega)).symm, ext_trans hx5 hb1⟩
                        · obtain rfl : r = (j : Int) := by omega
                          have hX5 := hX2.ext hb5
                          obtain ⟨be, oe, hAe, hbe, _⟩ := _root_.id hX5 (fun e' => by rw [e'] at hj; simp at hj)
                          subst hAe
                          have hce := hX5.get hj
                          have e0 : World.cell? w5 ⟨be, oe + j * 5, none⟩ = some (.int .i64 e.id) := hce 0 _ rfl
                          have e1 : World.cell? w5 ⟨be, oe + j * 5 + 1, none⟩ = some (.int .i64 e.sheet) := hce 1 _ rfl
                          have e2 : World.cell? w5 ⟨be, oe + j * 5 + 2, none⟩ = some (.int .i64 e.frm) := hce 2 _ rfl
                          have e3 : World.cell? w5 ⟨be, oe + j * 5 + 3, none⟩ = some (.int .i64 e.til) := hce 3 _ rfl
                          have e4 : World.cell? w5 ⟨be, oe + j * 5 + 4, none⟩ = some (.int .i64 e.day) := hce 4 _ rfl
                          have hj0 : (0 : Int) ≤ (j : Int) := by omega
                          have hj1 : (j : Int) < (ne : Int) := by have := lt_of_get hj; rw [← HNE.out] at this; omega
                          have hjd : decide ((j : Int) < 0) = false := decide_eq_false (by omega)
                          have r0 : World.cell? w5 ⟨wo.heap.size, 0, none⟩ = some (.int .i64 x.a) := (hb5.cell (p := ⟨wo.heap.size, 0, none⟩) hzc).trans p0
                          have r1 : World.cell? w5 ⟨wo.heap.size, 1, none⟩ = some (.int .i64 x.b) := (hb5.cell (p := ⟨wo.heap.size, 1, none⟩) hzc).trans p1
                          have r2 : World.cell? w5 ⟨wo.heap.size, 2, none⟩ = some (.int .i64 x.c) := (hb5.cell (p := ⟨wo.heap.size, 2, none⟩) hzc).trans p2
                          have r3 : World.cell? w5 ⟨wo.heap.size, 3, none⟩ = some (.slice (some ⟨b2, o2, none⟩) x.l.length d) := (hb5.cell (p := ⟨wo.heap.size, 3, none⟩) hzc).trans p3
                          clear hc5
                          have HJ := Lib.hid hj
                          clear hce hj hX5 hX2 hr
                          by_cases hcon : Con e x
                          · have HSI : Hid (SlipOk xs x id) := HSL.out.2 ⟨j, e, rfl, HJ.out, hcon⟩
                            go_wp2_with fail
                            refine wp_region_grow (by kernel_rfl) (by kernel_rfl) ?_
                            repeat (go_big_quiet_step ((first | (go_at_call 31; exact quiet_below (concerns_t e x _ d _ hcon)))))
                            refine wpQuiet_nil ?_
                            intro w1 hb1
                            go_wp2
                            go_roundw
                            case rel => exact ⟨q + 1, by omega, by go_num, ext_trans hbi (ext_trans hb5 hb1), fun m id' hm hid' => by
                              by_cases e' : m = q
                              · subst e'; rw [HID.out] at hid'; cases hid'; exact HSI.out
                              · exact hall.out m id' (by omega) hid'⟩
                            case measure => simp [intOf]; omega
                          · go_wp2_with fail
                            refine wp_region_grow (by kernel_rfl) (by kernel_rfl) ?_
                            repeat (go_big_quiet_step ((first | (go_at_call 31; exact quiet_below (concerns_f e x _ d _ hcon)))))
                            refine wpQuiet_nil ?_
                            intro w1 hb1
                            go_wp2
                            go_ret
                            exact ⟨ret_bool (tb_f (fun h => by
                              obtain ⟨j', e', h1, h2, h3⟩ := HSL.out.1 ((h.2.1 (k) x HX.out).2.2.2.2.2 q id HID.out)
                              have : j = j' := by omega
                              subst this
                              rw [HJ.out] at h2
                              cases h2
                              exact hcon h3)).symm, ext_trans hx5 hb1⟩
                      · have hql2 : ¬ (q : Int) < (x.l.length : Int) := by omega
                        have HIK : Hid (HI xs hs (k) x) := ⟨HH1.out, HH2.out, HH3.out, HH4.out, HH5.out, fun m id hm => hall.out m id (by have := lt_of_get hm; omega) hm⟩
                        go_wp2_with fail
                        go_roundw
                        case rel => exact ⟨k + 1, by omega,  by go_num, ext_trans hxb hbi, fun j h hj hjh => by
                          by_cases e : j = k
                          · subst e; rw [HX.out] at hjh; cases hjh; exact HIK.out
                          · exact hst.out j h (by omega) hjh⟩
                        case measure => simp [intOf]; omega
                  · go_wp2_with fail
                    refine wp_region_grow (by kernel_rfl) (by kernel_rfl) ?_
                    repeat (go_big_quiet_step ((first | (go_at_call 64; exact quiet_same (isId_t x.a _ (by assumption))) | (go_at_call 64; exact quiet_same (isId_t x.b _ (by assumption))) | (go_at_call 65; exact quiet_same (within_t x.c 1 9 _ (by assumption))) | (go_at_call 66; exact quiet_below (isRising_f A' d x.l _ hxl (hf0.ext (plus_below _ _)) (by assumption))))))
                    refine wpQuiet_nil ?_
                    intro w1 hb1
                    go_wp2
                    go_ret
                    exact ⟨ret_bool (tb_f (fun h => h4 (h.2.1 (k) x HX.out).2.2.2.1)).symm, ext_trans hbW hb1⟩
                · go_wp2_with fail
                  refine wp_region_grow (by kernel_rfl) (by kernel_rfl) ?_
                  repeat (go_big_quiet_step ((first | (go_at_call 64; exact quiet_same (isId_t x.a _ (by assumption))) | (go_at_call 64; exact quiet_same (isId_t x.b _ (by assumption))) | (go_at_call 65; exact quiet_same (within_f x.c 1 9 _ (by assumption))))))
                  refine wpQuiet_nil ?_
                  intro w1 hb1
                  go_wp2
                  go_ret
                  exact ⟨ret_bool (tb_f (fun h => h3 (h.2.1 (k) x HX.out).2.2.1)).symm, ext_trans hbW hb1⟩
              · go_wp2_with fail
                refine wp_region_grow (by kernel_rfl) (by kernel_rfl) ?_
                repeat (go_big_quiet_step ((first | (go_at_call 64; exact quiet_same (isId_t x.a _ (by assumption))) | (go_at_call 64; exact quiet_same (isId_f x.b _ (by assumption))))))
                refine wpQuiet_nil ?_
                intro w1 hb1
                go_wp2
                go_ret
                exact ⟨ret_bool (tb_f (fun h => h2 (h.2.1 (k) x HX.out).2.1)).symm, ext_trans hbW hb1⟩
            · go_wp2_with fail
              refine wp_region_grow (by kernel_rfl) (by kernel_rfl) ?_
              repeat (go_big_quiet_step ((first | (go_at_call 64; exact quiet_same (isId_f x.a _ (by assumption))))))
              refine wpQuiet_nil ?_
              intro w1 hb1
              go_wp2
              go_ret
              exact ⟨ret_bool (tb_f (fun h => h1 (h.2.1 (k) x HX.out).1)).symm, ext_trans hbW hb1⟩
          · obtain ⟨m, hkm⟩ : ∃ m, k = m + 1 := ⟨k - 1, by omega⟩
            have hkm1 : (k : Int) - 1 = (m : Int) := by omega
            have hkm2 : IntKind.i64.wrap ((k : Int) - 1) = (m : Int) := by rw [hkm1]; exact IntWalk.i64_in _ (by omega)
            have hkm3 : (0 : Int) < (k : Int) := by omega
            obtain ⟨y, hy⟩ : ∃ y, hs[m]? = some y := ⟨_, List.getElem?_eq_getElem (by rw [← hN.out]; omega)⟩
            obtain ⟨A2, d2, hdy, _⟩ := (hC.ext hbr).get hy
            have d0 : World.cell? wo ⟨b, o + m * 4, none⟩ = some (.int .i64 y.a) := hdy.ca
            have HY := Lib.hid hy
            clear hy hdy
            have hm0 : (0 : Int) ≤ (m : Int) := by omega
            have hm1 : (m : Int) < (n : Int) := by omega
            have HKM := Lib.hid hkm
            clear hkm
            by_cases h1 : 1 ≤ x.a ∧ x.a ≤ 999
            · by_cases h2 : 1 ≤ x.b ∧ x.b ≤ 999
              · by_cases h3 : 1 ≤ x.c ∧ x.c ≤ 9
                · by_cases h4 : Rising x.l
                  · by_cases hyc : y.a < x.a
                    · have hord : ∀ m' p, k = m' + 1 → hs[m']? = some p → p.a < x.a := fun m' p h hp => by
                        obtain rfl : m = m' := by have := HKM.out; omega
                        rw [HY.out] at hp
                        cases hp
                        exact hyc
                      have HOR := Lib.hid hord
                      clear hord
                      go_wp2_with fail
                      refine wp_region_grow (by kernel_rfl) (by kernel_rfl) ?_
                      repeat (go_big_quiet_step ((first | (go_at_call 64; exact quiet_same (isId_t x.a _ (by assumption))) | (go_at_call 64; exact quiet_same (isId_t x.b _ (by assumption))) | (go_at_call 65; exact quiet_same (within_t x.c 1 9 _ (by assumption))) | (go_at_call 66; exact quiet_below (isRising_t A' d x.l _ hxl (hf0.ext (plus_below _ _)) (by assumption))))))
                      refine wpQuiet_nil ?_
                      intro w1 hb1
                      have hxb := ext_trans hbW hb1
                      have q0 : World.cell? w1 ⟨wo.heap.size, 0, none⟩ = some (.int .i64 x.a) := (hb1.cell (p := ⟨wo.heap.size, 0, none⟩) hz0').trans g0
                      have q1 : World.cell? w1 ⟨wo.heap.size, 1, none⟩ = some (.int .i64 x.b) := (hb1.cell (p := ⟨wo.heap.size, 1, none⟩) hz0').trans g1
                      have q2 : World.cell? w1 ⟨wo.heap.size, 2, none⟩ = some (.int .i64 x.c) := (hb1.cell (p := ⟨wo.heap.size, 2, none⟩) hz0').trans g2
                      have q3 : World.cell? w1 ⟨wo.heap.size, 3, none⟩ = some (.slice A' x.l.length d) := (hb1.cell (p := ⟨wo.heap.size, 3, none⟩) hz0').trans g3
                      have hzb : wo.heap.size < w1.heap.size := Nat.lt_of_lt_of_le hz0' hb1.size
                      have hF1 := hf0.ext hb1
                      have hX1 := hA.ext hxb
                      have HH1 := Lib.hid h1
                      have HH2 := Lib.hid h2
                      have HH3 := Lib.hid h3
                      have HH4 := Lib.hid h4
                      have HH5 : Hid (∀ (m0 : Nat) (p : Nest), k = m0 + 1 → hs[m0]? = some p → p.a < x.a) := HOR.out
                      clear g0 g1 g2 g3 hpc hcr0 hf0 hC hA d0
                      go_wp2_with fail
                      go_loopw [65] (fun i wr => ∃ q : Nat, q ≤ x.l.length ∧ i = .int .i64 q ∧ Below w1.heap.size w1 wr ∧ Hid (∀ (m : Nat) (id : Int), m < q → x.l[m]? = some id → SlipOk xs x id)) (fun i _ => x.l.length - (intOf i).toNat)
                      case atStart => exact ⟨0, by omega, rfl, Below.refl _ _, fun m id h => by omega⟩
                      case round =>
                        obtain ⟨q, hq, rfl, hbi, hall⟩ := hrel
                        have hci := bcell hbi
                        have hzi := hbi.size
                        have hzc : wo.heap.size < wr.heap.size := Nat.lt_of_lt_of_le hzb hzi
                        have p0 : World.cell? wr ⟨wo.heap.size, 0, none⟩ = some (.int .i64 x.a) := (hbi.cell (p := ⟨wo.heap.size, 0, none⟩) hzb).trans q0
                        have p1 : World.cell? wr ⟨wo.heap.size, 1, none⟩ = some (.int .i64 x.b) := (hbi.cell (p := ⟨wo.heap.size, 1, none⟩) hzb).trans q1
                        have p2 : World.cell? wr ⟨wo.heap.size, 2, none⟩ = some (.int .i64 x.c) := (hbi.cell (p := ⟨wo.heap.size, 2, none⟩) hzb).trans q2
                        have p3 : World.cell? wr ⟨wo.heap.size, 3, none⟩ = some (.slice A' x.l.length d) := (hbi.cell (p := ⟨wo.heap.size, 3, none⟩) hzb).trans q3
                        clear hci q0 q1 q2 q3
                        by_cases hql : q < x.l.length
                        · obtain ⟨id, b2, o2, hid, rfl, hb2, hc2⟩ := (hF1.ext hbi).at_ (k := q) hql
                          have c9 : World.cell? wr ⟨b2, o2 + q, none⟩ = some (.int .i64 id) := by have := hc2 0 id rfl; simpa using this
                          have hX2 := hX1.ext hbi
                          have hea := HEA.out id wr hX2
                          have hip := idxB_p (fun e : Erratum => decide (e.id = id)) xs 0
                          have hsl : SlipOk xs x id ↔ ∃ (j : Nat) (e : Erratum), idxB (fun x => decide (x.id = id)) 0 xs = (j : Int) ∧ xs[j]? = some e ∧ Con e x := Iff.rfl
                          generalize idxB (fun e : Erratum => decide (e.id = id)) 0 xs = r at hea hip hsl
                          have HEI := Lib.hid hea
                          have HID := Lib.hid hid
                          have HSL := Lib.hid hsl
                          have hq0 : (0 : Int) ≤ (q : Int) := by omega
                          have hq1 : (q : Int) < (x.l.length : Int) := by omega
                          clear hea hid hsl hc2 hF1 hX1
                          go_wp2_with fail
                          refine (HEI.out).mono ?_
                          rintro e w5 ⟨rfl, hb5w⟩
                          have hb5 : Below wr.heap.size wr w5 := hb5w
                          clear hb5w
                          have hx5 := ext_trans hxb (ext_trans hbi hb5)
                          have hpc5 := plus_cell w5
                          have hc5 := bcell hb5
                          have hz5 : wo.heap.size < w5.heap.size := Nat.lt_of_lt_of_le hzc hb5.size
                          rcases hip with ⟨rfl, hno⟩ | ⟨j, e, hr, hj, _⟩
                          · have HNO := Lib.hid hno
                            clear hno
                            go_wp2_with fail
                            refine wp_region_grow (by kernel_rfl) (by kernel_rfl) ?_
                            repeat (go_big_quiet_step ((first | (fail))))
                            refine wpQuiet_nil ?_
                            intro w1 hb1
                            go_wp2
                            go_ret
                            exact ⟨ret_bool (tb_f (fun h => by
                              obtain ⟨j, e, h1, _⟩ := HSL.out.1 ((h.2.1 (k) x HX.out).2.2.2.2.2 q id HID.out)
                              omega)).symm, ext_trans hx5 hb1⟩
                          · obtain rfl : r = (j : Int) := by omega
                            have hX5 := hX2.ext hb5
                            obtain ⟨be, oe, hAe, hbe, _⟩ := _root_.id hX5 (fun e' => by rw [e'] at hj; simp at hj)
                            subst hAe
                            have hce := hX5.get hj
                            have e0 : World.cell? w5 ⟨be, oe + j * 5, none⟩ = some (.int .i64 e.id) := hce 0 _ rfl
                            have e1 : World.cell? w5 ⟨be, oe + j * 5 + 1, none⟩ = some (.int .i64 e.sheet) := hce 1 _ rfl
                            have e2 : World.cell? w5 ⟨be, oe + j * 5 + 2, none⟩ = some (.int .i64 e.frm) := hce 2 _ rfl
                            have e3 : World.cell? w5 ⟨be, oe + j * 5 + 3, none⟩ = some (.int .i64 e.til) := hce 3 _ rfl
                            have e4 : World.cell? w5 ⟨be, oe + j * 5 + 4, none⟩ = some (.int .i64 e.day) := hce 4 _ rfl
                            have hj0 : (0 : Int) ≤ (j : Int) := by omega
                            have hj1 : (j : Int) < (ne : Int) := by have := lt_of_get hj; rw [← HNE.out] at this; omega
                            have hjd : decide ((j : Int) < 0) = false := decide_eq_false (by omega)
                            have r0 : World.cell? w5 ⟨wo.heap.size, 0, none⟩ = some (.int .i64 x.a) := (hb5.cell (p := ⟨wo.heap.size, 0, none⟩) hzc).trans p0
                            have r1 : World.cell? w5 ⟨wo.heap.size, 1, none⟩ = some (.int .i64 x.b) := (hb5.cell (p := ⟨wo.heap.size, 1, none⟩) hzc).trans p1
                            have r2 : World.cell? w5 ⟨wo.heap.size, 2, none⟩ = some (.int .i64 x.c) := (hb5.cell (p := ⟨wo.heap.size, 2, none⟩) hzc).trans p2
                            have r3 : World.cell? w5 ⟨wo.heap.size, 3, none⟩ = some (.slice (some ⟨b2, o2, none⟩) x.l.length d) := (hb5.cell (p := ⟨wo.heap.size, 3, none⟩) hzc).trans p3
                            clear hc5
                            have HJ := Lib.hid hj
                            clear hce hj hX5 hX2 hr
                            by_cases hcon : Con e x
                            · have HSI : Hid (SlipOk xs x id) := HSL.out.2 ⟨j, e, rfl, HJ.out, hcon⟩
                              go_wp2_with fail
                              refine wp_region_grow (by kernel_rfl) (by kernel_rfl) ?_
                              repeat (go_big_quiet_step ((first | (go_at_call 31; exact quiet_below (concerns_t e x _ d _ hcon)))))
                              refine wpQuiet_nil ?_
                              intro w1 hb1
                              go_wp2
                              go_roundw
                              case rel => exact ⟨q + 1, by omega, by go_num, ext_trans hbi (ext_trans hb5 hb1), fun m id' hm hid' => by
                                by_cases e' : m = q
                                · subst e'; rw [HID.out] at hid'; cases hid'; exact HSI.out
                                · exact hall.out m id' (by omega) hid'⟩
                              case measure => simp [intOf]; omega
                            · go_wp2_with fail
                              refine wp_region_grow (by kernel_rfl) (by kernel_rfl) ?_
                              repeat (go_big_quiet_step ((first | (go_at_call 31; exact quiet_below (concerns_f e x _ d _ hcon)))))
                              refine wpQuiet_nil ?_
                              intro w1 hb1
                              go_wp2
                              go_ret
                              exact ⟨ret_bool (tb_f (fun h => by
                                obtain ⟨j', e', h1, h2, h3⟩ := HSL.out.1 ((h.2.1 (k) x HX.out).2.2.2.2.2 q id HID.out)
                                have : j = j' := by omega
                                subst this
                                rw [HJ.out] at h2
                                cases h2
                                exact hcon h3)).symm, ext_trans hx5 hb1⟩
                        · have hql2 : ¬ (q : Int) < (x.l.length : Int) := by omega
                          have HIK : Hid (HI xs hs (k) x) := ⟨HH1.out, HH2.out, HH3.out, HH4.out, HH5.out, fun m id hm => hall.out m id (by have := lt_of_get hm; omega) hm⟩
                          go_wp2_with fail
                          go_roundw
                          case rel => exact ⟨k + 1, by omega,  by go_num, ext_trans hxb hbi, fun j h hj hjh => by
                            by_cases e : j = k
                            · subst e; rw [HX.out] at hjh; cases hjh; exact HIK.out
                            · exact hst.out j h (by omega) hjh⟩
                          case measure => simp [intOf]; omega
                    · have hyc' : x.a ≤ y.a := by omega
                      go_wp2_with fail
                      refine wp_region_grow (by kernel_rfl) (by kernel_rfl) ?_
                      repeat (go_big_quiet_step ((first | (go_at_call 64; exact quiet_same (isId_t x.a _ (by assumption))) | (go_at_call 64; exact quiet_same (isId_t x.b _ (by assumption))) | (go_at_call 65; exact quiet_same (within_t x.c 1 9 _ (by assumption))) | (go_at_call 66; exact quiet_below (isRising_t A' d x.l _ hxl (hf0.ext (plus_below _ _)) (by assumption))))))
                      refine wpQuiet_nil ?_
                      intro w1 hb1
                      go_wp2
                      go_ret
                      exact ⟨ret_bool (tb_f (fun h => by have := (h.2.1 k x HX.out).2.2.2.2.1 m y HKM.out HY.out; omega)).symm, ext_trans hbW hb1⟩
                  · go_wp2_with fail
                    refine wp_region_grow (by kernel_rfl) (by kernel_rfl) ?_
                    repeat (go_big_quiet_step ((first | (go_at_call 64; exact quiet_same (isId_t x.a _ (by assumption))) | (go_at_call 64; exact quiet_same (isId_t x.b _ (by assumption))) | (go_at_call 65; exact quiet_same (within_t x.c 1 9 _ (by assumption))) | (go_at_call 66; exact quiet_below (isRising_f A' d x.l _ hxl (hf0.ext (plus_below _ _)) (by assumption))))))
                    refine wpQuiet_nil ?_
                    intro w1 hb1
                    go_wp2
                    go_ret
                    exact ⟨ret_bool (tb_f (fun h => h4 (h.2.1 (k) x HX.out).2.2.2.1)).symm, ext_trans hbW hb1⟩
                · go_wp2_with fail
                  refine wp_region_grow (by kernel_rfl) (by kernel_rfl) ?_
                  repeat (go_big_quiet_step ((first | (go_at_call 64; exact quiet_same (isId_t x.a _ (by assumption))) | (go_at_call 64; exact quiet_same (isId_t x.b _ (by assumption))) | (go_at_call 65; exact quiet_same (within_f x.c 1 9 _ (by assumption))))))
                  refine wpQuiet_nil ?_
                  intro w1 hb1
                  go_wp2
                  go_ret
                  exact ⟨ret_bool (tb_f (fun h => h3 (h.2.1 (k) x HX.out).2.2.1)).symm, ext_trans hbW hb1⟩
              · go_wp2_with fail
                refine wp_region_grow (by kernel_rfl) (by kernel_rfl) ?_
                repeat (go_big_quiet_step ((first | (go_at_call 64; exact quiet_same (isId_t x.a _ (by assumption))) | (go_at_call 64; exact quiet_same (isId_f x.b _ (by assumption))))))
                refine wpQuiet_nil ?_
                intro w1 hb1
                go_wp2
                go_ret
                exact ⟨ret_bool (tb_f (fun h => h2 (h.2.1 (k) x HX.out).2.1)).symm, ext_trans hbW hb1⟩
            · go_wp2_with fail
              refine wp_region_grow (by kernel_rfl) (by kernel_rfl) ?_
              repeat (go_big_quiet_step ((first | (go_at_call 64; exact quiet_same (isId_f x.a _ (by assumption))))))
              refine wpQuiet_nil ?_
              intro w1 hb1
              go_wp2
              go_ret
              exact ⟨ret_bool (tb_f (fun h => h1 (h.2.1 (k) x HX.out).1)).symm, ext_trans hbW hb1⟩
        · have hkn : k = n := by omega
          subst hkn
          go_wp2
          go_ret
          exact ⟨ret_bool (tb_t ⟨H1.out, fun j h hj => hst.out j h (by rw [hN.out]; exact lt_of_get hj) hj, by rw [← hN.out]; omega⟩).symm, hbr⟩
    · have h10' : (10 : Int) < (n : Int) := by omega
      go_enter Tryz.func30, Tryz.ntmps30
      go_wp2_with fail
      refine (HAR.out w hA).mono ?_
      rintro e w1 ⟨rfl, hb1⟩
      rw [tb_t H1.out]
      go_wp2
      go_ret
      exact ⟨ret_bool (tb_f (fun h => h10 (by rw [hN.out]; exact h.2.2))).symm, hb1⟩
  · have H1 := Lib.hid h1
    clear h1
    go_enter Tryz.func30, Tryz.ntmps30
    go_wp2_with fail
    refine (HAR.out w hA).mono ?_
    rintro e w1 ⟨rfl, hb1⟩
    rw [tb_f H1.out]
    go_wp2
    go_ret
    exact ⟨ret_bool (tb_f (fun h => H1.out h.1)).symm, hb1⟩
end Go.Proofs.YtbnlbcbdhmmlgaaGreatDoor
