/- Which lists of editions are valid: the reference's l18Good. -/
import Derived.Test.YtadcjfbcfiljkaaDoorEds
namespace Go.Proofs.YtadcjfbcfiljkaaDoor
open Go.RowKit
set_option linter.unusedVariables false
set_option linter.unusedSimpArgs false

set_option maxHeartbeats 2000000 in
set_option maxRecDepth 100000 in
theorem l18GoodG_any (A : Option Addr) (c : Nat) (xs : List Nest) (w : World) (hn : wt xs ≤ 4194304) (hcap : xs.length ≤ c) (hcm : c ≤ 9223372036854775807) (hA : Nl w A xs) :
    Calls Tryd.prog 29 #[.slice A xs.length c] w fun e w' => e = .returned (.bool (tb (Eds xs))) ∧ Below w.heap.size w w' := by
  have hin := fun x (hx : x ∈ xs) => wt_in hx
  have hwl := wt_len xs
  obtain ⟨n, hnn⟩ : ∃ n, n = List.length xs := ⟨_, rfl⟩
  rw [← hnn] at hwl hcap ⊢
  have hN := Lib.hid hnn
  clear hnn
  have hn1 : n ≤ 4194304 := by omega
  go_enter Tryd.func29, Tryd.ntmps29
  go_wp2
  go_loopw [3] (fun i wr => ∃ k : Nat, k ≤ n ∧ k ≤ 16 ∧ i = .int .i64 k ∧ Below w.heap.size w wr ∧ Hid (StTo xs k)) (fun i _ => n - (intOf i).toNat)
  case atStart => exact ⟨0, by omega, by omega, rfl, Below.refl _ _, StTo.zero⟩
  case round =>
    obtain ⟨k, hk, hk16, rfl, hbr, hst⟩ := hrel
    by_cases hlt : k < n
    · by_cases hk15 : k ≤ 15
      · obtain ⟨x, b, o, A', d, hx, rfl, hb, hc, hfl⟩ := (hA.ext hbr).at_ (k := k) (by rw [← hN.out]; exact hlt)
        have hxl : x.l.length ≤ 4194304 := Nat.le_trans (hin x (List.mem_of_getElem? hx)) hn
        have c0 : World.cell? wr ⟨b, o + k * 4, none⟩ = some (.int .i64 x.a) := hc.ca
        have c1 : World.cell? wr ⟨b, o + k * 4 + 1, none⟩ = some (.int .i64 x.b) := hc.cb
        have c2 : World.cell? wr ⟨b, o + k * 4 + 2, none⟩ = some (.int .i64 x.c) := hc.cc
        have c3 : World.cell? wr ⟨b, o + k * 4 + 3, none⟩ = some (.slice A' x.l.length d) := hc.cl
        have hed := fun W hW => l18Last_any (some ⟨b, o, none⟩) c (xs.take k) x.a W (by rw [List.length_take]; omega) hW
        rw [List.length_take, ← hN.out, Nat.min_eq_left hk, lastI_take _ _ _ _ (Nat.le_refl k)] at hed
        have hlp := lastI_p x.a xs k (by rw [← hN.out]; exact hk)
        have hStI : StI xs k x ↔ IsEd x ∧ (∀ m p, k = m + 1 → xs[m]? = some p → p.c ≤ x.c) ∧ x.b = ((ofS x.a (xs.take k)).length : Int) + 1 ∧ ∀ l, (ofS x.a (xs.take k)).getLast? = some l → l.c ≠ x.c := Iff.rfl
        unfold LastP at hlp
        generalize hys0 : ofS x.a (xs.take k) = ys at hStI hlp
        generalize lastI x.a xs k = r at hed hlp
        have HYS := Lib.hid hys0
        have HE := Lib.hid hed
        have HS := Lib.hid hStI
        have HX := Lib.hid hx
        have hAt := fun W (hW : Nl W (some ⟨b, o, none⟩) xs) => Nl.take hW k
        have HT := Lib.hid hAt
        obtain ⟨W0, hW0, hB0, hz0', hg, _⟩ := box_world wr #[Value.int .i64 x.a, .int .i64 x.b, .int .i64 x.c, .slice A' x.l.length d] 33
        have g0 : World.cell? W0 ⟨wr.heap.size, 0, none⟩ = some (.int .i64 x.a) := hg 0
        have g1 : World.cell? W0 ⟨wr.heap.size, 1, none⟩ = some (.int .i64 x.b) := hg 1
        have g2 : World.cell? W0 ⟨wr.heap.size, 2, none⟩ = some (.int .i64 x.c) := hg 2
        have g3 : World.cell? W0 ⟨wr.heap.size, 3, none⟩ = some (.slice A' x.l.length d) := hg 3
        have hf0 := hfl.ext hB0
        have hcr0 := bcell hB0
        have hbW0 : b < W0.heap.size := Nat.lt_of_lt_of_le hb hB0.size
        clear hg hx hc hed hStI hAt hfl hys0
        have hbW := ext_trans hbr hB0
        have hpc := plus_cell W0
        have hk0 : (0 : Int) ≤ (k : Int) := by omega
        have hk1 : (k : Int) < (n : Int) := by omega
        have hkc : (k : Int) ≤ (c : Int) := by omega
        have hk15' : (k : Int) ≤ 15 := by omega
        by_cases hP : IsEd x
        · rcases Nat.eq_zero_or_pos k with h0 | hpos
          · have hd : decide ((0 : Int) < (k : Int)) = false := by simp; omega
            have hd2 : decide (0 < k) = false := by simp; omega
            have hord : ∀ m p, k = m + 1 → xs[m]? = some p → p.c ≤ x.c := fun m p h => by omega
            have HO := Lib.hid hord
            have H0 := Lib.hid h0
            clear hord h0
            go_wp2_with fail
            refine wp_region_grow (by kernel_rfl) (by kernel_rfl) ?_
            repeat (go_big_quiet_step ((first | (go_at_call 49; exact quiet_below (l18One_t x A' d _ hxl (hf0.ext (plus_below _ _)) hP)))))
            refine wpQuiet_nil ?_
            intro w1 hb1
            have hxb1 := ext_trans hbW hb1
            have hcW := bcell hb1
            have hzW : wr.heap.size < w1.heap.size := Nat.lt_of_lt_of_le hz0' hb1.size
            have hbW1 : b < w1.heap.size := Nat.lt_of_lt_of_le hbW0 hb1.size
            have hN1 := ((hA.ext hbr).ext hB0).ext hb1
            have hpc1 := plus_cell w1
            clear hb1 hpc
            go_wp2_with fail
            refine wp_region_grow (by kernel_rfl) (by kernel_rfl) ?_
            repeat (go_big_quiet_step ((first | (go_at_call 51; exact quiet_same (HE.out _ (HT.out _ (hN1.ext (plus_below _ _))))))))
            refine wpQuiet_nil ?_
            intro w7 hb7
            have hc7 := bcell hb7
            have hz7 : wr.heap.size < w7.heap.size := Nat.lt_of_lt_of_le hzW hb7.size
            have hpc7 := plus_cell w7
            rcases hlp with ⟨hr, hys⟩ | ⟨j, l, hr, hjk, hj, hla⟩
            · subst hr
              by_cases hq : x.b = 1
              · have H1 : Hid (StI xs (k) x) := HS.out.2 ⟨hP, HO.out, by rw [hq, hys]; rfl, fun l hl => by rw [hys] at hl; simp at hl⟩
                clear hys
                go_wp2_with fail
                refine wp_region_grow (by kernel_rfl) (by kernel_rfl) ?_
                repeat (go_big_quiet_step ((first | (fail))))
                refine wpQuiet_nil ?_
                intro w1 hb1
                go_wp2
                go_roundw
                case rel => exact ⟨k + 1, by omega, by omega, by go_num, ext_trans hxb1 (ext_trans hb7 hb1), hst.out.step HX.out H1.out⟩
                case measure => simp [intOf]; omega
              · have hqn : (x.b != 1) = true := by rw [bne_iff_ne]; exact hq
                have HQ := Lib.hid hq
                have HY := Lib.hid hys
                clear hq hys
                go_wp2_with fail
                refine wp_region_grow (by kernel_rfl) (by kernel_rfl) ?_
                repeat (go_big_quiet_step ((first | (fail))))
                refine wpQuiet_nil ?_
                intro w1 hb1
                go_wp2
                go_ret
                exact ⟨ret_bool (tb_f (fun h => HQ.out (by have h2 := (HS.out.1 (h.1 (k) x HX.out)).2.2.1; rw [HY.out] at h2; simpa using h2))).symm, ext_trans hxb1 (ext_trans hb7 hb1)⟩
            · subst hr
              obtain ⟨A5, d5, hdl, _⟩ := (hA.ext hbr).get hj
              have hbW7 : b < w7.heap.size := Nat.lt_of_lt_of_le hbW1 hb7.size
              have l1 : World.cell? w7 ⟨b, o + j * 4 + 1, none⟩ = some (.int .i64 l.b) := (hc7 _ _ hbW1).trans ((hcW _ _ hbW0).trans ((hcr0 _ _ hb).trans hdl.cb))
              have l2 : World.cell? w7 ⟨b, o + j * 4 + 2, none⟩ = some (.int .i64 l.c) := (hc7 _ _ hbW1).trans ((hcW _ _ hbW0).trans ((hcr0 _ _ hb).trans hdl.cc))
              have l3 : World.cell? wr ⟨b, o + j * 4 + 1, none⟩ = some (.int .i64 l.b) := hdl.cb
              have l4 : World.cell? wr ⟨b, o + j * 4 + 2, none⟩ = some (.int .i64 l.c) := hdl.cc
              have hlb := hst.out.last x.a l (by rw [HYS.out]; exact hla)
              rw [HYS.out] at hlb
              have hIl := (hst.out j l hjk hj).1
              have hl1 : 1 ≤ l.b := hIl.2.2.2.2.1.1
              have hl2 : l.b ≤ 9 := hIl.2.2.2.2.1.2
              have hj0 : (0 : Int) ≤ (j : Int) := by omega
              have hj1 : (j : Int) < (n : Int) := by omega
              have hj2 : ¬ (j : Int) < 0 := by omega
              have hj3 : decide ((j : Int) < 0) = false := by simp
              have hj4 : decide ((0 : Int) ≤ (j : Int)) = true := by simp
              have HLB := Lib.hid hlb.1
              have HLA := Lib.hid hla
              clear hIl hlb hla hdl hj
              by_cases hq : x.b = l.b + 1
              · by_cases hne : x.c = l.c
                · have HNE := Lib.hid hne
                  go_wp2_with fail
                  refine wp_region_grow (by kernel_rfl) (by kernel_rfl) ?_
                  repeat (go_big_quiet_step ((first | (fail))))
                  refine wpQuiet_nil ?_
                  intro w1 hb1
                  go_wp2
                  go_ret
                  exact ⟨ret_bool (tb_f (fun h => (HS.out.1 (h.1 (k) x HX.out)).2.2.2 l HLA.out HNE.out.symm)).symm, ext_trans hxb1 (ext_trans hb7 hb1)⟩
                · have H1 : Hid (StI xs (k) x) := HS.out.2 ⟨hP, HO.out, by rw [hq, HLB.out], fun l' hl' => by
                    rw [HLA.out] at hl'
                    cases hl'
                    exact fun e => hne e.symm⟩
                  have hnen : (x.c == l.c) = false := by rw [beq_eq_false_iff_ne]; exact hne
                  go_wp2_with fail
                  refine wp_region_grow (by kernel_rfl) (by kernel_rfl) ?_
                  repeat (go_big_quiet_step ((first | (fail))))
                  refine wpQuiet_nil ?_
                  intro w1 hb1
                  go_wp2
                  go_roundw
                  case rel => exact ⟨k + 1, by omega, by omega, by go_num, ext_trans hxb1 (ext_trans hb7 hb1), hst.out.step HX.out H1.out⟩
                  case measure => simp [intOf]; omega
              · have hqn : (x.b != l.b + 1) = true := by rw [bne_iff_ne]; exact hq
                have HQ := Lib.hid hq
                clear hq
                go_wp2_with fail
                refine wp_region_grow (by kernel_rfl) (by kernel_rfl) ?_
                repeat (go_big_quiet_step ((first | (fail))))
                refine wpQuiet_nil ?_
                intro w1 hb1
                go_wp2
                go_ret
                exact ⟨ret_bool (tb_f (fun h => HQ.out (by have h2 := (HS.out.1 (h.1 (k) x HX.out)).2.2.1; rw [h2, HLB.out]))).symm, ext_trans hxb1 (ext_trans hb7 hb1)⟩
          · obtain ⟨m, rfl⟩ : ∃ m, k = m + 1 := ⟨k - 1, by omega⟩
            obtain ⟨y, hy⟩ : ∃ y, xs[m]? = some y := ⟨_, List.getElem?_eq_getElem (by rw [← hN.out]; omega)⟩
            obtain ⟨A2, d2, hdy, _⟩ := (hA.ext hbr).get hy
            have d0 : World.cell? wr ⟨b, o + m * 4 + 2, none⟩ = some (.int .i64 y.c) := hdy.cc
            have HY := Lib.hid hy
            clear hy hdy
            have hm0 : (0 : Int) ≤ (m : Int) := by omega
            have hm1 : (m : Int) < (n : Int) := by omega
            have hm2 : (0 : Int) < (m : Int) + 1 := by omega
            have hm3 : (0 : Int) ≤ (m : Int) + 1 := by omega
            have hm4 : (m : Int) + 1 ≤ (c : Int) := by omega
            have hm5 : (m : Int) + 1 ≤ 15 := by omega
            by_cases hyc : y.c ≤ x.c
            · have hord : ∀ m' p, m + 1 = m' + 1 → xs[m']? = some p → p.c ≤ x.c := fun m' p h hp => by
                obtain rfl : m = m' := by omega
                rw [HY.out] at hp
                cases hp
                exact hyc
              have HO := Lib.hid hord
              clear hord
              go_wp2_with fail
              refine wp_region_grow (by kernel_rfl) (by kernel_rfl) ?_
              repeat (go_big_quiet_step ((first | (go_at_call 49; exact quiet_below (l18One_t x A' d _ hxl (hf0.ext (plus_below _ _)) hP)))))
              refine wpQuiet_nil ?_
              intro w1 hb1
              have hxb1 := ext_trans hbW hb1
              have hcW := bcell hb1
              have hzW : wr.heap.size < w1.heap.size := Nat.lt_of_lt_of_le hz0' hb1.size
              have hbW1 : b < w1.heap.size := Nat.lt_of_lt_of_le hbW0 hb1.size
              have hN1 := ((hA.ext hbr).ext hB0).ext hb1
              have hpc1 := plus_cell w1
              clear hb1 hpc
              go_wp2_with fail
              refine wp_region_grow (by kernel_rfl) (by kernel_rfl) ?_
              repeat (go_big_quiet_step ((first | (go_at_call 51; exact quiet_same (HE.out _ (HT.out _ (hN1.ext (plus_below _ _))))))))
              refine wpQuiet_nil ?_
              intro w7 hb7
              have hc7 := bcell hb7
              have hz7 : wr.heap.size < w7.heap.size := Nat.lt_of_lt_of_le hzW hb7.size
              have hpc7 := plus_cell w7
              rcases hlp with ⟨hr, hys⟩ | ⟨j, l, hr, hjk, hj, hla⟩
              · subst hr
                by_cases hq : x.b = 1
                · have H1 : Hid (StI xs (m + 1) x) := HS.out.2 ⟨hP, HO.out, by rw [hq, hys]; rfl, fun l hl => by rw [hys] at hl; simp at hl⟩
                  clear hys
                  go_wp2_with fail
                  refine wp_region_grow (by kernel_rfl) (by kernel_rfl) ?_
                  repeat (go_big_quiet_step ((first | (fail))))
                  refine wpQuiet_nil ?_
                  intro w1 hb1
                  go_wp2
                  go_roundw
                  case rel => exact ⟨m + 1 + 1, by omega, by omega, by go_num, ext_trans hxb1 (ext_trans hb7 hb1), hst.out.step HX.out H1.out⟩
                  case measure => simp [intOf]; omega
                · have hqn : (x.b != 1) = true := by rw [bne_iff_ne]; exact hq
                  have HQ := Lib.hid hq
                  have HY := Lib.hid hys
                  clear hq hys
                  go_wp2_with fail
                  refine wp_region_grow (by kernel_rfl) (by kernel_rfl) ?_
                  repeat (go_big_quiet_step ((first | (fail))))
                  refine wpQuiet_nil ?_
                  intro w1 hb1
                  go_wp2
                  go_ret
                  exact ⟨ret_bool (tb_f (fun h => HQ.out (by have h2 := (HS.out.1 (h.1 (m + 1) x HX.out)).2.2.1; rw [HY.out] at h2; simpa using h2))).symm, ext_trans hxb1 (ext_trans hb7 hb1)⟩
              · subst hr
                obtain ⟨A5, d5, hdl, _⟩ := (hA.ext hbr).get hj
                have hbW7 : b < w7.heap.size := Nat.lt_of_lt_of_le hbW1 hb7.size
                have l1 : World.cell? w7 ⟨b, o + j * 4 + 1, none⟩ = some (.int .i64 l.b) := (hc7 _ _ hbW1).trans ((hcW _ _ hbW0).trans ((hcr0 _ _ hb).trans hdl.cb))
                have l2 : World.cell? w7 ⟨b, o + j * 4 + 2, none⟩ = some (.int .i64 l.c) := (hc7 _ _ hbW1).trans ((hcW _ _ hbW0).trans ((hcr0 _ _ hb).trans hdl.cc))
                have l3 : World.cell? wr ⟨b, o + j * 4 + 1, none⟩ = some (.int .i64 l.b) := hdl.cb
                have l4 : World.cell? wr ⟨b, o + j * 4 + 2, none⟩ = some (.int .i64 l.c) := hdl.cc
                have hlb := hst.out.last x.a l (by rw [HYS.out]; exact hla)
                rw [HYS.out] at hlb
                have hIl := (hst.out j l hjk hj).1
                have hl1 : 1 ≤ l.b := hIl.2.2.2.2.1.1
                have hl2 : l.b ≤ 9 := hIl.2.2.2.2.1.2
                have hj0 : (0 : Int) ≤ (j : Int) := by omega
                have hj1 : (j : Int) < (n : Int) := by omega
                have hj2 : ¬ (j : Int) < 0 := by omega
                have hj3 : decide ((j : Int) < 0) = false := by simp
                have hj4 : decide ((0 : Int) ≤ (j : Int)) = true := by simp
                have HLB := Lib.hid hlb.1
                have HLA := Lib.hid hla
                clear hIl hlb hla hdl hj
                by_cases hq : x.b = l.b + 1
                · by_cases hne : x.c = l.c
                  · have HNE := Lib.hid hne
                    go_wp2_with fail
                    refine wp_region_grow (by kernel_rfl) (by kernel_rfl) ?_
                    repeat (go_big_quiet_step ((first | (fail))))
                    refine wpQuiet_nil ?_
                    intro w1 hb1
                    go_wp2
                    go_ret
                    exact ⟨ret_bool (tb_f (fun h => (HS.out.1 (h.1 (m + 1) x HX.out)).2.2.2 l HLA.out HNE.out.symm)).symm, ext_trans hxb1 (ext_trans hb7 hb1)⟩
                  · have H1 : Hid (StI xs (m + 1) x) := HS.out.2 ⟨hP, HO.out, by rw [hq, HLB.out], fun l' hl' => by
                      rw [HLA.out] at hl'
                      cases hl'
                      exact fun e => hne e.symm⟩
                    have hnen : (x.c == l.c) = false := by rw [beq_eq_false_iff_ne]; exact hne
                    go_wp2_with fail
                    refine wp_region_grow (by kernel_rfl) (by kernel_rfl) ?_
                    repeat (go_big_quiet_step ((first | (fail))))
                    refine wpQuiet_nil ?_
                    intro w1 hb1
                    go_wp2
                    go_roundw
                    case rel => exact ⟨m + 1 + 1, by omega, by omega, by go_num, ext_trans hxb1 (ext_trans hb7 hb1), hst.out.step HX.out H1.out⟩
                    case measure => simp [intOf]; omega
                · have hqn : (x.b != l.b + 1) = true := by rw [bne_iff_ne]; exact hq
                  have HQ := Lib.hid hq
                  clear hq
                  go_wp2_with fail
                  refine wp_region_grow (by kernel_rfl) (by kernel_rfl) ?_
                  repeat (go_big_quiet_step ((first | (fail))))
                  refine wpQuiet_nil ?_
                  intro w1 hb1
                  go_wp2
                  go_ret
                  exact ⟨ret_bool (tb_f (fun h => HQ.out (by have h2 := (HS.out.1 (h.1 (m + 1) x HX.out)).2.2.1; rw [h2, HLB.out]))).symm, ext_trans hxb1 (ext_trans hb7 hb1)⟩
            · have hyc' : x.c < y.c := by omega
              go_wp2_with fail
              refine wp_region_grow (by kernel_rfl) (by kernel_rfl) ?_
              repeat (go_big_quiet_step ((first | (go_at_call 49; exact quiet_below (l18One_t x A' d _ hxl (hf0.ext (plus_below _ _)) hP)))))
              refine wpQuiet_nil ?_
              intro w1 hb1
              go_wp2
              go_ret
              exact ⟨ret_bool (tb_f (fun h => by have := (HS.out.1 (h.1 _ x HX.out)).2.1 m y rfl HY.out; omega)).symm, ext_trans hbW hb1⟩
        · go_wp2_with fail
          refine wp_region_grow (by kernel_rfl) (by kernel_rfl) ?_
          repeat (go_big_quiet_step ((first | (go_at_call 49; exact quiet_below (l18One_f x A' d _ hxl (hf0.ext (plus_below _ _)) hP)))))
          refine wpQuiet_nil ?_
          intro w1 hb1
          go_wp2
          go_ret
          exact ⟨ret_bool (tb_f (fun h => hP (h.1 k x HX.out).1)).symm, ext_trans hbW hb1⟩
      · have hkn : (15 : Int) < (k : Int) := by omega
        have hkl : (k : Int) < (n : Int) := by omega
        have hn15 : (15 : Int) < (n : Int) := by omega
        go_wp2
        go_ret
        exact ⟨ret_bool (tb_dec ⟨fun h => by have := h.2; rw [← hN.out] at this; omega, fun h => by omega⟩), hbr⟩
    · have hkn : k = n := by omega
      subst hkn
      go_wp2
      go_ret
      exact ⟨ret_bool (tb_dec ⟨fun h => by have := h.2; rw [← hN.out] at this; omega, fun h => ⟨hst.out.all (by rw [← hN.out]; exact Nat.le_refl _), by rw [← hN.out]; omega⟩⟩), hbr⟩
theorem l18Good_any (A : Option Addr) (c : Nat) (xs : List Nest) (w : World) (hn : wt xs ≤ 1048576) (hcap : xs.length ≤ c) (hcm : c ≤ 9223372036854775807) (hA : Nl w A xs) :
    Calls Tryd.prog 29 #[.slice A xs.length c] w fun e w' => e = .returned (.bool (tb (Eds xs))) ∧ Below w.heap.size w w' := l18GoodG_any A c xs w (le22 hn) hcap hcm hA
end Go.Proofs.YtadcjfbcfiljkaaDoor
