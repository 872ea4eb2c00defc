/- Which lists of editions are valid: the program's AreEditions. -/
import Derived.Test.YtadcjfbcfiljkaaDoorEds
namespace Go.Proofs.YtadcjfbcfiljkaaDoor
open Go.RowKit
set_option linter.unusedVariables false
set_option linter.unusedSimpArgs false

set_option maxHeartbeats 1000000 in
set_option maxRecDepth 100000 in
theorem areEditionsG_any (A : Option Addr) (c : Nat) (xs : List Nest) (w : World) (hn : wt xs ≤ 4194304) (hcap : xs.length ≤ c) (hcm : c ≤ 9223372036854775807) (hA : Nl w A xs) :
    Calls Tryd.prog 25 #[.slice A xs.length c] w fun e w' => e = .returned (.bool (tb (Eds xs))) ∧ Below w.heap.size w w' := by
  have hin := fun x (hx : x ∈ xs) => wt_in hx
  have hwl := wt_len xs
  obtain ⟨n, hnn⟩ : ∃ n, n = List.length xs := ⟨_, rfl⟩
  rw [← hnn] at hwl hcap ⊢
  have hN := Lib.hid hnn
  clear hnn
  have hn1 : n ≤ 4194304 := by omega
  go_enter Tryd.func25, Tryd.ntmps25
  go_wp2
  go_loopw [8] (fun i wr => ∃ k : Nat, k ≤ n ∧ i = .int .i64 k ∧ Below w.heap.size w wr ∧ Hid (StTo xs k)) (fun i _ => n - (intOf i).toNat)
  case atStart => exact ⟨0, by omega, rfl, Below.refl _ _, StTo.zero⟩
  case round =>
    obtain ⟨k, hk, rfl, hbr, hst⟩ := hrel
    by_cases hlt : k < n
    · obtain ⟨x, b, o, A', d, hx, rfl, hb, hc, hfl⟩ := (hA.ext hbr).at_ (k := k) (by rw [← hN.out]; exact hlt)
      have hxl : x.l.length ≤ 4194304 := Nat.le_trans (hin x (List.mem_of_getElem? hx)) hn
      have c0 : World.cell? wr ⟨b, o + k * 4, none⟩ = some (.int .i64 x.a) := hc.ca
      have c1 : World.cell? wr ⟨b, o + k * 4 + 1, none⟩ = some (.int .i64 x.b) := hc.cb
      have c2 : World.cell? wr ⟨b, o + k * 4 + 2, none⟩ = some (.int .i64 x.c) := hc.cc
      have c3 : World.cell? wr ⟨b, o + k * 4 + 3, none⟩ = some (.slice A' x.l.length d) := hc.cl
      have hed := fun W hW => editionsOf_any (some ⟨b, o, none⟩) c (xs.take k) x.a W (by rw [List.length_take]; omega) hW
      rw [List.length_take, ← hN.out, Nat.min_eq_left hk] at hed
      have hStI : StI xs k x ↔ IsEd x ∧ (∀ m p, k = m + 1 → xs[m]? = some p → p.c ≤ x.c) ∧ x.b = ((ofS x.a (xs.take k)).length : Int) + 1 ∧ ∀ l, (ofS x.a (xs.take k)).getLast? = some l → l.c ≠ x.c := Iff.rfl
      have hysl := Nat.le_trans (ofS_len x.a (xs.take k)) (List.length_take_le k xs)
      generalize ofS x.a (xs.take k) = ys at hed hStI hysl
      have HE := Lib.hid hed
      have HS := Lib.hid hStI
      have HX := Lib.hid hx
      have hAt := fun W (hW : Nl W (some ⟨b, o, none⟩) xs) => Nl.take hW k
      have HT := Lib.hid hAt
      obtain ⟨W0, hW0, hB0, hz0', hg, _⟩ := box_world wr #[Value.int .i64 x.a, .int .i64 x.b, .int .i64 x.c, .slice A' x.l.length d] 33
      have g0 : World.cell? W0 ⟨wr.heap.size, 0, none⟩ = some (.int .i64 x.a) := hg 0
      have g1 : World.cell? W0 ⟨wr.heap.size, 1, none⟩ = some (.int .i64 x.b) := hg 1
      have g2 : World.cell? W0 ⟨wr.heap.size, 2, none⟩ = some (.int .i64 x.c) := hg 2
      have g3 : World.cell? W0 ⟨wr.heap.size, 3, none⟩ = some (.slice A' x.l.length d) := hg 3
      have hf0 := hfl.ext hB0
      have hcr0 := bcell hB0
      have hbW0 : b < W0.heap.size := Nat.lt_of_lt_of_le hb hB0.size
      clear hg hx hc hed hStI hAt hfl
      have hbW := ext_trans hbr hB0
      have hpc := plus_cell W0
      have hk0 : (0 : Int) ≤ (k : Int) := by omega
      have hk1 : (k : Int) < (n : Int) := by omega
      have hkc : (k : Int) ≤ (c : Int) := by omega
      by_cases hP : IsEd x
      · rcases Nat.eq_zero_or_pos k with h0 | hpos
        · have hd : decide ((0 : Int) < (k : Int)) = false := by simp; omega
          have hd2 : decide (0 < k) = false := by simp; omega
          have hord : ∀ m p, k = m + 1 → xs[m]? = some p → p.c ≤ x.c := fun m p h => by omega
          have HO := Lib.hid hord
          have H0 := Lib.hid h0
          clear hord h0
          go_wp2_with fail
          refine wp_region_grow (by kernel_rfl) (by kernel_rfl) ?_
          repeat (go_big_quiet_step ((first | (go_at_call 47; exact quiet_below (isEdition_t x A' d _ hxl (hf0.ext (plus_below _ _)) hP)))))
          refine wpQuiet_nil ?_
          intro w1 hb1
          have hxb1 := ext_trans hbW hb1
          have hcW := bcell hb1
          have hzW : wr.heap.size < w1.heap.size := Nat.lt_of_lt_of_le hz0' hb1.size
          go_wp2_with fail
          go_region_held3 (fun w' => Below (World.heap w1).size w1 w' ∧ ∀ b o, b < (World.heap w1).size → w'.cell? ⟨b, o, none⟩ = World.cell? w1 ⟨b, o, none⟩) (first | exact cls_of (ext_drew _) | exact cls_grow (by assumption) (hb3.mono (by simp))) ((first | (go_at_call 28; refine (HE.out _ (HT.out _ (((hA.ext hbr).ext hB0).ext (ext_trans hb1 (ext_drew _))))).mono ?_; rintro e w3 ⟨B3, d3, rfl, hN3, hb3⟩)))
          have hx13 := ext_trans (ext_drew w1) hb3
          have hc13 := bcell hx13
          have hz13 : wr.heap.size < w3.heap.size := Nat.lt_of_lt_of_le hzW hx13.size
          have hxw := ext_trans hxb1 hx13
          have hpc3 := plus_cell w3
          obtain ⟨L, hL⟩ : ∃ L, L = ys.length := ⟨_, rfl⟩
          rw [← hL] at hysl ⊢
          have HL := Lib.hid hL
          clear hL hpc
          by_cases hq : x.b = (L : Int) + 1
          · rcases L with _ | q
            · have H1 : Hid (StI xs (k) x) := HS.out.2 ⟨hP, HO.out, by rw [hq, HL.out], fun l hl => by
                have := HL.out
                rw [List.length_eq_zero_iff.1 this.symm] at hl
                simp at hl⟩
              have hq1 : x.b = 1 := by simpa using hq
              clear hq
              go_wp2_with fail
              refine wp_region_grow (by kernel_rfl) (by kernel_rfl) ?_
              repeat (go_big_quiet_step ((first | (fail))))
              refine wpQuiet_nil ?_
              intro w1 hb1
              go_wp2
              go_roundw
              case rel => exact ⟨k + 1, by omega, by go_num, ext_trans hxw hb1, hst.out.step HX.out H1.out⟩
              case measure => simp [intOf]; omega
            · obtain ⟨l, b3, o3, A3, d3', hl, rfl, hbb3, hc3, _⟩ := hN3.at_ (k := q) (by rw [← HL.out]; omega)
              have hlast : ys.getLast? = some l := by rw [List.getLast?_eq_getElem?, ← HL.out]; exact hl
              have c3 : World.cell? w3 ⟨b3, o3 + q * 4 + 2, none⟩ = some (.int .i64 l.c) := hc3.cc
              have HLA := Lib.hid hlast
              have hq0 : (0 : Int) ≤ (q : Int) := by omega
              have hq2 : (0 : Int) < (q : Int) + 1 := by omega
              clear hc3 hl hlast hN3
              by_cases hne : l.c = x.c
              · go_wp2_with fail
                refine wp_region_grow (by kernel_rfl) (by kernel_rfl) ?_
                repeat (go_big_quiet_step ((first | (fail))))
                refine wpQuiet_nil ?_
                intro w1 hb1
                go_wp2
                go_ret
                exact ⟨ret_bool (tb_f (fun h => (HS.out.1 (h.1 (k) x HX.out)).2.2.2 l HLA.out hne)).symm, ext_trans hxw hb1⟩
              · have H1 : Hid (StI xs (k) x) := HS.out.2 ⟨hP, HO.out, by rw [hq, HL.out], fun l' hl' => by
                  rw [HLA.out] at hl'
                  cases hl'
                  exact hne⟩
                go_wp2_with fail
                refine wp_region_grow (by kernel_rfl) (by kernel_rfl) ?_
                repeat (go_big_quiet_step ((first | (fail))))
                refine wpQuiet_nil ?_
                intro w1 hb1
                go_wp2
                go_roundw
                case rel => exact ⟨k + 1, by omega, by go_num, ext_trans hxw hb1, hst.out.step HX.out H1.out⟩
                case measure => simp [intOf]; omega
          · have hqn : (x.b != (L : Int) + 1) = true := by rw [bne_iff_ne]; exact hq
            have HQ := Lib.hid hq
            clear hq
            go_wp2_with fail
            refine wp_region_grow (by kernel_rfl) (by kernel_rfl) ?_
            repeat (go_big_quiet_step ((first | (fail))))
            refine wpQuiet_nil ?_
            intro w1 hb1
            go_wp2
            go_ret
            exact ⟨ret_bool (tb_f (fun h => HQ.out (by rw [HL.out]; exact (HS.out.1 (h.1 (k) x HX.out)).2.2.1))).symm, ext_trans hxw hb1⟩
        · obtain ⟨m, rfl⟩ : ∃ m, k = m + 1 := ⟨k - 1, by omega⟩
          obtain ⟨y, hy⟩ : ∃ y, xs[m]? = some y := ⟨_, List.getElem?_eq_getElem (by rw [← hN.out]; omega)⟩
          obtain ⟨A2, d2, hdy, _⟩ := (hA.ext hbr).get hy
          have d0 : World.cell? wr ⟨b, o + m * 4 + 2, none⟩ = some (.int .i64 y.c) := hdy.cc
          have HY := Lib.hid hy
          clear hy hdy
          have hm0 : (0 : Int) ≤ (m : Int) := by omega
          have hm1 : (m : Int) < (n : Int) := by omega
          have hm2 : (0 : Int) < (m : Int) + 1 := by omega
          have hm3 : (0 : Int) ≤ (m : Int) + 1 := by omega
          have hm4 : (m : Int) + 1 ≤ (c : Int) := by omega
          by_cases hyc : y.c ≤ x.c
          · have hord : ∀ m' p, m + 1 = m' + 1 → xs[m']? = some p → p.c ≤ x.c := fun m' p h hp => by
              obtain rfl : m = m' := by omega
              rw [HY.out] at hp
              cases hp
              exact hyc
            have HO := Lib.hid hord
            clear hord
            go_wp2_with fail
            refine wp_region_grow (by kernel_rfl) (by kernel_rfl) ?_
            repeat (go_big_quiet_step ((first | (go_at_call 47; exact quiet_below (isEdition_t x A' d _ hxl (hf0.ext (plus_below _ _)) hP)))))
            refine wpQuiet_nil ?_
            intro w1 hb1
            have hxb1 := ext_trans hbW hb1
            have hcW := bcell hb1
            have hzW : wr.heap.size < w1.heap.size := Nat.lt_of_lt_of_le hz0' hb1.size
            go_wp2_with fail
            go_region_held3 (fun w' => Below (World.heap w1).size w1 w' ∧ ∀ b o, b < (World.heap w1).size → w'.cell? ⟨b, o, none⟩ = World.cell? w1 ⟨b, o, none⟩) (first | exact cls_of (ext_drew _) | exact cls_grow (by assumption) (hb3.mono (by simp))) ((first | (go_at_call 28; refine (HE.out _ (HT.out _ (((hA.ext hbr).ext hB0).ext (ext_trans hb1 (ext_drew _))))).mono ?_; rintro e w3 ⟨B3, d3, rfl, hN3, hb3⟩)))
            have hx13 := ext_trans (ext_drew w1) hb3
            have hc13 := bcell hx13
            have hz13 : wr.heap.size < w3.heap.size := Nat.lt_of_lt_of_le hzW hx13.size
            have hxw := ext_trans hxb1 hx13
            have hpc3 := plus_cell w3
            obtain ⟨L, hL⟩ : ∃ L, L = ys.length := ⟨_, rfl⟩
            rw [← hL] at hysl ⊢
            have HL := Lib.hid hL
            clear hL hpc
            by_cases hq : x.b = (L : Int) + 1
            · rcases L with _ | q
              · have H1 : Hid (StI xs (m + 1) x) := HS.out.2 ⟨hP, HO.out, by rw [hq, HL.out], fun l hl => by
                  have := HL.out
                  rw [List.length_eq_zero_iff.1 this.symm] at hl
                  simp at hl⟩
                have hq1 : x.b = 1 := by simpa using hq
                clear hq
                go_wp2_with fail
                refine wp_region_grow (by kernel_rfl) (by kernel_rfl) ?_
                repeat (go_big_quiet_step ((first | (fail))))
                refine wpQuiet_nil ?_
                intro w1 hb1
                go_wp2
                go_roundw
                case rel => exact ⟨m + 1 + 1, by omega, by go_num, ext_trans hxw hb1, hst.out.step HX.out H1.out⟩
                case measure => simp [intOf]; omega
              · obtain ⟨l, b3, o3, A3, d3', hl, rfl, hbb3, hc3, _⟩ := hN3.at_ (k := q) (by rw [← HL.out]; omega)
                have hlast : ys.getLast? = some l := by rw [List.getLast?_eq_getElem?, ← HL.out]; exact hl
                have c3 : World.cell? w3 ⟨b3, o3 + q * 4 + 2, none⟩ = some (.int .i64 l.c) := hc3.cc
                have HLA := Lib.hid hlast
                have hq0 : (0 : Int) ≤ (q : Int) := by omega
                have hq2 : (0 : Int) < (q : Int) + 1 := by omega
                clear hc3 hl hlast hN3
                by_cases hne : l.c = x.c
                · go_wp2_with fail
                  refine wp_region_grow (by kernel_rfl) (by kernel_rfl) ?_
                  repeat (go_big_quiet_step ((first | (fail))))
                  refine wpQuiet_nil ?_
                  intro w1 hb1
                  go_wp2
                  go_ret
                  exact ⟨ret_bool (tb_f (fun h => (HS.out.1 (h.1 (m + 1) x HX.out)).2.2.2 l HLA.out hne)).symm, ext_trans hxw hb1⟩
                · have H1 : Hid (StI xs (m + 1) x) := HS.out.2 ⟨hP, HO.out, by rw [hq, HL.out], fun l' hl' => by
                    rw [HLA.out] at hl'
                    cases hl'
                    exact hne⟩
                  go_wp2_with fail
                  refine wp_region_grow (by kernel_rfl) (by kernel_rfl) ?_
                  repeat (go_big_quiet_step ((first | (fail))))
                  refine wpQuiet_nil ?_
                  intro w1 hb1
                  go_wp2
                  go_roundw
                  case rel => exact ⟨m + 1 + 1, by omega, by go_num, ext_trans hxw hb1, hst.out.step HX.out H1.out⟩
                  case measure => simp [intOf]; omega
            · have hqn : (x.b != (L : Int) + 1) = true := by rw [bne_iff_ne]; exact hq
              have HQ := Lib.hid hq
              clear hq
              go_wp2_with fail
              refine wp_region_grow (by kernel_rfl) (by kernel_rfl) ?_
              repeat (go_big_quiet_step ((first | (fail))))
              refine wpQuiet_nil ?_
              intro w1 hb1
              go_wp2
              go_ret
              exact ⟨ret_bool (tb_f (fun h => HQ.out (by rw [HL.out]; exact (HS.out.1 (h.1 (m + 1) x HX.out)).2.2.1))).symm, ext_trans hxw hb1⟩
          · have hyc' : x.c < y.c := by omega
            go_wp2_with fail
            refine wp_region_grow (by kernel_rfl) (by kernel_rfl) ?_
            repeat (go_big_quiet_step ((first | (go_at_call 47; exact quiet_below (isEdition_t x A' d _ hxl (hf0.ext (plus_below _ _)) hP)))))
            refine wpQuiet_nil ?_
            intro w1 hb1
            go_wp2
            go_ret
            exact ⟨ret_bool (tb_f (fun h => by have := (HS.out.1 (h.1 _ x HX.out)).2.1 m y rfl HY.out; omega)).symm, ext_trans hbW hb1⟩
      · go_wp2_with fail
        refine wp_region_grow (by kernel_rfl) (by kernel_rfl) ?_
        repeat (go_big_quiet_step ((first | (go_at_call 47; exact quiet_below (isEdition_f x A' d _ hxl (hf0.ext (plus_below _ _)) hP)))))
        refine wpQuiet_nil ?_
        intro w1 hb1
        go_wp2
        go_ret
        exact ⟨ret_bool (tb_f (fun h => hP (h.1 k x HX.out).1)).symm, ext_trans hbW hb1⟩
    · have hkn : k = n := by omega
      subst hkn
      go_wp2
      go_ret
      exact ⟨ret_bool (tb_dec ⟨fun h => by have := h.2; rw [← hN.out] at this; omega, fun h => ⟨hst.out.all (by rw [← hN.out]; exact Nat.le_refl _), by rw [← hN.out]; omega⟩⟩), hbr⟩
theorem areEditions_any (A : Option Addr) (c : Nat) (xs : List Nest) (w : World) (hn : wt xs ≤ 1048576) (hcap : xs.length ≤ c) (hcm : c ≤ 9223372036854775807) (hA : Nl w A xs) :
    Calls Tryd.prog 25 #[.slice A xs.length c] w fun e w' => e = .returned (.bool (tb (Eds xs))) ∧ Below w.heap.size w w' := areEditionsG_any A c xs w (le22 hn) hcap hcm hA
end Go.Proofs.YtadcjfbcfiljkaaDoor
