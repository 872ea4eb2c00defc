/- The places that later editions changed: the reference's side. -/
import Derived.Test.YtadcjfbcfiljkaaCsD
namespace Go.Proofs.Ytadcjfbcfiljkaa
open Go.RowKit
set_option linter.unusedVariables false
set_option linter.unusedSimpArgs false

set_option maxHeartbeats 1000000 in
set_option maxRecDepth 100000 in
theorem specChangedSince_any (A : Option Addr) (c : Nat) (xs : List Nest) (sheet number day : Int) (w : World) (hn : wt xs ≤ 1048576) (hcap : xs.length ≤ c) (hcm : c ≤ 9223372036854775807) (hA : Nl w A xs) :
    Calls Try.prog 16 #[.slice A xs.length c, .int .i64 sheet, .int .i64 number, .int .i64 day] w (RetL one 1 w (sel (CsOk xs sheet number day) (sinceL sheet number day xs)) (tb (CsOk xs sheet number day))) := by
  obtain ⟨V0, hV0, hC0, hy0, _, _⟩ := box_world w #[] 3
  have hown0 : OwnF one 1 w.heap.size 3 V0 (.slice (some ⟨w.heap.size, 0, none⟩) 0 0) [] := hV0 ▸ OwnF.empty (Nat.le_refl _)
  have hare := l18Good_any A c xs V0 hn hcap hcm (hA.ext hC0)
  have hn1 := Nat.le_trans (wt_len xs) hn
  have hfo := fun (h : Eds xs) => cs_found h sheet number
  have hidd := fun (h : Eds xs) => @cs_id xs h sheet
  have hin : ∀ y ∈ xs, y.l.length ≤ 1048576 := fun y hy => Nat.le_trans (wt_in hy) hn
  have hls := fun k => Nat.le_trans (Nat.le_trans (lsum_le xs k) (by unfold wt at hn; omega : lsum xs ≤ 1048576)) (Nat.le_refl _)
  obtain ⟨n, hnn⟩ : ∃ n, n = List.length xs := ⟨_, rfl⟩
  rw [← hnn] at hare hcap hn1 ⊢
  have hN := Lib.hid hnn
  have HA := Lib.hid hare
  have HFO := Lib.hid hfo
  have HID := Lib.hid hidd
  have HLS := Lib.hid hls
  clear hare hnn hfo hidd hls
  go_enter Try.func16, Try.ntmps16
  go_wp2_with fail
  refine (HA.out).mono ?_
  rintro e w1 ⟨rfl, hb1⟩
  by_cases h1 : Eds xs
  · rw [tb_t h1]
    have H1 := Lib.hid h1
    clear h1
    by_cases h2 : 1 ≤ sheet ∧ sheet ≤ 999
    · go_wp2_with fail
      refine (l18Id_t sheet _ h2).mono ?_
      rintro e w9 ⟨rfl, rfl⟩
      by_cases h3 : 0 ≤ day ∧ day ≤ 4000
      · go_wp2_with fail
        refine (l2Day_t day _ h3).mono ?_
        rintro e w9 ⟨rfl, rfl⟩
        have HO : Hid (Eds xs ∧ (1 ≤ sheet ∧ sheet ≤ 999) ∧ (0 ≤ day ∧ day ≤ 4000)) := ⟨H1.out, h2, h3⟩
        go_wp2
        go_loopw [10, 11, 12] (fun v f i wr => ∃ k : Nat, k ≤ n ∧ i = .int .i64 k ∧ f = .bool (tb (∃ e ∈ xs.take k, e.a = sheet ∧ e.b = number)) ∧ Below w.heap.size w wr ∧ OwnF one 1 w.heap.size 3 wr v (putAll ((sinceF sheet number day (xs.take k)).flatMap Nest.l))) (fun _ _ i _ => n - (intOf i).toNat)
        case atStart => exact ⟨0, by omega, rfl, by rw [tb_f (by rintro ⟨e, he, _⟩; simp at he)], (ext_trans hC0 hb1), hown0.ext hb1⟩
        case round =>
          obtain ⟨k, hk, rfl, rfl, hbr, hown⟩ := hrel
          have hzr := hbr.size
          by_cases hlt : k < n
          · obtain ⟨x, b, o, A', d', hx, rfl, hb, hc, hfl⟩ := (hA.ext hbr).at_ (k := k) (by rw [← hN.out]; exact hlt)
            have hxl := hin x (List.mem_of_getElem? hx)
            have c0 : World.cell? wr ⟨b, o + k * 4, none⟩ = some (.int .i64 x.a) := hc.ca
            have c1 : World.cell? wr ⟨b, o + k * 4 + 1, none⟩ = some (.int .i64 x.b) := hc.cb
            have c2 : World.cell? wr ⟨b, o + k * 4 + 2, none⟩ = some (.int .i64 x.c) := hc.cc
            have c3 : World.cell? wr ⟨b, o + k * 4 + 3, none⟩ = some (.slice A' x.l.length d') := hc.cl
            have htk := take_get hx
            obtain ⟨wo, hwo⟩ : ∃ x, x = wr := ⟨_, rfl⟩
            subst hwo
            obtain ⟨W0, hW0, hB0, hz0', hg, _⟩ := box_world wo #[Value.int .i64 x.a, .int .i64 x.b, .int .i64 x.c, .slice A' x.l.length d'] 53
            have g0 : World.cell? W0 ⟨wo.heap.size, 0, none⟩ = some (.int .i64 x.a) := hg 0
            have g1 : World.cell? W0 ⟨wo.heap.size, 1, none⟩ = some (.int .i64 x.b) := hg 1
            have g2 : World.cell? W0 ⟨wo.heap.size, 2, none⟩ = some (.int .i64 x.c) := hg 2
            have g3 : World.cell? W0 ⟨wo.heap.size, 3, none⟩ = some (.slice A' x.l.length d') := hg 3
            have hbW := ext_trans hbr hB0
            have hownW := hown.ext hB0
            have hflW := hfl.ext hB0
            have hlen : (putAll ((sinceF sheet number day (xs.take k)).flatMap Nest.l)).length ≤ 1048576 := Nat.le_trans (sinceL_len sheet number day (xs.take k)) (HLS.out k)
            have HT := Lib.hid htk
            clear hc hx hg htk hown hfl
            have hk0 : (0 : Int) ≤ (k : Int) := by omega
            have hk1 : (k : Int) < (n : Int) := by omega
            have hfs : ∀ l : List Nest, (∃ e ∈ l ++ [x], e.a = sheet ∧ e.b = number) ↔ ((∃ e ∈ l, e.a = sheet ∧ e.b = number) ∨ (x.a = sheet ∧ x.b = number)) := fun l => by
              constructor
              · rintro ⟨e, he, h⟩
                rcases List.mem_append.1 he with h1 | h1
                · exact .inl ⟨e, h1, h⟩
                · rw [List.mem_singleton] at h1; subst h1; exact .inr h
              · rintro (⟨e, he, h⟩ | h)
                · exact ⟨e, List.mem_append_left _ he, h⟩
                · exact ⟨x, List.mem_append_right _ (List.mem_singleton.2 rfl), h⟩
            have HFS := Lib.hid (hfs (xs.take k))
            clear hfs
            by_cases hs : x.a = sheet
            · have HS := Lib.hid hs
              have hsn : (x.a != sheet) = false := by simp [hs]
              have hsn2 : (x.a == sheet) = true := by simp [hs]
              clear hs
              obtain ⟨fb, hfb⟩ : ∃ fb, fb = tb (∃ e ∈ xs.take k, e.a = sheet ∧ e.b = number) := ⟨_, rfl⟩
              rw [← hfb]
              obtain ⟨fb2, hfb2⟩ : ∃ fb2, fb2 = (fb || (x.b == number)) := ⟨_, rfl⟩
              have hnf : tb (∃ e ∈ xs.take (k + 1), e.a = sheet ∧ e.b = number) = fb2 := by
                rw [HT.out, tb_iff HFS.out, hfb2, hfb]
                by_cases p1 : ∃ e ∈ xs.take k, e.a = sheet ∧ e.b = number
                · rw [tb_t p1, tb_t (.inl p1)]; rfl
                · rw [tb_f p1]
                  by_cases p2 : x.b = number
                  · rw [tb_t (.inr ⟨HS.out, p2⟩)]; simp [p2]
                  · rw [tb_f (fun h => by rcases h with h | h; exact p1 h; exact p2 h.2)]; simp [p2]
              have HNF := Lib.hid hnf
              have HFB2 := Lib.hid hfb2
              clear hfb hnf hfb2
              rcases fb with _ | _
              · by_cases hbe : x.b = number
                · have hbb1 : (x.b == number) = true := by simp [hbe]
                  have HBE := Lib.hid hbe
                  clear hbe
                  by_cases hlz : x.l.length = 0
                  · have hlz2 : ¬ (0 : Int) < (x.l.length : Int) := by omega
                    have hln : x.l = [] := List.length_eq_zero_iff.1 hlz
                    have HLN := Lib.hid hln
                    clear hlz hln
                    have hputz : Hid (putAll ((sinceF sheet number day (xs.take (k + 1))).flatMap Nest.l) = putAll ((sinceF sheet number day (xs.take k)).flatMap Nest.l)) := by
                      unfold Hid
                      rw [HT.out]
                      unfold sinceF
                      rw [List.filter_append, List.flatMap_append]
                      by_cases hz : x.a = sheet ∧ number < x.b ∧ x.c ≤ day
                      · rw [List.filter_cons_of_pos (by simpa using hz), List.filter_nil, List.flatMap_cons, HLN.out]; simp
                      · rw [List.filter_cons_of_neg (by simpa using hz), List.filter_nil]; simp
                    go_wp2_with fail
                    refine wp_loop_rounds 1 ?_
                    rw [rounds_succ]
                    go_wp2
                    go_roundw
                    case rel => exact ⟨k + 1, by omega, by go_num, by rw [HNF.out, HFB2.out]; simp [HBE.out], hbW, by rw [hputz.out]; exact hownW⟩
                    case measure => simp [intOf]; omega
                  · have hlz2 : (0 : Int) < (x.l.length : Int) := by omega
                    clear hlz
                    have hgt : ¬ number < x.b := by have := HBE.out; omega
                    go_wp2_with fail
                    refine wp_loop_rounds 1 ?_
                    rw [rounds_succ]
                    go_wp2
                    go_roundw
                    case rel => exact ⟨k + 1, by omega, by go_num, by rw [HNF.out, HFB2.out]; simp [HBE.out], hbW, by rw [HT.out]; unfold sinceF; rw [List.filter_append, List.filter_cons_of_neg (by simpa using fun (_ : x.a = sheet) (h : number < x.b) => (by omega : day < x.c)), List.filter_nil, List.append_nil]; exact hownW⟩
                    case measure => simp [intOf]; omega
                · have hbb1 : (x.b == number) = false := by simp [hbe]
                  clear hbe
                  by_cases hlz : x.l.length = 0
                  · have hlz2 : ¬ (0 : Int) < (x.l.length : Int) := by omega
                    have hln : x.l = [] := List.length_eq_zero_iff.1 hlz
                    have HLN := Lib.hid hln
                    clear hlz hln
                    have hputz : Hid (putAll ((sinceF sheet number day (xs.take (k + 1))).flatMap Nest.l) = putAll ((sinceF sheet number day (xs.take k)).flatMap Nest.l)) := by
                      unfold Hid
                      rw [HT.out]
                      unfold sinceF
                      rw [List.filter_append, List.flatMap_append]
                      by_cases hz : x.a = sheet ∧ number < x.b ∧ x.c ≤ day
                      · rw [List.filter_cons_of_pos (by simpa using hz), List.filter_nil, List.flatMap_cons, HLN.out]; simp
                      · rw [List.filter_cons_of_neg (by simpa using hz), List.filter_nil]; simp
                    go_wp2_with fail
                    refine wp_loop_rounds 1 ?_
                    rw [rounds_succ]
                    go_wp2
                    go_roundw
                    case rel => exact ⟨k + 1, by omega, by go_num, by rw [HNF.out, HFB2.out]; simp [hbb1], hbW, by rw [hputz.out]; exact hownW⟩
                    case measure => simp [intOf]; omega
                  · have hlz2 : (0 : Int) < (x.l.length : Int) := by omega
                    clear hlz
                    by_cases hgt : number < x.b
                    · by_cases hle : x.c ≤ day
                      · obtain ⟨F, hF⟩ : ∃ F, F = (sinceF sheet number day (xs.take k)).flatMap Nest.l := ⟨_, rfl⟩
                        have hFl : F.length ≤ 1048576 := by rw [hF]; exact Nat.le_trans (sinceF_len sheet number day (xs.take k)) (HLS.out k)
                        rw [← hF] at hownW hlen
                        have HF := Lib.hid hF
                        clear hF
                        go_wp2_with fail
                        clear hW0
                        go_loopw [10, 14] (fun v' i' wi => ∃ j : Nat, j ≤ x.l.length ∧ i' = .int .i64 j ∧ Below W0.heap.size W0 wi ∧ OwnF one 1 w.heap.size 3 wi v' (putAll (F ++ x.l.take j))) (fun _ i' _ => x.l.length - (intOf i').toNat)
                        case atStart => exact ⟨0, by omega, rfl, Below.refl _ _, by rw [List.take_zero, List.append_nil]; exact hownW⟩
                        case round =>
                          clear hownW
                          obtain ⟨j, hj, rfl, hbi, hownI⟩ := hrel
                          have q1 := (hbi.cell (p := ⟨wo.heap.size, 1, none⟩) hz0').trans g1
                          have q2 := (hbi.cell (p := ⟨wo.heap.size, 2, none⟩) hz0').trans g2
                          have q3 := (hbi.cell (p := ⟨wo.heap.size, 3, none⟩) hz0').trans g3
                          have hbw := ext_trans hbW hbi
                          by_cases hjl : j < x.l.length
                          · obtain ⟨p, b2, o2, hp, hA2, hb2, hc2⟩ := (hflW.ext hbi).at_ (k := j) hjl
                            subst hA2
                            have c9 : World.cell? wr ⟨b2, o2 + j, none⟩ = some (.int .i64 p) := by have := hc2 0 p rfl; simpa using this
                            have HTJ := Lib.hid (take_get hp)
                            have hlen2 : (putAll (F ++ x.l.take j)).length ≤ 16777215 := by
                              have h1 := putAll_len (F ++ x.l.take j)
                              rw [List.length_append, List.length_take] at h1
                              omega
                            have hj0 : (0 : Int) ≤ (j : Int) := by omega
                            have hj1 : (j : Int) < (x.l.length : Int) := by omega
                            clear hc2 hp g1 g2 g3
                            go_wp2_with fail
                            refine (l1PutOwnS_any w.heap.size _ (putAll (F ++ x.l.take j)) p wr hlen2 hbw.size hownI).mono ?_
                            rintro e w9 ⟨v9, rfl, hown9, hb9⟩
                            go_wp2
                            go_roundw
                            case rel => exact ⟨j + 1, by omega, by go_num, ext_trans hbi hb9, by rw [HTJ.out, ← List.append_assoc, putAll_snoc]; exact hown9⟩
                            case measure => simp [intOf]; omega
                          · have hjn : j = x.l.length := by omega
                            have hjn2 : ¬ (j : Int) < (x.l.length : Int) := by omega
                            rw [take_all (by omega : x.l.length ≤ j)] at hownI
                            clear hjn g1 g2 g3
                            go_wp2
                            go_roundw
                            case rel => exact ⟨k + 1, by omega, by go_num, by rw [HNF.out, HFB2.out]; simp [hbb1], hbw, by rw [HT.out]; unfold sinceF; rw [List.filter_append, List.flatMap_append, List.filter_cons_of_pos (by simpa using ⟨HS.out, hgt, hle⟩), List.filter_nil]; have h := HF.out; unfold sinceF at h; rw [← h]; simpa using hownI⟩
                            case measure => simp [intOf]; omega
                      · go_wp2_with fail
                        refine wp_loop_rounds 1 ?_
                        rw [rounds_succ]
                        go_wp2
                        go_roundw
                        case rel => exact ⟨k + 1, by omega, by go_num, by rw [HNF.out, HFB2.out]; simp [hbb1], hbW, by rw [HT.out]; unfold sinceF; rw [List.filter_append, List.filter_cons_of_neg (by simpa using fun (_ : x.a = sheet) (_ : number < x.b) => (by omega : day < x.c)), List.filter_nil, List.append_nil]; exact hownW⟩
                        case measure => simp [intOf]; omega
                    · go_wp2_with fail
                      refine wp_loop_rounds 1 ?_
                      rw [rounds_succ]
                      go_wp2
                      go_roundw
                      case rel => exact ⟨k + 1, by omega, by go_num, by rw [HNF.out, HFB2.out]; simp [hbb1], hbW, by rw [HT.out]; unfold sinceF; rw [List.filter_append, List.filter_cons_of_neg (by simpa using fun (_ : x.a = sheet) (h : number < x.b) => (by omega : day < x.c)), List.filter_nil, List.append_nil]; exact hownW⟩
                      case measure => simp [intOf]; omega
              · skip
                by_cases hlz : x.l.length = 0
                · have hlz2 : ¬ (0 : Int) < (x.l.length : Int) := by omega
                  have hln : x.l = [] := List.length_eq_zero_iff.1 hlz
                  have HLN := Lib.hid hln
                  clear hlz hln
                  have hputz : Hid (putAll ((sinceF sheet number day (xs.take (k + 1))).flatMap Nest.l) = putAll ((sinceF sheet number day (xs.take k)).flatMap Nest.l)) := by
                    unfold Hid
                    rw [HT.out]
                    unfold sinceF
                    rw [List.filter_append, List.flatMap_append]
                    by_cases hz : x.a = sheet ∧ number < x.b ∧ x.c ≤ day
                    · rw [List.filter_cons_of_pos (by simpa using hz), List.filter_nil, List.flatMap_cons, HLN.out]; simp
                    · rw [List.filter_cons_of_neg (by simpa using hz), List.filter_nil]; simp
                  go_wp2_with fail
                  refine wp_loop_rounds 1 ?_
                  rw [rounds_succ]
                  go_wp2
                  go_roundw
                  case rel => exact ⟨k + 1, by omega, by go_num, by rw [HNF.out, HFB2.out]; simp, hbW, by rw [hputz.out]; exact hownW⟩
                  case measure => simp [intOf]; omega
                · have hlz2 : (0 : Int) < (x.l.length : Int) := by omega
                  clear hlz
                  by_cases hgt : number < x.b
                  · by_cases hle : x.c ≤ day
                    · obtain ⟨F, hF⟩ : ∃ F, F = (sinceF sheet number day (xs.take k)).flatMap Nest.l := ⟨_, rfl⟩
                      have hFl : F.length ≤ 1048576 := by rw [hF]; exact Nat.le_trans (sinceF_len sheet number day (xs.take k)) (HLS.out k)
                      rw [← hF] at hownW hlen
                      have HF := Lib.hid hF
                      clear hF
                      go_wp2_with fail
                      clear hW0
                      go_loopw [10, 14] (fun v' i' wi => ∃ j : Nat, j ≤ x.l.length ∧ i' = .int .i64 j ∧ Below W0.heap.size W0 wi ∧ OwnF one 1 w.heap.size 3 wi v' (putAll (F ++ x.l.take j))) (fun _ i' _ => x.l.length - (intOf i').toNat)
                      case atStart => exact ⟨0, by omega, rfl, Below.refl _ _, by rw [List.take_zero, List.append_nil]; exact hownW⟩
                      case round =>
                        clear hownW
                        obtain ⟨j, hj, rfl, hbi, hownI⟩ := hrel
                        have q1 := (hbi.cell (p := ⟨wo.heap.size, 1, none⟩) hz0').trans g1
                        have q2 := (hbi.cell (p := ⟨wo.heap.size, 2, none⟩) hz0').trans g2
                        have q3 := (hbi.cell (p := ⟨wo.heap.size, 3, none⟩) hz0').trans g3
                        have hbw := ext_trans hbW hbi
                        by_cases hjl : j < x.l.length
                        · obtain ⟨p, b2, o2, hp, hA2, hb2, hc2⟩ := (hflW.ext hbi).at_ (k := j) hjl
                          subst hA2
                          have c9 : World.cell? wr ⟨b2, o2 + j, none⟩ = some (.int .i64 p) := by have := hc2 0 p rfl; simpa using this
                          have HTJ := Lib.hid (take_get hp)
                          have hlen2 : (putAll (F ++ x.l.take j)).length ≤ 16777215 := by
                            have h1 := putAll_len (F ++ x.l.take j)
                            rw [List.length_append, List.length_take] at h1
                            omega
                          have hj0 : (0 : Int) ≤ (j : Int) := by omega
                          have hj1 : (j : Int) < (x.l.length : Int) := by omega
                          clear hc2 hp g1 g2 g3
                          go_wp2_with fail
                          refine (l1PutOwnS_any w.heap.size _ (putAll (F ++ x.l.take j)) p wr hlen2 hbw.size hownI).mono ?_
                          rintro e w9 ⟨v9, rfl, hown9, hb9⟩
                          go_wp2
                          go_roundw
                          case rel => exact ⟨j + 1, by omega, by go_num, ext_trans hbi hb9, by rw [HTJ.out, ← List.append_assoc, putAll_snoc]; exact hown9⟩
                          case measure => simp [intOf]; omega
                        · have hjn : j = x.l.length := by omega
                          have hjn2 : ¬ (j : Int) < (x.l.length : Int) := by omega
                          rw [take_all (by omega : x.l.length ≤ j)] at hownI
                          clear hjn g1 g2 g3
                          go_wp2
                          go_roundw
                          case rel => exact ⟨k + 1, by omega, by go_num, by rw [HNF.out, HFB2.out]; simp, hbw, by rw [HT.out]; unfold sinceF; rw [List.filter_append, List.flatMap_append, List.filter_cons_of_pos (by simpa using ⟨HS.out, hgt, hle⟩), List.filter_nil]; have h := HF.out; unfold sinceF at h; rw [← h]; simpa using hownI⟩
                          case measure => simp [intOf]; omega
                    · go_wp2_with fail
                      refine wp_loop_rounds 1 ?_
                      rw [rounds_succ]
                      go_wp2
                      go_roundw
                      case rel => exact ⟨k + 1, by omega, by go_num, by rw [HNF.out, HFB2.out]; simp, hbW, by rw [HT.out]; unfold sinceF; rw [List.filter_append, List.filter_cons_of_neg (by simpa using fun (_ : x.a = sheet) (_ : number < x.b) => (by omega : day < x.c)), List.filter_nil, List.append_nil]; exact hownW⟩
                      case measure => simp [intOf]; omega
                  · go_wp2_with fail
                    refine wp_loop_rounds 1 ?_
                    rw [rounds_succ]
                    go_wp2
                    go_roundw
                    case rel => exact ⟨k + 1, by omega, by go_num, by rw [HNF.out, HFB2.out]; simp, hbW, by rw [HT.out]; unfold sinceF; rw [List.filter_append, List.filter_cons_of_neg (by simpa using fun (_ : x.a = sheet) (h : number < x.b) => (by omega : day < x.c)), List.filter_nil, List.append_nil]; exact hownW⟩
                    case measure => simp [intOf]; omega
            · have HS := Lib.hid hs
              have hsn : (x.a != sheet) = true := by simp [hs]
              have hsn2 : (x.a == sheet) = false := by simp [hs]
              clear hs
              have hnf : tb (∃ e ∈ xs.take (k + 1), e.a = sheet ∧ e.b = number) = tb (∃ e ∈ xs.take k, e.a = sheet ∧ e.b = number) := by
                rw [HT.out]
                exact tb_iff (HFS.out.trans ⟨fun h => by rcases h with h | h; exact h; exact absurd h.1 HS.out, .inl⟩)
              have HNF := Lib.hid hnf
              generalize tb (∃ e ∈ xs.take k, e.a = sheet ∧ e.b = number) = fb at HNF hnf ⊢
              clear hnf
              go_wp2
              go_roundw
              case rel => exact ⟨k + 1, by omega, by go_num, by rw [HNF.out], hbW, by rw [HT.out]; unfold sinceF; rw [List.filter_append, List.filter_cons_of_neg (by simp [HS.out]), List.filter_nil, List.append_nil]; exact hownW⟩
              case measure => simp [intOf]; omega
          · have hkn : k = n := by omega
            subst hkn
            rw [take_all (by rw [← hN.out]; exact Nat.le_refl _)] at hown ⊢
            by_cases hf : ∃ e ∈ xs, e.a = sheet ∧ e.b = number
            · rw [tb_t hf]
              have hok2 : CsOk xs sheet number day := ⟨H1.out, h3, (HFO.out H1.out).2 hf⟩
              have HOK2 := Lib.hid hok2
              clear hf hok2
              go_wp2
              go_ret2
              obtain ⟨B, d, hv, hF⟩ := hown.form one_length
              rw [sel_t HOK2.out, tb_t HOK2.out]
              exact ⟨B, d, by rw [hv]; rfl, hF, hbr⟩
            · rw [tb_f hf]
              have hok2 : ¬ CsOk xs sheet number day := fun h => hf ((HFO.out h.1).1 h.2.2)
              have HOK2 := Lib.hid hok2
              clear hf hok2
              go_wp2
              go_ret2
              rw [sel_f HOK2.out, tb_f HOK2.out]
              exact ⟨some ⟨_, 0, none⟩, 0, rfl, FlO.nil, ext_trans hbr (ext_alloc _ _)⟩
      · go_wp2_with fail
        refine (l2Day_f day _ h3).mono ?_
        rintro e w9 ⟨rfl, rfl⟩
        go_wp2
        go_ret2
        have hok : ¬ (Eds xs ∧ (1 ≤ sheet ∧ sheet ≤ 999) ∧ (0 ≤ day ∧ day ≤ 4000)) := fun h => h3 h.2.2
        have hok2 : ¬ (CsOk xs sheet number day) := fun h => hok ⟨h.1, HID.out h.1 (by obtain ⟨e, he, ha, _⟩ := (HFO.out h.1).1 h.2.2; exact ⟨e, he, ha⟩), h.2.1⟩
        rw [sel_f hok2, tb_f hok2]
        exact ⟨some ⟨w.heap.size, 0, none⟩, 0, rfl, FlO.nil, (ext_trans hC0 hb1)⟩
    · go_wp2_with fail
      refine (l18Id_f sheet _ h2).mono ?_
      rintro e w9 ⟨rfl, rfl⟩
      go_wp2
      go_ret2
      have hok : ¬ (Eds xs ∧ (1 ≤ sheet ∧ sheet ≤ 999) ∧ (0 ≤ day ∧ day ≤ 4000)) := fun h => h2 h.2.1
      have hok2 : ¬ (CsOk xs sheet number day) := fun h => hok ⟨h.1, HID.out h.1 (by obtain ⟨e, he, ha, _⟩ := (HFO.out h.1).1 h.2.2; exact ⟨e, he, ha⟩), h.2.1⟩
      rw [sel_f hok2, tb_f hok2]
      exact ⟨some ⟨w.heap.size, 0, none⟩, 0, rfl, FlO.nil, (ext_trans hC0 hb1)⟩
  · rw [tb_f h1]
    have H1 := Lib.hid h1
    clear h1
    go_wp2
    go_ret2
    have hok : ¬ (Eds xs ∧ (1 ≤ sheet ∧ sheet ≤ 999) ∧ (0 ≤ day ∧ day ≤ 4000)) := fun h => H1.out h.1
    have hok2 : ¬ (CsOk xs sheet number day) := fun h => hok ⟨h.1, HID.out h.1 (by obtain ⟨e, he, ha, _⟩ := (HFO.out h.1).1 h.2.2; exact ⟨e, he, ha⟩), h.2.1⟩
    rw [sel_f hok2, tb_f hok2]
    exact ⟨some ⟨w.heap.size, 0, none⟩, 0, rfl, FlO.nil, (ext_trans hC0 hb1)⟩
end Go.Proofs.Ytadcjfbcfiljkaa
