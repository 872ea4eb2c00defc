/- A scan drawn. No condition. -/
import Derived.Test.YtjacadkbkkkgfaaS17D
import Derived.Deep.RegionLaw
namespace Go.Proofs.Ytjacadkbkkkgfaa
open Go.RowKit
set_option linter.unusedVariables false
set_option linter.unusedSimpArgs false

set_option maxHeartbeats 8000000 in
set_option maxRecDepth 100000 in
theorem scan17_any (R Q : Nat) (hR : R ≤ 6) (hQ : Q ≤ 6) (g : Nat) (C : Option Addr) (n cap k : Nat) (w : World) (hC : CurAt g C n cap k w) (hk : k ≤ 274877906944) (hn : n ≤ 1099511627776) :
    Calls Try.prog 49 #[.pointer (some ⟨g, 0, none⟩), .int .i64 (R : Int), .int .i64 (Q : Int)] w (End17 g C n cap (k + 400) w) := by
  obtain ⟨i0, hi, hz0e, hz1e, hz2e⟩ := info_parts infoTile
  obtain ⟨V0, hV0, hB0, hz0, hf0, _⟩ := box_world w #[Value.int .i64 0, .int .i64 0, .slice none 0 0] 26
  have hv0 : Var3 V0 w.heap.size (.int .i64 0) (.int .i64 0) (.slice none 0 0) := hV0 ▸ var3_box w _ _ _ _
  obtain ⟨V1, hV1, hB1, hz1, _, _⟩ := box_world V0 #[Value.int .i64 (R : Int), .int .i64 (Q : Int), .slice none 0 0] 26
  have hv1 : Var3 V1 V0.heap.size (.int .i64 (R : Int)) (.int .i64 (Q : Int)) (.slice none 0 0) := hV1 ▸ var3_box V0 _ _ _ _
  obtain ⟨B, hB⟩ : ∃ B, B = w.heap.size + 1 := ⟨_, rfl⟩
  have hVs : V0.heap.size = w.heap.size + 1 := by rw [← hV0]; simp
  have hlt := hC.lt
  have hgB : g + 1 < B := by omega
  have hwB : w.heap.size < B := by omega
  have hB1' : B - 1 = w.heap.size := by omega
  rw [hVs, ← hB] at hv1
  have hv01 := hv0.ext hB1
  rw [← hB1'] at hv01
  have hS0 : S17 g C n cap B R Q (.slice none 0 0) [] k w V1 := ⟨hC.ext (ext_trans hB0 hB1), hv1, OwnF.none_, Touch.of_ext (ext_trans hB0 hB1), hv01⟩
  have HV0 := Lib.hid hV0
  have HV1 := Lib.hid hV1
  have HB := Lib.hid hB
  have HB1 := Lib.hid hB1'
  have HPK := Lib.hid (pick_any 6 g C n cap k V1 hS0.cur (by omega) hn)
  have HS0 := Lib.hid hS0
  clear hV0 hV1 hB hC hS0 hv01 hv0 hv1 hf0 hVs hB1'
  go_enter Try.func49, Try.ntmps49
  go_wp2_with fail
  rw [HV0.out, HV1.out, ← HB.out]
  ((with_reducible refine (HPK.out).mono ?_); rintro e w1 ⟨_, rfl, ⟨z, rfl, hz0', hz6⟩, hC1, hT1⟩)
  have HS1 := Lib.hid (HS0.out.draw hgB hC1 hT1)
  clear hC1 hT1
  go_wp2
  obtain ⟨ra, hra⟩ : ∃ ra : Int, ra = 1 + z := ⟨_, rfl⟩
  rw [← hra]
  clear hra
  go_loopw [9, 10] (fun ro _ wr => ∃ (r : Nat) (v : Value) (xs : List Tile), r ≤ R ∧ ro = .int .i64 (r : Int) ∧ xs.length ≤ r * 6 ∧ S17 g C n cap B R Q v xs (k + 2 + r * 40) w wr) (fun ro _ _ => R - (intOf ro).toNat)
  case atStart => exact ⟨0, _, [], by omega, rfl, by simp, HS1.out⟩
  case round =>
    obtain ⟨r, v, xs, hr, rfl, hxl, hS⟩ := hrel
    by_cases hlt1 : r < R
    · have hr0 : (0 : Int) ≤ (r : Int) := by omega
      have hr1 : (r : Int) < (R : Int) := by omega
      have HS := Lib.hid hS
      clear hS
      go_wp2
      obtain ⟨wo, hwo⟩ : ∃ x, x = wr := ⟨_, rfl⟩
      subst hwo
      go_loopw [10] (fun co wr => ∃ (c : Nat) (v : Value) (ys : List Tile), c ≤ Q ∧ co = .int .i64 (c : Int) ∧ ys.length ≤ r * 6 + c ∧ S17 g C n cap B R Q v ys (k + 2 + r * 40 + c * 5) w wr) (fun co _ => Q - (intOf co).toNat)
      case atStart => exact ⟨0, v, xs, by omega, rfl, by omega, HS.out⟩
      case round =>
        obtain ⟨c, v, ys, hc, rfl, hyl, hS⟩ := hrel
        by_cases hlt2 : c < Q
        · have hc0 : (0 : Int) ≤ (c : Int) := by omega
          have hc1 : (c : Int) < (Q : Int) := by omega
          have HS2 := Lib.hid hS
          have HL := Lib.hid hyl
          clear hS hyl
          by_cases h6 : ra = 6
          · subst h6
            have b0 := HS2.out.box.c0
            have b1 := HS2.out.box.c1
            have b2 := HS2.out.box.c2
            have bz := HS2.out.box.fz
            have bl := HS2.out.box.lt
            have HDR := Lib.hid (sum17_any g C n cap _ wr.drew (HS2.out.cur.ext (ext_drew wr)) (by omega) hn)
            go_wp2_with fail
            go_region_law (first | (refine step_append_all (f := Tile.ints) rfl (.tmp 36) (.tmp 42) 24 rfl (B + 1) i0 _ 3 24 Try.underlying24 hi hz0e hz1e hz2e rfl (by decide) v ys rfl ?_ (some ⟨w4.heap.size, 0, none⟩) 1 [⟨(r : Int), (c : Int), y⟩] rfl ?_ (fun _ => rfl) ?_ (by decide) ?_ ?_; exact HS4.out.own.ext (ext_alloc _ _); exact tile_box w4 _ _ _ _; (have h9 := HL.out; simp; omega); (have h9 := HS4.out.box.lt; simp; omega); intro v6 w6 hown6 hg6 hb6; have HS6 := Lib.hid ((HS4.out.ext (ext_alloc _ _)).app hgB (by omega) hb6 hown6); have h8 := (HS4.out.ext (ext_alloc w4 _)).box.below hb6 (Nat.lt_succ_self _); have d0 := h8.c0; have d1 := h8.c1; have d2 := h8.c2; have dz := h8.fz; have dl := h8.lt; (obtain ⟨A9, d9, hv9, hF9⟩ := hown6.form Tile.ints_length); (obtain ⟨zs, hzs⟩ : ∃ zs, zs = ys ++ [⟨(r : Int), (c : Int), y⟩] := ⟨_, rfl⟩); rw [← hzs] at HS6 hv9; (obtain ⟨m9, hm9⟩ : ∃ m9, m9 = zs.length := ⟨_, rfl⟩); rw [← hm9] at hv9; subst hv9; have HZ := Lib.hid hzs; have HM9 := Lib.hid hm9; clear hown6 h8 hF9 hzs hm9) | (go_simp; go_at_call 60; (with_reducible refine (HDR.out).mono ?_); rintro e w4 ⟨_, rfl, ⟨y, rfl, hy0, hy1⟩, hC4, hT4⟩; have HS4 := Lib.hid ((HS2.out.ext (ext_drew wr)).draw hgB hC4 hT4); have f0 := HS4.out.box.c0; have f1 := HS4.out.box.c1; have f2 := HS4.out.box.c2; have fz := HS4.out.box.fz; have fl := HS4.out.box.lt; clear hC4 hT4))
            all_goals
              go_wp2
              go_roundw
              case rel => exact ⟨c + 1, _, zs, by omega, by go_num, by have := HL.out; rw [HZ.out]; simp; omega, HS6.out.mono (by omega)⟩
              case measure => simp [intOf]; omega
          · have h6i : ((ra : Int) == 6) = false := by simp [h6]
            have HON := Lib.hid (one_any ra g C n cap _ wr HS2.out.cur (by omega) hn)
            go_wp2_with fail
            ((with_reducible refine (HON.out).mono ?_); rintro e w2 ⟨_, rfl, ⟨b, rfl⟩, hC2, hT2⟩)
            have HS3 := Lib.hid (HS2.out.draw hgB hC2 hT2)
            clear hC2 hT2
            cases b
            · have b0 := HS3.out.box.c0
              have b1 := HS3.out.box.c1
              have b2 := HS3.out.box.c2
              have bz := HS3.out.box.fz
              have bl := HS3.out.box.lt
              have HDR := Lib.hid (sum17_any g C n cap _ w2.drew (HS3.out.cur.ext (ext_drew w2)) (by omega) hn)
              go_wp2_with fail
              go_region_law (first | (refine step_append_all (f := Tile.ints) rfl (.tmp 36) (.tmp 42) 24 rfl (B + 1) i0 _ 3 24 Try.underlying24 hi hz0e hz1e hz2e rfl (by decide) v ys rfl ?_ (some ⟨w4.heap.size, 0, none⟩) 1 [⟨(r : Int), (c : Int), y⟩] rfl ?_ (fun _ => rfl) ?_ (by decide) ?_ ?_; exact HS4.out.own.ext (ext_alloc _ _); exact tile_box w4 _ _ _ _; (have h9 := HL.out; simp; omega); (have h9 := HS4.out.box.lt; simp; omega); intro v6 w6 hown6 hg6 hb6; have HS6 := Lib.hid ((HS4.out.ext (ext_alloc _ _)).app hgB (by omega) hb6 hown6); have h8 := (HS4.out.ext (ext_alloc w4 _)).box.below hb6 (Nat.lt_succ_self _); have d0 := h8.c0; have d1 := h8.c1; have d2 := h8.c2; have dz := h8.fz; have dl := h8.lt; (obtain ⟨A9, d9, hv9, hF9⟩ := hown6.form Tile.ints_length); (obtain ⟨zs, hzs⟩ : ∃ zs, zs = ys ++ [⟨(r : Int), (c : Int), y⟩] := ⟨_, rfl⟩); rw [← hzs] at HS6 hv9; (obtain ⟨m9, hm9⟩ : ∃ m9, m9 = zs.length := ⟨_, rfl⟩); rw [← hm9] at hv9; subst hv9; have HZ := Lib.hid hzs; have HM9 := Lib.hid hm9; clear hown6 h8 hF9 hzs hm9) | (go_simp; go_at_call 60; (with_reducible refine (HDR.out).mono ?_); rintro e w4 ⟨_, rfl, ⟨y, rfl, hy0, hy1⟩, hC4, hT4⟩; have HS4 := Lib.hid ((HS3.out.ext (ext_drew w2)).draw hgB hC4 hT4); have f0 := HS4.out.box.c0; have f1 := HS4.out.box.c1; have f2 := HS4.out.box.c2; have fz := HS4.out.box.fz; have fl := HS4.out.box.lt; clear hC4 hT4))
              all_goals
                go_wp2
                go_roundw
                case rel => exact ⟨c + 1, _, zs, by omega, by go_num, by have := HL.out; rw [HZ.out]; simp; omega, HS6.out.mono (by omega)⟩
                case measure => simp [intOf]; omega
            · go_wp2
              go_roundw
              case rel => exact ⟨c + 1, v, ys, by omega, by go_num, by have := HL.out; omega, HS3.out.mono (by omega)⟩
              case measure => simp [intOf]; omega
        · have hcq : Q = c := by omega
          have HS2 := Lib.hid hS
          clear hS
          go_wp2
          go_roundw
          case rel => exact ⟨r + 1, v, ys, by omega, by go_num, by omega, HS2.out.mono (by omega)⟩
          case measure => simp [intOf]; omega
    · have hrR : R = r := by omega
      subst hrR
      have HS := Lib.hid hS
      have HXL := Lib.hid (show xs.length ≤ 36 by omega)
      have HK9 := Lib.hid (show k + 2 + R * 40 ≤ k + 300 by omega)
      have HON := Lib.hid (one_any 16 g C n cap _ wr hS.cur (by omega) hn)
      clear hS
      go_wp2_with fail
      ((with_reducible refine (HON.out).mono ?_); rintro e w2 ⟨_, rfl, ⟨b, rfl⟩, hC2, hT2⟩)
      have HS2 := Lib.hid (HS.out.draw hgB hC2 hT2)
      clear hC2 hT2
      obtain ⟨A8, d8, hv9, hF9⟩ := HS2.out.own.form Tile.ints_length
      obtain ⟨m8, hm8⟩ : ∃ m8, m8 = xs.length := ⟨_, rfl⟩
      rw [← hm8] at hv9
      subst hv9
      have HM8 := Lib.hid hm8
      clear hF9 hm8
      cases b
      · have g0 := HS2.out.box.c0
        have g1 := HS2.out.box.c1
        have g2 := HS2.out.box.c2
        have gz := HS2.out.box.fz
        have gl := HS2.out.box.lt
        have hres := HS2.out.res
        rw [HB1.out] at hres
        have h0 := hres.c0
        have h1 := hres.c1
        have h2 := hres.c2
        have hz := hres.fz
        have hl := hres.lt
        go_wp2
        refine bodyPost_ret (v := .agg #[.int .i64 (R : Int), .int .i64 (Q : Int), .slice A8 m8 d8]) (by simp [results, Try.results49, go_sem, h0, h1, h2, hl]) rfl (fin17 HS2.out HM8.out HB1.out rfl hgB (by have := HXL.out; omega) (by have := HK9.out; omega) _ _ _)
      · have HPK2 := Lib.hid (pick_any 5 g C n cap _ w2 HS2.out.cur (by have := HK9.out; omega) hn)
        go_wp2_with fail
        ((with_reducible refine (HPK2.out).mono ?_); rintro e w3 ⟨_, rfl, ⟨y9, rfl, hy90, hy95⟩, hC3, hT3⟩)
        have HS3 := Lib.hid (HS2.out.draw hgB hC3 hT3)
        clear hC3 hT3
        have hy5 : y9 = 0 ∨ y9 = 1 ∨ y9 = 2 ∨ y9 = 3 ∨ y9 = 4 := by omega
        rcases hy5 with rfl | rfl | rfl | rfl | rfl
        · have HAM := Lib.hid (among_any (some ⟨w3.heap.size, 0, none⟩) 2 2 [0, 7] rfl w3.heap.size (w3.heap.size + 1) g C n cap _ (w3.alloc (.cells #[Value.int .i64 0, .int .i64 7] 3)) (HS3.out.cur.ext (ext_alloc _ _)) (by have := HK9.out; omega) hn (lit_flo w3 [0, 7] _ _ rfl) (by decide) (by decide) (.inl HS3.out.cur.lt))
          go_wp2_with fail
          ((with_reducible refine (HAM.out).mono ?_); rintro e w4 ⟨_, rfl, ⟨q, hq, rfl⟩, hC4, hT4⟩)
          have HS4 := Lib.hid ((HS3.out.ext (ext_alloc _ _)).draw hgB hC4 hT4)
          have hl4 := HS4.out.box.lt
          have HS5 := Lib.hid (HS4.out.set hgB (by omega) (HS4.out.box.set0 (.int .i64 q)) HS4.out.own)
          clear hC4 hT4 hq
          have g0 := HS4.out.box.c0
          have g1 := HS4.out.box.c1
          have g2 := HS4.out.box.c2
          have gz := HS4.out.box.fz
          have gl := HS4.out.box.lt
          have hres := HS4.out.res
          rw [HB1.out] at hres
          have h0 := hres.c0
          have h1 := hres.c1
          have h2 := hres.c2
          have hz := hres.fz
          have hl := hres.lt
          go_wp2
          refine bodyPost_ret (v := .agg #[.int .i64 q, .int .i64 (Q : Int), .slice A8 m8 d8]) (by simp [results, Try.results49, go_sem, h0, h1, h2, hl]) rfl (fin17 HS5.out HM8.out HB1.out rfl hgB (by have := HXL.out; omega) (by have := HK9.out; omega) _ _ _)
        · have HAM := Lib.hid (among_any (some ⟨w3.heap.size, 0, none⟩) 2 2 [0, 7] rfl w3.heap.size (w3.heap.size + 1) g C n cap _ (w3.alloc (.cells #[Value.int .i64 0, .int .i64 7] 3)) (HS3.out.cur.ext (ext_alloc _ _)) (by have := HK9.out; omega) hn (lit_flo w3 [0, 7] _ _ rfl) (by decide) (by decide) (.inl HS3.out.cur.lt))
          go_wp2_with fail
          ((with_reducible refine (HAM.out).mono ?_); rintro e w4 ⟨_, rfl, ⟨q, hq, rfl⟩, hC4, hT4⟩)
          have HS4 := Lib.hid ((HS3.out.ext (ext_alloc _ _)).draw hgB hC4 hT4)
          have hl4 := HS4.out.box.lt
          have HS5 := Lib.hid (HS4.out.set hgB (by omega) (HS4.out.box.set1 (.int .i64 q)) HS4.out.own)
          clear hC4 hT4 hq
          have g0 := HS4.out.box.c0
          have g1 := HS4.out.box.c1
          have g2 := HS4.out.box.c2
          have gz := HS4.out.box.fz
          have gl := HS4.out.box.lt
          have hres := HS4.out.res
          rw [HB1.out] at hres
          have h0 := hres.c0
          have h1 := hres.c1
          have h2 := hres.c2
          have hz := hres.fz
          have hl := hres.lt
          go_wp2
          refine bodyPost_ret (v := .agg #[.int .i64 (R : Int), .int .i64 q, .slice A8 m8 d8]) (by simp [results, Try.results49, go_sem, h0, h1, h2, hl]) rfl (fin17 HS5.out HM8.out HB1.out rfl hgB (by have := HXL.out; omega) (by have := HK9.out; omega) _ _ _)
        · have hwr : IntKind.i64.wrap ((R : Int) - 1) = (R : Int) - 1 := by rw [IntKind.wrap_i64]; omega
          have b0 := HS3.out.box.c0
          have b1 := HS3.out.box.c1
          have b2 := HS3.out.box.c2
          have bz := HS3.out.box.fz
          have bl := HS3.out.box.lt
          have HDR := Lib.hid (pick_any 2 g C n cap _ w3.drew (HS3.out.cur.ext (ext_drew w3)) (by have := HK9.out; omega) hn)
          go_wp2_with fail
          go_region_law (first | (refine step_append_all (f := Tile.ints) rfl (.tmp 64) (.tmp 70) 24 rfl (B + 1) i0 _ 3 24 Try.underlying24 hi hz0e hz1e hz2e rfl (by decide) (.slice A8 m8 d8) xs rfl ?_ (some ⟨w4.heap.size, 0, none⟩) 1 [⟨(R : Int) - 1, y, 3⟩] rfl ?_ (fun _ => rfl) ?_ (by decide) ?_ ?_; exact HS4.out.own.ext (ext_alloc _ _); exact tile_box w4 _ _ _ _; (have h9 := HXL.out; simp; omega); (have h9 := HS4.out.box.lt; simp; omega); intro v6 w6 hown6 hg6 hb6; have HS6 := Lib.hid ((HS4.out.ext (ext_alloc _ _)).app hgB (by omega) hb6 hown6); have h8 := (HS4.out.ext (ext_alloc w4 _)).box.below hb6 (Nat.lt_succ_self _); have r8 := (HS4.out.ext (ext_alloc w4 _)).res.below hb6 (by omega); rw [HB1.out] at r8; have h0 := r8.c0; have h1 := r8.c1; have h2 := r8.c2; have hz := r8.fz; have hl := r8.lt; have d0 := h8.c0; have d1 := h8.c1; have d2 := h8.c2; have dz := h8.fz; have dl := h8.lt; (obtain ⟨A9, d9, hv9, hF9⟩ := hown6.form Tile.ints_length); (obtain ⟨zs, hzs⟩ : ∃ zs, zs = xs ++ [⟨(R : Int) - 1, y, 3⟩] := ⟨_, rfl⟩); rw [← hzs] at HS6 hv9; (obtain ⟨m9, hm9⟩ : ∃ m9, m9 = zs.length := ⟨_, rfl⟩); rw [← hm9] at hv9; subst hv9; have HZ := Lib.hid hzs; have HM9 := Lib.hid hm9; clear hown6 h8 hF9 hzs hm9) | (go_simp; go_at_call 55; (with_reducible refine (HDR.out).mono ?_); rintro e w4 ⟨_, rfl, ⟨y, rfl, hy0, hy1⟩, hC4, hT4⟩; have HS4 := Lib.hid ((HS3.out.ext (ext_drew w3)).draw hgB hC4 hT4); have f0 := HS4.out.box.c0; have f1 := HS4.out.box.c1; have f2 := HS4.out.box.c2; have fz := HS4.out.box.fz; have fl := HS4.out.box.lt; clear hC4 hT4))
          all_goals
            go_wp2
            refine bodyPost_ret (v := .agg #[.int .i64 (R : Int), .int .i64 (Q : Int), .slice A9 m9 d9]) (by simp [results, Try.results49, go_sem, h0, h1, h2, hl]) rfl (fin17 HS6.out HM9.out HB1.out rfl hgB (by have := HXL.out; rw [HZ.out]; simp; omega) (by have := HK9.out; omega) _ _ _)
        · have g0 := HS3.out.box.c0
          have g1 := HS3.out.box.c1
          have g2 := HS3.out.box.c2
          have gz := HS3.out.box.fz
          have gl := HS3.out.box.lt
          have hres := HS3.out.res
          rw [HB1.out] at hres
          have h0 := hres.c0
          have h1 := hres.c1
          have h2 := hres.c2
          have hz := hres.fz
          have hl := hres.lt
          go_wp2_with (at_builtin; refine wpList_append_flat (f := Tile.ints) (y := (⟨(R : Int), 0, 0⟩ : Tile)) rfl _ _ _ rfl (B + 1) i0 _ 3 24 Try.underlying24 hi hz0e hz1e hz2e rfl (by decide) _ _ rfl rfl HS3.out.own rfl ?_ (by decide) ?_ ?_; (have := HXL.out; omega); (have h9 := HS3.out.box.lt; omega); intro v6 w6 hown6 hg6 hb6; have HS6 := Lib.hid (HS3.out.app hgB (by omega) hb6 hown6); have h8 := HS3.out.box.below hb6 (Nat.lt_succ_self _); have r8 := HS3.out.res.below hb6 (by omega); rw [HB1.out] at r8; have h0 := r8.c0; have h1 := r8.c1; have h2 := r8.c2; have hz := r8.fz; have hl := r8.lt; have d0 := h8.c0; have d1 := h8.c1; have d2 := h8.c2; have dz := h8.fz; have dl := h8.lt; (obtain ⟨A9, d9, hv9, hF9⟩ := hown6.form Tile.ints_length); (obtain ⟨zs, hzs⟩ : ∃ zs, zs = xs ++ [(⟨(R : Int), 0, 0⟩ : Tile)] := ⟨_, rfl⟩); rw [← hzs] at HS6 hv9; (obtain ⟨m9, hm9⟩ : ∃ m9, m9 = zs.length := ⟨_, rfl⟩); rw [← hm9] at hv9; subst hv9; have HZ := Lib.hid hzs; have HM9 := Lib.hid hm9; clear hown6 h8 hF9 hzs hm9)
          refine bodyPost_ret (v := .agg #[.int .i64 (R : Int), .int .i64 (Q : Int), .slice A9 m9 d9]) (by simp [results, Try.results49, go_sem, h0, h1, h2, hl]) rfl (fin17 HS6.out HM9.out HB1.out rfl hgB (by have := HXL.out; rw [HZ.out]; simp; omega) (by have := HK9.out; omega) _ _ _)
        · have HAM := Lib.hid (among_any (some ⟨w3.heap.size, 0, none⟩) 2 2 [-1, 65521] rfl w3.heap.size (w3.heap.size + 1) g C n cap _ (w3.alloc (.cells #[Value.int .i64 (-1), .int .i64 65521] 3)) (HS3.out.cur.ext (ext_alloc _ _)) (by have := HK9.out; omega) hn (lit_flo w3 [-1, 65521] _ _ rfl) (by decide) (by decide) (.inl HS3.out.cur.lt))
          go_wp2_with fail
          ((with_reducible refine (HAM.out).mono ?_); rintro e w4 ⟨_, rfl, ⟨q, hq, rfl⟩, hC4, hT4⟩)
          have HS4 := Lib.hid ((HS3.out.ext (ext_alloc _ _)).draw hgB hC4 hT4)
          have hl4 := HS4.out.box.lt
          obtain ⟨W5, hW5, hB5, _, _, _⟩ := box_world w4 #[Value.int .i64 0, .int .i64 0, .int .i64 q] 39
          have HS7 := Lib.hid (HS4.out.ext hB5)
          have ho5 : OwnF Tile.ints 3 (B + 1) 39 W5 (.slice (some ⟨w4.heap.size, 0, none⟩) 1 1) [(⟨0, 0, q⟩ : Tile)] := hW5 ▸ lit_own w4 (B + 1) 0 0 q 39 (by omega)
          have HS5 := Lib.hid (HS7.out.set (j := 2) hgB (by omega) (Var3.set2 HS7.out.box (.slice (some ⟨w4.heap.size, 0, none⟩) 1 1)) ho5)
          clear hC4 hT4 hq ho5
          have g0 := HS7.out.box.c0
          have g1 := HS7.out.box.c1
          have g2 := HS7.out.box.c2
          have gz := HS7.out.box.fz
          have gl := HS7.out.box.lt
          have hres := HS7.out.res
          rw [HB1.out] at hres
          have h0 := hres.c0
          have h1 := hres.c1
          have h2 := hres.c2
          have hz := hres.fz
          have hl := hres.lt
          go_wp2
          refine bodyPost_ret (v := .agg #[.int .i64 (R : Int), .int .i64 (Q : Int), .slice (some ⟨w4.heap.size, 0, none⟩) 1 1]) (by simp [results, Try.results49, go_sem, h0, h1, h2, hl]) rfl (fin17 HS5.out rfl HB1.out rfl hgB (by simp) (by have := HK9.out; omega) _ _ _)
end Go.Proofs.Ytjacadkbkkkgfaa
