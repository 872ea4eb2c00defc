/- PatchScan: the reference's side. -/
import Derived.Test.YtjacadkbkkkgfaaPbD
import Derived.Test.YtjacadkbkkkgfaaPutTS
import Derived.Test.YtjacadkbkkkgfaaAlike
import Derived.Test.YtjacadkbkkkgfaaCloneT
namespace Go.Proofs.Ytjacadkbkkkgfaa
open Go.RowKit
set_option linter.unusedVariables false
set_option linter.unusedSimpArgs false

set_option maxHeartbeats 8000000 in
set_option maxRecDepth 100000 in
theorem specPatchScan_any (ra ca rb cb : Int) (A : Option Addr) (c : Nat) (xs : List Tile) (BY : Option Addr) (dy : Nat) (ys : List Tile) (w : World) (hn : xs.length ≤ 1048576) (hA : Fl Tile.ints 3 w A xs) (hm : ys.length ≤ 1048576) (hBy : Fl Tile.ints 3 w BY ys) :
    Calls Try.prog 8 #[.agg #[.int .i64 ra, .int .i64 ca, .slice A xs.length c], .agg #[.int .i64 rb, .int .i64 cb, .slice BY ys.length dy]] w (RetSc w (seli (AlikeS ra ca xs rb cb ys) ra) (seli (AlikeS ra ca xs rb cb ys) ca) (sel (AlikeS ra ca xs rb cb ys) (patchL id xs ys)) (tb (AlikeS ra ca xs rb cb ys))) := by
  obtain ⟨i0, hi, hz0e, hz1e, hz2e⟩ := info_parts infoTile
  obtain ⟨V0, hV0, hB0, hz0, _, _⟩ := box_world w #[Value.int .i64 ra, .int .i64 ca, .slice A xs.length c] 26
  have hS0 : Var3 V0 w.heap.size (.int .i64 ra) (.int .i64 ca) (.slice A xs.length c) := hV0 ▸ var3_box w _ _ _ _
  obtain ⟨V1, hV1, hB1, hz1, _, _⟩ := box_world V0 #[Value.int .i64 rb, .int .i64 cb, .slice BY ys.length dy] 26
  have hT1 : Var3 V1 V0.heap.size (.int .i64 rb) (.int .i64 cb) (.slice BY ys.length dy) := hV1 ▸ var3_box V0 _ _ _ _
  obtain ⟨V2, hV2, hB2, hz2, _, _⟩ := box_world V1 #[Value.int .i64 0, .int .i64 0, .slice none 0 0] 26
  have hR2 : Var3 V2 V1.heap.size (.int .i64 0) (.int .i64 0) (.slice none 0 0) := hV2 ▸ var3_box V1 _ _ _ _
  have hSa2 := (hS0.ext hB1).ext hB2
  have hSb2 := hT1.ext hB2
  have hbw := ext_trans (ext_trans hB0 hB1) hB2
  have hzv0 : w.heap.size < V0.heap.size := hz0
  have hzv1 : V0.heap.size < V1.heap.size := hz1
  have hzv2 : V1.heap.size < V2.heap.size := hz2
  have hal := l17Alike_any ra ca rb cb A c xs BY dy ys V2 hn (hA.ext hbw) hm (hBy.ext hbw)
  have hq36 : (AlikeS ra ca xs rb cb ys) → xs.length ≤ 36 ∧ ys.length ≤ 36 ∧ (∀ l, (patchL id xs l).Pairwise TileLt) ∧ (∀ (i : Nat) (x : Tile), ys[i]? = some x → 0 ≤ x.col ∧ x.col < cb) ∧ ca ≤ 6 ∧ cb ≤ 6 ∧ 1 ≤ ca ∧ 1 ≤ cb := fun h => ⟨scn_len h.1, scn_len h.2.1, fun l => patchL_pw id (scn_pw h.1) l, fun i x hx => by have h1 := h.2.1.1.1 i x hx; unfold TileOk at h1; omega, h.1.2.2.2.2, h.2.1.2.2.2.2, h.1.2.2.2.1, h.2.1.2.2.2.1⟩
  have hclo := fun W hW => cloneTile_any A c xs W (by omega) (Fl.ext hA hW)
  generalize (AlikeS ra ca xs rb cb ys) = Q at *
  obtain ⟨n, hnn⟩ : ∃ n, n = xs.length := ⟨_, rfl⟩
  obtain ⟨m, hmm⟩ : ∃ m, m = ys.length := ⟨_, rfl⟩
  rw [← hnn] at hV0 hSa2 hn hq36 hclo hal
  rw [← hmm] at hV1 hSb2 hm hq36 hal
  rw [← hnn, ← hmm]
  have HN := Lib.hid hnn
  have HM := Lib.hid hmm
  have HRES := Lib.hid hR2
  have HCLO := Lib.hid hclo
  have HQ36 := Lib.hid hq36
  have HAL := Lib.hid hal
  clear hal
  have s0 := hSa2.c0
  have s1 := hSa2.c1
  have s2 := hSa2.c2
  have t0 := hSb2.c0
  have t1 := hSb2.c1
  have t2 := hSb2.c2
  have l2a := hSa2.lt
  have l2b := hSb2.lt
  clear hnn hmm hR2 hS0 hT1 hclo hq36
  go_enter Try.func8, Try.ntmps8
  go_wp2_with fail
  ((with_reducible refine (HAL.out).mono ?_); rintro e w5 ⟨rfl, hbq⟩)
  have hSa := hSa2.ext hbq
  have hSb := hSb2.ext hbq
  have p0 := hSa.c0
  have p1 := hSa.c1
  have p2 := hSa.c2
  have pp0 := hSb.c0
  have pp1 := hSb.c1
  have pp2 := hSb.c2
  have l5a := hSa.lt
  have l5b := hSb.lt
  by_cases hQQ : Q
  · rw [tb_t hQQ]
    have HQ : Hid Q := hQQ
    obtain ⟨k36n, k36m, kpw, kcol, kc1, kc2, kc3, kc4⟩ := HQ36.out HQ.out
    have HN36 := Lib.hid k36n
    have HM36 := Lib.hid k36m
    have HPW := Lib.hid kpw
    have HCB := Lib.hid kcol
    have hwc : IntKind.i64.wrap (ca + cb) = ca + cb := by rw [IntKind.wrap_i64]; omega
    clear kpw kcol
    have hQ := HQ
    go_upto_region 3 with fail
    go_cut [6] (fun sp wx => ∃ (g : Nat) (B : Option Addr) (d : Nat), sp = .pointer (some ⟨g, 0, none⟩) ∧ Below (World.heap w5).size w5 wx ∧ (World.heap w5).size ≤ g ∧ Var3 wx g (.int .i64 ra) (.int .i64 ca) (.slice B n d) ∧ FlX g (World.heap w5).size wx B xs)
    case first =>
      have hte : 39 ≠ 26 := by decide
      go_region_held3 (fun w' => Below (World.heap w5).size w5 w' ∧ ∀ b o, b < (World.heap w5).size → w'.cell? ⟨b, o, none⟩ = World.cell? w5 ⟨b, o, none⟩) (first | exact cls_of (ext_drew _) | exact cls_of (ext_trans (ext_alloc _ _) (ext_drew _)) | exact cls_of (ext_drew _) | exact cls_alloc (by assumption) _ | exact cls_of hbz | exact cls_of (ext_trans hbz (ext_alloc _ _)) | exact cls_set3 hbz (Nat.le_refl _) | exact cls_set3 hbz (Nat.le_succ _) | assumption) ((first | ((first | refine step_append_all (f := Tile.ints) rfl (.tmp 17) (.tmp 19) 24 rfl (World.heap w5).size i0 _ 3 24 Try.underlying24 hi hz0e hz1e hz2e rfl (by decide) (.slice (some ⟨(World.heap w5).size, 0, none⟩) 0 0) [] rfl ?_ A c xs (congrArg (fun q => Value.slice A q c) HN.out) ?_ (fun _ => rfl) ?_ (by decide) ?_ ?_ | refine step_append_all (f := Tile.ints) rfl (.tmp 17) (.tmp 19) 24 rfl (World.heap w5).size i0 _ 3 24 Try.underlying24 hi hz0e hz1e hz2e rfl (by decide) (.slice (some ⟨(World.heap w5).size + 1, 0, none⟩) 0 0) [] rfl ?_ A c xs (congrArg (fun q => Value.slice A q c) HN.out) ?_ (fun _ => rfl) ?_ (by decide) ?_ ?_ | refine step_append_all (f := Tile.ints) rfl (.tmp 17) (.tmp 19) 24 rfl (World.heap w5).size i0 _ 3 24 Try.underlying24 hi hz0e hz1e hz2e rfl (by decide) (.slice (some ⟨(w5.alloc _).heap.size, 0, none⟩) 0 0) [] rfl ?_ A c xs (congrArg (fun q => Value.slice A q c) HN.out) ?_ (fun _ => rfl) ?_ (by decide) ?_ ?_); (first | exact (OwnF.empty (Nat.le_refl _)).ext (ext_drew _) | exact ((OwnF.empty (Nat.le_refl _)).ext (ext_alloc _ _)).ext (ext_drew _) | exact empty_second w5 _ _); (first | exact hA.ext (ext_trans (ext_trans hbw hbq) (ext_trans (ext_alloc _ _) (ext_drew _))) | exact hA.ext (ext_trans (ext_trans hbw hbq) (ext_trans (ext_trans (ext_alloc _ _) (ext_alloc _ _)) (ext_drew _)))); (have h9 := HN.out; simp; omega); (simp; try omega); intro v6 w6 hown6 hg6 hb6; rw [List.nil_append] at hown6; (obtain ⟨B, d, hv6, hF6⟩ := hown6.form Tile.ints_length); rw [← HN.out] at hv6; subst hv6; have HOW6 := Lib.hid hown6; have HF6 := Lib.hid hF6; clear hown6 hF6; (first | (have hbz : Below (World.heap w5).size w5 w6 := (ext_trans (ext_alloc w5 _) (ext_drew _)).trans hb6) | (have hbz : Below (World.heap w5).size w5 w6 := (ext_trans (ext_trans (ext_alloc w5 _) (ext_alloc _ _)) (ext_drew _)).trans hb6)); (first | (have hgb : w6.heap[(World.heap w5).size + 1]? = some (.cells #[Value.int .i64 0, .int .i64 0, .slice none 0 0] 26 (0, 0)) := blk_second hg6; have hv3 := var3_of hgb; have y0 := hv3.c0; have y1 := hv3.c1; have y2 := hv3.c2; have yz := hv3.fz; have ylt := hv3.lt) | (have hgb : w6.heap[(World.heap w5).size]? = some (.cells #[Value.int .i64 0, .int .i64 0, .slice none 0 0] 26 (0, 0)) := blk_first hg6; have hv3 := var3_of hgb; have y0 := hv3.c0; have y1 := hv3.c1; have y2 := hv3.c2; have yz := hv3.fz; have ylt := hv3.lt) | skip))))
      all_goals
        go_wp2_with fail
        go_meet
        first
          | exact ⟨_, B, d, rfl, ext_trans hbz (ext_alloc _ _), hbz.size, var3_box w6 _ _ _ _, (FlX.of HF6.out (Nat.le_refl _) (.inr (Nat.le_refl _))).ext (ext_alloc _ _)⟩
          | exact ⟨(World.heap w5).size, B, d, rfl, (set3_touch w6 (World.heap w5).size _ _ _).below hbz (Nat.le_refl _), Nat.le_refl _, Var3.set3 hv3 _ _ _, (FlX.ofOwn HOW6.out hgb hte).set _ _ _⟩
          | exact ⟨(World.heap w5).size + 1, B, d, rfl, (set3_touch w6 ((World.heap w5).size + 1) _ _ _).below hbz (Nat.le_succ _), Nat.le_succ _, Var3.set3 hv3 _ _ _, (FlX.ofOwn HOW6.out hgb hte).set _ _ _⟩
    case rest =>
      obtain ⟨g, B, d, rfl, hbz, hgw, hout, hF6⟩ := hcut
      obtain ⟨Vg, hVg⟩ : ∃ z, z = wc := ⟨_, rfl⟩
      subst hVg
      have hSa7 := hSa.ext hbz
      have hSb7 := hSb.ext hbz
      have hbg := ext_trans hbq hbz
      have hbgs := hbg.size
      have hzq := hbq.size
      have hglt := hout.lt
      have hsal : w.heap.size < g := by have := hSa.lt; omega
      have hsbl : V0.heap.size < g := by have := hSb.lt; omega
      have hrl : V1.heap.size < g := by have := (HRES.out.ext hbq).lt; omega
      have aa0 := hSa7.c0
      have aa1 := hSa7.c1
      have aa2 := hSa7.c2
      have bb0 := hSb7.c0
      have bb1 := hSb7.c1
      have bb2 := hSb7.c2
      have HRS := Lib.hid ((HRES.out.ext hbq).ext hbz)
      have HOUT := Lib.hid hout
      have HF7 := Lib.hid hF6
      have HSA := Lib.hid hSa7
      have HSB := Lib.hid hSb7
      clear hout hF6 hSa7 hSb7 hSa hSb
      go_wp2
      go_loopw [7] (fun i wr => ∃ (k : Nat) (B : Option Addr) (d : Nat), k ≤ m ∧ i = .int .i64 k ∧ Below g Vg wr ∧ Var3 wr g (.int .i64 ra) (.int .i64 ca) (.slice B (patchL id xs (ys.take k)).length d) ∧ FlX g V2.heap.size wr B (patchL id xs (ys.take k))) (fun i _ => m - (intOf i).toNat)
      case atStart => exact ⟨0, B, d, by omega, rfl, Below.refl _ _, by rw [show patchL id xs (ys.take 0) = xs from rfl, ← HN.out]; exact HOUT.out, HF7.out.mono hzq⟩
      case round =>
        obtain ⟨k, B, d, hk, rfl, hT, hv3, hF⟩ := hrel
        have hbr : Below w.heap.size w wr := (ext_trans hbw hbg).trans (hT.mono (by omega))
        have hgr := hT.size
        have hSa := HSA.out.below hT (by omega)
        have hSb := HSB.out.below hT (by omega)
        have ca90 := hSa.c0
        have ca91 := hSa.c1
        have ca92 := hSa.c2
        have cb90 := hSb.c0
        have cb91 := hSb.c1
        have cb92 := hSb.c2
        have sal := hSa.lt
        have sbl := hSb.lt
        have q0 := hv3.c0
        have q1 := hv3.c1
        have q2 := hv3.c2
        have qz := hv3.fz
        have qlt := hv3.lt
        by_cases hlt : k < m
        · obtain ⟨x, bb, o, hx, hAe, hbb, hc⟩ := (hBy.ext hbr).at_ (k := k) (by rw [← HM.out]; exact hlt)
          subst hAe
          have c0 : World.cell? wr ⟨bb, o + k * 3, none⟩ = some (.int .i64 x.row) := hc 0 _ rfl
          have c1 : World.cell? wr ⟨bb, o + k * 3 + 1, none⟩ = some (.int .i64 x.col) := hc 1 _ rfl
          have c2 : World.cell? wr ⟨bb, o + k * 3 + 2, none⟩ = some (.int .i64 x.sum) := hc 2 _ rfl
          have hpl := patchL_len id (ys.take k) xs
          rw [List.length_take, ← HM.out, ← HN.out] at hpl
          have hn36 := HN36.out
          have hm36 := HM36.out
          have HT := Lib.hid (take_get hx)
          have hpw := HPW.out (ys.take k)
          obtain ⟨L, hL⟩ : ∃ L, L = patchL id xs (ys.take k) := ⟨_, rfl⟩
          rw [← hL] at hpl hpw hF
          rw [← hL] at q2 hv3
          have HL := Lib.hid hL
          have hpc := plus_cell wr
          have hcall := fun W hW => l17Put_any ra ca B d L x W (by omega) (Fl.ext hF.flo.fl hW)
          obtain ⟨L2, hL2⟩ : ∃ L2, L2 = insT x L := ⟨_, rfl⟩
          rw [← hL2] at hcall
          have HL2 := Lib.hid hL2
          obtain ⟨l, hl⟩ : ∃ l, l = L.length := ⟨_, rfl⟩
          rw [← hl] at hcall q2 hv3
          skip
          have HCALL := Lib.hid hcall
          have HV3 := Lib.hid hv3
          clear hcall hL2 hl hc hx hL hpw hv3
          have hk0 : (0 : Int) ≤ (k : Int) := by omega
          have hk1 : (k : Int) < (m : Int) := by omega
          go_wp2_with fail
          go_region_with ((go_at_call 42; (with_reducible refine (HCALL.out _ ?_).mono ?_); exact ext_drew wr; rintro e w9 ⟨B9, d9, rfl, hF9, hb9d⟩; have hb9 : Below wr.heap.size wr w9 := ext_trans (ext_drew wr) hb9d; (obtain ⟨l2, hl2⟩ : ∃ l2, l2 = L2.length := ⟨_, rfl⟩); rw [← hl2]; have HLL2 := Lib.hid hl2; have HF9 := Lib.hid hF9; have hv9 := HV3.out.ext hb9; have f0 := hv9.c0; have f1 := hv9.c1; have f2 := hv9.c2; have fz := hv9.fz; have flt := hv9.lt; have HV9 := Lib.hid hv9; have HBG9 : Hid (Below g Vg w9) := hT.trans (hb9.mono (by omega)); have hsz9 : wr.heap.size ≤ w9.heap.size := hb9.size; clear hl2 hF9 hv9))
          all_goals
            go_wp2
            go_roundw
            case rel => exact ⟨k + 1, B9, d9, by omega, by go_num, below_set (below_set (below_set HBG9.out ⟨g, 0, none⟩ _ (Nat.le_refl g)) ⟨g, 1, none⟩ _ (Nat.le_refl g)) ⟨g, 2, none⟩ _ (Nat.le_refl g), by
                rw [HT.out, patchL_snoc, ← HL.out, id_eq, ← HL2.out, ← HLL2.out]; exact HV9.out.set3 _ _ _, by
                rw [HT.out, patchL_snoc, ← HL.out, id_eq, ← HL2.out]; exact (FlX.of HF9.out (by show _ ≤ wr.heap.size; omega) (.inl (by show g < wr.heap.size; omega))).set _ _ _⟩
            case measure => simp [intOf]; omega
        · have hkn : m = k := by omega
          subst hkn
          rw [take_all (by rw [← HM.out]; exact Nat.le_refl _)] at hF hv3 q2
          have hrr := HRS.out.below hT (by omega)
          have r0 := hrr.c0
          have r1 := hrr.c1
          have r2 := hrr.c2
          have rz := hrr.fz
          have rlt := hrr.lt
          obtain ⟨L, hL⟩ : ∃ L, L = patchL id xs ys := ⟨_, rfl⟩
          rw [← hL] at hF hv3 q2
          have HL := Lib.hid hL
          obtain ⟨l, hl⟩ : ∃ l, l = L.length := ⟨_, rfl⟩
          rw [← hl] at q2
          have HLL := Lib.hid hl
          have HF := Lib.hid hF
          clear hL hl hF hv3
          go_wp2
          rw [seli_t hQ.out, seli_t hQ.out, sel_t hQ.out, tb_t hQ.out, ← HL.out]
          refine bodyPost_ret (v := .tuple #[.agg #[.int .i64 ra, .int .i64 ca, .slice B l d], .bool true]) (by simp [results, Try.results8, go_sem, r0, r1, r2, rlt]) rfl ⟨B, d, by rw [HLL.out], ?_, ?_⟩
          · exact (HF.out.flo.touch (set3_touch wr V1.heap.size _ _ _) (by omega)).mono (by omega) (by simp [setCell_size])
          · exact (set3_touch wr V1.heap.size _ _ _).below hbr (by omega)
  · rw [tb_f hQQ]
    have hnq := Lib.hid hQQ
    clear hQQ
    have hr := HRES.out.ext hbq
    have r0 := hr.c0
    have r1 := hr.c1
    have r2 := hr.c2
    have rz := hr.fz
    have rlt := hr.lt
    go_wp2
    rw [seli_f hnq.out, seli_f hnq.out, sel_f hnq.out, tb_f hnq.out]
    refine bodyPost_ret (v := .tuple #[.agg #[.int .i64 0, .int .i64 0, .slice none 0 0], .bool false]) (by simp [results, Try.results8, go_sem, r0, r1, r2, rlt]) rfl ⟨none, 0, rfl, FlO.nil, ?_⟩
    exact (set3_touch w5 V1.heap.size _ _ _).below (ext_trans hbw hbq) (by omega)

end Go.Proofs.Ytjacadkbkkkgfaa
