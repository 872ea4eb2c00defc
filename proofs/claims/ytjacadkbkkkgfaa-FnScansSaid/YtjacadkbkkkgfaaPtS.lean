/- PutTile: the reference's side. -/
import Derived.Test.YtjacadkbkkkgfaaPtD
import Derived.Test.YtjacadkbkkkgfaaPutTS
namespace Go.Proofs.Ytjacadkbkkkgfaa
open Go.RowKit
set_option linter.unusedVariables false
set_option linter.unusedSimpArgs false

set_option maxHeartbeats 4000000 in
set_option maxRecDepth 100000 in
theorem specPutTile_any (rows cols : Int) (A : Option Addr) (c : Nat) (xs : List Tile) (t : Tile) (w : World) (hn : xs.length ≤ 1048576) (hA : Fl Tile.ints 3 w A xs) :
    Calls Try.prog 22 #[.agg #[.int .i64 rows, .int .i64 cols, .slice A xs.length c], .agg #[.int .i64 t.row, .int .i64 t.col, .int .i64 t.sum]] w (RetSc w (seli (PutOk rows cols xs t) rows) (seli (PutOk rows cols xs t) cols) (sel (PutOk rows cols xs t) (insT t xs)) (tb (PutOk rows cols xs t))) := by
  obtain ⟨V0, hV0, hB0, hz0, _, _⟩ := box_world w #[Value.int .i64 rows, .int .i64 cols, .slice A xs.length c] 26
  have hS0 : Var3 V0 w.heap.size (.int .i64 rows) (.int .i64 cols) (.slice A xs.length c) := hV0 ▸ var3_box w _ _ _ _
  obtain ⟨V1, hV1, hB1, hz1, _, _⟩ := box_world V0 #[Value.int .i64 t.row, .int .i64 t.col, .int .i64 t.sum] 39
  have hT1 : Var3 V1 V0.heap.size (.int .i64 t.row) (.int .i64 t.col) (.int .i64 t.sum) := hV1 ▸ var3_box V0 _ _ _ _
  obtain ⟨V2, hV2, hB2, hz2, _, _⟩ := box_world V1 #[Value.int .i64 0, .int .i64 0, .slice none 0 0] 26
  have hR2 : Var3 V2 V1.heap.size (.int .i64 0) (.int .i64 0) (.slice none 0 0) := hV2 ▸ var3_box V1 _ _ _ _
  have hS2 := (hS0.ext hB1).ext hB2
  have hT2 := hT1.ext hB2
  have hbw := ext_trans (ext_trans hB0 hB1) hB2
  have hzv0 : w.heap.size < V0.heap.size := hz0
  have hzv1 : V0.heap.size < V1.heap.size := hz1
  have hzv2 : V1.heap.size < V2.heap.size := hz2
  have hsc := l17Good_any rows cols A c xs V2 (by omega) (hA.ext hbw)
  have hput := fun (h : Scn rows cols xs) W hW => l17Put_any rows cols A c xs t W (by have := scn_len h; omega) (Fl.ext hA hW)
  have hq : PutOk rows cols xs t ↔ Scn rows cols xs ∧ TileOk rows cols t := Iff.rfl
  have hsd : Scn rows cols xs → Side rows cols := fun h => h.2
  generalize PutOk rows cols xs t = Q at hq ⊢
  generalize Scn rows cols xs = P1 at hsc hput hq hsd
  obtain ⟨n, hnn⟩ : ∃ n, n = xs.length := ⟨_, rfl⟩
  rw [← hnn] at hV0 hS2 hsc hput hn ⊢
  have s0 := hS2.c0
  have s1 := hS2.c1
  have s2 := hS2.c2
  have t0 := hT2.c0
  have t1 := hT2.c1
  have t2 := hT2.c2
  have hzs : w.heap.size < V2.heap.size := hS2.lt
  have hzt : V0.heap.size < V2.heap.size := hT2.lt
  have HSC := Lib.hid hsc
  have HPUT := Lib.hid hput
  have HQ := Lib.hid hq
  have HSD := Lib.hid hsd
  have HRES := Lib.hid hR2
  clear hsc hput hq hsd hR2 hnn hS0 hT1
  go_enter Try.func22, Try.ntmps22
  go_wp2_with fail
  ((with_reducible refine (HSC.out).mono ?_); rintro e w1 ⟨rfl, hb1⟩)
  have hS3 := hS2.ext hb1
  have hT3 := hT2.ext hb1
  have a0 := hS3.c0
  have a1 := hS3.c1
  have a2 := hS3.c2
  have b0 := hT3.c0
  have b1 := hT3.c1
  have b2 := hT3.c2
  have azs := hS3.lt
  have azt := hT3.lt
  by_cases h1 : P1
  · rw [tb_t h1]
    have H1 := Lib.hid h1
    clear h1
    have htl := l17Tile_any rows cols (.slice A n c) t w1 rfl (HSD.out H1.out)
    obtain ⟨P2, hP2⟩ : ∃ P : Prop, P = (TileOk rows cols t) := ⟨_, rfl⟩
    rw [← hP2] at htl
    have HQ2 : Hid (Q ↔ P1 ∧ P2) := hP2 ▸ HQ.out
    have HTL := Lib.hid htl
    clear htl hP2
    go_wp2_with fail
    ((with_reducible refine (HTL.out).mono ?_); rintro e w2 ⟨rfl, hb2⟩)
    have hS4 := hS3.ext hb2
    have hT4 := hT3.ext hb2
    have c0 := hS4.c0
    have c1 := hS4.c1
    have c2 := hS4.c2
    have d0 := hT4.c0
    have d1 := hT4.c1
    have d2 := hT4.c2
    have czs := hS4.lt
    have czt := hT4.lt
    have hbx := ext_trans hb1 hb2
    by_cases h2 : P2
    · rw [tb_t h2]
      have HQY : Hid Q := HQ2.out.2 ⟨H1.out, h2⟩
      clear h2
      have hpt := HPUT.out H1.out w2 (ext_trans hbw hbx)
      obtain ⟨ys, hys⟩ : ∃ ys, ys = insT t xs := ⟨_, rfl⟩
      rw [← hys] at hpt
      have HYS := Lib.hid hys
      have HPT := Lib.hid hpt
      clear hpt hys
      go_wp2_with fail
      ((with_reducible refine HPT.out.mono ?_); rintro e w3 ⟨B, d, rfl, hF, hb3⟩)
      obtain ⟨m, hm⟩ : ∃ m, m = ys.length := ⟨_, rfl⟩
      rw [← hm]
      have HM := Lib.hid hm
      have HF := Lib.hid hF
      have hr := HRES.out.ext (ext_trans hbx hb3)
      have r0 := hr.c0
      have r1 := hr.c1
      have r2 := hr.c2
      have rz := hr.fz
      have rlt := hr.lt
      have hsz : V2.heap.size ≤ w2.heap.size := hbx.size
      clear hm hF
      go_wp2
      rw [seli_t HQY.out, seli_t HQY.out, sel_t HQY.out, tb_t HQY.out, ← HYS.out]
      refine bodyPost_ret (v := .tuple #[.agg #[.int .i64 rows, .int .i64 cols, .slice B m d], .bool true]) (by simp [results, Try.results22, go_sem, r0, r1, r2, rlt]) rfl ⟨B, d, by rw [HM.out], ?_, ?_⟩
      · exact (HF.out.touch (set3_touch w3 V1.heap.size _ _ _) (by omega)).mono (by omega) (by simp [setCell_size])
      · exact (set3_touch w3 V1.heap.size _ _ _).below (ext_trans hbw (ext_trans hbx hb3)) (by omega)
    · rw [tb_f h2]
      have hnq : Hid (¬ Q) := fun q => h2 (HQ2.out.1 q).2
      clear h2
      have hr := HRES.out.ext hbx
      have r0 := hr.c0
      have r1 := hr.c1
      have r2 := hr.c2
      have rz := hr.fz
      have rlt := hr.lt
      go_wp2
      rw [seli_f hnq.out, seli_f hnq.out, sel_f hnq.out, tb_f hnq.out]
      refine bodyPost_ret (v := .tuple #[.agg #[.int .i64 0, .int .i64 0, .slice none 0 0], .bool false]) (by simp [results, Try.results22, go_sem, r0, r1, r2, rlt]) rfl ⟨none, 0, rfl, FlO.nil, ?_⟩
      exact (set3_touch w2 V1.heap.size _ _ _).below (ext_trans hbw hbx) (by omega)
  · rw [tb_f h1]
    have hnq : Hid (¬ Q) := fun q => h1 (HQ.out.1 q).1
    clear h1
    have hr := HRES.out.ext hb1
    have r0 := hr.c0
    have r1 := hr.c1
    have r2 := hr.c2
    have rz := hr.fz
    have rlt := hr.lt
    go_wp2
    rw [seli_f hnq.out, seli_f hnq.out, sel_f hnq.out, tb_f hnq.out]
    refine bodyPost_ret (v := .tuple #[.agg #[.int .i64 0, .int .i64 0, .slice none 0 0], .bool false]) (by simp [results, Try.results22, go_sem, r0, r1, r2, rlt]) rfl ⟨none, 0, rfl, FlO.nil, ?_⟩
    exact (set3_touch w1 V1.heap.size _ _ _).below (ext_trans hbw hb1) (by omega)
end Go.Proofs.Ytjacadkbkkkgfaa
