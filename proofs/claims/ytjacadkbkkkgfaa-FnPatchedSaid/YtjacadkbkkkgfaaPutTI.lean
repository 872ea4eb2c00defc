/- A tile laid into its place: the program's side. -/
import Derived.Test.YtjacadkbkkkgfaaPutDT
import Derived.Test.YtjacadkbkkkgfaaInsG
import Derived.Test.YtjacadkbkkkgfaaCloneT
namespace Go.Proofs.Ytjacadkbkkkgfaa
open Go.RowKit
set_option linter.unusedVariables false
set_option linter.unusedSimpArgs false

set_option maxHeartbeats 4000000 in
set_option maxRecDepth 100000 in
theorem put_any (rows cols : Int) (A : Option Addr) (c : Nat) (xs : List Tile) (t : Tile) (w : World) (hn : xs.length ≤ 1048575) (hA : Fl Tile.ints 3 w A xs) (hs : xs.Pairwise TileLt) :
    Calls Try.prog 40 #[.agg #[.int .i64 rows, .int .i64 cols, .slice A xs.length c], .agg #[.int .i64 t.row, .int .i64 t.col, .int .i64 t.sum]] w (RetT w rows cols (insT t xs)) := by
  obtain ⟨V0, hV0, hB0, hz0, _, _⟩ := box_world w #[Value.int .i64 rows, .int .i64 cols, .slice A xs.length c] 26
  have hS0 : Var3 V0 w.heap.size (.int .i64 rows) (.int .i64 cols) (.slice A xs.length c) := hV0 ▸ var3_box w _ _ _ _
  obtain ⟨V1, hV1, hB1, hz1, _, _⟩ := box_world V0 #[Value.int .i64 t.row, .int .i64 t.col, .int .i64 t.sum] 39
  have hT1 : Var3 V1 V0.heap.size (.int .i64 t.row) (.int .i64 t.col) (.int .i64 t.sum) := hV1 ▸ var3_box V0 _ _ _ _
  obtain ⟨V2, hV2, hB2, hz2, _, _⟩ := box_world V1 #[Value.int .i64 0, .int .i64 0, .slice none 0 0] 26
  have hR2 : Var3 V2 V1.heap.size (.int .i64 0) (.int .i64 0) (.slice none 0 0) := hV2 ▸ var3_box V1 _ _ _ _
  have hS2 := (hS0.ext hB1).ext hB2
  have hT2 := hT1.ext hB2
  have hbw := ext_trans (ext_trans hB0 hB1) hB2
  have hz3 : V1.heap.size < V2.heap.size := hz2
  have hsr := search_any A c xs t V2 (by omega) (hA.ext hbw) hs
  have hcl := fun W hW => cloneTile_any A c xs W (by omega) (Fl.ext hA hW)
  have hins := fun (lo : Nat) (v : Value) (k b : Nat) (W : World) h1 h2 h3 h4 h5 => insert_any lo v xs k t b W h1 h2 (by omega) h3 h4 h5
  have hnot := fun (k : Nat) => insT_not (xs := xs) (t := t) (k := k) hs
  have hyes := fun (k : Nat) => insT_yes (xs := xs) (t := t) (k := k) hs
  have HSR := Lib.hid hsr
  have HINS := Lib.hid hins
  have HNOT := Lib.hid hnot
  have HYES := Lib.hid hyes
  clear hs hsr hins hnot hyes hS0 hT1
  obtain ⟨n, hnn⟩ : ∃ n, n = xs.length := ⟨_, rfl⟩
  rw [← hnn] at hV0 hS2 HSR hcl hn ⊢
  have HN := Lib.hid hnn
  have HCL := Lib.hid hcl
  clear hcl hnn
  have s0 := hS2.c0
  have s1 := hS2.c1
  have s2 := hS2.c2
  have t0 := hT2.c0
  have t1 := hT2.c1
  have t2 := hT2.c2
  have hzs : w.heap.size < V2.heap.size := hS2.lt
  have hzt : V0.heap.size < V2.heap.size := hT2.lt
  go_enter Try.func40, Try.ntmps40
  go_wp2_with fail
  ((with_reducible refine (HSR.out).mono ?_); rintro e w1 ⟨k, hk, rfl, hlo, hhi, hb1⟩)
  rw [← HN.out] at hk
  have hS3 := hS2.ext hb1
  have hT3 := hT2.ext hb1
  have hR3 := hR2.ext hb1
  have hbw1 := ext_trans hbw hb1
  have a0 := hS3.c0
  have a1 := hS3.c1
  have a2 := hS3.c2
  have azs := hS3.lt
  obtain ⟨P, hP⟩ : ∃ P : Prop, P = (∃ z, xs[k]? = some z ∧ cmpTile z t = 0) := ⟨_, rfl⟩
  rw [← hP]
  have HP := Lib.hid hP
  have HLO := Lib.hid hlo
  have HHI := Lib.hid hhi
  clear hP hlo hhi
  go_wp2_with fail
  ((with_reducible refine (HCL.out w1 hbw1).mono ?_); rintro e w2 ⟨B, d, rfl, hown, hb2⟩)
  have hS4 := hS3.ext hb2
  have hT4 := hT3.ext hb2
  have hR4 := hR3.ext hb2
  have hbw2 := ext_trans hbw1 hb2
  have hsz := hb2.size
  have hlow : w1.heap.size ≤ w2.heap.size := hb2.size
  obtain ⟨w3, hw3⟩ : ∃ w3, w2.setCell ⟨w.heap.size, 2, none⟩ (.slice B n d) = w3 := ⟨_, rfl⟩
  have hS5 : Var3 w3 w.heap.size (.int .i64 rows) (.int .i64 cols) (.slice B n d) := hw3 ▸ hS4.set2 _
  have hto : Touch w.heap.size (w.heap.size + 1) w2 w3 := hw3 ▸ Touch.of_set w2 ⟨w.heap.size, 2, none⟩ _ (Nat.le_refl _) (Nat.lt_succ_self _)
  have hS3l := hS3.lt
  have hT3l := hT3.lt
  have hR3l := hR3.lt
  have hzv0 : w.heap.size < V0.heap.size := hz0
  have hzv1 : V0.heap.size < V1.heap.size := hz1
  have hT5 := hT4.touch hto (by omega)
  have hR5 := hR4.touch hto (by omega)
  have hown5 := hown.touch hto (by omega)
  have hbw3 : Below w.heap.size w w3 := hto.below hbw2 (Nat.le_refl _)
  have hsz3 : w2.heap.size ≤ w3.heap.size := hto.size
  have b0 := hS5.c0
  have b1 := hS5.c1
  have b2 := hS5.c2
  have bzs := hS5.lt
  have c0 := hT5.c0
  have c1 := hT5.c1
  have c2 := hT5.c2
  have czs := hT5.lt
  have d0 := hS4.c2
  have dz := hS4.fz
  have HR5 := Lib.hid hR5
  have HS5 := Lib.hid hS5
  have HOW := Lib.hid hown5
  have hk0 : (0 : Int) ≤ (k : Int) := by omega
  by_cases hp : P
  · rw [tb_t hp]
    have hex := HP.out ▸ hp
    have hy := HYES.out k HLO.out HHI.out hex
    have hkn : k < n := by obtain ⟨z, hz, _⟩ := hex; have := lt_of_get hz; rw [← HN.out] at this; exact this
    have hne : xs ≠ [] := fun e => by have := HN.out; rw [e] at this; simp at this; omega
    obtain ⟨g, cap, cur, hv, hg, _, _⟩ := own_row hown5 hne
    rw [← HN.out] at hv
    injection hv with hv1 hv2 hv3
    subst hv1 hv3
    clear hv2
    have hform := hown5.form Tile.ints_length
    obtain ⟨A9, c9, hv9, hF⟩ := hform
    rw [← HN.out] at hv9
    injection hv9 with hq1 hq2 hq3
    subst hq1 hq3
    clear hq2
    have hset := hF.setT (t := t) (k := k) (by rw [← HN.out]; exact hkn)
    obtain ⟨w4, hw4⟩ : ∃ w4, setRow w3 g (k * 3) (t.ints.map (Value.int .i64)) = w4 := ⟨_, rfl⟩
    have hto4 : Touch g (g + 1) w3 w4 := hw4 ▸ setRow_touch g (Nat.le_refl _) (Nat.lt_succ_self _) _ w3 (k * 3)
    rw [hw4] at hset
    have hw4' : ((w3.setCell ⟨g, k * 3, none⟩ (.int .i64 t.row)).setCell ⟨g, k * 3 + 1, none⟩ (.int .i64 t.col)).setCell ⟨g, k * 3 + 2, none⟩ (.int .i64 t.sum) = w4 := hw4
    have hS6 := HS5.out.touch hto4 (by omega)
    have hR6 := HR5.out.touch hto4 (by omega)
    have e0 := hS6.c0
    have e1 := hS6.c1
    have e2 := hS6.c2
    have ezs := hS6.lt
    have r0 := hR6.c0
    have r1 := hR6.c1
    have r2 := hR6.c2
    have rz := hR6.fz
    have rlt := hR6.lt
    obtain ⟨z, b9, o9, hx, hbe, hbl, hc9⟩ := hF.fl.at_ (k := k) (by rw [← HN.out]; exact hkn)
    injection hbe with hbe
    injection hbe with hb91 hb92 _
    subst hb91 hb92
    rw [Nat.zero_add] at hc9
    have u0 : World.cell? w3 ⟨g, k * 3, none⟩ = some (.int .i64 z.row) := hc9 0 _ rfl
    have u1 : World.cell? w3 ⟨g, k * 3 + 1, none⟩ = some (.int .i64 z.col) := hc9 1 _ rfl
    have u2 : World.cell? w3 ⟨g, k * 3 + 2, none⟩ = some (.int .i64 z.sum) := hc9 2 _ rfl
    have uz : ∀ j, World.frozen? w3 ⟨g, j, none⟩ = false := by
      obtain ⟨b8, o8, h1, _, _, _, h4, _⟩ := hF hne
      injection h1 with h1
      injection h1 with h11 _ _
      subst h11
      exact h4
    have hk1 : (k : Int) < (n : Int) := by omega
    have hlen : (xs.set k t).length = n := by rw [List.length_set]; exact HN.out.symm
    have HY := Lib.hid hy
    have HSET := Lib.hid hset
    have HLEN := Lib.hid hlen
    have HTO4 := Lib.hid hto4
    clear hy hset hlen hto4 hc9 hx hF hne hex hw4 hp hown hown5
    go_wp2
    refine bodyPost_ret (v := .agg #[.int .i64 rows, .int .i64 cols, .slice (some ⟨g, 0, none⟩) n d]) (by simp [results, Try.results40, go_sem, r0, r1, r2, rlt]) rfl ⟨some ⟨g, 0, none⟩, d, by rw [HY.out, HLEN.out], ?_, ?_⟩
    · rw [HY.out]
      exact (HSET.out.touch (set3_touch w4 V1.heap.size _ _ _) (by omega)).mono (by omega) (by simp [setCell_size]; exact HTO4.out.size)
    · exact (set3_touch w4 V1.heap.size _ _ _).below (HTO4.out.below hbw3 (by omega)) (by omega)
  · rw [tb_f hp]
    have hy := HNOT.out k HLO.out HHI.out (fun q => hp (HP.out ▸ q))
    obtain ⟨W4, hW4, hB4, hz4, _, _⟩ := box_world w3 #[Value.int .i64 t.row, .int .i64 t.col, .int .i64 t.sum] 39
    have hlit : W4.heap[w3.heap.size]? = some (.cells #[Value.int .i64 t.row, .int .i64 t.col, .int .i64 t.sum] 39 (0, 0)) := hW4 ▸ heap_alloc_new w3 _
    have hS6 := HS5.out.ext hB4
    have hR6 := HR5.out.ext hB4
    have hob : Value.ownBlock (.slice B n d) ≠ some w3.heap.size := fun e => by
      have := (HOW.out.ownBlock _ e).2
      omega
    have hin := HINS.out w1.heap.size (.slice B n d) k w3.heap.size W4 (HOW.out.ext hB4) (by rw [← HN.out]; exact hk) (by have := hB4.size; omega) hlit hob
    have HIN := Lib.hid hin
    have HY := Lib.hid hy
    have e0 := hS6.c0
    have e1 := hS6.c1
    have e2 := hS6.c2
    have ezs := hS6.lt
    clear hy hin hlit hob hown hown5 hp
    go_wp2_with fail
    clear hW4 hw3
    ((with_reducible refine (HIN.out).mono ?_); rintro e w5 ⟨v', rfl, hown7, hb7⟩)
    obtain ⟨ys, hys⟩ : ∃ ys, ys = List.take k xs ++ t :: List.drop k xs := ⟨_, rfl⟩
    rw [← hys] at hown7
    have HYS := Lib.hid hys
    clear hys
    obtain ⟨B7, d7, hv7, hF7⟩ := hown7.form Tile.ints_length
    subst hv7
    obtain ⟨m, hm⟩ : ∃ m, m = ys.length := ⟨_, rfl⟩
    rw [← hm]
    have HM := Lib.hid hm
    clear hm
    have hS7 := hS6.below hb7 (by omega)
    have hR7 := hR6.below hb7 (by omega)
    have f0 := hS7.c0
    have f1 := hS7.c1
    have f2 := hS7.c2
    have fz := hS7.fz
    have flt := hS7.lt
    have r0 := hR7.c0
    have r1 := hR7.c1
    have r2 := hR7.c2
    have rz := hR7.fz
    have rlt := hR7.lt
    have hbw5 : Below w.heap.size w w5 := (ext_trans hbw3 hB4).trans (hb7.mono (by omega))
    have HF7 := Lib.hid hF7
    obtain ⟨w6, hw6⟩ : ∃ w6, w5.setCell ⟨w.heap.size, 2, none⟩ (.slice B7 m d7) = w6 := ⟨_, rfl⟩
    have hto6 : Touch w.heap.size (w.heap.size + 1) w5 w6 := hw6 ▸ Touch.of_set w5 ⟨w.heap.size, 2, none⟩ _ (Nat.le_refl _) (Nat.lt_succ_self _)
    have hS8 : Var3 w6 w.heap.size (.int .i64 rows) (.int .i64 cols) (.slice B7 m d7) := hw6 ▸ hS7.set2 _
    have hR8 := hR7.touch hto6 (by omega)
    have g0 := hS8.c0
    have g1 := hS8.c1
    have g2 := hS8.c2
    have glt := hS8.lt
    have x0 := hR8.c0
    have x1 := hR8.c1
    have x2 := hR8.c2
    have xz := hR8.fz
    have xlt := hR8.lt
    have HTO6 := Lib.hid hto6
    clear hown7 hF7 hto6 hS8 hR8 hS7 hR7
    go_wp2
    refine bodyPost_ret (v := .agg #[.int .i64 rows, .int .i64 cols, .slice B7 m d7]) (by simp [results, Try.results40, go_sem, x0, x1, x2, xlt]) rfl ⟨B7, d7, by rw [HY.out, ← HYS.out, ← HM.out], ?_, ?_⟩
    · rw [HY.out, ← HYS.out]
      exact ((HF7.out.touch HTO6.out (by omega)).touch (set3_touch w6 V1.heap.size _ _ _) (by omega)).mono (by omega) (by simp [setCell_size]; exact HTO6.out.size)
    · exact (set3_touch w6 V1.heap.size _ _ _).below (HTO6.out.below hbw5 (Nat.le_refl _)) (by omega)
end Go.Proofs.Ytjacadkbkkkgfaa
