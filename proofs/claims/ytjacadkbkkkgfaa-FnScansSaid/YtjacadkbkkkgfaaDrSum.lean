/- The draw of a scan and a place. No condition. -/
import Derived.Test.YtjacadkbkkkgfaaDrPut
namespace Go.Proofs.Ytjacadkbkkkgfaa
open Go.RowKit
set_option linter.unusedVariables false
set_option linter.unusedSimpArgs false

/-- what DrawSumAt hands back -/
def SumDr (w : World) (e : Ending) (w' : World) : Prop :=
  ∃ (r c : Int) (A : Option Addr) (d : Nat) (xs : List Tile) (a b : Int), e = .returned (.tuple #[.agg #[.int .i64 r, .int .i64 c, .slice A xs.length d], .int .i64 a, .int .i64 b]) ∧ xs.length ≤ 40 ∧ FlO Tile.ints 3 w.heap.size w'.heap.size w' A xs ∧ Below w.heap.size w w'
set_option maxHeartbeats 8000000 in
set_option maxRecDepth 100000 in
theorem drawSumAt_any (A : Option Addr) (n cap : Nat) (w : World) (hA : Bytes w A n) (hn : n ≤ 1099511627776) :
    Calls Try.prog 29 #[.slice A n cap] w (SumDr w) := by
  obtain ⟨V0, hV0, hB0, hz0, hu0, hf0⟩ := box_world w #[Value.int .i64 0, .int .i64 0, .slice none 0 0] 26
  have hv0 : Var3 V0 w.heap.size (.int .i64 0) (.int .i64 0) (.slice none 0 0) := hV0 ▸ var3_box w _ _ _ _
  have HP := Lib.hid (drawPutTile_any A n cap V0 (hA.ext hB0) hn)
  have HB0 := Lib.hid hB0
  have HVV := Lib.hid hv0
  clear hA hu0 hf0 hB0 hv0
  go_enter Try.func29, Try.ntmps29
  go_wp2_with fail
  ((with_reducible refine (HP.out).mono ?_); rintro e w1 ⟨r, c, B, d, xs, t, rfl, hxl, hF1, hB1⟩)
  clear hV0
  obtain ⟨m, hm⟩ : ∃ m, m = xs.length := ⟨_, rfl⟩
  rw [← hm]
  obtain ⟨V2, hV2, hB2, hz2, hu2, hf2⟩ := box_world w1 #[Value.int .i64 0, .int .i64 0, .slice none 0 0] 26
  have hv2 : Var3 V2 w1.heap.size (.int .i64 0) (.int .i64 0) (.slice none 0 0) := hV2 ▸ var3_box w1 _ _ _ _
  obtain ⟨V3, hV3, hB3, hz3, hu3, hf3⟩ := box_world V2 #[Value.int .i64 0, .int .i64 0, .int .i64 0] 39
  have hv3 : Var3 V3 V2.heap.size (.int .i64 0) (.int .i64 0) (.int .i64 0) := hV3 ▸ var3_box V2 _ _ _ _
  have hB := ext_trans hB1 (ext_trans hB2 hB3)
  have h2 := hv2.ext hB3
  have g0 := h2.c0
  have g1 := h2.c1
  have g2 := h2.c2
  have gz := h2.fz
  have gl := h2.lt
  have e0 := hv3.c0
  have e1 := hv3.c1
  have e2 := hv3.c2
  have ez := hv3.fz
  have el := hv3.lt
  have s1 : w.heap.size < V0.heap.size := hz0
  have s2 : V0.heap.size ≤ w1.heap.size := hB1.size
  obtain ⟨U, hU⟩ : ∃ z, z = ((((((V3.setCell ⟨w1.heap.size, 0, none⟩ (.int .i64 r)).setCell ⟨w1.heap.size, 1, none⟩ (.int .i64 c)).setCell ⟨w1.heap.size, 2, none⟩ (.slice B m d)).setCell ⟨V2.heap.size, 0, none⟩ (.int .i64 t.row)).setCell ⟨V2.heap.size, 1, none⟩ (.int .i64 t.col)).setCell ⟨V2.heap.size, 2, none⟩ (.int .i64 t.sum)) := ⟨_, rfl⟩
  have t1 := set3_touch V3 w1.heap.size (.int .i64 r) (.int .i64 c) (.slice B m d)
  have t2 := set3_touch (((V3.setCell ⟨w1.heap.size, 0, none⟩ (.int .i64 r)).setCell ⟨w1.heap.size, 1, none⟩ (.int .i64 c)).setCell ⟨w1.heap.size, 2, none⟩ (.slice B m d)) V2.heap.size (.int .i64 t.row) (.int .i64 t.col) (.int .i64 t.sum)
  have u2 := (((h2.set0 (.int .i64 r)).set1 (.int .i64 c)).set2 (.slice B m d)).touch t2 (.inl hz2)
  have u3 := (((hv3.touch t1 (.inr hz2)).set0 (.int .i64 t.row)).set1 (.int .i64 t.col)).set2 (.int .i64 t.sum)
  have ur := ((HVV.out.ext hB).touch t1 (.inl (by omega))).touch t2 (.inl (by omega))
  have hbu : Below w.heap.size w U := hU ▸ t2.below (t1.below (ext_trans HB0.out hB) (by omega)) (by omega)
  have hfu : Below w1.heap.size w1 U := hU ▸ t2.below (t1.below (ext_trans hB2 hB3) (by omega)) (by omega)
  have HFU := Lib.hid (((hF1.ext hfu).mono (Nat.le_refl _) hfu.size))
  rw [← hU] at u2 u3 ur
  have HBU := Lib.hid hbu
  have HM := Lib.hid hm
  clear t1 t2 hbu hfu h2 hv2 hv3 hF1 hm hu2 hf2 hu3 hf3
  go_upto_region 2 with fail
  rw [← hU]
  clear g0 g1 g2 gz gl e0 e1 e2 ez el hU hV2 hV3 hB hB1 hB2 hB3
  have g0 := u2.c0
  have g1 := u2.c1
  have g2 := u2.c2
  have gl := u2.lt
  have e0 := u3.c0
  have e1 := u3.c1
  have el := u3.lt
  have f0 := ur.c0
  have f1 := ur.c1
  have f2 := ur.c2
  have fz := ur.fz
  have fl := ur.lt
  clear u2 u3 ur
  go_region
  all_goals (go_wp2_with fail)
  all_goals (refine bodyPost_ret (v := .tuple #[.agg #[.int .i64 r, .int .i64 c, .slice B m d], .int .i64 t.row, .int .i64 t.col]) (by simp [results, Try.results29, go_sem, f0, f1, f2, fl]) rfl ⟨r, c, B, d, xs, t.row, t.col, by rw [HM.out], hxl, ?_, ?_⟩)
  all_goals first
    | exact (((HFU.out.touch (set3_touch U w.heap.size _ _ _) (.inr (by omega))).ext (ext_drew _)).mono (by omega) (by simp [setCell_size]))
    | exact ((set3_touch U w.heap.size _ _ _).below HBU.out (Nat.le_refl _)).drew
    | trace_state
end Go.Proofs.Ytjacadkbkkkgfaa
