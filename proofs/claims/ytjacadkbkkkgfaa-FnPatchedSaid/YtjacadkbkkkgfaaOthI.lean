/- OtherTiles: the program's side. -/
import Derived.Test.YtjacadkbkkkgfaaAlike
namespace Go.Proofs.Ytjacadkbkkkgfaa
open Go.RowKit
set_option linter.unusedVariables false
set_option linter.unusedSimpArgs false

set_option maxHeartbeats 2000000 in
set_option maxRecDepth 100000 in
theorem placesO_any (rows cols : Int) (v : Value) (hv : v.oneCell' = true) (p : Int → Int → Prop) (b1 b2 : Nat) (w : World) (hs : Side rows cols)
    (hcall : ∀ (W : World) (r c : Int), Below w.heap.size w W → 0 ≤ r → r < rows → 0 ≤ c → c < cols → Calls Try.prog 45 #[.int .i64 r, .int .i64 c, .pointer (some ⟨b1, 0, none⟩), .pointer (some ⟨b2, 0, none⟩)] W fun e w' => e = .returned (.bool (tb (p r c))) ∧ Below W.heap.size W w') :
    Calls Try.prog 44 #[.agg #[.int .i64 rows, .int .i64 cols, v], .func (.func 45) #[] #[.pointer (some ⟨b1, 0, none⟩), .pointer (some ⟨b2, 0, none⟩)]] w (RetG w (gridS p rows cols)) := by
  obtain ⟨i0, hi, hz0, hz1, hz2⟩ := info_parts infoRows
  obtain ⟨s1, s2, s3, s4⟩ := hs
  obtain ⟨R, hR⟩ : ∃ R : Nat, rows = (R : Int) := ⟨rows.toNat, by omega⟩
  obtain ⟨C, hC⟩ : ∃ C : Nat, cols = (C : Int) := ⟨cols.toNat, by omega⟩
  subst hR hC
  obtain ⟨V0, hV0, hBV0, hzV0, hcV0, _⟩ := box_world w #[Value.int .i64 (R : Int), Value.int .i64 (C : Int), v] 26
  have e0 : World.cell? V0 ⟨w.heap.size, 0, none⟩ = some (.int .i64 (R : Int)) := hcV0 0
  have e1 : World.cell? V0 ⟨w.heap.size, 1, none⟩ = some (.int .i64 (C : Int)) := hcV0 1
  have hzw0 : w.heap.size ≤ V0.heap.size := hBV0.size
  have HC := Lib.hid hcall
  have hG0 : gridFrom p C R 0 = gridS p (R : Int) (C : Int) := by simp [gridS]
  generalize gridS p (R : Int) (C : Int) = G at hG0 ⊢
  have HG0 := Lib.hid hG0
  clear hcall hcV0 hG0
  go_enter Try.func44, Try.ntmps44
  go_wp2
  go_loopw [5, 10] (fun v i wr => ∃ (r : Nat) (ys : List (GV (List Int))), r ≤ R ∧ i = .int .i64 r ∧ Below V0.heap.size V0 wr ∧ OwnG nohd slf 0 V0.heap.size 50 3 wr v ys ∧ Hid (ys.map GV.x ++ gridFrom p C (R - r) r = G) ∧ ys.length ≤ 6 * r) (fun _ i _ => R - (intOf i).toNat)
  case atStart => exact ⟨0, [], by omega, rfl, Below.refl _ _, OwnG.none_, HG0, by simp⟩
  case round =>
    obtain ⟨r, ys, hr, rfl, hbr, hown, hys, hyl⟩ := hrel
    have hzr := hbr.size
    have f0 := (hbr.cell (p := ⟨w.heap.size, 0, none⟩) hzV0).trans e0
    have f1 := (hbr.cell (p := ⟨w.heap.size, 1, none⟩) hzV0).trans e1
    by_cases hlr : r < R
    · have hru : R - r = (R - r - 1) + 1 := by omega
      have hg1 := hys.out
      rw [hru, gridFrom] at hg1
      have HG1 := Lib.hid hg1
      have hr0 : (0 : Int) ≤ (r : Int) := by omega
      have hr1 : (r : Int) < (R : Int) := by omega
      clear hys hg1 hru
      go_wp2
      obtain ⟨wo, hwo⟩ : ∃ z, z = wr := ⟨_, rfl⟩
      subst hwo
      go_loopw [5, 15] (fun v i wr => ∃ (c : Nat) (ys : List (GV (List Int))), c ≤ C ∧ i = .int .i64 c ∧ Below V0.heap.size V0 wr ∧ OwnG nohd slf 0 V0.heap.size 50 3 wr v ys ∧ Hid (ys.map GV.x ++ (rowFrom p r (C - c) c ++ gridFrom p C (R - r - 1) ((r : Int) + 1)) = G) ∧ ys.length ≤ 6 * r + c) (fun _ i _ => C - (intOf i).toNat)
      case atStart => exact ⟨0, ys, by omega, rfl, hbr, hown, HG1.out, by omega⟩
      case round =>
        clear hyl HG1 hown hbr
        obtain ⟨c, ys, hc, rfl, hbr, hown, hys, hyl⟩ := hrel
        have hzr := hbr.size
        have f0 := (hbr.cell (p := ⟨w.heap.size, 0, none⟩) hzV0).trans e0
        have f1 := (hbr.cell (p := ⟨w.heap.size, 1, none⟩) hzV0).trans e1
        by_cases hlc : c < C
        · have HCU : Hid (C - c = (C - (c + 1)) + 1) := (by omega : C - c = (C - (c + 1)) + 1)
          have hc0 : (0 : Int) ≤ (c : Int) := by omega
          have hc1 : (c : Int) < (C : Int) := by omega
          have hcl := HC.out wr r c (ext_trans hBV0 hbr) hr0 hr1 hc0 hc1
          have HCL := Lib.hid hcl
          clear hcl
          go_wp2_with fail
          ((with_reducible refine (HCL.out).mono ?_); rintro e w1 ⟨rfl, hb1⟩)
          have hbW := ext_trans hbr hb1
          by_cases hP : p r c
          · rw [tb_t hP]
            have HP := Lib.hid hP
            clear hP
            have hownW := hown.ext hb1
            have HF := Lib.hid (hownW.fresh (Nat.le_refl _))
            obtain ⟨L1, hL1, hBL, hzL, _, _⟩ := box_world w1 #[Value.int .i64 (r : Int), .int .i64 (c : Int)] 3
            have hlit : OwnF one 1 V0.heap.size 3 L1 (.slice (some ⟨(World.heap w1).size, 0, none⟩) 2 2) [(r : Int), (c : Int)] := hL1 ▸ OwnF.lit hbW.size [(r : Int), (c : Int)] (by simp [maxLen])
            have hownL := hownW.ext hBL
            have HLI := Lib.hid hlit
            have hbL := ext_trans hbW hBL
            have hszL : V0.heap.size ≤ L1.heap.size := hbL.size
            clear hlit hownW
            go_wp2_with (at_builtin; refine wpList_append_g (y := ⟨[(r : Int), (c : Int)], some ⟨(World.heap w1).size, 0, none⟩, 2⟩) (hd := nohd) (tl := slf) rfl _ _ _ rfl V0.heap.size 0 i0 _ 24 Try.underlying32 hi hz0 hz1 hz2 rfl (fun _ => rfl) _ ys rfl rfl hownL (by decide) HLI.out (fun _ z hz hl => HF.out z hz hl) (by omega) (by decide) hszL ?_; intro v' w8 hown8 hg8 hb8)
            have hgoal := hys.out
            rw [HCU.out, rowFrom_t HP.out] at hgoal
            have HG := Lib.hid hgoal
            clear hgoal
            go_roundw
            case rel => exact ⟨c + 1, _, by omega, by go_num, hbL.trans hb8, hown8, by
              show List.map GV.x (ys ++ [_]) ++ _ = _
              rw [List.map_append, List.append_assoc]; exact HG.out, by simp; omega⟩
            case measure => simp [intOf]; omega
          · rw [tb_f hP]
            have HP := Lib.hid hP
            clear hP
            have hownW := hown.ext hb1
            have hgoal := hys.out
            rw [HCU.out, rowFrom_f HP.out] at hgoal
            have HG := Lib.hid hgoal
            clear hgoal
            go_wp2
            go_roundw
            case rel => exact ⟨c + 1, ys, by omega, by go_num, hbW, hownW, HG.out, by omega⟩
            case measure => simp [intOf]; omega
        · have hcC : c = C := by omega
          subst hcC
          have hg2 := hys.out
          rw [Nat.sub_self] at hg2
          have HG2 := Lib.hid hg2
          clear hg2 hys
          go_wp2
          go_roundw
          case rel => exact ⟨r + 1, ys, by omega, by go_num, hbr, hown, HG2.out, by omega⟩
          case measure => simp [intOf]; omega
    · have hrR : r = R := by omega
      subst hrR
      have hg3 := hys.out
      rw [Nat.sub_self, gridFrom, List.append_nil] at hg3
      have HG3 := Lib.hid hg3
      clear hg3 hys
      go_wp2
      go_ret
      obtain ⟨B, d, hv, hF⟩ := (hown.from_ hzw0).form (fun _ => rfl) (by decide)
      rw [HG3.out] at hv hF
      exact ⟨B, d, by rw [hv]; rfl, hF, ext_trans hBV0 hbr⟩
set_option maxHeartbeats 1000000 in
theorem otherC_any (ra ca rb cb : Int) (A : Option Addr) (c : Nat) (xs : List Tile) (B : Option Addr) (d : Nat) (ys : List Tile) (r k : Int) (b1 b2 : Nat) (w : World) (hn : xs.length ≤ 1048576) (hA : Fl Tile.ints 3 w A xs) (hm : ys.length ≤ 1048576) (hB : Fl Tile.ints 3 w B ys)
    (hz1 : b1 < w.heap.size) (h0 : w.cell? ⟨b1, 0, none⟩ = some (.int .i64 ra)) (h1 : w.cell? ⟨b1, 1, none⟩ = some (.int .i64 ca)) (h2 : w.cell? ⟨b1, 2, none⟩ = some (.slice A xs.length c))
    (hz2 : b2 < w.heap.size) (k0 : w.cell? ⟨b2, 0, none⟩ = some (.int .i64 rb)) (k1 : w.cell? ⟨b2, 1, none⟩ = some (.int .i64 cb)) (k2 : w.cell? ⟨b2, 2, none⟩ = some (.slice B ys.length d)) :
    Calls Try.prog 45 #[.int .i64 r, .int .i64 k, .pointer (some ⟨b1, 0, none⟩), .pointer (some ⟨b2, 0, none⟩)] w fun e w' => e = .returned (.bool (tb (otherP xs ys r k))) ∧ Below w.heap.size w w' := by
  have hs1 := fun W hW => sumAtM_any ra ca A c xs r k W hn hW
  have hs2 := fun W hW => sumAtM_any rb cb B d ys r k W hm hW
  have hmp : otherP xs ys r k ↔ sumAt r k xs ≠ sumAt r k ys := Iff.rfl
  generalize sumAt r k xs = S at hs1 hmp
  generalize sumAt r k ys = T at hs2 hmp
  generalize otherP xs ys r k = Q at hmp ⊢
  generalize xs.length = n at *
  generalize ys.length = m at *
  have HS1 := Lib.hid hs1
  have HS2 := Lib.hid hs2
  have HQ := Lib.hid hmp
  have hpc := plus_cell w
  clear hs1 hs2 hmp
  by_cases h : S = T
  · rw [tb_f (fun q => (HQ.out.1 q) h)]
    have hbq : (S != T) = false := by simp [h]
    clear h
    go_enter Try.func45, Try.ntmps45
    go_wp2_with fail
    refine wp_region_grow (by kernel_rfl) (by kernel_rfl) ?_
    repeat (go_big_quiet_step ((first | (go_at_call 46; first | (with_reducible exact quiet_below (HS1.out _ (hA.ext (plus_below _ _)))) | (with_reducible exact quiet_below (HS2.out _ (hB.ext (plus_below _ _))))))))
    refine wpQuiet_nil ?_
    intro w1 hb1
    go_wp2
    go_ret
    exact ⟨rfl, hb1⟩
  · rw [tb_t (HQ.out.2 h)]
    have hbq : (S != T) = true := by simp [h]
    clear h
    go_enter Try.func45, Try.ntmps45
    go_wp2_with fail
    refine wp_region_grow (by kernel_rfl) (by kernel_rfl) ?_
    repeat (go_big_quiet_step ((first | (go_at_call 46; first | (with_reducible exact quiet_below (HS1.out _ (hA.ext (plus_below _ _)))) | (with_reducible exact quiet_below (HS2.out _ (hB.ext (plus_below _ _))))))))
    refine wpQuiet_nil ?_
    intro w1 hb1
    go_wp2
    go_ret
    exact ⟨rfl, hb1⟩
set_option maxHeartbeats 1000000 in
set_option maxRecDepth 100000 in
theorem otherTiles_any (ra ca rb cb : Int) (A : Option Addr) (c : Nat) (xs : List Tile) (B : Option Addr) (d : Nat) (ys : List Tile) (w : World) (hn : xs.length ≤ 1048576) (hA : Fl Tile.ints 3 w A xs) (hm : ys.length ≤ 1048576) (hB : Fl Tile.ints 3 w B ys) :
    Calls Try.prog 10 #[.agg #[.int .i64 ra, .int .i64 ca, .slice A xs.length c], .agg #[.int .i64 rb, .int .i64 cb, .slice B ys.length d]] w (RetS w (sel (AlikeS ra ca xs rb cb ys) (gridS (otherP xs ys) ra ca)) (tb (AlikeS ra ca xs rb cb ys))) := by
  obtain ⟨V0, hV0, hBV0, hzV0, hcV0, _⟩ := box_world w #[Value.int .i64 ra, Value.int .i64 ca, .slice A xs.length c] 26
  have g0 : World.cell? V0 ⟨(World.heap w).size, 0, none⟩ = some (.int .i64 ra) := hcV0 0
  have g1 : World.cell? V0 ⟨(World.heap w).size, 1, none⟩ = some (.int .i64 ca) := hcV0 1
  have g2 : World.cell? V0 ⟨(World.heap w).size, 2, none⟩ = some (.slice A xs.length c) := hcV0 2
  clear hcV0
  obtain ⟨V1, hV1, hBV1, hzV1, hcV1, _⟩ := box_world V0 #[Value.int .i64 rb, Value.int .i64 cb, .slice B ys.length d] 26
  have b0 : World.cell? V1 ⟨(World.heap V0).size, 0, none⟩ = some (.int .i64 rb) := hcV1 0
  have b1 : World.cell? V1 ⟨(World.heap V0).size, 1, none⟩ = some (.int .i64 cb) := hcV1 1
  have b2 : World.cell? V1 ⟨(World.heap V0).size, 2, none⟩ = some (.slice B ys.length d) := hcV1 2
  clear hcV1
  have a0 := (hBV1.cell (p := ⟨w.heap.size, 0, none⟩) hzV0).trans g0
  have a1 := (hBV1.cell (p := ⟨w.heap.size, 1, none⟩) hzV0).trans g1
  have a2 := (hBV1.cell (p := ⟨w.heap.size, 2, none⟩) hzV0).trans g2
  have hB1 := ext_trans hBV0 hBV1
  have hza : w.heap.size < V1.heap.size := Nat.lt_of_lt_of_le hzV0 hBV1.size
  have hw1 : w.heap.size ≤ V1.heap.size := hB1.size
  have hmf : ∀ (fn : Fn) (first cap : Array Value) (w : World), (Instr.makeFunc fn first cap).run Try.prog w = .ok (.func fn first cap) w := fun _ _ _ _ => rfl
  have hsc := areAlike_any ra ca rb cb A c xs B d ys V1 hn (hA.ext hB1) hm (hB.ext hB1)
  have hpl := fun (h : Side ra ca) W (hW : Below V1.heap.size V1 W) => placesO_any ra ca (.slice A xs.length c) rfl (otherP xs ys) w.heap.size V0.heap.size W h (fun V r k hV _ _ _ _ => otherC_any ra ca rb cb A c xs B d ys r k w.heap.size V0.heap.size V hn (((hA.ext hB1).ext hW).ext hV) hm (((hB.ext hB1).ext hW).ext hV) (Nat.lt_of_lt_of_le hza (Nat.le_trans hW.size hV.size)) ((hV.cell (p := ⟨w.heap.size, 0, none⟩) (Nat.lt_of_lt_of_le hza hW.size)).trans ((hW.cell (p := ⟨w.heap.size, 0, none⟩) hza).trans a0)) ((hV.cell (p := ⟨w.heap.size, 1, none⟩) (Nat.lt_of_lt_of_le hza hW.size)).trans ((hW.cell (p := ⟨w.heap.size, 1, none⟩) hza).trans a1)) ((hV.cell (p := ⟨w.heap.size, 2, none⟩) (Nat.lt_of_lt_of_le hza hW.size)).trans ((hW.cell (p := ⟨w.heap.size, 2, none⟩) hza).trans a2)) (Nat.lt_of_lt_of_le hzV1 (Nat.le_trans hW.size hV.size)) ((hV.cell (p := ⟨V0.heap.size, 0, none⟩) (Nat.lt_of_lt_of_le hzV1 hW.size)).trans ((hW.cell (p := ⟨V0.heap.size, 0, none⟩) hzV1).trans b0)) ((hV.cell (p := ⟨V0.heap.size, 1, none⟩) (Nat.lt_of_lt_of_le hzV1 hW.size)).trans ((hW.cell (p := ⟨V0.heap.size, 1, none⟩) hzV1).trans b1)) ((hV.cell (p := ⟨V0.heap.size, 2, none⟩) (Nat.lt_of_lt_of_le hzV1 hW.size)).trans ((hW.cell (p := ⟨V0.heap.size, 2, none⟩) hzV1).trans b2)))
  have hsd : AlikeS ra ca xs rb cb ys → Side ra ca := fun h => h.1.2
  generalize gridS (otherP xs ys) ra ca = G at hpl ⊢
  generalize Side ra ca = SD at hpl hsd
  generalize AlikeS ra ca xs rb cb ys = Q at hsc hsd ⊢
  generalize xs.length = n at *
  generalize ys.length = m at *
  have HP := Lib.hid hpl
  have HD := Lib.hid hsd
  clear hpl hsd
  by_cases h : Q
  · rw [tb_t h, sel_t h]
    rw [tb_t h] at hsc
    have HS2 := Lib.hid hsc
    have H := Lib.hid h
    clear hsc h
    go_enter Try.func10, Try.ntmps10
    go_wp2_with fail
    ((with_reducible refine (HS2.out).mono ?_); rintro e w1 ⟨rfl, hb1⟩)
    have p0 := (hb1.cell (p := ⟨w.heap.size, 0, none⟩) hza).trans a0
    have p1 := (hb1.cell (p := ⟨w.heap.size, 1, none⟩) hza).trans a1
    have p2 := (hb1.cell (p := ⟨w.heap.size, 2, none⟩) hza).trans a2
    have q0 := (hb1.cell (p := ⟨V0.heap.size, 0, none⟩) hzV1).trans b0
    have q1 := (hb1.cell (p := ⟨V0.heap.size, 1, none⟩) hzV1).trans b1
    have q2 := (hb1.cell (p := ⟨V0.heap.size, 2, none⟩) hzV1).trans b2
    go_wp2_with fail
    ((with_reducible refine (HP.out (HD.out H.out) w1 hb1).mono ?_); rintro e w2 ⟨B', d', rfl, hF, hb2⟩)
    have hx := ext_trans hB1 hb1
    go_wp2
    go_ret2
    exact ⟨B', d', rfl, hF.mono hx.size (Nat.le_refl _), ext_trans hx hb2⟩
  · rw [tb_f h, sel_f h]
    rw [tb_f h] at hsc
    have HS2 := Lib.hid hsc
    clear hsc h
    go_enter Try.func10, Try.ntmps10
    go_wp2_with fail
    ((with_reducible refine (HS2.out).mono ?_); rintro e w1 ⟨rfl, hb1⟩)
    go_wp2
    go_ret2
    exact ⟨none, 0, rfl, GlO.nil, ext_trans hB1 hb1⟩
end Go.Proofs.Ytjacadkbkkkgfaa
