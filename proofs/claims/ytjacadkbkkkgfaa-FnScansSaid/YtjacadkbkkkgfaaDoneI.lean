/- RowsDone: the program's side. -/
import Derived.Test.YtjacadkbkkkgfaaDoneD
namespace Go.Proofs.Ytjacadkbkkkgfaa
open Go.RowKit
set_option linter.unusedVariables false
set_option linter.unusedSimpArgs false

set_option maxHeartbeats 4000000 in
set_option maxRecDepth 100000 in
theorem rowsDone_any (rows cols : Int) (A : Option Addr) (cc : Nat) (xs : List Tile) (w : World) (hn : xs.length ≤ 1048576) (hA : Fl Tile.ints 3 w A xs) :
    Calls Try.prog 31 #[.agg #[.int .i64 rows, .int .i64 cols, .slice A xs.length cc]] w (RetL one 1 w (sel (Scn rows cols xs) (doneTo xs cols rows.toNat)) (tb (Scn rows cols xs))) := by
  obtain ⟨i0, hi, hz0, hz1, hz2⟩ := info_parts infoInt
  obtain ⟨V0, hV0, hBV0, hzV0, hcV0, _⟩ := box_world w #[Value.int .i64 rows, Value.int .i64 cols, .slice A xs.length cc] 26
  have e0 : World.cell? V0 ⟨(World.heap w).size, 0, none⟩ = some (.int .i64 rows) := hcV0 0
  have e1 : World.cell? V0 ⟨(World.heap w).size, 1, none⟩ = some (.int .i64 cols) := hcV0 1
  have e2 : World.cell? V0 ⟨(World.heap w).size, 2, none⟩ = some (.slice A xs.length cc) := hcV0 2
  clear hcV0
  have hsc := isScan_any rows cols A cc xs V0 (by omega) (hA.ext hBV0)
  have hsd : Scn rows cols xs → Side rows cols ∧ ∀ (i : Nat) (z : Tile), xs[i]? = some z → 0 ≤ z.row ∧ z.row < rows := fun h => ⟨h.2, fun i z hz => by have h1 := h.1.1 i z hz; unfold TileOk at h1; omega⟩
  generalize Scn rows cols xs = Q at hsc hsd ⊢
  obtain ⟨n, hnn⟩ : ∃ n, n = List.length xs := ⟨_, rfl⟩
  rw [← hnn] at hV0 e2 hsc hn ⊢
  have HN := Lib.hid hnn
  clear hnn
  by_cases h : Q
  · rw [tb_t h] at hsc
    have HSC := Lib.hid hsc
    have HQ := Lib.hid h
    obtain ⟨⟨s1, s2, s3, s4⟩, htr⟩ := hsd h
    obtain ⟨R, hR⟩ : ∃ R : Nat, rows = (R : Int) := ⟨rows.toNat, by omega⟩
    subst hR
    have HTR := Lib.hid htr
    have hmk := run_make_rowN (P := Try.prog) 50 3 i0 _ Try.underlying50 hi hz0 .i64 .i64 R R (Nat.le_refl _) (by rw [hz2]; omega) (by omega)
    rw [hz1, Nat.mul_one] at hmk
    have hR2 : ((R : Int)).toNat = R := by omega
    obtain ⟨cells, hcells⟩ : ∃ cs, cs = madeCells (Value.int .i64 0).cells R := ⟨_, rfl⟩
    rw [← hcells] at hmk
    have HCE := Lib.hid hcells
    rw [hR2, sel_t h, tb_t h]
    clear hsc hsd h htr hcells hR2
    go_enter Try.func31, Try.ntmps31
    go_wp2_with fail
    ((with_reducible refine (HSC.out).mono ?_); rintro e w1 ⟨rfl, hb1⟩)
    have p0 := (hb1.cell (p := ⟨w.heap.size, 0, none⟩) hzV0).trans e0
    have p1 := (hb1.cell (p := ⟨w.heap.size, 1, none⟩) hzV0).trans e1
    have p2 := (hb1.cell (p := ⟨w.heap.size, 2, none⟩) hzV0).trans e2
    have hx1 := ext_trans hBV0 hb1
    have hzp : w.heap.size < w1.heap.size := Nat.lt_of_lt_of_le hzV0 hb1.size
    have hst : Cnt w1.heap.size R xs 0 (w1.alloc (.cells cells 3)) := by rw [HCE.out]; exact Cnt.start w1 _ rfl
    obtain ⟨cb, hcb⟩ : ∃ b, b = w1.heap.size := ⟨_, rfl⟩
    rw [← hcb] at hst
    have hzcb : w.heap.size < cb := by omega
    have HST := Lib.hid hst
    have HCB := Lib.hid hcb
    have hszc : cb ≤ w1.heap.size := by omega
    clear hst hcb
    go_wp2
    rw [← HCB.out]
    go_loopw [19] (fun i wr => ∃ k : Nat, k ≤ n ∧ i = .int .i64 k ∧ Below cb w1 wr ∧ Cnt cb R xs k wr) (fun i _ => n - (intOf i).toNat)
    case atStart => exact ⟨0, by omega, rfl, below_new hszc _, HST.out⟩
    case round =>
      obtain ⟨k, hk, rfl, hbr, hcn⟩ := hrel
      have hbx : Below w.heap.size w wr := hx1.trans (hbr.mono (by omega))
      have hzr := hbr.size
      have q0 := (hbr.cell (p := ⟨w.heap.size, 0, none⟩) hzcb).trans p0
      have q1 := (hbr.cell (p := ⟨w.heap.size, 1, none⟩) hzcb).trans p1
      have q2 := (hbr.cell (p := ⟨w.heap.size, 2, none⟩) hzcb).trans p2
      have hzq : w.heap.size < wr.heap.size := by omega
      by_cases hlt : k < n
      · obtain ⟨x, bb, o, hx, hAe, hbb, hc⟩ := (hA.ext hbx).at_ (k := k) (by rw [← HN.out]; exact hlt)
        subst hAe
        have c0 : World.cell? wr ⟨bb, o + k * 3, none⟩ = some (.int .i64 x.row) := hc 0 _ rfl
        have c1 : World.cell? wr ⟨bb, o + k * 3 + 1, none⟩ = some (.int .i64 x.col) := hc 1 _ rfl
        have c2 : World.cell? wr ⟨bb, o + k * 3 + 2, none⟩ = some (.int .i64 x.sum) := hc 2 _ rfl
        obtain ⟨r1, r2⟩ := HTR.out k x hx
        have HT := Lib.hid (take_get hx)
        obtain ⟨q, hq⟩ : ∃ q : Nat, x.row = (q : Int) := ⟨x.row.toNat, by omega⟩
        have hqr : q < R := by omega
        have HQR := Lib.hid hq
        rw [hq] at c0
        obtain ⟨U, hU, hBU, hzU, hu, _⟩ := box_world wr #[Value.int .i64 (q : Int), .int .i64 x.col, .int .i64 x.sum] 39
        have u0 : World.cell? U ⟨wr.heap.size, 0, none⟩ = some (.int .i64 (q : Int)) := hu 0
        have hcU := hcn.ext hBU
        have y1 := hcU.at_ q hqr
        have yz := hcU.fz
        have ylt := hcU.lt
        have hrl := rowCnt_len (q : Int) (xs.take k)
        rw [List.length_take, ← HN.out] at hrl
        obtain ⟨M, hM⟩ : ∃ M, M = rowCnt (q : Int) (xs.take k) := ⟨_, rfl⟩
        rw [← hM] at y1 hrl
        have HM := Lib.hid hM
        have HCU := Lib.hid hcU
        have hbU : Below cb w1 U := hbr.trans (hBU.mono (by omega))
        have hq0 : (0 : Int) ≤ (q : Int) := by omega
        have hq1 : (q : Int) < (R : Int) := by omega
        clear hc hx hu hq hcn hcU hM r1 r2
        have hk0 : (0 : Int) ≤ (k : Int) := by omega
        have hk1 : (k : Int) < (n : Int) := by omega
        go_wp2
        go_roundw
        case rel => exact ⟨k + 1, by omega, by go_num, below_set hbU ⟨cb, q, none⟩ _ (Nat.le_refl cb), HCU.out.step HT.out HQR.out hqr (by rw [HM.out])⟩
        case measure => simp [intOf]; omega
      · have hkn : k = n := by omega
        subst hkn
        obtain ⟨w2, hw2⟩ : ∃ z, z = wr := ⟨_, rfl⟩
        subst hw2
        have hcat := hcn.at_
        rw [take_all (by rw [← HN.out]; exact Nat.le_refl _)] at hcat
        have HCAT := Lib.hid hcat
        have hclt := hcn.lt
        clear hcat hcn
        go_wp2
        go_loopw [7, 33] (fun v i wr => ∃ r : Nat, r ≤ R ∧ i = .int .i64 r ∧ Below w2.heap.size w2 wr ∧ OwnF one 1 w2.heap.size 3 wr v (doneTo xs cols r)) (fun _ i _ => R - (intOf i).toNat)
        case atStart => exact ⟨0, by omega, rfl, Below.refl _ _, OwnF.none_⟩
        case round =>
          obtain ⟨r, hr, rfl, hbs, hown⟩ := hrel
          have hzs := hbs.size
          have m0 := (hbs.cell (p := ⟨w.heap.size, 0, none⟩) hzq).trans q0
          have m1 := (hbs.cell (p := ⟨w.heap.size, 1, none⟩) hzq).trans q1
          have m2 := (hbs.cell (p := ⟨w.heap.size, 2, none⟩) hzq).trans q2
          by_cases hlr : r < R
          · have d0 := (hbs.cell (p := ⟨cb, r, none⟩) hclt).trans (HCAT.out r hlr)
            have hdl := doneTo_len xs cols r
            have hr0 : (0 : Int) ≤ (r : Int) := by omega
            have hr1 : (r : Int) < (R : Int) := by omega
            have hcl2 : cb < wr.heap.size := by omega
            by_cases hp : (rowCnt (r : Int) xs : Int) = cols
            · have HP := Lib.hid hp
              rw [hp] at d0
              clear hp
              go_wp2_with (at_builtin; refine wpList_append_flat (f := one) (y := (r : Int)) rfl _ _ _ rfl w2.heap.size i0 _ 1 8 Try.underlying50 hi hz0 hz1 hz2 rfl (by decide) _ _ rfl rfl hown rfl ?_ (by decide) ?_ ?_; omega; exact hzs; intro v' w7 hown7 hg7 hb7)
              go_roundw
              case rel => exact ⟨r + 1, by omega, by go_num, hbs.trans hb7, by rw [doneTo_t HP.out]; exact hown7⟩
              case measure => simp [intOf]; omega
            · have hpb : ((rowCnt (r : Int) xs : Int) == cols) = false := by simp [hp]
              obtain ⟨M, hM⟩ : ∃ M, M = (rowCnt (r : Int) xs : Int) := ⟨_, rfl⟩
              rw [← hM] at d0 hpb
              have HP := Lib.hid hp
              clear hp hM
              go_wp2
              go_roundw
              case rel => exact ⟨r + 1, by omega, by go_num, hbs, by rw [doneTo_f HP.out]; exact hown⟩
              case measure => simp [intOf]; omega
          · have hrR : r = R := by omega
            subst hrR
            go_wp2
            go_ret2
            obtain ⟨B, d, hv, hF⟩ := hown.form one_length
            exact ⟨B, d, by rw [hv]; rfl, hF.mono hbx.size (Nat.le_refl _), ext_trans hbx hbs⟩
  · rw [tb_f h] at hsc
    have HSC := Lib.hid hsc
    rw [sel_f h, tb_f h]
    clear hsc hsd h
    go_enter Try.func31, Try.ntmps31
    go_wp2_with fail
    ((with_reducible refine (HSC.out).mono ?_); rintro e w1 ⟨rfl, hb1⟩)
    go_wp2
    go_ret2
    exact ⟨none, 0, rfl, FlO.nil, ext_trans hBV0 hb1⟩
end Go.Proofs.Ytjacadkbkkkgfaa
