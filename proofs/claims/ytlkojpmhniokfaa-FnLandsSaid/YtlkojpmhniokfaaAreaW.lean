/- The area of what is in at least one zone: both sides. -/
import Derived.Test.YtlkojpmhniokfaaBord
namespace Go.Proofs.Ytlkojpmhniokfaa
open Go.RowKit
set_option linter.unusedVariables false
set_option linter.unusedSimpArgs false

set_option maxHeartbeats 4000000 in
set_option maxRecDepth 100000 in
theorem areaOf_any (A : Option Addr) (c : Nat) (zs : List Zone) (w : World) (hn : zs.length ≤ 10) (hz : ∀ z ∈ zs, ZB z) (hA : Fl Zone.ints 5 w A zs) :
    Calls Try.prog 49 #[.slice A zs.length c] w fun e w' => e = .returned (.int .i64 (areaZ zs)) ∧ (0 ≤ areaZ zs ∧ areaZ zs ≤ 100000000000) ∧ Below w.heap.size w w' := by
  have hX1 := fun a (ha : a ∈ ((linesX zs).mergeSort leI)) => linesX_bd hz a ((sort_perm _).mem_iff.1 ha)
  have hY1 := fun a (ha : a ∈ ((linesY zs).mergeSort leI)) => linesY_bd hz a ((sort_perm _).mem_iff.1 ha)
  have hX2 := fun (k : Nat) (a b : Int) (ha : ((linesX zs).mergeSort leI)[k]? = some a) (hb : ((linesX zs).mergeSort leI)[k + 1]? = some b) => sorted_adj (sort_sorted (linesX zs)) ha hb
  have hY2 := fun (k : Nat) (a b : Int) (ha : ((linesY zs).mergeSort leI)[k]? = some a) (hb : ((linesY zs).mergeSort leI)[k + 1]? = some b) => sorted_adj (sort_sorted (linesY zs)) ha hb
  have hX3 : (((linesX zs).mergeSort leI)).length ≤ 20 := by rw [List.length_mergeSort, linesX_len]; omega
  have hY3 : (((linesY zs).mergeSort leI)).length ≤ 20 := by rw [List.length_mergeSort, linesY_len]; omega
  have hR0 : areaL (cntZ zs) ((linesX zs).mergeSort leI) ((linesY zs).mergeSort leI) = areaZ zs := areaZ_sort zs
  have hbo := borders_any A c zs w (by omega) hA
  have hdp := fun a b W hW => depth_any A c zs a b W (by omega) hz hW
  obtain ⟨xs, hxs⟩ : ∃ l, l = ((linesX zs).mergeSort leI) := ⟨_, rfl⟩
  obtain ⟨ys, hys⟩ : ∃ l, l = ((linesY zs).mergeSort leI) := ⟨_, rfl⟩
  rw [← hxs] at hX1 hX2 hX3 hR0 hbo
  rw [← hys] at hY1 hY2 hY3 hR0 hbo
  clear hxs hys
  unfold areaL at hR0
  obtain ⟨R, hRR⟩ : ∃ R, R = areaZ zs := ⟨_, rfl⟩
  rw [← hRR] at hR0 ⊢
  clear hRR
  obtain ⟨n, hnn⟩ : ∃ n, n = zs.length := ⟨_, rfl⟩
  rw [← hnn] at hbo hdp ⊢
  obtain ⟨nx, hnx⟩ : ∃ n, n = xs.length := ⟨_, rfl⟩
  obtain ⟨ny, hny⟩ : ∃ n, n = ys.length := ⟨_, rfl⟩
  rw [← hnx] at hX3
  rw [← hny] at hY3
  have HNX := Lib.hid hnx
  have HNY := Lib.hid hny
  have HX1 := Lib.hid hX1
  have HX2 := Lib.hid hX2
  have HY1 := Lib.hid hY1
  have HY2 := Lib.hid hY2
  have HR := Lib.hid hR0
  have HDP := Lib.hid hdp
  have HBO := Lib.hid hbo
  clear hbo
  clear hnn hnx hny hX1 hX2 hY1 hY2 hR0 hdp hz
  go_enter Try.func49, Try.ntmps49
  go_wp2_with fail
  refine (HBO.out).mono ?_
  rintro e w1 ⟨B, d, C, d', rfl, hX, hY, hb1⟩
  rw [← HNX.out, ← HNY.out]
  go_wp2
  have hAw := hA.ext hb1
  go_loopw [5, 6] (fun s i wr => ∃ (I : Nat) (S : Int), 1 ≤ I ∧ I ≤ nx + 1 ∧ i = .int .i64 I ∧ s = .int .i64 S ∧ Below w1.heap.size w1 wr ∧ 0 ≤ S ∧ S ≤ (I : Int) * 4000000000 ∧ Hid (S + adjSum (rowA (cntZ zs) ys) (xs.drop (I - 1)) = R)) (fun _ i _ => 22 - (intOf i).toNat)
  case atStart => exact ⟨1, 0, by omega, by omega, rfl, rfl, Below.refl _ _, by omega, by omega, by unfold Hid; rw [← HR.out]; simp⟩
  case round =>
    obtain ⟨I, S, hIa, hIb, rfl, rfl, hbr, hS0, hSb, hst0⟩ := hrel
    have hst := hst0.out
    clear hst0
    by_cases hlt : I < nx
    · obtain ⟨wo, hwo⟩ : ∃ x, x = wr := ⟨_, rfl⟩
      subst hwo
      obtain ⟨x0, hx0⟩ : ∃ m, I = m + 1 := ⟨I - 1, by omega⟩
      have xm1 : (I : Int) - 1 = (x0 : Int) := by omega
      have xm2 : IntKind.i64.wrap ((I : Int) - 1) = (x0 : Int) := by rw [xm1]; exact IntWalk.i64_in _ (by omega)
      have xl0 : (0 : Int) ≤ (x0 : Int) := by omega
      have xl1 : (x0 : Int) < (nx : Int) := by omega
      have xl2 : (0 : Int) ≤ (I : Int) := by omega
      have xl3 : (I : Int) < (nx : Int) := by omega
      obtain ⟨xa, hxa⟩ : ∃ q, xs[x0]? = some q := ⟨_, List.getElem?_eq_getElem (by rw [← HNX.out]; omega)⟩
      obtain ⟨xb, hxb⟩ : ∃ q, xs[x0 + 1]? = some q := ⟨_, List.getElem?_eq_getElem (by rw [← HNX.out]; omega)⟩
      have hxb2 : xs[I]? = some xb := by rw [hx0]; exact hxb
      have Hx0 := Lib.hid hx0
      clear hx0
      rw [show I - 1 = x0 from by have := Hx0.out; omega] at hst
      have hxab := HX2.out _ _ _ hxa hxb
      have hxa0 := HX1.out xa (List.mem_of_getElem? hxa)
      have hxb0 := HX1.out xb (List.mem_of_getElem? hxb)
      rw [adj_step hxa hxb] at hst
      have hS1 : S + adjSum (fun b b' => cellA (cntZ zs) xa xb b b') (ys.drop 0) + adjSum (rowA (cntZ zs) ys) (xs.drop (x0 + 1)) = R := by
        rw [List.drop_zero]
        have h : rowA (cntZ zs) ys xa xb = adjSum (fun b b' => cellA (cntZ zs) xa xb b b') ys := rfl
        rw [← h]
        omega
      have HS1 := Lib.hid hS1
      have Hxa := Lib.hid hxa
      have Hxb2 := Lib.hid hxb2
      clear hst hS1 hxa hxb hxb2
      go_wp2
      go_loopw [5, 7] (fun s k wi => ∃ (K : Nat) (T : Int), 1 ≤ K ∧ K ≤ ny + 1 ∧ k = .int .i64 K ∧ s = .int .i64 T ∧ Below wo.heap.size wo wi ∧ 0 ≤ T ∧ T ≤ (I : Int) * 4000000000 + (K : Int) * 100000000 ∧ Hid (T + adjSum (fun b b' => cellA (cntZ zs) xa xb b b') (ys.drop (K - 1)) + adjSum (rowA (cntZ zs) ys) (xs.drop (x0 + 1)) = R)) (fun _ k _ => 22 - (intOf k).toNat)
      case atStart => exact ⟨1, S, by omega, by omega, rfl, rfl, Below.refl _ _, hS0, by omega, HS1.out⟩
      case round =>
        obtain ⟨K, T, hKa, hKb, rfl, rfl, hbi, hT0, hTb, hst20⟩ := hrel
        have hst2 := hst20.out
        clear hst20
        have hbo := ext_trans hbr hbi
        obtain ⟨wi, hwi⟩ : ∃ x, x = wr := ⟨_, rfl⟩
        subst hwi
        by_cases hlt2 : K < ny
        · skip
          obtain ⟨y0, hy0⟩ : ∃ m, K = m + 1 := ⟨K - 1, by omega⟩
          have ym1 : (K : Int) - 1 = (y0 : Int) := by omega
          have ym2 : IntKind.i64.wrap ((K : Int) - 1) = (y0 : Int) := by rw [ym1]; exact IntWalk.i64_in _ (by omega)
          have yl0 : (0 : Int) ≤ (y0 : Int) := by omega
          have yl1 : (y0 : Int) < (ny : Int) := by omega
          have yl2 : (0 : Int) ≤ (K : Int) := by omega
          have yl3 : (K : Int) < (ny : Int) := by omega
          obtain ⟨ya, hya⟩ : ∃ q, ys[y0]? = some q := ⟨_, List.getElem?_eq_getElem (by rw [← HNY.out]; omega)⟩
          obtain ⟨yb, hyb⟩ : ∃ q, ys[y0 + 1]? = some q := ⟨_, List.getElem?_eq_getElem (by rw [← HNY.out]; omega)⟩
          have hyb2 : ys[K]? = some yb := by rw [hy0]; exact hyb
          have Hy0 := Lib.hid hy0
          clear hy0
          rw [show K - 1 = y0 from by have := Hy0.out; omega] at hst2
          have hyab := HY2.out _ _ _ hya hyb
          have hya0 := HY1.out ya (List.mem_of_getElem? hya)
          have hyb0 := HY1.out yb (List.mem_of_getElem? hyb)
          rw [adj_step hya hyb] at hst2
          -- the four numbers in memory
          have hXi := hX.ext hbo
          have hYi := hY.ext hbo
          obtain ⟨bx, ox, hBx, hbx, _⟩ := _root_.id hXi (fun e' => by have h := Hxa.out; rw [e'] at h; simp at h)
          obtain ⟨by_, oy, hBy, hby, _⟩ := _root_.id hYi (fun e' => by rw [e'] at hya; simp at hya)
          subst hBx hBy
          have x1 : World.cell? wi ⟨bx, ox + x0, none⟩ = some (.int .i64 xa) := by have := hXi.get Hxa.out 0 xa rfl; simpa using this
          have x2 : World.cell? wi ⟨bx, ox + I, none⟩ = some (.int .i64 xb) := by have := hXi.get Hxb2.out 0 xb rfl; simpa using this
          have y1 : World.cell? wi ⟨by_, oy + y0, none⟩ = some (.int .i64 ya) := by have := hYi.get hya 0 ya rfl; simpa using this
          have y2 : World.cell? wi ⟨by_, oy + K, none⟩ = some (.int .i64 yb) := by have := hYi.get hyb2 0 yb rfl; simpa using this
          have hdq := HDP.out xa ya
          obtain ⟨q, hq⟩ : ∃ q, q = cntZ zs xa ya := ⟨_, rfl⟩
          rw [← hq] at hdq
          have hcell : cellA (cntZ zs) xa xb ya yb = if 0 < q then (xb - xa) * (yb - ya) else 0 := by rw [hq]; rfl
          have hbd := area_bd (cntZ zs) hxa0.1 hxab hxb0.2 hya0.1 hyab hyb0.2
          have hAi := hAw.ext hbo
          have HDQ := Lib.hid hdq
          have hpc := plus_cell wi
          by_cases hq0 : 0 < q
          · rw [if_pos hq0] at hcell
            rw [hcell] at hst2
            obtain ⟨p, hp⟩ : ∃ p, p = (xb - xa) * (yb - ya) := ⟨_, rfl⟩
            rw [← hp] at hbd hst2
            have HP := Lib.hid hp
            have HS2 : Hid (T + p + adjSum (fun b b' => cellA (cntZ zs) xa xb b b') (ys.drop (y0 + 1)) + adjSum (rowA (cntZ zs) ys) (xs.drop (x0 + 1)) = R) := by unfold Hid; omega
            clear hst2 hcell hq hya hyb hyb2 hp hdq
            go_wp2_with fail
            refine wp_region_grow (by kernel_rfl) (by kernel_rfl) ?_
            repeat (go_big_quiet_step ((first | (go_at_call 69; exact quiet_below (HDQ.out _ (hAi.ext (plus_below _ _)))))))
            refine wpQuiet_nil ?_
            intro w1 hb1
            have hbq := ext_trans hbi hb1
            have z1 := (hb1.cell (p := ⟨bx, ox + x0, none⟩) hbx).trans x1
            have z2 := (hb1.cell (p := ⟨bx, ox + I, none⟩) hbx).trans x2
            have z3 := (hb1.cell (p := ⟨by_, oy + y0, none⟩) hby).trans y1
            have z4 := (hb1.cell (p := ⟨by_, oy + K, none⟩) hby).trans y2
            obtain ⟨wq, hwq⟩ : ∃ x, x = w1 := ⟨_, rfl⟩
            subst hwq
            have hpq := plus_cell wq
            have hbxq : bx < wq.heap.size := Nat.lt_of_lt_of_le hbx hb1.size
            have hbyq : by_ < wq.heap.size := Nat.lt_of_lt_of_le hby hb1.size
            have a1 : IntKind.i64.wrap (xb - xa) = xb - xa := IntWalk.i64_in _ (by omega)
            have a2 : IntKind.i64.wrap (yb - ya) = yb - ya := IntWalk.i64_in _ (by omega)
            have a3 : IntKind.i64.wrap ((xb - xa) * (yb - ya)) = p := by rw [← HP.out]; exact IntWalk.i64_in _ (by omega)
            have a4 : IntKind.i64.wrap (T + p) = T + p := IntWalk.i64_in _ (by omega)
            clear hpc x1 x2 y1 y2
            go_wp2_with fail
            refine wp_region_grow (by kernel_rfl) (by kernel_rfl) ?_
            repeat (go_big_quiet_step ((first | (fail))))
            refine wpQuiet_nil ?_
            intro w1 hb1
            have hbq2 := ext_trans hbq hb1
            clear a1 a2 a3 a4
            go_wp2
            go_roundw
            case rel => exact ⟨K + 1, T + p, by omega, by omega, by go_num, rfl, hbq2, by omega, by omega, by unfold Hid; rw [show K + 1 - 1 = y0 + 1 from by have := Hy0.out; omega]; exact HS2.out⟩
            case measure => simp [intOf]; omega
          · rw [if_neg hq0] at hcell
            rw [hcell] at hst2
            have HS2 : Hid (T + adjSum (fun b b' => cellA (cntZ zs) xa xb b b') (ys.drop (y0 + 1)) + adjSum (rowA (cntZ zs) ys) (xs.drop (x0 + 1)) = R) := by unfold Hid; omega
            clear hst2 hcell hq hya hyb hyb2 hdq hbd
            go_wp2_with fail
            refine wp_region_grow (by kernel_rfl) (by kernel_rfl) ?_
            repeat (go_big_quiet_step ((first | (go_at_call 69; exact quiet_below (HDQ.out _ (hAi.ext (plus_below _ _)))))))
            refine wpQuiet_nil ?_
            intro w1 hb1
            have hbq := ext_trans hbi hb1
            go_wp2
            go_roundw
            case rel => exact ⟨K + 1, T, by omega, by omega, by go_num, rfl, hbq, by omega, by omega, by unfold Hid; rw [show K + 1 - 1 = y0 + 1 from by have := Hy0.out; omega]; exact HS2.out⟩
            case measure => simp [intOf]; omega
        · have he := hst2
          rw [adj_end (by rw [← HNY.out]; omega)] at he
          have HE : Hid (T + adjSum (rowA (cntZ zs) ys) (xs.drop (x0 + 1)) = R) := by unfold Hid; omega
          clear he hst2
          go_wp2
          go_roundw
          case rel => exact ⟨I + 1, T, by omega, by omega, by go_num, rfl, ext_trans hbr hbi, hT0, by omega, by unfold Hid; rw [show I + 1 - 1 = x0 + 1 from by have := Hx0.out; omega]; exact HE.out⟩
          case measure => simp [intOf]; omega
    · have hs := hst
      rw [adj_end (by rw [← HNX.out]; omega)] at hs
      obtain rfl : S = R := by omega
      clear hs hst
      go_wp2
      go_ret
      exact ⟨rfl, ⟨hS0, by omega⟩, ext_trans hb1 hbr⟩
set_option maxHeartbeats 4000000 in
set_option maxRecDepth 100000 in
theorem l6Area_any (A : Option Addr) (c : Nat) (zs : List Zone) (w : World) (hn : zs.length ≤ 10) (hz : ∀ z ∈ zs, ZB z) (hA : Fl Zone.ints 5 w A zs) :
    Calls Try.prog 50 #[.slice A zs.length c] w fun e w' => e = .returned (.int .i64 (areaZ zs)) ∧ (0 ≤ areaZ zs ∧ areaZ zs ≤ 100000000000) ∧ Below w.heap.size w w' := by
  have hX1 := fun a (ha : a ∈ (putAll (linesX zs))) => linesX_bd hz a ((putAll_mem _ a).1 ha)
  have hY1 := fun a (ha : a ∈ (putAll (linesY zs))) => linesY_bd hz a ((putAll_mem _ a).1 ha)
  have hX2 := fun (k : Nat) (a b : Int) (ha : (putAll (linesX zs))[k]? = some a) (hb : (putAll (linesX zs))[k + 1]? = some b) => sorted_adj ((putAll_strict (linesX zs)).imp (fun h => Int.le_of_lt h)) ha hb
  have hY2 := fun (k : Nat) (a b : Int) (ha : (putAll (linesY zs))[k]? = some a) (hb : (putAll (linesY zs))[k + 1]? = some b) => sorted_adj ((putAll_strict (linesY zs)).imp (fun h => Int.le_of_lt h)) ha hb
  have hX3 : ((putAll (linesX zs))).length ≤ 20 := by have h1 := putAll_len (linesX zs); rw [linesX_len] at h1; omega
  have hY3 : ((putAll (linesY zs))).length ≤ 20 := by have h1 := putAll_len (linesY zs); rw [linesY_len] at h1; omega
  have hR0 : areaL (cntZ zs) (putAll (linesX zs)) (putAll (linesY zs)) = areaZ zs := rfl
  have hlx := l6LinesT_any A c zs w (by omega) hA
  have hly := fun W hW => l6LinesF_any A c zs W (by omega) hW
  have hdp := fun a b W hW => l6Depth_any A c zs a b W (by omega) hz hW
  obtain ⟨xs, hxs⟩ : ∃ l, l = (putAll (linesX zs)) := ⟨_, rfl⟩
  obtain ⟨ys, hys⟩ : ∃ l, l = (putAll (linesY zs)) := ⟨_, rfl⟩
  rw [← hxs] at hX1 hX2 hX3 hR0 hlx
  rw [← hys] at hY1 hY2 hY3 hR0 hly
  clear hxs hys
  unfold areaL at hR0
  obtain ⟨R, hRR⟩ : ∃ R, R = areaZ zs := ⟨_, rfl⟩
  rw [← hRR] at hR0 ⊢
  clear hRR
  obtain ⟨n, hnn⟩ : ∃ n, n = zs.length := ⟨_, rfl⟩
  rw [← hnn] at hlx hly hdp ⊢
  obtain ⟨nx, hnx⟩ : ∃ n, n = xs.length := ⟨_, rfl⟩
  obtain ⟨ny, hny⟩ : ∃ n, n = ys.length := ⟨_, rfl⟩
  rw [← hnx] at hX3
  rw [← hny] at hY3
  have HNX := Lib.hid hnx
  have HNY := Lib.hid hny
  have HX1 := Lib.hid hX1
  have HX2 := Lib.hid hX2
  have HY1 := Lib.hid hY1
  have HY2 := Lib.hid hY2
  have HR := Lib.hid hR0
  have HDP := Lib.hid hdp
  have HLX := Lib.hid hlx
  have HLY := Lib.hid hly
  clear hlx hly
  clear hnn hnx hny hX1 hX2 hY1 hY2 hR0 hdp hz
  go_enter Try.func50, Try.ntmps50
  go_wp2_with fail
  refine (HLX.out).mono ?_
  rintro e v1 ⟨u1, rfl, ho1, hc1⟩
  go_wp2_with fail
  refine (HLY.out v1 (hA.ext hc1)).mono ?_
  rintro e w1 ⟨u2, rfl, ho2, hc2⟩
  obtain ⟨B, d, hu1, hX0⟩ := ho1.form one_length
  obtain ⟨C, d', hu2, hY0⟩ := ho2.form one_length
  rw [← HNX.out] at hu1
  rw [← HNY.out] at hu2
  subst hu1 hu2
  have hX := hX0.fl.ext hc2
  have hY := hY0.fl
  have hb1 := ext_trans hc1 hc2
  clear hX0 hY0 ho1 ho2
  go_wp2
  have hAw := hA.ext hb1
  go_loopw [5, 6] (fun s i wr => ∃ (I : Nat) (S : Int), I ≤ 21 ∧ i = .int .i64 I ∧ s = .int .i64 S ∧ Below w1.heap.size w1 wr ∧ 0 ≤ S ∧ S ≤ (I : Int) * 4000000000 ∧ Hid (S + adjSum (rowA (cntZ zs) ys) (xs.drop I) = R)) (fun _ i _ => 22 - (intOf i).toNat)
  case atStart => exact ⟨0, 0, by omega, rfl, rfl, Below.refl _ _, by omega, by omega, by unfold Hid; rw [← HR.out]; simp⟩
  case round =>
    obtain ⟨I, S, hI2, rfl, rfl, hbr, hS0, hSb, hst0⟩ := hrel
    have hst := hst0.out
    clear hst0
    by_cases hlt : I + 1 < nx
    · obtain ⟨wo, hwo⟩ : ∃ x, x = wr := ⟨_, rfl⟩
      subst hwo
      obtain ⟨xj, hxj⟩ : ∃ m, m = I + 1 := ⟨_, rfl⟩
      have xm1 : (I : Int) + 1 = (xj : Int) := by omega
      have xm2 : IntKind.i64.wrap ((I : Int) + 1) = (xj : Int) := by rw [xm1]; exact IntWalk.i64_in _ (by omega)
      have xl0 : (0 : Int) ≤ (I : Int) := by omega
      have xl1 : (I : Int) < (nx : Int) := by omega
      have xl2 : (0 : Int) ≤ (xj : Int) := by omega
      have xl3 : (xj : Int) < (nx : Int) := by omega
      obtain ⟨xa, hxa⟩ : ∃ q, xs[I]? = some q := ⟨_, List.getElem?_eq_getElem (by rw [← HNX.out]; omega)⟩
      obtain ⟨xb, hxb⟩ : ∃ q, xs[I + 1]? = some q := ⟨_, List.getElem?_eq_getElem (by rw [← HNX.out]; omega)⟩
      have hxb2 : xs[xj]? = some xb := by rw [hxj]; exact hxb
      have Hxj := Lib.hid hxj
      clear hxj
      skip
      have hxab := HX2.out _ _ _ hxa hxb
      have hxa0 := HX1.out xa (List.mem_of_getElem? hxa)
      have hxb0 := HX1.out xb (List.mem_of_getElem? hxb)
      rw [adj_step hxa hxb] at hst
      have hS1 : S + adjSum (fun b b' => cellA (cntZ zs) xa xb b b') (ys.drop 0) + adjSum (rowA (cntZ zs) ys) (xs.drop (I + 1)) = R := by
        rw [List.drop_zero]
        have h : rowA (cntZ zs) ys xa xb = adjSum (fun b b' => cellA (cntZ zs) xa xb b b') ys := rfl
        rw [← h]
        omega
      have HS1 := Lib.hid hS1
      have Hxa := Lib.hid hxa
      have Hxb2 := Lib.hid hxb2
      clear hst hS1 hxa hxb hxb2
      go_wp2
      go_loopw [5, 7] (fun s k wi => ∃ (K : Nat) (T : Int), K ≤ 21 ∧ k = .int .i64 K ∧ s = .int .i64 T ∧ Below wo.heap.size wo wi ∧ 0 ≤ T ∧ T ≤ (I : Int) * 4000000000 + (K : Int) * 100000000 ∧ Hid (T + adjSum (fun b b' => cellA (cntZ zs) xa xb b b') (ys.drop K) + adjSum (rowA (cntZ zs) ys) (xs.drop (I + 1)) = R)) (fun _ k _ => 22 - (intOf k).toNat)
      case atStart => exact ⟨0, S, by omega, rfl, rfl, Below.refl _ _, hS0, by omega, HS1.out⟩
      case round =>
        obtain ⟨K, T, hK2, rfl, rfl, hbi, hT0, hTb, hst20⟩ := hrel
        have hst2 := hst20.out
        clear hst20
        have hbo := ext_trans hbr hbi
        obtain ⟨wi, hwi⟩ : ∃ x, x = wr := ⟨_, rfl⟩
        subst hwi
        by_cases hlt2 : K + 1 < ny
        · skip
          obtain ⟨yj, hyj⟩ : ∃ m, m = K + 1 := ⟨_, rfl⟩
          have ym1 : (K : Int) + 1 = (yj : Int) := by omega
          have ym2 : IntKind.i64.wrap ((K : Int) + 1) = (yj : Int) := by rw [ym1]; exact IntWalk.i64_in _ (by omega)
          have yl0 : (0 : Int) ≤ (K : Int) := by omega
          have yl1 : (K : Int) < (ny : Int) := by omega
          have yl2 : (0 : Int) ≤ (yj : Int) := by omega
          have yl3 : (yj : Int) < (ny : Int) := by omega
          obtain ⟨ya, hya⟩ : ∃ q, ys[K]? = some q := ⟨_, List.getElem?_eq_getElem (by rw [← HNY.out]; omega)⟩
          obtain ⟨yb, hyb⟩ : ∃ q, ys[K + 1]? = some q := ⟨_, List.getElem?_eq_getElem (by rw [← HNY.out]; omega)⟩
          have hyb2 : ys[yj]? = some yb := by rw [hyj]; exact hyb
          have Hyj := Lib.hid hyj
          clear hyj
          skip
          have hyab := HY2.out _ _ _ hya hyb
          have hya0 := HY1.out ya (List.mem_of_getElem? hya)
          have hyb0 := HY1.out yb (List.mem_of_getElem? hyb)
          rw [adj_step hya hyb] at hst2
          -- the four numbers in memory
          have hXi := hX.ext hbo
          have hYi := hY.ext hbo
          obtain ⟨bx, ox, hBx, hbx, _⟩ := _root_.id hXi (fun e' => by have h := Hxa.out; rw [e'] at h; simp at h)
          obtain ⟨by_, oy, hBy, hby, _⟩ := _root_.id hYi (fun e' => by rw [e'] at hya; simp at hya)
          subst hBx hBy
          have x1 : World.cell? wi ⟨bx, ox + I, none⟩ = some (.int .i64 xa) := by have := hXi.get Hxa.out 0 xa rfl; simpa using this
          have x2 : World.cell? wi ⟨bx, ox + xj, none⟩ = some (.int .i64 xb) := by have := hXi.get Hxb2.out 0 xb rfl; simpa using this
          have y1 : World.cell? wi ⟨by_, oy + K, none⟩ = some (.int .i64 ya) := by have := hYi.get hya 0 ya rfl; simpa using this
          have y2 : World.cell? wi ⟨by_, oy + yj, none⟩ = some (.int .i64 yb) := by have := hYi.get hyb2 0 yb rfl; simpa using this
          have hdq := HDP.out xa ya
          obtain ⟨q, hq⟩ : ∃ q, q = cntZ zs xa ya := ⟨_, rfl⟩
          rw [← hq] at hdq
          have hcell : cellA (cntZ zs) xa xb ya yb = if 0 < q then (xb - xa) * (yb - ya) else 0 := by rw [hq]; rfl
          have hbd := area_bd (cntZ zs) hxa0.1 hxab hxb0.2 hya0.1 hyab hyb0.2
          have hAi := hAw.ext hbo
          have HDQ := Lib.hid hdq
          have hpc := plus_cell wi
          by_cases hq0 : 0 < q
          · rw [if_pos hq0] at hcell
            rw [hcell] at hst2
            obtain ⟨p, hp⟩ : ∃ p, p = (xb - xa) * (yb - ya) := ⟨_, rfl⟩
            rw [← hp] at hbd hst2
            have HP := Lib.hid hp
            have HS2 : Hid (T + p + adjSum (fun b b' => cellA (cntZ zs) xa xb b b') (ys.drop (K + 1)) + adjSum (rowA (cntZ zs) ys) (xs.drop (I + 1)) = R) := by unfold Hid; omega
            clear hst2 hcell hq hya hyb hyb2 hp hdq
            go_wp2_with fail
            refine wp_region_grow (by kernel_rfl) (by kernel_rfl) ?_
            repeat (go_big_quiet_step ((first | (go_at_call 71; exact quiet_below (HDQ.out _ (hAi.ext (plus_below _ _)))))))
            refine wpQuiet_nil ?_
            intro w1 hb1
            have hbq := ext_trans hbi hb1
            have z1 := (hb1.cell (p := ⟨bx, ox + I, none⟩) hbx).trans x1
            have z2 := (hb1.cell (p := ⟨bx, ox + xj, none⟩) hbx).trans x2
            have z3 := (hb1.cell (p := ⟨by_, oy + K, none⟩) hby).trans y1
            have z4 := (hb1.cell (p := ⟨by_, oy + yj, none⟩) hby).trans y2
            obtain ⟨wq, hwq⟩ : ∃ x, x = w1 := ⟨_, rfl⟩
            subst hwq
            have hpq := plus_cell wq
            have hbxq : bx < wq.heap.size := Nat.lt_of_lt_of_le hbx hb1.size
            have hbyq : by_ < wq.heap.size := Nat.lt_of_lt_of_le hby hb1.size
            have a1 : IntKind.i64.wrap (xb - xa) = xb - xa := IntWalk.i64_in _ (by omega)
            have a2 : IntKind.i64.wrap (yb - ya) = yb - ya := IntWalk.i64_in _ (by omega)
            have a3 : IntKind.i64.wrap ((xb - xa) * (yb - ya)) = p := by rw [← HP.out]; exact IntWalk.i64_in _ (by omega)
            have a4 : IntKind.i64.wrap (T + p) = T + p := IntWalk.i64_in _ (by omega)
            clear hpc x1 x2 y1 y2
            go_wp2_with fail
            refine wp_region_grow (by kernel_rfl) (by kernel_rfl) ?_
            repeat (go_big_quiet_step ((first | (fail))))
            refine wpQuiet_nil ?_
            intro w1 hb1
            have hbq2 := ext_trans hbq hb1
            clear a1 a2 a3 a4
            go_wp2
            go_roundw
            case rel => exact ⟨yj, T + p, by have := Hyj.out; omega, by first | rfl | go_num, rfl, hbq2, by omega, by have := Hyj.out; omega, by unfold Hid; rw [Hyj.out]; exact HS2.out⟩
            case measure => simp [intOf]; omega
          · rw [if_neg hq0] at hcell
            rw [hcell] at hst2
            have HS2 : Hid (T + adjSum (fun b b' => cellA (cntZ zs) xa xb b b') (ys.drop (K + 1)) + adjSum (rowA (cntZ zs) ys) (xs.drop (I + 1)) = R) := by unfold Hid; omega
            clear hst2 hcell hq hya hyb hyb2 hdq hbd
            go_wp2_with fail
            refine wp_region_grow (by kernel_rfl) (by kernel_rfl) ?_
            repeat (go_big_quiet_step ((first | (go_at_call 71; exact quiet_below (HDQ.out _ (hAi.ext (plus_below _ _)))))))
            refine wpQuiet_nil ?_
            intro w1 hb1
            have hbq := ext_trans hbi hb1
            go_wp2
            go_roundw
            case rel => exact ⟨yj, T, by have := Hyj.out; omega, by first | rfl | go_num, rfl, hbq, by omega, by have := Hyj.out; omega, by unfold Hid; rw [Hyj.out]; exact HS2.out⟩
            case measure => simp [intOf]; omega
        · have he := hst2
          rw [adj_end (by rw [← HNY.out]; omega)] at he
          have HE : Hid (T + adjSum (rowA (cntZ zs) ys) (xs.drop (I + 1)) = R) := by unfold Hid; omega
          clear he hst2
          go_wp2
          go_roundw
          case rel => exact ⟨xj, T, by have := Hxj.out; omega, by first | rfl | go_num, rfl, ext_trans hbr hbi, hT0, by have := Hxj.out; omega, by unfold Hid; rw [Hxj.out]; exact HE.out⟩
          case measure => simp [intOf]; omega
    · have hs := hst
      rw [adj_end (by rw [← HNX.out]; omega)] at hs
      obtain rfl : S = R := by omega
      clear hs hst
      go_wp2
      go_ret
      exact ⟨rfl, ⟨hS0, by omega⟩, ext_trans hb1 hbr⟩
end Go.Proofs.Ytlkojpmhniokfaa
