/- The first unit square that is in the most zones: MostDeep on both sides. -/
import Derived.Test.YtpjapemclbminaaAreaA
namespace Go.Proofs.Ytpjapemclbminaa
open Go.RowKit
set_option linter.unusedVariables false
set_option linter.unusedSimpArgs false

theorem results_tmp4 {fn : Func} {t u v x : Tmp} (h : fn.results = #[.tmp t, .tmp u, .tmp v, .tmp x]) (tmps : Array Value) (P : Program) (w : World) :
    (results fn tmps).run P w = .ok (.tuple #[tmps.getD t undef, tmps.getD u undef, tmps.getD v undef, tmps.getD x undef]) w := by
  simp [results, h]
def updD (d : Int → Int → Int) (x : Int) (s : Int × Int × Int) (y : Int) : Int × Int × Int := if s.2.2 < d x y then (x, y, d x y) else s
def rowD (d : Int → Int → Int) (ys : List Int) (s : Int × Int × Int) (x : Int) : Int × Int × Int := ys.foldl (updD d x) s
def deepL (d : Int → Int → Int) (xs ys : List Int) : Int × Int × Int := xs.foldl (rowD d ys) (0, 0, 0)
theorem updD_idem (d : Int → Int → Int) (x : Int) (s : Int × Int × Int) (y : Int) : updD d x (updD d x s y) y = updD d x s y := by
  unfold updD
  by_cases h : s.2.2 < d x y
  · rw [if_pos h, if_neg (Int.lt_irrefl _)]
  · rw [if_neg h, if_neg h]
theorem updD_mono (d : Int → Int → Int) (x : Int) (s : Int × Int × Int) (y : Int) : s.2.2 ≤ (updD d x s y).2.2 ∧ d x y ≤ (updD d x s y).2.2 := by
  unfold updD
  by_cases h : s.2.2 < d x y
  · rw [if_pos h]; exact ⟨Int.le_of_lt h, Int.le_refl _⟩
  · rw [if_neg h]; exact ⟨Int.le_refl _, by omega⟩
theorem rowD_ge (d : Int → Int → Int) (x : Int) : ∀ (ys : List Int) (s : Int × Int × Int), s.2.2 ≤ (rowD d ys s x).2.2 ∧ ∀ y ∈ ys, d x y ≤ (rowD d ys s x).2.2
  | [], s => ⟨Int.le_refl _, fun y h => by simp at h⟩
  | a :: r, s => by
    obtain ⟨h1, h2⟩ := rowD_ge d x r (updD d x s a)
    obtain ⟨h3, h4⟩ := updD_mono d x s a
    have e : rowD d (a :: r) s x = rowD d r (updD d x s a) x := rfl
    rw [e]
    refine ⟨Int.le_trans h3 h1, fun y hy => ?_⟩
    rcases List.mem_cons.1 hy with rfl | hy
    · exact Int.le_trans h4 h1
    · exact h2 y hy
theorem rowD_fix (d : Int → Int → Int) (x : Int) : ∀ (ys : List Int) (s : Int × Int × Int), (∀ y ∈ ys, d x y ≤ s.2.2) → rowD d ys s x = s
  | [], _, _ => rfl
  | a :: r, s, h => by
    have e : rowD d (a :: r) s x = rowD d r (updD d x s a) x := rfl
    have h1 : updD d x s a = s := by unfold updD; rw [if_neg (by have := h a List.mem_cons_self; omega)]
    rw [e, h1]
    exact rowD_fix d x r s fun y hy => h y (List.mem_cons_of_mem _ hy)
theorem deepL_comp (d : Int → Int → Int) (xs ys : List Int) : deepL d (comp xs) (comp ys) = deepL d xs ys := by
  unfold deepL
  have h1 : rowD d (comp ys) = rowD d ys := by
    funext s x
    exact fold_comp (fun s a => updD_idem d x s a) ys s
  rw [h1]
  exact fold_comp (fun s a => rowD_fix d a ys _ (rowD_ge d a ys s).2) xs _
def deepZ (zs : List Zone) : Int × Int × Int := deepL (cntZ zs) (putAll (linesX zs)) (putAll (linesY zs))
theorem deepZ_sort (zs : List Zone) : deepL (cntZ zs) ((linesX zs).mergeSort leI) ((linesY zs).mergeSort leI) = deepZ zs := by
  unfold deepZ
  rw [← comp_sort, ← comp_sort, deepL_comp]
def MdOk (zs : List Zone) : Prop := Zons zs ∧ 0 < zs.length
theorem ret_iiib {a b c d e f : Int} {x y : Bool} (h : a = b) (k : c = d) (l : e = f) (m : x = y) : Ending.returned (.tuple #[.int .i64 a, .int .i64 c, .int .i64 e, .bool x]) = .returned (.tuple #[.int .i64 b, .int .i64 d, .int .i64 f, .bool y]) := by rw [h, k, l, m]
set_option maxHeartbeats 1000000 in
set_option maxRecDepth 100000 in
theorem mostDeep_any (A : Option Addr) (c : Nat) (zs : List Zone) (w : World) (hn : zs.length ≤ 1048576) (hA : Fl Zone.ints 5 w A zs) :
    Calls Try.prog 17 #[.slice A zs.length c] w (fun e w' => e = .returned (.tuple #[.int .i64 (seli (MdOk zs) (deepZ zs).1), .int .i64 (seli (MdOk zs) (deepZ zs).2.1), .int .i64 (seli (MdOk zs) (deepZ zs).2.2), .bool (tb (MdOk zs))]) ∧ Below w.heap.size w w') := by
  have hare := areZones_any A c zs w (by omega) hA
  have hdp := fun a b (h : Zons zs) W hW => depth_any A c zs a b W (by omega) h.zb hW
  have hbo := fun W hW => borders_any A c zs W hn hW
  have hX3 : (((linesX zs).mergeSort leI)).length ≤ 2097152 := by rw [List.length_mergeSort, linesX_len]; omega
  have hY3 : (((linesY zs).mergeSort leI)).length ≤ 2097152 := by rw [List.length_mergeSort, linesY_len]; omega
  have hR0 : deepL (cntZ zs) ((linesX zs).mergeSort leI) ((linesY zs).mergeSort leI) = deepZ zs := deepZ_sort zs
  obtain ⟨xs, hxs⟩ : ∃ l, l = ((linesX zs).mergeSort leI) := ⟨_, rfl⟩
  obtain ⟨ys, hys⟩ : ∃ l, l = ((linesY zs).mergeSort leI) := ⟨_, rfl⟩
  rw [← hxs] at hR0 hX3 hbo
  rw [← hys] at hR0 hY3 hbo
  clear hxs hys
  unfold deepL at hR0
  obtain ⟨R, hRR⟩ : ∃ R, R = deepZ zs := ⟨_, rfl⟩
  rw [← hRR] at hR0 ⊢
  clear hRR
  obtain ⟨n, hnn⟩ : ∃ n, n = zs.length := ⟨_, rfl⟩
  rw [← hnn] at hare hdp hbo ⊢
  obtain ⟨nx, hnx⟩ : ∃ n, n = xs.length := ⟨_, rfl⟩
  obtain ⟨ny, hny⟩ : ∃ n, n = ys.length := ⟨_, rfl⟩
  rw [← hnx] at hX3
  rw [← hny] at hY3
  have hN := Lib.hid hnn
  have HNX := Lib.hid hnx
  have HNY := Lib.hid hny
  have HR := Lib.hid hR0
  have HDP := Lib.hid hdp
  have HA := Lib.hid hare
  have HBO := Lib.hid hbo
  clear hbo
  clear hnn hnx hny hR0 hdp hare
  go_enter Try.func17, Try.ntmps17
  go_wp2_with fail
  refine (HA.out).mono ?_
  rintro e w1 ⟨rfl, hb1⟩
  by_cases h1 : Zons zs
  · rw [tb_t h1]
    have H1 := Lib.hid h1
    clear h1
    by_cases h2 : 0 < zs.length
    · have hmp : ((n : Int) == 0) = false := beq_eq_false_iff_ne.2 (fun e => by have := hN.out; omega)
      have HO : Hid (MdOk zs) := ⟨H1.out, h2⟩
      go_wp2_with fail
      refine (HBO.out _ (hA.ext (ext_trans (Below.refl _ _) hb1))).mono ?_
      rintro e w2 ⟨B, d, C, d', rfl, hX, hY, hb2⟩
      rw [← HNX.out, ← HNY.out]
      have hbG := ext_trans (ext_trans (Below.refl _ _) hb1) hb2
      have hAw := hA.ext hbG
      go_wp2
      go_loopw [8, 9, 10, 31] (fun a b q i wr => ∃ (k : Nat) (s : Int × Int × Int), k ≤ nx ∧ i = .int .i64 k ∧ a = .int .i64 s.1 ∧ b = .int .i64 s.2.1 ∧ q = .int .i64 s.2.2 ∧ Below w2.heap.size w2 wr ∧ Hid ((xs.drop k).foldl (rowD (cntZ zs) ys) s = R)) (fun _ _ _ i _ => nx - (intOf i).toNat)
      case atStart => exact ⟨0, (0, 0, 0), by omega, rfl, rfl, rfl, rfl, Below.refl _ _, HR.out⟩
      case round =>
        obtain ⟨k, s, hk, rfl, rfl, rfl, rfl, hbr, hst⟩ := hrel
        obtain ⟨wo, hwo⟩ : ∃ x, x = wr := ⟨_, rfl⟩
        subst hwo
        by_cases hlt : k < nx
        · obtain ⟨x, bx, ox, hx, hBx, hbx, hcx⟩ := (hX.ext hbr).at_ (k := k) (by rw [← HNX.out]; exact hlt)
          subst hBx
          have x0 : World.cell? wo ⟨bx, ox + k, none⟩ = some (.int .i64 x) := by have := hcx 0 x rfl; simpa using this
          have hst1 : (xs.drop (k + 1)).foldl (rowD (cntZ zs) ys) ((ys.drop 0).foldl (updD (cntZ zs) x) s) = R := by
            have h := hst.out
            rw [drop_get hx] at h
            exact h
          have HS1 := Lib.hid hst1
          clear hst hst1 hcx hx
          have hk0 : (0 : Int) ≤ (k : Int) := by omega
          have hk1 : (k : Int) < (nx : Int) := by omega
          go_wp2
          go_loopw [8, 9, 10, 37] (fun a b q i wi => ∃ (j : Nat) (s : Int × Int × Int), j ≤ ny ∧ i = .int .i64 j ∧ a = .int .i64 s.1 ∧ b = .int .i64 s.2.1 ∧ q = .int .i64 s.2.2 ∧ Below wo.heap.size wo wi ∧ Hid ((xs.drop (k + 1)).foldl (rowD (cntZ zs) ys) ((ys.drop j).foldl (updD (cntZ zs) x) s) = R)) (fun _ _ _ i _ => ny - (intOf i).toNat)
          case atStart => exact ⟨0, s, by omega, rfl, rfl, rfl, rfl, Below.refl _ _, HS1.out⟩
          case round =>
            clear HS1
            obtain ⟨j, s, hj, rfl, rfl, rfl, rfl, hbi, hst2⟩ := hrel
            obtain ⟨wi, hwi⟩ : ∃ x, x = wr := ⟨_, rfl⟩
            subst hwi
            have hbo := ext_trans hbr hbi
            by_cases hlt2 : j < ny
            · obtain ⟨y, by_, oy, hy, hBy, hby, hcy⟩ := (hY.ext hbo).at_ (k := j) (by rw [← HNY.out]; exact hlt2)
              subst hBy
              have y1 : World.cell? wi ⟨by_, oy + j, none⟩ = some (.int .i64 y) := by have := hcy 0 y rfl; simpa using this
              have x1 := (hbi.cell (p := ⟨bx, ox + k, none⟩) hbx).trans x0
              have hbx0 := hbx
              have hbx : bx < wi.heap.size := Nat.lt_of_lt_of_le hbx0 hbi.size
              have hdq := HDP.out x y H1.out
              obtain ⟨q, hq⟩ : ∃ q, q = cntZ zs x y := ⟨_, rfl⟩
              rw [← hq] at hdq
              have hAi := hAw.ext hbo
              have HDQ := Lib.hid hdq
              have hpc := plus_cell wi
              have hj0 : (0 : Int) ≤ (j : Int) := by omega
              have hj1 : (j : Int) < (ny : Int) := by omega
              have hst3 := hst2.out
              rw [drop_get hy, List.foldl_cons] at hst3
              have hup : updD (cntZ zs) x s y = if s.2.2 < q then (x, y, q) else s := by unfold updD; rw [← hq]
              rw [hup] at hst3
              clear hst2 hup hq hdq hcy hy
              go_wp2_with fail
              refine (HDQ.out wi hAi).mono ?_
              rintro e w5 ⟨rfl, hb5⟩
              have hb9 := ext_trans hbi hb5
              by_cases hsq : s.2.2 < q
              · rw [if_pos hsq] at hst3
                have HS3 := Lib.hid hst3
                clear hst3
                go_wp2
                go_roundw
                case rel => exact ⟨j + 1, (x, y, q), by omega, by go_num, rfl, rfl, rfl, hb9, HS3.out⟩
                case measure => simp [intOf]; omega
              · rw [if_neg hsq] at hst3
                have HS3 := Lib.hid hst3
                clear hst3
                go_wp2
                go_roundw
                case rel => exact ⟨j + 1, s, by omega, by go_num, rfl, rfl, rfl, hb9, HS3.out⟩
                case measure => simp [intOf]; omega
            · have hjn : j = ny := by omega
              subst hjn
              have h := hst2.out
              rw [drop_all (by rw [← HNY.out]; exact Nat.le_refl _)] at h
              have HS3 : Hid ((xs.drop (k + 1)).foldl (rowD (cntZ zs) ys) s = R) := h
              clear h hst2
              go_wp2
              go_roundw
              case rel => exact ⟨k + 1, s, by omega, by go_num, rfl, rfl, rfl, hbo, HS3.out⟩
              case measure => simp [intOf]; omega
        · have hkn : k = nx := by omega
          subst hkn
          go_wp2
          refine bodyPost_ret (results_tmp4 rfl _ _ _) rfl ?_
          have hs := hst.out
          rw [drop_all (by rw [← HNX.out]; exact Nat.le_refl _)] at hs
          have hs2 : s = R := hs
          subst hs2
          exact ⟨ret_iiib (seli_t HO.out).symm (seli_t HO.out).symm (seli_t HO.out).symm (tb_t HO.out).symm, ext_trans hbG hbr⟩
    · have hmp : ((n : Int) == 0) = true := beq_iff_eq.2 (by have := hN.out; omega)
      go_wp2
      refine bodyPost_ret (results_tmp4 rfl _ _ _) rfl ?_
      have hok : ¬ (MdOk zs) := fun h => (fun (q : 0 < zs.length) => (by omega : False)) h.2
      exact ⟨ret_iiib (seli_f hok).symm (seli_f hok).symm (seli_f hok).symm (tb_f hok).symm, (ext_trans (Below.refl _ _) hb1)⟩
  · rw [tb_f h1]
    have H1 := Lib.hid h1
    clear h1
    go_wp2
    refine bodyPost_ret (results_tmp4 rfl _ _ _) rfl ?_
    have hok : ¬ (MdOk zs) := fun h => H1.out h.1
    exact ⟨ret_iiib (seli_f hok).symm (seli_f hok).symm (seli_f hok).symm (tb_f hok).symm, (ext_trans (Below.refl _ _) hb1)⟩
set_option maxHeartbeats 1000000 in
set_option maxRecDepth 100000 in
theorem specMostDeep_any (A : Option Addr) (c : Nat) (zs : List Zone) (w : World) (hn : zs.length ≤ 1048576) (hA : Fl Zone.ints 5 w A zs) :
    Calls Try.prog 18 #[.slice A zs.length c] w (fun e w' => e = .returned (.tuple #[.int .i64 (seli (MdOk zs) (deepZ zs).1), .int .i64 (seli (MdOk zs) (deepZ zs).2.1), .int .i64 (seli (MdOk zs) (deepZ zs).2.2), .bool (tb (MdOk zs))]) ∧ Below w.heap.size w w') := by
  have hare := l6Zones_any A c zs w (by omega) hA
  have hdp := fun a b (h : Zons zs) W hW => l6Depth_any A c zs a b W (by omega) h.zb hW
  have hlx := fun W hW => l6LinesT_any A c zs W hn hW
  have hly := fun W hW => l6LinesF_any A c zs W hn hW
  have hX3 : ((putAll (linesX zs))).length ≤ 2097152 := by have h1 := putAll_len (linesX zs); rw [linesX_len] at h1; omega
  have hY3 : ((putAll (linesY zs))).length ≤ 2097152 := by have h1 := putAll_len (linesY zs); rw [linesY_len] at h1; omega
  have hR0 : deepL (cntZ zs) (putAll (linesX zs)) (putAll (linesY zs)) = deepZ zs := rfl
  obtain ⟨xs, hxs⟩ : ∃ l, l = (putAll (linesX zs)) := ⟨_, rfl⟩
  obtain ⟨ys, hys⟩ : ∃ l, l = (putAll (linesY zs)) := ⟨_, rfl⟩
  rw [← hxs] at hR0 hX3 hlx
  rw [← hys] at hR0 hY3 hly
  clear hxs hys
  unfold deepL at hR0
  obtain ⟨R, hRR⟩ : ∃ R, R = deepZ zs := ⟨_, rfl⟩
  rw [← hRR] at hR0 ⊢
  clear hRR
  obtain ⟨n, hnn⟩ : ∃ n, n = zs.length := ⟨_, rfl⟩
  rw [← hnn] at hare hdp hlx hly ⊢
  obtain ⟨nx, hnx⟩ : ∃ n, n = xs.length := ⟨_, rfl⟩
  obtain ⟨ny, hny⟩ : ∃ n, n = ys.length := ⟨_, rfl⟩
  rw [← hnx] at hX3
  rw [← hny] at hY3
  have hN := Lib.hid hnn
  have HNX := Lib.hid hnx
  have HNY := Lib.hid hny
  have HR := Lib.hid hR0
  have HDP := Lib.hid hdp
  have HA := Lib.hid hare
  have HLX := Lib.hid hlx
  have HLY := Lib.hid hly
  clear hlx hly
  clear hnn hnx hny hR0 hdp hare
  go_enter Try.func18, Try.ntmps18
  go_wp2_with fail
  refine (HA.out).mono ?_
  rintro e w1 ⟨rfl, hb1⟩
  by_cases h1 : Zons zs
  · rw [tb_t h1]
    have H1 := Lib.hid h1
    clear h1
    by_cases h2 : 0 < zs.length
    · have hmp : ((n : Int) == 0) = false := beq_eq_false_iff_ne.2 (fun e => by have := hN.out; omega)
      have HO : Hid (MdOk zs) := ⟨H1.out, h2⟩
      go_wp2_with fail
      refine (HLX.out _ (hA.ext (ext_trans (Below.refl _ _) hb1))).mono ?_
      rintro e v1 ⟨u1, rfl, ho1, hc1⟩
      go_wp2_with fail
      refine (HLY.out v1 (hA.ext (ext_trans (ext_trans (Below.refl _ _) hb1) hc1))).mono ?_
      rintro e w2 ⟨u2, rfl, ho2, hc2⟩
      obtain ⟨B, d, hu1, hX0⟩ := ho1.form one_length
      obtain ⟨C, d', hu2, hY0⟩ := ho2.form one_length
      rw [← HNX.out] at hu1
      rw [← HNY.out] at hu2
      subst hu1 hu2
      have hX := hX0.fl.ext hc2
      have hY := hY0.fl
      have hbG := ext_trans (ext_trans (Below.refl _ _) hb1) (ext_trans hc1 hc2)
      clear hX0 hY0 ho1 ho2
      have hAw := hA.ext hbG
      go_wp2
      go_loopw [8, 9, 10, 11] (fun a b q i wr => ∃ (k : Nat) (s : Int × Int × Int), k ≤ nx ∧ i = .int .i64 k ∧ a = .int .i64 s.1 ∧ b = .int .i64 s.2.1 ∧ q = .int .i64 s.2.2 ∧ Below w2.heap.size w2 wr ∧ Hid ((xs.drop k).foldl (rowD (cntZ zs) ys) s = R)) (fun _ _ _ i _ => nx - (intOf i).toNat)
      case atStart => exact ⟨0, (0, 0, 0), by omega, rfl, rfl, rfl, rfl, Below.refl _ _, HR.out⟩
      case round =>
        obtain ⟨k, s, hk, rfl, rfl, rfl, rfl, hbr, hst⟩ := hrel
        obtain ⟨wo, hwo⟩ : ∃ x, x = wr := ⟨_, rfl⟩
        subst hwo
        by_cases hlt : k < nx
        · obtain ⟨x, bx, ox, hx, hBx, hbx, hcx⟩ := (hX.ext hbr).at_ (k := k) (by rw [← HNX.out]; exact hlt)
          subst hBx
          have x0 : World.cell? wo ⟨bx, ox + k, none⟩ = some (.int .i64 x) := by have := hcx 0 x rfl; simpa using this
          have hst1 : (xs.drop (k + 1)).foldl (rowD (cntZ zs) ys) ((ys.drop 0).foldl (updD (cntZ zs) x) s) = R := by
            have h := hst.out
            rw [drop_get hx] at h
            exact h
          have HS1 := Lib.hid hst1
          clear hst hst1 hcx hx
          have hk0 : (0 : Int) ≤ (k : Int) := by omega
          have hk1 : (k : Int) < (nx : Int) := by omega
          go_wp2
          go_loopw [8, 9, 10, 12] (fun a b q i wi => ∃ (j : Nat) (s : Int × Int × Int), j ≤ ny ∧ i = .int .i64 j ∧ a = .int .i64 s.1 ∧ b = .int .i64 s.2.1 ∧ q = .int .i64 s.2.2 ∧ Below wo.heap.size wo wi ∧ Hid ((xs.drop (k + 1)).foldl (rowD (cntZ zs) ys) ((ys.drop j).foldl (updD (cntZ zs) x) s) = R)) (fun _ _ _ i _ => ny - (intOf i).toNat)
          case atStart => exact ⟨0, s, by omega, rfl, rfl, rfl, rfl, Below.refl _ _, HS1.out⟩
          case round =>
            clear HS1
            obtain ⟨j, s, hj, rfl, rfl, rfl, rfl, hbi, hst2⟩ := hrel
            obtain ⟨wi, hwi⟩ : ∃ x, x = wr := ⟨_, rfl⟩
            subst hwi
            have hbo := ext_trans hbr hbi
            by_cases hlt2 : j < ny
            · obtain ⟨y, by_, oy, hy, hBy, hby, hcy⟩ := (hY.ext hbo).at_ (k := j) (by rw [← HNY.out]; exact hlt2)
              subst hBy
              have y1 : World.cell? wi ⟨by_, oy + j, none⟩ = some (.int .i64 y) := by have := hcy 0 y rfl; simpa using this
              have x1 := (hbi.cell (p := ⟨bx, ox + k, none⟩) hbx).trans x0
              have hbx0 := hbx
              have hbx : bx < wi.heap.size := Nat.lt_of_lt_of_le hbx0 hbi.size
              have hdq := HDP.out x y H1.out
              obtain ⟨q, hq⟩ : ∃ q, q = cntZ zs x y := ⟨_, rfl⟩
              rw [← hq] at hdq
              have hAi := hAw.ext hbo
              have HDQ := Lib.hid hdq
              have hpc := plus_cell wi
              have hj0 : (0 : Int) ≤ (j : Int) := by omega
              have hj1 : (j : Int) < (ny : Int) := by omega
              have hst3 := hst2.out
              rw [drop_get hy, List.foldl_cons] at hst3
              have hup : updD (cntZ zs) x s y = if s.2.2 < q then (x, y, q) else s := by unfold updD; rw [← hq]
              rw [hup] at hst3
              clear hst2 hup hq hdq hcy hy
              go_wp2_with fail
              refine wp_region_grow (by kernel_rfl) (by kernel_rfl) ?_
              repeat (go_big_quiet_step ((first | (go_at_call 47; exact quiet_below (HDQ.out _ (hAi.ext (plus_below _ _)))))))
              refine wpQuiet_nil ?_
              intro w1 hb1
              have hb5 := hb1
              obtain ⟨w5, hw5⟩ : ∃ x, x = w1 := ⟨_, rfl⟩
              subst hw5
              have z3 := (hb5.cell (p := ⟨bx, ox + k, none⟩) hbx).trans x1
              have z4 := (hb5.cell (p := ⟨by_, oy + j, none⟩) hby).trans y1
              have hb9 := ext_trans hbi hb5
              by_cases hsq : s.2.2 < q
              · rw [if_pos hsq] at hst3
                have HS3 := Lib.hid hst3
                clear hst3
                go_wp2
                go_roundw
                case rel => exact ⟨j + 1, (x, y, q), by omega, by go_num, rfl, rfl, rfl, hb9, HS3.out⟩
                case measure => simp [intOf]; omega
              · rw [if_neg hsq] at hst3
                have HS3 := Lib.hid hst3
                clear hst3
                go_wp2
                go_roundw
                case rel => exact ⟨j + 1, s, by omega, by go_num, rfl, rfl, rfl, hb9, HS3.out⟩
                case measure => simp [intOf]; omega
            · have hjn : j = ny := by omega
              subst hjn
              have h := hst2.out
              rw [drop_all (by rw [← HNY.out]; exact Nat.le_refl _)] at h
              have HS3 : Hid ((xs.drop (k + 1)).foldl (rowD (cntZ zs) ys) s = R) := h
              clear h hst2
              go_wp2
              go_roundw
              case rel => exact ⟨k + 1, s, by omega, by go_num, rfl, rfl, rfl, hbo, HS3.out⟩
              case measure => simp [intOf]; omega
        · have hkn : k = nx := by omega
          subst hkn
          go_wp2
          refine bodyPost_ret (results_tmp4 rfl _ _ _) rfl ?_
          have hs := hst.out
          rw [drop_all (by rw [← HNX.out]; exact Nat.le_refl _)] at hs
          have hs2 : s = R := hs
          subst hs2
          exact ⟨ret_iiib (seli_t HO.out).symm (seli_t HO.out).symm (seli_t HO.out).symm (tb_t HO.out).symm, ext_trans hbG hbr⟩
    · have hmp : ((n : Int) == 0) = true := beq_iff_eq.2 (by have := hN.out; omega)
      go_wp2
      refine bodyPost_ret (results_tmp4 rfl _ _ _) rfl ?_
      have hok : ¬ (MdOk zs) := fun h => (fun (q : 0 < zs.length) => (by omega : False)) h.2
      exact ⟨ret_iiib (seli_f hok).symm (seli_f hok).symm (seli_f hok).symm (tb_f hok).symm, (ext_trans (Below.refl _ _) hb1)⟩
  · rw [tb_f h1]
    have H1 := Lib.hid h1
    clear h1
    go_wp2
    refine bodyPost_ret (results_tmp4 rfl _ _ _) rfl ?_
    have hok : ¬ (MdOk zs) := fun h => H1.out h.1
    exact ⟨ret_iiib (seli_f hok).symm (seli_f hok).symm (seli_f hok).symm (tb_f hok).symm, (ext_trans (Below.refl _ _) hb1)⟩
end Go.Proofs.Ytpjapemclbminaa
