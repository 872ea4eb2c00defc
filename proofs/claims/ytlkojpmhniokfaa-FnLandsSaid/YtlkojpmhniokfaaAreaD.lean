/- In how many zones a square is, and the lines of zones: both sides. -/
import Derived.Test.YtlkojpmhniokfaaAreaLaw
import Derived.Test.YtlkojpmhniokfaaFamZone
import Derived.Test.YtlkojpmhniokfaaAppAt
import Derived.StillTailTactics
namespace Go.Proofs.Ytlkojpmhniokfaa
open Go.RowKit
set_option linter.unusedVariables false
set_option linter.unusedSimpArgs false

set_option maxHeartbeats 400000 in
theorem hasZB_any (x y : Int) (z : Zone) (w : World) (hz : ZB z) :
    Calls Try.prog 78 #[.agg #[.int .i64 z.id, .int .i64 z.west, .int .i64 z.south, .int .i64 z.east, .int .i64 z.north], .int .i64 x, .int .i64 y] w fun e w' => e = .returned (.bool (zHas x y z)) ∧ Below w.heap.size w w' := by
  obtain ⟨z3, z4, z5, z6, z7, z8⟩ := hz
  go_enter Try.func78, Try.ntmps78
  go_wp2
  all_goals
    go_ret
    refine ⟨ret_bool ?_, by go_grown⟩
    unfold zHas
    first | (symm; rw [decide_eq_true_eq]; omega) | (symm; rw [decide_eq_false_iff_not]; omega) | (rw [decide_eq_decide]; omega)
set_option maxHeartbeats 400000 in
theorem l6HasB_any (x y : Int) (z : Zone) (w : World) (hz : ZB z) :
    Calls Try.prog 80 #[.agg #[.int .i64 z.id, .int .i64 z.west, .int .i64 z.south, .int .i64 z.east, .int .i64 z.north], .int .i64 x, .int .i64 y] w fun e w' => e = .returned (.bool (zHas x y z)) ∧ Below w.heap.size w w' := by
  obtain ⟨z3, z4, z5, z6, z7, z8⟩ := hz
  go_enter Try.func80, Try.ntmps80
  go_wp2
  all_goals
    go_ret
    refine ⟨ret_bool ?_, by go_grown⟩
    unfold zHas
    first | (symm; rw [decide_eq_true_eq]; omega) | (symm; rw [decide_eq_false_iff_not]; omega) | (rw [decide_eq_decide]; omega)
set_option maxHeartbeats 1000000 in
set_option maxRecDepth 100000 in
theorem depth_any (A : Option Addr) (c : Nat) (zs : List Zone) (x y : Int) (w : World) (hn : zs.length ≤ 1048576) (hz : ∀ z ∈ zs, ZB z) (hA : Fl Zone.ints 5 w A zs) :
    Calls Try.prog 69 #[.slice A zs.length c, .int .i64 x, .int .i64 y] w fun e w' => e = .returned (.int .i64 (cntZ zs x y)) ∧ Below w.heap.size w w' := by
  have hbd := fun k => cntZ_le (zs.take k) x y
  obtain ⟨n, hnn⟩ : ∃ n, n = List.length zs := ⟨_, rfl⟩
  rw [← hnn] at hn ⊢
  have hN := Lib.hid hnn
  have HBD := Lib.hid hbd
  have HZ := Lib.hid hz
  clear hnn hbd hz
  go_enter Try.func69, Try.ntmps69
  go_wp2
  go_loopw [7, 12] (fun q i wr => ∃ k : Nat, k ≤ n ∧ i = .int .i64 k ∧ q = .int .i64 (cntZ (zs.take k) x y) ∧ Below w.heap.size w wr) (fun _ i _ => n - (intOf i).toNat)
  case atStart => exact ⟨0, by omega, rfl, by simp [cntZ], Below.refl _ _⟩
  case round =>
    obtain ⟨k, hk, rfl, rfl, hbr⟩ := hrel
    by_cases hlt : k < n
    · obtain ⟨z, b, o, hx, rfl, hbb, hc⟩ := (hA.ext hbr).at_ (k := k) (by rw [← hN.out]; exact hlt)
      have c0 : World.cell? wr ⟨b, o + k * 5, none⟩ = some (.int .i64 z.id) := hc 0 _ rfl
      have c1 : World.cell? wr ⟨b, o + k * 5 + 1, none⟩ = some (.int .i64 z.west) := hc 1 _ rfl
      have c2 : World.cell? wr ⟨b, o + k * 5 + 2, none⟩ = some (.int .i64 z.south) := hc 2 _ rfl
      have c3 : World.cell? wr ⟨b, o + k * 5 + 3, none⟩ = some (.int .i64 z.east) := hc 3 _ rfl
      have c4 : World.cell? wr ⟨b, o + k * 5 + 4, none⟩ = some (.int .i64 z.north) := hc 4 _ rfl
      have hP := HZ.out z (List.mem_of_getElem? hx)
      have hst := cntZ_step (x := x) (y := y) hx
      have hb0 := HBD.out k
      have hlk : (zs.take k).length ≤ k := List.length_take_le _ _
      have HST := Lib.hid hst
      have hcb : 0 ≤ cntZ (zs.take k) x y ∧ cntZ (zs.take k) x y ≤ 1048576 := by omega
      generalize cntZ (zs.take k) x y = q at HST hcb ⊢
      obtain ⟨hq0, hq1⟩ := hcb
      obtain ⟨W0, hW0, hB0, hz0', hg, _⟩ := box_world wr #[Value.int .i64 z.id, .int .i64 z.west, .int .i64 z.south, .int .i64 z.east, .int .i64 z.north] 77
      have g0 : World.cell? W0 ⟨wr.heap.size, 0, none⟩ = some (.int .i64 z.id) := hg 0
      have g1 : World.cell? W0 ⟨wr.heap.size, 1, none⟩ = some (.int .i64 z.west) := hg 1
      have g2 : World.cell? W0 ⟨wr.heap.size, 2, none⟩ = some (.int .i64 z.south) := hg 2
      have g3 : World.cell? W0 ⟨wr.heap.size, 3, none⟩ = some (.int .i64 z.east) := hg 3
      have g4 : World.cell? W0 ⟨wr.heap.size, 4, none⟩ = some (.int .i64 z.north) := hg 4
      have hbW := ext_trans hbr hB0
      clear hg
      clear hc hx hA hst hb0 hlk
      have hk0 : (0 : Int) ≤ (k : Int) := by omega
      have hk1 : (k : Int) < (n : Int) := by omega
      go_wp2_with fail
      refine (hasZB_any x y z W0 hP).mono ?_
      rintro e w2 ⟨rfl, hb2⟩
      have hx2 := ext_trans hbW hb2
      rcases hh : zHas x y z with _ | _
      · have HH := Lib.hid hh
        clear hh
        go_wp2
        go_roundw
        case rel => exact ⟨k + 1, by omega, by go_num, by rw [HST.out, if_neg (by rw [HH.out]; decide)]; simp, hx2⟩
        case measure => simp [intOf]; omega
      · have HH := Lib.hid hh
        clear hh
        go_wp2
        go_roundw
        case rel => exact ⟨k + 1, by omega, by go_num, by rw [HST.out, if_pos HH.out], hx2⟩
        case measure => simp [intOf]; omega
    · have hkn : k = n := by omega
      subst hkn
      rw [take_all (by rw [← hN.out]; exact Nat.le_refl _)]
      go_wp2
      go_ret
      exact ⟨rfl, hbr⟩
set_option maxHeartbeats 1000000 in
set_option maxRecDepth 100000 in
theorem l6Depth_any (A : Option Addr) (c : Nat) (zs : List Zone) (x y : Int) (w : World) (hn : zs.length ≤ 1048576) (hz : ∀ z ∈ zs, ZB z) (hA : Fl Zone.ints 5 w A zs) :
    Calls Try.prog 71 #[.slice A zs.length c, .int .i64 x, .int .i64 y] w fun e w' => e = .returned (.int .i64 (cntZ zs x y)) ∧ Below w.heap.size w w' := by
  have hbd := fun k => cntZ_le (zs.take k) x y
  obtain ⟨n, hnn⟩ : ∃ n, n = List.length zs := ⟨_, rfl⟩
  rw [← hnn] at hn ⊢
  have hN := Lib.hid hnn
  have HBD := Lib.hid hbd
  have HZ := Lib.hid hz
  clear hnn hbd hz
  go_enter Try.func71, Try.ntmps71
  go_wp2
  go_loopw [7, 8] (fun q i wr => ∃ k : Nat, k ≤ n ∧ i = .int .i64 k ∧ q = .int .i64 (cntZ (zs.take k) x y) ∧ Below w.heap.size w wr) (fun _ i _ => n - (intOf i).toNat)
  case atStart => exact ⟨0, by omega, rfl, by simp [cntZ], Below.refl _ _⟩
  case round =>
    obtain ⟨k, hk, rfl, rfl, hbr⟩ := hrel
    by_cases hlt : k < n
    · obtain ⟨z, b, o, hx, rfl, hbb, hc⟩ := (hA.ext hbr).at_ (k := k) (by rw [← hN.out]; exact hlt)
      have c0 : World.cell? wr ⟨b, o + k * 5, none⟩ = some (.int .i64 z.id) := hc 0 _ rfl
      have c1 : World.cell? wr ⟨b, o + k * 5 + 1, none⟩ = some (.int .i64 z.west) := hc 1 _ rfl
      have c2 : World.cell? wr ⟨b, o + k * 5 + 2, none⟩ = some (.int .i64 z.south) := hc 2 _ rfl
      have c3 : World.cell? wr ⟨b, o + k * 5 + 3, none⟩ = some (.int .i64 z.east) := hc 3 _ rfl
      have c4 : World.cell? wr ⟨b, o + k * 5 + 4, none⟩ = some (.int .i64 z.north) := hc 4 _ rfl
      have hP := HZ.out z (List.mem_of_getElem? hx)
      have hst := cntZ_step (x := x) (y := y) hx
      have hb0 := HBD.out k
      have hlk : (zs.take k).length ≤ k := List.length_take_le _ _
      have HST := Lib.hid hst
      have hcb : 0 ≤ cntZ (zs.take k) x y ∧ cntZ (zs.take k) x y ≤ 1048576 := by omega
      generalize cntZ (zs.take k) x y = q at HST hcb ⊢
      obtain ⟨hq0, hq1⟩ := hcb
      have hbW := hbr
      clear hc hx hA hst hb0 hlk
      have hk0 : (0 : Int) ≤ (k : Int) := by omega
      have hk1 : (k : Int) < (n : Int) := by omega
      go_wp2_with fail
      refine (l6HasB_any x y z wr hP).mono ?_
      rintro e w2 ⟨rfl, hb2⟩
      have hx2 := ext_trans hbW hb2
      rcases hh : zHas x y z with _ | _
      · have HH := Lib.hid hh
        clear hh
        go_wp2
        go_roundw
        case rel => exact ⟨k + 1, by omega, by go_num, by rw [HST.out, if_neg (by rw [HH.out]; decide)]; simp, hx2⟩
        case measure => simp [intOf]; omega
      · have HH := Lib.hid hh
        clear hh
        go_wp2
        go_roundw
        case rel => exact ⟨k + 1, by omega, by go_num, by rw [HST.out, if_pos HH.out], hx2⟩
        case measure => simp [intOf]; omega
    · have hkn : k = n := by omega
      subst hkn
      rw [take_all (by rw [← hN.out]; exact Nat.le_refl _)]
      go_wp2
      go_ret
      exact ⟨rfl, hbr⟩
set_option maxHeartbeats 400000 in
set_option maxRecDepth 100000 in
theorem l6LinesT_any (A : Option Addr) (c : Nat) (zs : List Zone) (w : World) (hn : zs.length ≤ 1048576) (hA : Fl Zone.ints 5 w A zs) :
    Calls Try.prog 70 #[.slice A zs.length c, .bool true] w fun e w' => ∃ v, e = .returned v ∧ OwnF one 1 w.heap.size 3 w' v (putAll (linesX zs)) ∧ Below w.heap.size w w' := by
  obtain ⟨V0, hV0, hC0, hy0, _, _⟩ := box_world w #[] 3
  have hown0 : OwnF one 1 w.heap.size 3 V0 (.slice (some ⟨w.heap.size, 0, none⟩) 0 0) [] := hV0 ▸ OwnF.empty (Nat.le_refl _)
  obtain ⟨n, hnn⟩ : ∃ n, n = List.length zs := ⟨_, rfl⟩
  rw [← hnn] at hn ⊢
  have hN := Lib.hid hnn
  clear hnn
  go_enter Try.func70, Try.ntmps70
  go_wp2
  go_loopw [5, 6] (fun v i wr => ∃ k : Nat, k ≤ n ∧ i = .int .i64 k ∧ Below w.heap.size w wr ∧ OwnF one 1 w.heap.size 3 wr v (putAll (linesX (zs.take k)))) (fun _ i _ => n - (intOf i).toNat)
  case atStart => exact ⟨0, by omega, rfl, hC0, hown0⟩
  case round =>
    obtain ⟨k, hk, rfl, hbr, hown⟩ := hrel
    have hzr := hbr.size
    by_cases hlt : k < n
    · obtain ⟨z, b, o, hx, rfl, hbb, hc⟩ := hA.at_ (k := k) (by rw [← hN.out]; exact hlt)
      have c0 : World.cell? w ⟨b, o + k * 5, none⟩ = some (.int .i64 z.id) := hc 0 _ rfl
      have c1 : World.cell? w ⟨b, o + k * 5 + 1, none⟩ = some (.int .i64 z.west) := hc 1 _ rfl
      have c2 : World.cell? w ⟨b, o + k * 5 + 2, none⟩ = some (.int .i64 z.south) := hc 2 _ rfl
      have c3 : World.cell? w ⟨b, o + k * 5 + 3, none⟩ = some (.int .i64 z.east) := hc 3 _ rfl
      have c4 : World.cell? w ⟨b, o + k * 5 + 4, none⟩ = some (.int .i64 z.north) := hc 4 _ rfl
      have hcw := bcell hbr
      have hlen : (putAll (linesX (zs.take k))).length ≤ 2097152 := by
        have h1 := putAll_len (linesX (zs.take k))
        have h2 := linesX_len (zs.take k)
        rw [List.length_take] at h2
        omega
      have hpl := putI_len (putAll (linesX (zs.take k))) z.west
      have HT := Lib.hid (take_get hx)
      clear hc hx
      have hk0 : (0 : Int) ≤ (k : Int) := by omega
      have hk1 : (k : Int) < (n : Int) := by omega
      have HOW := Lib.hid hown
      go_wp2_with fail
      go_region_held3 (fun w' => Below (World.heap w).size w w' ∧ ∀ b o, b < (World.heap w).size → w'.cell? ⟨b, o, none⟩ = World.cell? w ⟨b, o, none⟩) (first | exact cls_of (ext_drew _) | exact cls_of hbr.drew | exact cls_of hb2 | exact cls_of hb3) ((first | (go_at_call 79; (with_reducible refine (l1PutOwn_any w.heap.size _ (putAll (linesX (zs.take k))) z.west _ ?_ ?_ ?_).mono ?_); (omega); (exact hzr); (first | exact HOW.out.ext (ext_drew _) | exact HOW.out); rintro e w2 ⟨v2, rfl, hown2, hb2⟩; have hb2 := (hbr.drew).trans hb2) | (go_at_call 79; (with_reducible refine (l1PutOwn_any w.heap.size _ (putI (putAll (linesX (zs.take k))) z.west) z.east _ ?_ ?_ ?_).mono ?_); (omega); (exact hb2.size); (exact hown2); rintro e w3 ⟨v3, rfl, hown3, hb3⟩; have hb3 := hb2.trans hb3)))
      go_wp2
      go_roundw
      case rel => exact ⟨k + 1, by omega, by go_num, hb3, by rw [HT.out, linesX_snoc, show (linesX (zs.take k) ++ [z.west, z.east]) = linesX (zs.take k) ++ [z.west] ++ [z.east] from by simp, putAll_snoc, putAll_snoc]; exact hown3⟩
      case measure => simp [intOf]; omega
    · have hkn : k = n := by omega
      subst hkn
      rw [take_all (by rw [← hN.out]; exact Nat.le_refl _)] at hown
      go_wp2
      go_ret
      exact ⟨_, rfl, hown, hbr⟩
set_option maxHeartbeats 400000 in
set_option maxRecDepth 100000 in
theorem l6LinesF_any (A : Option Addr) (c : Nat) (zs : List Zone) (w : World) (hn : zs.length ≤ 1048576) (hA : Fl Zone.ints 5 w A zs) :
    Calls Try.prog 70 #[.slice A zs.length c, .bool false] w fun e w' => ∃ v, e = .returned v ∧ OwnF one 1 w.heap.size 3 w' v (putAll (linesY zs)) ∧ Below w.heap.size w w' := by
  obtain ⟨V0, hV0, hC0, hy0, _, _⟩ := box_world w #[] 3
  have hown0 : OwnF one 1 w.heap.size 3 V0 (.slice (some ⟨w.heap.size, 0, none⟩) 0 0) [] := hV0 ▸ OwnF.empty (Nat.le_refl _)
  obtain ⟨n, hnn⟩ : ∃ n, n = List.length zs := ⟨_, rfl⟩
  rw [← hnn] at hn ⊢
  have hN := Lib.hid hnn
  clear hnn
  go_enter Try.func70, Try.ntmps70
  go_wp2
  go_loopw [5, 6] (fun v i wr => ∃ k : Nat, k ≤ n ∧ i = .int .i64 k ∧ Below w.heap.size w wr ∧ OwnF one 1 w.heap.size 3 wr v (putAll (linesY (zs.take k)))) (fun _ i _ => n - (intOf i).toNat)
  case atStart => exact ⟨0, by omega, rfl, hC0, hown0⟩
  case round =>
    obtain ⟨k, hk, rfl, hbr, hown⟩ := hrel
    have hzr := hbr.size
    by_cases hlt : k < n
    · obtain ⟨z, b, o, hx, rfl, hbb, hc⟩ := hA.at_ (k := k) (by rw [← hN.out]; exact hlt)
      have c0 : World.cell? w ⟨b, o + k * 5, none⟩ = some (.int .i64 z.id) := hc 0 _ rfl
      have c1 : World.cell? w ⟨b, o + k * 5 + 1, none⟩ = some (.int .i64 z.west) := hc 1 _ rfl
      have c2 : World.cell? w ⟨b, o + k * 5 + 2, none⟩ = some (.int .i64 z.south) := hc 2 _ rfl
      have c3 : World.cell? w ⟨b, o + k * 5 + 3, none⟩ = some (.int .i64 z.east) := hc 3 _ rfl
      have c4 : World.cell? w ⟨b, o + k * 5 + 4, none⟩ = some (.int .i64 z.north) := hc 4 _ rfl
      have hcw := bcell hbr
      have hlen : (putAll (linesY (zs.take k))).length ≤ 2097152 := by
        have h1 := putAll_len (linesY (zs.take k))
        have h2 := linesY_len (zs.take k)
        rw [List.length_take] at h2
        omega
      have hpl := putI_len (putAll (linesY (zs.take k))) z.south
      have HT := Lib.hid (take_get hx)
      clear hc hx
      have hk0 : (0 : Int) ≤ (k : Int) := by omega
      have hk1 : (k : Int) < (n : Int) := by omega
      have HOW := Lib.hid hown
      go_wp2_with fail
      go_region_held3 (fun w' => Below (World.heap w).size w w' ∧ ∀ b o, b < (World.heap w).size → w'.cell? ⟨b, o, none⟩ = World.cell? w ⟨b, o, none⟩) (first | exact cls_of (ext_drew _) | exact cls_of hbr.drew | exact cls_of hb2 | exact cls_of hb3) ((first | (go_at_call 79; (with_reducible refine (l1PutOwn_any w.heap.size _ (putAll (linesY (zs.take k))) z.south _ ?_ ?_ ?_).mono ?_); (omega); (exact hzr); (first | exact HOW.out.ext (ext_drew _) | exact HOW.out); rintro e w2 ⟨v2, rfl, hown2, hb2⟩; have hb2 := (hbr.drew).trans hb2) | (go_at_call 79; (with_reducible refine (l1PutOwn_any w.heap.size _ (putI (putAll (linesY (zs.take k))) z.south) z.north _ ?_ ?_ ?_).mono ?_); (omega); (exact hb2.size); (exact hown2); rintro e w3 ⟨v3, rfl, hown3, hb3⟩; have hb3 := hb2.trans hb3)))
      go_wp2
      go_roundw
      case rel => exact ⟨k + 1, by omega, by go_num, hb3, by rw [HT.out, linesY_snoc, show (linesY (zs.take k) ++ [z.south, z.north]) = linesY (zs.take k) ++ [z.south] ++ [z.north] from by simp, putAll_snoc, putAll_snoc]; exact hown3⟩
      case measure => simp [intOf]; omega
    · have hkn : k = n := by omega
      subst hkn
      rw [take_all (by rw [← hN.out]; exact Nat.le_refl _)] at hown
      go_wp2
      go_ret
      exact ⟨_, rfl, hown, hbr⟩
end Go.Proofs.Ytlkojpmhniokfaa
