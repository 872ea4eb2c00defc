/- The zones at a unit square: the program's ZonesAt and the reference's. -/
import Derived.Test.YtpjapemclbminaaZonesOk
import Derived.Test.YtpjapemclbminaaZHas
import Derived.Test.YtpjapemclbminaaFamInt
import Derived.Test.YtpjapemclbminaaWithin
namespace Go.Proofs.Ytpjapemclbminaa
open Go.RowKit
set_option linter.unusedVariables false
set_option linter.unusedSimpArgs false

def zonesAt (x y : Int) (xs : List Zone) : List Int := (xs.filter (zHas x y)).map (·.id)
def ZonesAtOk (x y : Int) (xs : List Zone) : Prop := Zons xs ∧ 0 ≤ x ∧ x ≤ 9998 ∧ 0 ≤ y ∧ y ≤ 9998
theorem zonesAt_step {x y : Int} {xs : List Zone} {k : Nat} {z : Zone} (hx : xs[k]? = some z) : zonesAt x y (xs.take (k + 1)) = if zHas x y z = true then zonesAt x y (xs.take k) ++ [z.id] else zonesAt x y (xs.take k) := by
  unfold zonesAt
  rw [take_get hx, List.filter_append]
  by_cases h : zHas x y z = true
  · rw [if_pos h]; simp [List.filter_cons, h]
  · rw [if_neg h]; simp [List.filter_cons, h]
theorem zonesAt_len (x y : Int) (xs : List Zone) : (zonesAt x y xs).length ≤ xs.length := by
  unfold zonesAt; rw [List.length_map]; exact List.length_filter_le _ _

set_option maxHeartbeats 400000 in
theorem hasZone_any (x y : Int) (z : Zone) (w : World) (hz : IsZon z) :
    Calls Try.prog 49 #[.agg #[.int .i64 z.id, .int .i64 z.west, .int .i64 z.south, .int .i64 z.east, .int .i64 z.north], .int .i64 x, .int .i64 y] w fun e w' => e = .returned (.bool (zHas x y z)) ∧ Below w.heap.size w w' := by
  obtain ⟨z1, z2, z3, z4, z5, z6, z7, z8⟩ := hz
  go_enter Try.func49, Try.ntmps49
  go_wp2
  all_goals
    go_ret
    refine ⟨ret_bool ?_, by go_grown⟩
    unfold zHas
    first | (symm; rw [decide_eq_true_eq]; omega) | (symm; rw [decide_eq_false_iff_not]; omega) | (rw [decide_eq_decide]; omega)
set_option maxHeartbeats 400000 in
theorem l6Has_any (x y : Int) (z : Zone) (w : World) (hz : IsZon z) :
    Calls Try.prog 53 #[.agg #[.int .i64 z.id, .int .i64 z.west, .int .i64 z.south, .int .i64 z.east, .int .i64 z.north], .int .i64 x, .int .i64 y] w fun e w' => e = .returned (.bool (zHas x y z)) ∧ Below w.heap.size w w' := by
  obtain ⟨z1, z2, z3, z4, z5, z6, z7, z8⟩ := hz
  go_enter Try.func53, Try.ntmps53
  go_wp2
  all_goals
    go_ret
    refine ⟨ret_bool ?_, by go_grown⟩
    unfold zHas
    first | (symm; rw [decide_eq_true_eq]; omega) | (symm; rw [decide_eq_false_iff_not]; omega) | (rw [decide_eq_decide]; omega)

set_option maxHeartbeats 2000000 in
set_option maxRecDepth 100000 in
theorem zonesAt_any (x y : Int) (A : Option Addr) (c : Nat) (xs : List Zone) (w : World) (hn : xs.length ≤ 1048576) (hA : Fl Zone.ints 5 w A xs) :
    Calls Try.prog 19 #[.slice A xs.length c, .int .i64 x, .int .i64 y] w (RetL one 1 w (sel (ZonesAtOk x y xs) (zonesAt x y xs)) (tb (ZonesAtOk x y xs))) := by
  by_cases hz : Zons xs
  · by_cases hb : 0 ≤ x ∧ x ≤ 9998 ∧ 0 ≤ y ∧ y ≤ 9998
    · have hok : ZonesAtOk x y xs := ⟨hz, hb⟩
      rw [sel_t hok, tb_t hok]
      obtain ⟨b1, b2, b3, b4⟩ := hb
      obtain ⟨n, hnn⟩ : ∃ n, n = List.length xs := ⟨_, rfl⟩
      have hare := fun W hW => areZones_any A c xs W (by omega) hW
      rw [← hnn] at hn hare ⊢
      have hN := Lib.hid hnn
      have HA := Lib.hid hare
      have HZ := Lib.hid hz
      obtain ⟨i0, hi, hz0, hz1, hz2⟩ := info_parts infoInt
      clear hnn hare hz hok
      go_enter Try.func19, Try.ntmps19
      go_wp2_with fail
      refine (HA.out _ hA).mono ?_
      rintro e w1 ⟨rfl, hb1⟩
      rw [tb_t HZ.out]
      have hA1 := hA.ext hb1
      have hz01 := hb1.size
      go_wp2_with (go_at_call 48; refine (within_t _ _ _ _ ⟨by omega, by omega⟩).mono ?_; rintro e w' ⟨rfl, rfl⟩)
      go_loopw [8, 26] (fun v i wr => ∃ k : Nat, k ≤ n ∧ i = .int .i64 k ∧ Below w.heap.size w wr ∧ OwnF one 1 w.heap.size 3 wr v (zonesAt x y (xs.take k))) (fun _ i _ => n - (intOf i).toNat)
      case atStart => exact ⟨0, by omega, rfl, hb1, OwnF.none_⟩
      case round =>
        obtain ⟨k, hk, rfl, hbr, hown⟩ := hrel
        have hzr := hbr.size
        by_cases hlt : k < n
        · have hAr := hA.ext hbr
          obtain ⟨z, b, o, hx, rfl, hbb, hc⟩ := hAr.at_ (k := k) (by rw [← hN.out]; exact hlt)
          have hP : IsZon z := HZ.out.1.1 k z hx
          have hst := zonesAt_step (x := x) (y := y) hx
          have hlen : (zonesAt x y (xs.take k)).length ≤ 1048576 := Nat.le_trans (zonesAt_len _ _ _) (by rw [List.length_take]; omega)
          have c0 : World.cell? wr ⟨b, o + k * 5, none⟩ = some (.int .i64 z.id) := hc 0 _ rfl
          have c1 : World.cell? wr ⟨b, o + k * 5 + 1, none⟩ = some (.int .i64 z.west) := hc 1 _ rfl
          have c2 : World.cell? wr ⟨b, o + k * 5 + 2, none⟩ = some (.int .i64 z.south) := hc 2 _ rfl
          have c3 : World.cell? wr ⟨b, o + k * 5 + 3, none⟩ = some (.int .i64 z.east) := hc 3 _ rfl
          have c4 : World.cell? wr ⟨b, o + k * 5 + 4, none⟩ = some (.int .i64 z.north) := hc 4 _ rfl
          clear hc hA hAr hA1 hx
          have hk0 : (0 : Int) ≤ (k : Int) := by omega
          have hk1 : (k : Int) < (n : Int) := by omega
          by_cases hh : zHas x y z = true
          · rw [if_pos hh] at hst
            have HS := Lib.hid hst
            clear hst
            go_wp2_with fail
            refine (hasZone_any x y z _ hP).mono ?_
            rintro e w2 ⟨rfl, hb2⟩
            rw [hh]
            have hx2 : Below wr.heap.size wr w2 := ext_trans (by go_grown) hb2
            have hown2 := hown.ext hx2
            have hc2 := bcell hb2
            have hz2' := hx2.size
            clear hh
            go_wp2_with (at_builtin; refine wpList_append_flat (f := one) (y := z.id) rfl _ _ _ rfl w.heap.size i0 _ 1 8 Try.underlying29 hi hz0 hz1 hz2 rfl (by decide) _ _ rfl rfl hown2 rfl ?_ (by decide) ?_ ?_; omega; omega; intro v' w3 hown3 hg3 hb3)
            go_roundw
            case rel => exact ⟨k + 1, by omega, by go_num, (hbr.trans (hx2.mono hzr)).trans hb3, by rw [HS.out]; exact hown3⟩
            case measure => simp [intOf]; omega
          · rw [if_neg hh] at hst
            have HS := Lib.hid hst
            have hh' : zHas x y z = false := by simpa using hh
            clear hst hh
            go_wp2_with fail
            refine (hasZone_any x y z _ hP).mono ?_
            rintro e w2 ⟨rfl, hb2⟩
            rw [hh']
            have hx2 : Below wr.heap.size wr w2 := ext_trans (by go_grown) hb2
            have hown2 := hown.ext hx2
            clear hh'
            go_wp2
            go_roundw
            case rel => exact ⟨k + 1, by omega, by go_num, hbr.trans (hx2.mono hzr), by rw [HS.out]; exact hown2⟩
            case measure => simp [intOf]; omega
        · have hkn : k = n := by omega
          subst hkn
          go_wp2
          go_ret2
          rw [take_all (by rw [← hN.out]; exact Nat.le_refl _)] at hown
          obtain ⟨B, d, hv, hF⟩ := hown.form one_length
          exact ⟨B, d, by rw [hv]; rfl, hF, hbr⟩
    · have hok : ¬ ZonesAtOk x y xs := fun h => hb h.2
      rw [sel_f hok, tb_f hok]
      clear hok
      go_enter Try.func19, Try.ntmps19
      go_wp2_with fail
      refine (areZones_any A c xs _ (by omega) hA).mono ?_
      rintro e w1 ⟨rfl, hb1⟩
      rw [tb_t hz]
      clear hz
      by_cases hx : 0 ≤ x ∧ x ≤ 9998
      · have hy : ¬ (0 ≤ y ∧ y ≤ 9998) := fun h => hb ⟨hx.1, hx.2, h.1, h.2⟩
        clear hb
        go_wp2_with fail
        refine (within_t x 0 9998 _ hx).mono ?_
        rintro e w' ⟨rfl, rfl⟩
        go_wp2_with fail
        refine (within_f y 0 9998 _ hy).mono ?_
        rintro e w' ⟨rfl, rfl⟩
        go_wp2
        go_ret2
        exact ⟨none, 0, rfl, FlO.nil, hb1⟩
      · clear hb
        go_wp2_with fail
        refine (within_f x 0 9998 _ hx).mono ?_
        rintro e w' ⟨rfl, rfl⟩
        go_wp2
        go_ret2
        exact ⟨none, 0, rfl, FlO.nil, hb1⟩
  · have hok : ¬ ZonesAtOk x y xs := fun h => hz h.1
    rw [sel_f hok, tb_f hok]
    clear hok
    go_enter Try.func19, Try.ntmps19
    go_wp2_with fail
    refine (areZones_any A c xs _ (by omega) hA).mono ?_
    rintro e w1 ⟨rfl, hb1⟩
    rw [tb_f hz]
    clear hz
    go_wp2
    go_ret2
    exact ⟨none, 0, rfl, FlO.nil, hb1⟩
set_option maxHeartbeats 2000000 in
set_option maxRecDepth 100000 in
theorem specZonesAt_any (x y : Int) (A : Option Addr) (c : Nat) (xs : List Zone) (w : World) (hn : xs.length ≤ 1048576) (hA : Fl Zone.ints 5 w A xs) :
    Calls Try.prog 21 #[.slice A xs.length c, .int .i64 x, .int .i64 y] w (RetL one 1 w (sel (ZonesAtOk x y xs) (zonesAt x y xs)) (tb (ZonesAtOk x y xs))) := by
  obtain ⟨W0, hW0, hB0, hzw, _, _⟩ := box_world w #[] 3
  have hown0 : OwnF one 1 w.heap.size 3 W0 (.slice (some ⟨w.heap.size, 0, none⟩) 0 0) [] := hW0 ▸ OwnF.empty (Nat.le_refl _)
  by_cases hz : Zons xs
  · by_cases hb : 0 ≤ x ∧ x ≤ 9998 ∧ 0 ≤ y ∧ y ≤ 9998
    · have hok : ZonesAtOk x y xs := ⟨hz, hb⟩
      rw [sel_t hok, tb_t hok]
      obtain ⟨b1, b2, b3, b4⟩ := hb
      obtain ⟨n, hnn⟩ : ∃ n, n = List.length xs := ⟨_, rfl⟩
      have hare := fun W hW => l6Zones_any A c xs W (by omega) hW
      rw [← hnn] at hn hare ⊢
      have hN := Lib.hid hnn
      have HA := Lib.hid hare
      have HZ := Lib.hid hz
      obtain ⟨i0, hi, hz0, hz1, hz2⟩ := info_parts infoInt
      clear hnn hare hz hok
      go_enter Try.func21, Try.ntmps21
      go_wp2_with fail
      refine (HA.out W0 (hA.ext hB0)).mono ?_
      rintro e w1 ⟨rfl, hb1'⟩
      have hb1 := ext_trans hB0 hb1'
      rw [tb_t HZ.out]
      have hA1 := hA.ext hb1
      have hz01 := hb1.size
      go_wp2_with (go_at_call 52; refine (l1In_t _ _ _ _ ⟨by omega, by omega⟩).mono ?_; rintro e w' ⟨rfl, rfl⟩)
      go_loopw [8, 9] (fun v i wr => ∃ k : Nat, k ≤ n ∧ i = .int .i64 k ∧ Below w.heap.size w wr ∧ OwnF one 1 w.heap.size 3 wr v (zonesAt x y (xs.take k))) (fun _ i _ => n - (intOf i).toNat)
      case atStart => exact ⟨0, by omega, rfl, hb1, hown0.ext hb1'⟩
      case round =>
        obtain ⟨k, hk, rfl, hbr, hown⟩ := hrel
        have hzr := hbr.size
        by_cases hlt : k < n
        · have hAr := hA.ext hbr
          obtain ⟨z, b, o, hx, rfl, hbb, hc⟩ := hAr.at_ (k := k) (by rw [← hN.out]; exact hlt)
          have hP : IsZon z := HZ.out.1.1 k z hx
          have hst := zonesAt_step (x := x) (y := y) hx
          have hlen : (zonesAt x y (xs.take k)).length ≤ 1048576 := Nat.le_trans (zonesAt_len _ _ _) (by rw [List.length_take]; omega)
          have c0 : World.cell? wr ⟨b, o + k * 5, none⟩ = some (.int .i64 z.id) := hc 0 _ rfl
          have c1 : World.cell? wr ⟨b, o + k * 5 + 1, none⟩ = some (.int .i64 z.west) := hc 1 _ rfl
          have c2 : World.cell? wr ⟨b, o + k * 5 + 2, none⟩ = some (.int .i64 z.south) := hc 2 _ rfl
          have c3 : World.cell? wr ⟨b, o + k * 5 + 3, none⟩ = some (.int .i64 z.east) := hc 3 _ rfl
          have c4 : World.cell? wr ⟨b, o + k * 5 + 4, none⟩ = some (.int .i64 z.north) := hc 4 _ rfl
          clear hc hA hAr hA1 hx
          have hk0 : (0 : Int) ≤ (k : Int) := by omega
          have hk1 : (k : Int) < (n : Int) := by omega
          by_cases hh : zHas x y z = true
          · rw [if_pos hh] at hst
            have HS := Lib.hid hst
            clear hst
            go_wp2_with fail
            refine (l6Has_any x y z _ hP).mono ?_
            rintro e w2 ⟨rfl, hb2⟩
            rw [hh]
            have hx2 : Below wr.heap.size wr w2 := ext_trans (by go_grown) hb2
            have hown2 := hown.ext hx2
            have hc2 := bcell hb2
            have hz2' := hx2.size
            clear hh
            go_wp2_with (at_builtin; refine wpList_append_flat (f := one) (y := z.id) rfl _ _ _ rfl w.heap.size i0 _ 1 8 Try.underlying29 hi hz0 hz1 hz2 rfl (by decide) _ _ rfl rfl hown2 rfl ?_ (by decide) ?_ ?_; omega; omega; intro v' w3 hown3 hg3 hb3)
            go_roundw
            case rel => exact ⟨k + 1, by omega, by go_num, (hbr.trans (hx2.mono hzr)).trans hb3, by rw [HS.out]; exact hown3⟩
            case measure => simp [intOf]; omega
          · rw [if_neg hh] at hst
            have HS := Lib.hid hst
            have hh' : zHas x y z = false := by simpa using hh
            clear hst hh
            go_wp2_with fail
            refine (l6Has_any x y z _ hP).mono ?_
            rintro e w2 ⟨rfl, hb2⟩
            rw [hh']
            have hx2 : Below wr.heap.size wr w2 := ext_trans (by go_grown) hb2
            have hown2 := hown.ext hx2
            clear hh'
            go_wp2
            go_roundw
            case rel => exact ⟨k + 1, by omega, by go_num, hbr.trans (hx2.mono hzr), by rw [HS.out]; exact hown2⟩
            case measure => simp [intOf]; omega
        · have hkn : k = n := by omega
          subst hkn
          go_wp2
          go_ret2
          rw [take_all (by rw [← hN.out]; exact Nat.le_refl _)] at hown
          obtain ⟨B, d, hv, hF⟩ := hown.form one_length
          exact ⟨B, d, by rw [hv]; rfl, hF, hbr⟩
    · have hok : ¬ ZonesAtOk x y xs := fun h => hb h.2
      rw [sel_f hok, tb_f hok]
      clear hok
      go_enter Try.func21, Try.ntmps21
      go_wp2_with fail
      refine (l6Zones_any A c xs W0 (by omega) (hA.ext hB0)).mono ?_
      rintro e w1 ⟨rfl, hb1'⟩
      have hb1 := ext_trans hB0 hb1'
      rw [tb_t hz]
      clear hz
      by_cases hx : 0 ≤ x ∧ x ≤ 9998
      · have hy : ¬ (0 ≤ y ∧ y ≤ 9998) := fun h => hb ⟨hx.1, hx.2, h.1, h.2⟩
        clear hb
        go_wp2_with fail
        refine (l1In_t x 0 9998 _ hx).mono ?_
        rintro e w' ⟨rfl, rfl⟩
        go_wp2_with fail
        refine (l1In_f y 0 9998 _ hy).mono ?_
        rintro e w' ⟨rfl, rfl⟩
        go_wp2
        go_ret2
        exact ⟨some ⟨w.heap.size, 0, none⟩, 0, rfl, FlO.nil, hb1⟩
      · clear hb
        go_wp2_with fail
        refine (l1In_f x 0 9998 _ hx).mono ?_
        rintro e w' ⟨rfl, rfl⟩
        go_wp2
        go_ret2
        exact ⟨some ⟨w.heap.size, 0, none⟩, 0, rfl, FlO.nil, hb1⟩
  · have hok : ¬ ZonesAtOk x y xs := fun h => hz h.1
    rw [sel_f hok, tb_f hok]
    clear hok
    go_enter Try.func21, Try.ntmps21
    go_wp2_with fail
    refine (l6Zones_any A c xs W0 (by omega) (hA.ext hB0)).mono ?_
    rintro e w1 ⟨rfl, hb1'⟩
    have hb1 := ext_trans hB0 hb1'
    rw [tb_f hz]
    clear hz
    go_wp2
    go_ret2
    exact ⟨some ⟨w.heap.size, 0, none⟩, 0, rfl, FlO.nil, hb1⟩
end Go.Proofs.Ytpjapemclbminaa
