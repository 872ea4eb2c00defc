/- The reference's minutes: bounds. No condition. -/
import Derived.Test.YtlkojpmhniokfaaLegP
import Derived.Test.YtlkojpmhniokfaaLegM
import Derived.Test.YtlkojpmhniokfaaMxMn
import Derived.Test.YtlkojpmhniokfaaLegD
namespace Go.Proofs.Ytlkojpmhniokfaa
open Go.RowKit
set_option linter.unusedVariables false
set_option linter.unusedSimpArgs false

set_option maxHeartbeats 2000000 in
set_option maxRecDepth 100000 in
theorem l2Reduce_any (s : Int) (h0 : 0 ≤ s) (h1 : s ≤ 4000000) (w : World) :
    Calls Try.prog 81 #[.int .i64 s, .int .i64 150] w fun e w' => (∃ p q : Int, e = .returned (.tuple #[.int .i64 p, .int .i64 q]) ∧ 0 ≤ p ∧ p ≤ 4000000 ∧ 1 ≤ q ∧ q ≤ 150) ∧ Below w.heap.size w w' := by
  have hmx : max s (-s) = s := by omega
  go_enter Try.func81, Try.ntmps81
  go_wp2_with fail
  ((with_reducible refine (l1Mx_any _ _ _).mono ?_); rintro e w4 ⟨rfl, rfl⟩)
  rw [hmx]
  clear hmx
  go_wp2
  go_loopw [6, 7] (fun av bv wr => ∃ a b : Int, av = .int .i64 a ∧ bv = .int .i64 b ∧ ((a = s ∧ b = 150) ∨ (1 ≤ a ∧ a ≤ 150 ∧ 0 ≤ b ∧ b < 150)) ∧ Below w.heap.size w wr) (fun _ bv _ => (intOf bv).toNat)
  case atStart => exact ⟨s, 150, rfl, rfl, .inl ⟨rfl, rfl⟩, Below.refl _ _⟩
  case round =>
    obtain ⟨a, b, rfl, rfl, hab, hbr⟩ := hrel
    by_cases hb : b = 0
    · subst hb
      have ha : 1 ≤ a ∧ a ≤ 150 := by omega
      have q1 := Int.ediv_nonneg h0 (show 0 ≤ a by omega)
      have q2 : s / a ≤ s := Int.ediv_le_self a h0
      have q3 : (1 : Int) ≤ 150 / a := Int.le_ediv_of_mul_le (by omega) (by omega)
      have q4 : (150 : Int) / a ≤ 150 := Int.ediv_le_self a (by omega)
      have hne : a ≠ 0 := by omega
      have t1 : s.tdiv a = s / a := Int.tdiv_eq_ediv_of_nonneg h0
      have t2 : Int.tdiv 150 a = 150 / a := Int.tdiv_eq_ediv_of_nonneg (by omega)
      obtain ⟨p, hp⟩ : ∃ z, z = s / a := ⟨_, rfl⟩
      obtain ⟨q, hq⟩ : ∃ z, z = 150 / a := ⟨_, rfl⟩
      rw [← hp] at q1 q2 t1
      rw [← hq] at q3 q4 t2
      have hpc := plus_cell wr
      have y1 : IntKind.i64.wrap p = p := IntWalk.i64_in _ (by omega)
      have y2 : IntKind.i64.wrap q = q := IntWalk.i64_in _ (by omega)
      clear hp hq hab
      go_wp2_with fail
      refine wp_region_grow (by kernel_rfl) (by kernel_rfl) ?_
      repeat (go_big_quiet_step ((first | (fail))))
      refine wpQuiet_nil ?_
      intro w1 hb1
      go_wp2
      go_ret2
      exact ⟨⟨p, q, rfl, q1, by omega, q3, q4⟩, ext_trans hbr hb1⟩
    · have hb0 : 0 < b := by omega
      have ha0 : 0 ≤ a := by omega
      have m0 := Int.emod_nonneg a (show b ≠ 0 by omega)
      have m1 := Int.emod_lt_of_pos a hb0
      have t1 : a.tmod b = a % b := Int.tmod_eq_emod_of_nonneg ha0
      have hbn : (b != 0) = true := by simp [hb]
      go_wp2
      go_roundw
      case rel => exact ⟨b, a % b, rfl, rfl, .inr ⟨by omega, by omega, m0, by omega⟩, hbr⟩
      case measure => simp [intOf]; omega
set_option maxHeartbeats 2000000 in
set_option maxRecDepth 100000 in
theorem specMinutes_any (A : Option Addr) (c : Nat) (xs : List Leg) (w : World) (hn : xs.length ≤ 1048576) (hA : Fl Leg.ints 3 w A xs) :
    Calls Try.prog 73 #[.slice A xs.length c] w fun e w' => (∃ (p q : Int) (b : Bool), e = .returned (.tuple #[.int .i64 p, .int .i64 q, .bool b]) ∧ (b = true → 0 ≤ p ∧ p ≤ 4000000 ∧ 1 ≤ q ∧ q ≤ 150)) ∧ Below w.heap.size w w' := by
  have hgr := l15Good_any A c xs w hn hA
  have hrl : Rt xs → Legs xs ∧ xs.length ≤ 12 := fun h => h
  by_cases hR : Rt xs
  · rw [tb_t hR] at hgr
    have hL : ∀ x ∈ xs, IsLeg x := fun x hx => by
      obtain ⟨i, hi⟩ := List.mem_iff_getElem?.1 hx
      exact hR.1 i x hi
    have hn12 := hR.2
    have hbd := fun (k : Nat) => sumP_bd (xs.take k) (fun x hx => hL x (List.mem_of_mem_take hx))
    obtain ⟨n, hnn⟩ : ∃ n, n = List.length xs := ⟨_, rfl⟩
    rw [← hnn] at hgr hn12 ⊢
    have HN := Lib.hid hnn
    have HG := Lib.hid hgr
    have HL := Lib.hid hL
    have HBD := Lib.hid hbd
    clear hnn hgr hL hbd hrl hR
    go_enter Try.func73, Try.ntmps73
    go_wp2_with fail
    ((with_reducible refine (HG.out).mono ?_); rintro e w1 ⟨rfl, hb1⟩)
    have HA1 := Lib.hid (hA.ext hb1)
    go_wp2
    go_loopw [5, 6] (fun sv iv wr => ∃ k : Nat, k ≤ n ∧ sv = .int .i64 (sumP (xs.take k)) ∧ iv = .int .i64 (k : Int) ∧ Below w.heap.size w wr) (fun _ iv _ => n - (intOf iv).toNat)
    case atStart => exact ⟨0, by omega, by simp [sumP], rfl, hb1⟩
    case round =>
      obtain ⟨k, hk, rfl, rfl, hbr⟩ := hrel
      have hs1 := HBD.out k
      rw [List.length_take] at hs1
      by_cases hlt : k < n
      · obtain ⟨x, b, o, hx, hAe, hbb, hc⟩ := (hA.ext hbr).at_ (k := k) (by rw [← HN.out]; exact hlt)
        subst hAe
        have c0 : World.cell? wr ⟨b, o + k * 3, none⟩ = some (.int .i64 x.way) := hc 0 _ rfl
        have c1 : World.cell? wr ⟨b, o + k * 3 + 1, none⟩ = some (.int .i64 x.units) := hc 1 _ rfl
        have c2 : World.cell? wr ⟨b, o + k * 3 + 2, none⟩ = some (.int .i64 x.climb) := hc 2 _ rfl
        have hlg := HL.out x (List.mem_of_getElem? hx)
        have hpb := partsL_bd hlg
        have hst : sumP (xs.take (k + 1)) = sumP (xs.take k) + partsL x := by rw [take_get hx, sumP_snoc]
        have HPT := Lib.hid (fun W => l15Parts_any x hlg W)
        obtain ⟨s0, hs0⟩ : ∃ y, y = sumP (xs.take k) := ⟨_, rfl⟩
        obtain ⟨p0, hp0⟩ : ∃ y, y = partsL x := ⟨_, rfl⟩
        rw [← hs0, ← hp0] at hst
        rw [← hs0] at hs1 ⊢
        rw [← hp0] at hpb HPT
        have HST := Lib.hid hst
        have hk0 : (0 : Int) ≤ (k : Int) := by omega
        have hk1 : (k : Int) < (n : Int) := by omega
        clear hc hx hlg hst hs0 hp0
        go_wp2_with fail
        ((with_reducible refine (HPT.out _).mono ?_); rintro e w5 ⟨rfl, hb5⟩)
        go_wp2
        go_roundw
        case rel => exact ⟨k + 1, by omega, by rw [HST.out], by go_num, ext_trans hbr hb5⟩
        case measure => simp [intOf]; omega
      · have hkn : k = n := by omega
        subst hkn
        rw [take_all (by rw [← HN.out]; exact Nat.le_refl _)] at hs1 ⊢
        obtain ⟨s0, hs0⟩ : ∃ y, y = sumP xs := ⟨_, rfl⟩
        rw [← hs0] at hs1 ⊢
        have HRD := Lib.hid (fun W => l2Reduce_any s0 (by omega) (by omega) W)
        clear hs0
        go_wp2_with fail
        ((with_reducible refine (HRD.out _).mono ?_); rintro e w5 ⟨⟨p, q, rfl, y1, y2, y3, y4⟩, hb5⟩)
        go_wp2
        go_ret3
        exact ⟨⟨p, q, true, rfl, fun _ => ⟨y1, y2, y3, y4⟩⟩, ext_trans hbr hb5⟩
  · rw [tb_f hR] at hgr
    generalize xs.length = n at *
    have HG := Lib.hid hgr
    clear hgr hrl hR
    go_enter Try.func73, Try.ntmps73
    go_wp2_with fail
    ((with_reducible refine (HG.out).mono ?_); rintro e w1 ⟨rfl, hb1⟩)
    go_wp2
    go_ret3
    exact ⟨⟨0, 0, false, rfl, fun h => by cases h⟩, hb1⟩
set_option maxHeartbeats 1000000 in
theorem specEnough_any (A : Option Addr) (c : Nat) (xs : List Leg) (w : World) (hn : xs.length ≤ 1048576) (hA : Fl Leg.ints 3 w A xs) :
    Calls Try.prog 53 #[.slice A xs.length c] w fun e w' => (∃ (z : Int) (b : Bool), e = .returned (.tuple #[.int .i64 z, .bool b]) ∧ 0 ≤ z ∧ z ≤ 5000000) ∧ Below w.heap.size w w' := by
  have HM := Lib.hid (specMinutes_any A c xs w hn hA)
  go_enter Try.func53, Try.ntmps53
  go_wp2_with fail
  ((with_reducible refine (HM.out).mono ?_); rintro e w1 ⟨⟨p, q, b, rfl, hpq⟩, hb1⟩)
  cases b
  · go_wp2
    go_ret2
    exact ⟨⟨0, false, rfl, by omega, by omega⟩, hb1⟩
  · obtain ⟨y1, y2, y3, y4⟩ := hpq rfl
    have hq0 : q ≠ 0 := by omega
    have q1 := Int.ediv_nonneg (show 0 ≤ p + q - 1 by omega) (show 0 ≤ q by omega)
    have q2 : (p + q - 1) / q ≤ p + q - 1 := Int.ediv_le_self _ (by omega)
    have t1 : (p + q - 1).tdiv q = (p + q - 1) / q := Int.tdiv_eq_ediv_of_nonneg (by omega)
    obtain ⟨z, hz⟩ : ∃ z, z = (p + q - 1) / q := ⟨_, rfl⟩
    rw [← hz] at q1 q2 t1
    clear hz hpq
    go_wp2
    go_ret2
    exact ⟨⟨z, true, rfl, q1, by omega⟩, hb1⟩
end Go.Proofs.Ytlkojpmhniokfaa
