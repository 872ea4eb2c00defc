/- FreeSquares: the reference's side. -/
import Derived.Test.YtlkojpmhniokfaaFreeD
namespace Go.Proofs.Ytlkojpmhniokfaa
open Go.RowKit
set_option linter.unusedVariables false
set_option linter.unusedSimpArgs false

set_option maxHeartbeats 2000000 in
set_option maxRecDepth 100000 in
theorem specFreeSquares_any (wide high steep : Int) (A : Option Addr) (c : Nat) (xs : List Four) (w : World) (hn : xs.length ≤ 1048576) (hA : Fl Four.ints 4 w A xs) :
    Calls Try.prog 27 #[.agg #[.int .i64 wide, .int .i64 high, .slice A xs.length c, .int .i64 steep]] w fun e w' =>
      e = .returned (.tuple #[.int .i64 (seli (Lnd wide high steep xs) (wide * high - areaZ (implZ xs))), .bool (tb (Lnd wide high steep xs))]) ∧ Below w.heap.size w w' := by
  obtain ⟨i0, hi, hy0, hy1, hy2⟩ := info_parts infoZone
  obtain ⟨V0, hV0, hC0, hz0, hcv, _⟩ := box_world w #[Value.int .i64 wide, .int .i64 high, .slice A xs.length c, .int .i64 steep] 26
  have e0 : World.cell? V0 ⟨w.heap.size, 0, none⟩ = some (.int .i64 wide) := hcv 0
  have e1 : World.cell? V0 ⟨w.heap.size, 1, none⟩ = some (.int .i64 high) := hcv 1
  have e2 : World.cell? V0 ⟨w.heap.size, 2, none⟩ = some (.slice A xs.length c) := hcv 2
  have e3 : World.cell? V0 ⟨w.heap.size, 3, none⟩ = some (.int .i64 steep) := hcv 3
  have hare := l16Good_any wide high steep A c xs V0 (by omega) (hA.ext hC0)
  have hA0 := hA.ext hC0
  by_cases hl : Lnd wide high steep xs
  · have har := fun (B : Option Addr) (d : Nat) W hW => (l6Area_any B d (specZ 0 xs) W (by rw [specZ_len]; exact hl.2.2.2.2.2.1) (zb_spec hl) hW).mono fun e w' h => (⟨h.1, h.2.2⟩ : e = .returned (.int .i64 (areaZ (specZ 0 xs))) ∧ Below W.heap.size W w')
    have hbd := areaZ_bd (zb_spec hl) (by rw [specZ_len]; exact hl.2.2.2.2.2.1)
    rw [specZ_area] at har hbd
    have hwh := wh_bd hl.2.1 hl.2.2.1 hl.2.2.2.1 hl.2.2.2.2.1
    have hwr1 : IntKind.i64.wrap (wide * high) = wide * high := IntWalk.i64_in _ (by omega)
    have hwr2 : IntKind.i64.wrap (wide * high - areaZ (implZ xs)) = wide * high - areaZ (implZ xs) := IntWalk.i64_in _ (by omega)
    rw [tb_t hl] at hare
    rw [tb_t hl, seli_t hl]
    have hbars : ∀ (k : Nat) (x : Four), xs[k]? = some x → 0 ≤ x.a ∧ x.a ≤ x.c ∧ x.c < 2000 ∧ 0 ≤ x.b ∧ x.b ≤ x.d ∧ x.d < 2000 := fun k x hx => by
      have h1 := hl.1.1 k x hx
      obtain ⟨_, _, h2, _, h3, _⟩ := hl
      unfold BarOk at h1
      omega
    have hn10 : xs.length ≤ 10 := hl.2.2.2.2.2.1
    have hFl := specZ_len xs 0
    generalize areaZ (implZ xs) = R at hwr2 har hbd ⊢
    obtain ⟨n, hnn⟩ : ∃ n, n = List.length xs := ⟨_, rfl⟩
    rw [← hnn] at hV0 hare hn e2 hn10 hFl ⊢
    have hN := Lib.hid hnn
    have HA := Lib.hid hare
    have HR := Lib.hid har
    have HB := Lib.hid hbars
    clear hnn hare har hbars hcv hl
    go_enter Try.func27, Try.ntmps27
    go_wp2_with fail
    refine (HA.out).mono ?_
    rintro e w1 ⟨rfl, hb1⟩
    have f0 := (hb1.cell (p := ⟨w.heap.size, 0, none⟩) hz0).trans e0
    have f1 := (hb1.cell (p := ⟨w.heap.size, 1, none⟩) hz0).trans e1
    have f2 := (hb1.cell (p := ⟨w.heap.size, 2, none⟩) hz0).trans e2
    obtain ⟨W2, hW2, hB2, _, _, _⟩ := box_world w1 #[] 77
    have hown2 : OwnF Zone.ints 5 V0.heap.size 77 W2 (.slice (some ⟨w1.heap.size, 0, none⟩) 0 0) [] := hW2 ▸ OwnF.empty hb1.size
    go_wp2
    go_loopw [4, 5] (fun v i wr => ∃ k : Nat, k ≤ n ∧ i = .int .i64 k ∧ Below V0.heap.size V0 wr ∧ OwnF Zone.ints 5 V0.heap.size 77 wr v (specZ 0 (xs.take k))) (fun _ i _ => n - (intOf i).toNat)
    case atStart => exact ⟨0, by omega, rfl, ext_trans hb1 hB2, hown2⟩
    case round =>
      obtain ⟨k, hk, rfl, hbr, hown⟩ := hrel
      have hzr := hbr.size
      have hzb : w.heap.size < wr.heap.size := Nat.lt_of_lt_of_le hz0 hzr
      have g0 := (hbr.cell (p := ⟨w.heap.size, 0, none⟩) hz0).trans e0
      have g1 := (hbr.cell (p := ⟨w.heap.size, 1, none⟩) hz0).trans e1
      have g2 := (hbr.cell (p := ⟨w.heap.size, 2, none⟩) hz0).trans e2
      by_cases hlt : k < n
      · obtain ⟨x, b, o, hx, hAe, hb, hc⟩ := (hA0.ext hbr).at_ (k := k) (by rw [← hN.out]; exact hlt)
        subst hAe
        have c0 : World.cell? wr ⟨b, o + k * 4, none⟩ = some (.int .i64 x.a) := hc 0 _ rfl
        have c1 : World.cell? wr ⟨b, o + k * 4 + 1, none⟩ = some (.int .i64 x.b) := hc 1 _ rfl
        have c2 : World.cell? wr ⟨b, o + k * 4 + 2, none⟩ = some (.int .i64 x.c) := hc 2 _ rfl
        have c3 : World.cell? wr ⟨b, o + k * 4 + 3, none⟩ = some (.int .i64 x.d) := hc 3 _ rfl
        obtain ⟨b1, b2, b3, b4, b5, b6⟩ := HB.out k x hx
        have hlen : (specZ 0 (xs.take k)).length ≤ 16777216 := by rw [specZ_len, List.length_take]; omega
        have HT := Lib.hid (take_get hx)
        have hkl : (xs.take k).length = k := by rw [List.length_take, ← hN.out]; omega
        have HKL := Lib.hid hkl
        obtain ⟨W1, hW1, hB1, hz1, hg, _⟩ := box_world wr #[Value.int .i64 x.a, .int .i64 x.b, .int .i64 x.c, .int .i64 x.d] 48
        have r0 : World.cell? W1 ⟨wr.heap.size, 0, none⟩ = some (.int .i64 x.a) := hg 0
        have r1 : World.cell? W1 ⟨wr.heap.size, 1, none⟩ = some (.int .i64 x.b) := hg 1
        have r2 : World.cell? W1 ⟨wr.heap.size, 2, none⟩ = some (.int .i64 x.c) := hg 2
        have r3 : World.cell? W1 ⟨wr.heap.size, 3, none⟩ = some (.int .i64 x.d) := hg 3
        have hown0 := hown.ext hB1
        have hbW := ext_trans hbr hB1
        clear hc hg hx hkl
        have hk0 : (0 : Int) ≤ (k : Int) := by omega
        have hk1 : (k : Int) < (n : Int) := by omega
        go_wp2_with (at_builtin; refine wpList_append_flat (f := Zone.ints) (y := barZ ((k : Int) + 1) x) rfl _ _ _ rfl V0.heap.size i0 _ 5 40 Try.underlying75 hi hy0 hy1 hy2 rfl (by decide) _ _ rfl rfl hown0 rfl ?_ (by decide) ?_ ?_; exact hlen; exact hbW.size; intro v' w3 hown3 hg3 hb3)
        go_roundw
        case rel => exact ⟨k + 1, by omega, by go_num, hbW.trans hb3, by rw [HT.out, specZ_snoc, HKL.out, Nat.zero_add]; exact hown3⟩
        case measure => simp [intOf]; omega
      · have hkn : k = n := by omega
        subst hkn
        rw [take_all (by rw [← hN.out]; exact Nat.le_refl _)] at hown
        obtain ⟨B, d, hv, hF⟩ := hown.form (fun _ => rfl)
        rw [hFl] at hv
        subst hv
        have hr := fun W hW => HR.out B d W hW
        rw [hFl] at hr
        have HRR := Lib.hid hr
        have hpc := plus_cell wr
        have hbw := ext_trans hC0 hbr
        clear hr e0 e1 e2 e3 f0 f1 f2 hown
        go_wp2_with fail
        refine wp_region_grow (by kernel_rfl) (by kernel_rfl) ?_
        repeat (go_big_quiet_step ((first | (go_at_call 50; exact quiet_below (HRR.out _ (hF.fl.ext (plus_below _ _)))))))
        refine wpQuiet_nil ?_
        intro w1 hb1
        go_wp2
        go_ret2
        exact ⟨rfl, ext_trans hbw hb1⟩
  · rw [tb_f hl] at hare
    rw [tb_f hl, seli_f hl]
    generalize xs.length = n at *
    have HA := Lib.hid hare
    clear hare hcv
    go_enter Try.func27, Try.ntmps27
    go_wp2_with fail
    refine (HA.out).mono ?_
    rintro e w1 ⟨rfl, hb1⟩
    go_wp2
    go_ret2
    exact ⟨rfl, ext_trans hC0 hb1⟩
end Go.Proofs.Ytlkojpmhniokfaa
