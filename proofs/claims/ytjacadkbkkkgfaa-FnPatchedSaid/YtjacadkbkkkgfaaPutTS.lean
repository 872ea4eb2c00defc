/- A tile laid into its place: the reference's side. -/
import Derived.Test.YtjacadkbkkkgfaaPutDT
import Derived.Deep.RegionLaw
namespace Go.Proofs.Ytjacadkbkkkgfaa
open Go.RowKit
set_option linter.unusedVariables false
set_option linter.unusedSimpArgs false

set_option maxHeartbeats 8000000 in
set_option maxRecDepth 100000 in
theorem l17Put_any (rows cols : Int) (A : Option Addr) (c : Nat) (xs : List Tile) (t : Tile) (w : World) (hn : xs.length ≤ 1048575) (hA : Fl Tile.ints 3 w A xs) :
    Calls Try.prog 42 #[.agg #[.int .i64 rows, .int .i64 cols, .slice A xs.length c], .agg #[.int .i64 t.row, .int .i64 t.col, .int .i64 t.sum]] w (RetT w rows cols (insT t xs)) := by
  obtain ⟨i0, hi, hz0, hz1, hz2⟩ := info_parts infoTile
  obtain ⟨V0, hV0, hB0, hz0', _, _⟩ := box_world w #[Value.int .i64 rows, .int .i64 cols, .slice A xs.length c] 26
  have hS0 : Var3 V0 w.heap.size (.int .i64 rows) (.int .i64 cols) (.slice A xs.length c) := hV0 ▸ var3_box w _ _ _ _
  obtain ⟨V1, hV1, hB1, hz1', _, _⟩ := box_world V0 #[Value.int .i64 t.row, .int .i64 t.col, .int .i64 t.sum] 39
  have hT1 : Var3 V1 V0.heap.size (.int .i64 t.row) (.int .i64 t.col) (.int .i64 t.sum) := hV1 ▸ var3_box V0 _ _ _ _
  obtain ⟨V2, hV2, hB2, hz2', _, _⟩ := box_world V1 #[Value.int .i64 0, .int .i64 0, .slice none 0 0] 26
  have hR2 : Var3 V2 V1.heap.size (.int .i64 0) (.int .i64 0) (.slice none 0 0) := hV2 ▸ var3_box V1 _ _ _ _
  obtain ⟨Vg, hVg, hBg, hzVg, _, _⟩ := box_world V2 #[Value.int .i64 rows, .int .i64 cols, .slice none 0 0] 26
  have hout : Var3 Vg V2.heap.size (.int .i64 rows) (.int .i64 cols) (.slice none 0 0) := hVg ▸ var3_box V2 _ _ _ _
  have hS3 := ((hS0.ext hB1).ext hB2).ext hBg
  have hT3 := (hT1.ext hB2).ext hBg
  have hR3 := hR2.ext hBg
  have hbg := ext_trans (ext_trans (ext_trans hB0 hB1) hB2) hBg
  have hat := fun (z : Tile) (h : TileLt z t) W => l17Before_t z t.row t.col W (h : AtLt z t.row t.col)
  have haf := fun (z : Tile) (h : ¬ TileLt z t) W => l17Before_f z t.row t.col W (h : ¬ AtLt z t.row t.col)
  have hbt := fun (z : Tile) (h : TileLt t z) W => l17Before_t t z.row z.col W (h : AtLt t z.row z.col)
  have hbf := fun (z : Tile) (h : ¬ TileLt t z) W => l17Before_f t z.row z.col W (h : ¬ AtLt t z.row z.col)
  have HAT := Lib.hid hat
  have HAF := Lib.hid haf
  have HBT := Lib.hid hbt
  have HBF := Lib.hid hbf
  have HPL : Hid (([] : List Tile).length ≤ xs.length + 1) := by unfold Hid; simp
  obtain ⟨n, hnn⟩ : ∃ n, n = xs.length := ⟨_, rfl⟩
  rw [← hnn] at hV0 hS3 hn
  have HN := Lib.hid hnn
  have s0 := hS3.c0
  have s1 := hS3.c1
  have s2 := hS3.c2
  have t0 := hT3.c0
  have t1 := hT3.c1
  have t2 := hT3.c2
  have HRS := Lib.hid hR3
  obtain ⟨g, hg⟩ : ∃ g, g = V2.heap.size := ⟨_, rfl⟩
  have hzv0 : w.heap.size < V0.heap.size := hz0'
  have hzv1 : V0.heap.size < V1.heap.size := hz1'
  have hzv2 : V1.heap.size < V2.heap.size := hz2'
  have hzw2 : w.heap.size < V2.heap.size := by omega
  have hzt2 : V0.heap.size < V2.heap.size := by omega
  have hs2 := hS0.ext hB1
  have e0 := (hs2.ext hB2).c0
  have e1 := (hs2.ext hB2).c1
  rw [← hg] at hout
  have hwg : w.heap.size < g := by omega
  have hv0g : V0.heap.size < g := by omega
  have HOUT := Lib.hid hout
  have HG := Lib.hid hg
  have HVG := Lib.hid hVg
  clear hat haf hbt hbf hS0 hT1 hR2 hS3 hT3 hR3 hout hVg hnn hs2
  rw [← HN.out]
  go_enter Try.func42, Try.ntmps42
  go_wp2
  rw [HVG.out, ← HG.out]
  rw [← hg] at hzVg hzv2
  clear hg
  go_loopw [6] (fun i wr => ∃ (k : Nat) (v : Value), k ≤ n ∧ i = .int .i64 k ∧ Below g Vg wr ∧ Var3 wr g (.int .i64 rows) (.int .i64 cols) v ∧ OwnF Tile.ints 3 Vg.heap.size 39 wr v (((xs.take k).filter fun z => decide (TileLt z t)))) (fun i _ => n - (intOf i).toNat)
  case atStart => exact ⟨0, _, by omega, rfl, Below.refl _ _, HOUT.out, OwnF.none_⟩
  case round =>
    obtain ⟨k, v, hk, rfl, hT, hv3, hown⟩ := hrel
    have hbr : Below w.heap.size w wr := hbg.trans (hT.mono (by omega))
    have hgr := hT.size
    have n0 := (hT.cell (p := ⟨w.heap.size, 0, none⟩) (by omega)).trans s0
    have n1 := (hT.cell (p := ⟨w.heap.size, 1, none⟩) (by omega)).trans s1
    have n2 := (hT.cell (p := ⟨w.heap.size, 2, none⟩) (by omega)).trans s2
    have m0 := (hT.cell (p := ⟨V0.heap.size, 0, none⟩) (by omega)).trans t0
    have m1 := (hT.cell (p := ⟨V0.heap.size, 1, none⟩) (by omega)).trans t1
    have m2 := (hT.cell (p := ⟨V0.heap.size, 2, none⟩) (by omega)).trans t2
    have q0 := hv3.c0
    have q1 := hv3.c1
    have q2 := hv3.c2
    have qz := hv3.fz
    have qlt := hv3.lt
    have hzw : w.heap.size < wr.heap.size := by omega
    have hzt : V0.heap.size < wr.heap.size := by omega
    by_cases hlt : k < n
    · obtain ⟨x, bb, o, hx, hAe, hbb, hc⟩ := (hA.ext hbr).at_ (k := k) (by rw [← HN.out]; exact hlt)
      subst hAe
      have c0 : World.cell? wr ⟨bb, o + k * 3, none⟩ = some (.int .i64 x.row) := hc 0 _ rfl
      have c1 : World.cell? wr ⟨bb, o + k * 3 + 1, none⟩ = some (.int .i64 x.col) := hc 1 _ rfl
      have c2 : World.cell? wr ⟨bb, o + k * 3 + 2, none⟩ = some (.int .i64 x.sum) := hc 2 _ rfl
      obtain ⟨L, hL⟩ : ∃ L, L = ((xs.take k).filter fun z => decide (TileLt z t)) := ⟨_, rfl⟩
      have hlen : L.length ≤ 3145728 := by
        rw [hL]
        have h1 := List.length_filter_le (fun z => decide (TileLt z t)) (xs.take k)
        have h2 := HPL.out
        have h3 := HN.out
        rw [List.length_take] at h1
        try simp only [List.length_append, List.length_cons, List.length_nil]
        (try simp only [List.length_append, List.length_cons, List.length_nil] at h2)
        omega
      rw [← hL] at hown
      have HT := Lib.hid (take_get hx)
      have HL := Lib.hid hL
      have hpc := plus_cell wr
      clear hc hx hL
      have hk0 : (0 : Int) ≤ (k : Int) := by omega
      have hk1 : (k : Int) < (n : Int) := by omega
      by_cases hp : TileLt x t
      · have HP := Lib.hid hp
        have hcall := HAT.out x hp
        have HC := Lib.hid hcall
        clear hp hcall
        go_wp2_with fail
        refine wp_region_grow (by kernel_rfl) (by kernel_rfl) ?_
        repeat (go_big_quiet_step ((first | (go_at_call 66; exact quiet_below (HC.out _)))))
        refine wpQuiet_nil ?_
        intro w1 hb1
        have hv4 := hv3.ext hb1
        have hown1 := hown.ext hb1
        have hT1 := hT.trans (hb1.mono (by omega))
        have hsz1 : Vg.heap.size ≤ w1.heap.size := hT1.size
        have u0 := (hb1.cell (p := ⟨w.heap.size, 0, none⟩) (by omega)).trans n0
        have u1 := (hb1.cell (p := ⟨w.heap.size, 1, none⟩) (by omega)).trans n1
        have u2 := (hb1.cell (p := ⟨w.heap.size, 2, none⟩) (by omega)).trans n2
        have j0 := (hb1.cell (p := ⟨V0.heap.size, 0, none⟩) (by omega)).trans m0
        have j1 := (hb1.cell (p := ⟨V0.heap.size, 1, none⟩) (by omega)).trans m1
        have j2 := (hb1.cell (p := ⟨V0.heap.size, 2, none⟩) (by omega)).trans m2
        have p0 := hv4.c0
        have p1 := hv4.c1
        have p2 := hv4.c2
        have pz := hv4.fz
        have plt := hv4.lt
        have hzw1 : w.heap.size < w1.heap.size := by omega
        have bbl : bb < w1.heap.size := Nat.lt_of_lt_of_le hbb hb1.size
        have d0 := (hb1.cell (p := ⟨bb, o + k * 3, none⟩) hbb).trans c0
        have d1 := (hb1.cell (p := ⟨bb, o + k * 3 + 1, none⟩) hbb).trans c1
        have d2 := (hb1.cell (p := ⟨bb, o + k * 3 + 2, none⟩) hbb).trans c2
        have HV4 := Lib.hid hv4
        have HOW1 := Lib.hid hown1
        have HT1 := Lib.hid hT1
        obtain ⟨B0, d0', hvv, _⟩ := hown1.form Tile.ints_length
        subst hvv
        clear hv3 hv4 hown hown1 hT hT1
        obtain ⟨B7, d7, m7, w7, hrun, HM7, hown7, hb7⟩ := appendT_run Vg.heap.size (.slice B0 L.length d0') L x w1 HOW1.out (by omega) hsz1
        have hv7 := HV4.out.below hb7 hzVg
        have f0 := hv7.c0
        have f1 := hv7.c1
        have f2 := hv7.c2
        have fz := hv7.fz
        have flt := hv7.lt
        have HV7 := Lib.hid hv7
        have HOW7 := Lib.hid hown7
        have HB7 := Lib.hid hb7
        have HRUN := Lib.hid hrun
        clear hv7 hown7 hb7 hrun
        go_wp2_with fail
        go_region_law (refine step_append_runK rfl (.tmp 31) (.tmp 37) 24 rfl _ _ rfl rfl HRUN.out ?_)
        all_goals
          go_wp2
          go_roundw
          case rel => exact ⟨k + 1, _, by omega, by go_num, below_set (HT1.out.trans (HB7.out.mono (Nat.le_of_lt hzVg))) ⟨g, 2, none⟩ _ (Nat.le_refl g), HV7.out.set2 _, by
            rw [HT.out, List.filter_append, List.filter_cons_of_pos (by simpa using HP.out), List.filter_nil,  ← HL.out]
            exact HOW7.out.touch (Touch.of_set w7 ⟨g, 2, none⟩ _ (Nat.le_refl g) (Nat.lt_succ_self g)) (by omega)⟩
          case measure => simp [intOf]; omega
      · have HP := Lib.hid hp
        have hcall := HAF.out x hp
        have HC := Lib.hid hcall
        clear hp hcall
        go_wp2_with fail
        refine wp_region_grow (by kernel_rfl) (by kernel_rfl) ?_
        repeat (go_big_quiet_step ((first | (go_at_call 66; exact quiet_below (HC.out _)))))
        refine wpQuiet_nil ?_
        intro w1 hb1
        have hv4 := hv3.ext hb1
        have hown1 := hown.ext hb1
        have hT1 := hT.trans (hb1.mono (by omega))
        go_wp2
        go_roundw
        case rel => exact ⟨k + 1, _, by omega, by go_num, hT1, hv4, by
          rw [HT.out, List.filter_append, List.filter_cons_of_neg (by simpa using HP.out), List.filter_nil, List.append_nil, ← HL.out]
          exact hown1⟩
        case measure => simp [intOf]; omega
    · have hkn : n = k := by omega
      subst hkn
      rw [take_all (by rw [← HN.out]; exact Nat.le_refl _)] at hown
      obtain ⟨wo, hwo⟩ : ∃ z, z = wr := ⟨_, rfl⟩
      subst hwo
      obtain ⟨L, hL⟩ : ∃ L, L = xs.filter fun z => decide (TileLt z t) := ⟨_, rfl⟩
      have hll : L.length ≤ 1048576 := by rw [hL]; have := List.length_filter_le (fun z => decide (TileLt z t)) xs; have := HN.out; omega
      rw [← hL] at hown
      have HL := Lib.hid hL
      obtain ⟨B0, d0', hvv, _⟩ := hown.form Tile.ints_length
      subst hvv
      have HV3 := Lib.hid hv3
      have HTT := Lib.hid hT
      have hszo : Vg.heap.size ≤ wo.heap.size := hT.size
      clear hL hv3 hT
      go_wp2_with (at_builtin; refine wpList_append_flat (f := Tile.ints) (y := t) rfl _ _ _ rfl Vg.heap.size i0 _ 3 24 Try.underlying24 hi hz0 hz1 hz2 rfl (by decide) _ _ rfl rfl hown rfl ?_ (by decide) ?_ ?_; omega; exact hszo; intro v' w7 hown7 hg7 hb7; (obtain ⟨L7, hL7⟩ : ∃ L7, L7 = L ++ [t] := ⟨_, rfl⟩); rw [← hL7] at hown7; (obtain ⟨B7, d7, hv7, _⟩ := hown7.form Tile.ints_length); subst hv7; have HL7 := Lib.hid hL7; clear hL7; have hv7 := HV3.out.below hb7 hzVg; have f0 := hv7.c0; have f1 := hv7.c1; have f2 := hv7.c2; have fz := hv7.fz; have flt := hv7.lt; have HV7 := Lib.hid hv7; have HOW7 := Lib.hid hown7; have HB7 := Lib.hid hb7; clear hv7 hown7 hb7 hg7)
      have hT8 : Below g Vg (w7.setCell ⟨g, 2, none⟩ (.slice B7 L7.length d7)) := below_set (HTT.out.trans (HB7.out.mono (Nat.le_of_lt hzVg))) ⟨g, 2, none⟩ _ (Nat.le_refl g)
      have HV8 := Lib.hid (HV7.out.set2 (.slice B7 L7.length d7))
      have HO8 : Hid (OwnF Tile.ints 3 Vg.heap.size 39 (w7.setCell ⟨g, 2, none⟩ (.slice B7 L7.length d7)) (.slice B7 L7.length d7) ((xs.filter fun z => decide (TileLt z t)) ++ [t])) := by
        unfold Hid
        rw [← HL.out, ← HL7.out]
        exact HOW7.out.touch (Touch.of_set w7 ⟨g, 2, none⟩ _ (Nat.le_refl g) (Nat.lt_succ_self g)) (by omega)
      have HPL : Hid (((xs.filter fun z => decide (TileLt z t)) ++ [t]).length ≤ xs.length + 1) := by
        unfold Hid
        have := List.length_filter_le (fun z => decide (TileLt z t)) xs
        simp
        omega
      clear hown f0 f1 f2 fz flt
      go_loopw [7] (fun i wr => ∃ (k : Nat) (v : Value), k ≤ n ∧ i = .int .i64 k ∧ Below g Vg wr ∧ Var3 wr g (.int .i64 rows) (.int .i64 cols) v ∧ OwnF Tile.ints 3 Vg.heap.size 39 wr v (((xs.filter fun z => decide (TileLt z t)) ++ [t]) ++ ((xs.take k).filter fun z => decide (TileLt t z)))) (fun i _ => n - (intOf i).toNat)
      case atStart => exact ⟨0, _, by omega, rfl, hT8, HV8.out, by rw [List.take_zero, List.filter_nil, List.append_nil]; exact HO8.out⟩
      case round =>
        obtain ⟨k, v, hk, rfl, hT, hv3, hown⟩ := hrel
        have hbr : Below w.heap.size w wr := hbg.trans (hT.mono (by omega))
        have hgr := hT.size
        have n0 := (hT.cell (p := ⟨w.heap.size, 0, none⟩) (by omega)).trans s0
        have n1 := (hT.cell (p := ⟨w.heap.size, 1, none⟩) (by omega)).trans s1
        have n2 := (hT.cell (p := ⟨w.heap.size, 2, none⟩) (by omega)).trans s2
        have m0 := (hT.cell (p := ⟨V0.heap.size, 0, none⟩) (by omega)).trans t0
        have m1 := (hT.cell (p := ⟨V0.heap.size, 1, none⟩) (by omega)).trans t1
        have m2 := (hT.cell (p := ⟨V0.heap.size, 2, none⟩) (by omega)).trans t2
        have q0 := hv3.c0
        have q1 := hv3.c1
        have q2 := hv3.c2
        have qz := hv3.fz
        have qlt := hv3.lt
        have hzw : w.heap.size < wr.heap.size := by omega
        have hzt : V0.heap.size < wr.heap.size := by omega
        by_cases hlt : k < n
        · obtain ⟨x, bb, o, hx, hAe, hbb, hc⟩ := (hA.ext hbr).at_ (k := k) (by rw [← HN.out]; exact hlt)
          subst hAe
          have c0 : World.cell? wr ⟨bb, o + k * 3, none⟩ = some (.int .i64 x.row) := hc 0 _ rfl
          have c1 : World.cell? wr ⟨bb, o + k * 3 + 1, none⟩ = some (.int .i64 x.col) := hc 1 _ rfl
          have c2 : World.cell? wr ⟨bb, o + k * 3 + 2, none⟩ = some (.int .i64 x.sum) := hc 2 _ rfl
          obtain ⟨L, hL⟩ : ∃ L, L = ((xs.filter fun z => decide (TileLt z t)) ++ [t]) ++ ((xs.take k).filter fun z => decide (TileLt t z)) := ⟨_, rfl⟩
          have hlen : L.length ≤ 3145728 := by
            rw [hL]
            have h1 := List.length_filter_le (fun z => decide (TileLt t z)) (xs.take k)
            have h2 := HPL.out
            have h3 := HN.out
            rw [List.length_take] at h1
            try simp only [List.length_append, List.length_cons, List.length_nil]
            (try simp only [List.length_append, List.length_cons, List.length_nil] at h2)
            omega
          rw [← hL] at hown
          have HT := Lib.hid (take_get hx)
          have HL := Lib.hid hL
          have hpc := plus_cell wr
          clear hc hx hL
          have hk0 : (0 : Int) ≤ (k : Int) := by omega
          have hk1 : (k : Int) < (n : Int) := by omega
          by_cases hp : TileLt t x
          · have HP := Lib.hid hp
            have hcall := HBT.out x hp
            have HC := Lib.hid hcall
            clear hp hcall
            go_wp2_with fail
            refine wp_region_grow (by kernel_rfl) (by kernel_rfl) ?_
            repeat (go_big_quiet_step ((first | (go_at_call 66; exact quiet_below (HC.out _)))))
            refine wpQuiet_nil ?_
            intro w1 hb1
            have hv4 := hv3.ext hb1
            have hown1 := hown.ext hb1
            have hT1 := hT.trans (hb1.mono (by omega))
            have hsz1 : Vg.heap.size ≤ w1.heap.size := hT1.size
            have u0 := (hb1.cell (p := ⟨w.heap.size, 0, none⟩) (by omega)).trans n0
            have u1 := (hb1.cell (p := ⟨w.heap.size, 1, none⟩) (by omega)).trans n1
            have u2 := (hb1.cell (p := ⟨w.heap.size, 2, none⟩) (by omega)).trans n2
            have j0 := (hb1.cell (p := ⟨V0.heap.size, 0, none⟩) (by omega)).trans m0
            have j1 := (hb1.cell (p := ⟨V0.heap.size, 1, none⟩) (by omega)).trans m1
            have j2 := (hb1.cell (p := ⟨V0.heap.size, 2, none⟩) (by omega)).trans m2
            have p0 := hv4.c0
            have p1 := hv4.c1
            have p2 := hv4.c2
            have pz := hv4.fz
            have plt := hv4.lt
            have hzw1 : w.heap.size < w1.heap.size := by omega
            have bbl : bb < w1.heap.size := Nat.lt_of_lt_of_le hbb hb1.size
            have d0 := (hb1.cell (p := ⟨bb, o + k * 3, none⟩) hbb).trans c0
            have d1 := (hb1.cell (p := ⟨bb, o + k * 3 + 1, none⟩) hbb).trans c1
            have d2 := (hb1.cell (p := ⟨bb, o + k * 3 + 2, none⟩) hbb).trans c2
            have HV4 := Lib.hid hv4
            have HOW1 := Lib.hid hown1
            have HT1 := Lib.hid hT1
            obtain ⟨B0, d0', hvv, _⟩ := hown1.form Tile.ints_length
            subst hvv
            clear hv3 hv4 hown hown1 hT hT1
            obtain ⟨B7, d7, m7, w7, hrun, HM7, hown7, hb7⟩ := appendT_run Vg.heap.size (.slice B0 L.length d0') L x w1 HOW1.out (by omega) hsz1
            have hv7 := HV4.out.below hb7 hzVg
            have f0 := hv7.c0
            have f1 := hv7.c1
            have f2 := hv7.c2
            have fz := hv7.fz
            have flt := hv7.lt
            have HV7 := Lib.hid hv7
            have HOW7 := Lib.hid hown7
            have HB7 := Lib.hid hb7
            have HRUN := Lib.hid hrun
            clear hv7 hown7 hb7 hrun
            go_wp2_with fail
            go_region_law (refine step_append_runK rfl (.tmp 68) (.tmp 74) 24 rfl _ _ rfl rfl HRUN.out ?_)
            all_goals
              go_wp2
              go_roundw
              case rel => exact ⟨k + 1, _, by omega, by go_num, below_set (HT1.out.trans (HB7.out.mono (Nat.le_of_lt hzVg))) ⟨g, 2, none⟩ _ (Nat.le_refl g), HV7.out.set2 _, by
                rw [HT.out, List.filter_append, List.filter_cons_of_pos (by simpa using HP.out), List.filter_nil, ← List.append_assoc, ← HL.out]
                exact HOW7.out.touch (Touch.of_set w7 ⟨g, 2, none⟩ _ (Nat.le_refl g) (Nat.lt_succ_self g)) (by omega)⟩
              case measure => simp [intOf]; omega
          · have HP := Lib.hid hp
            have hcall := HBF.out x hp
            have HC := Lib.hid hcall
            clear hp hcall
            go_wp2_with fail
            refine wp_region_grow (by kernel_rfl) (by kernel_rfl) ?_
            repeat (go_big_quiet_step ((first | (go_at_call 66; exact quiet_below (HC.out _)))))
            refine wpQuiet_nil ?_
            intro w1 hb1
            have hv4 := hv3.ext hb1
            have hown1 := hown.ext hb1
            have hT1 := hT.trans (hb1.mono (by omega))
            go_wp2
            go_roundw
            case rel => exact ⟨k + 1, _, by omega, by go_num, hT1, hv4, by
              rw [HT.out, List.filter_append, List.filter_cons_of_neg (by simpa using HP.out), List.filter_nil, List.append_nil, ← HL.out]
              exact hown1⟩
            case measure => simp [intOf]; omega
        · have hkn : n = k := by omega
          subst hkn
          rw [take_all (by rw [← HN.out]; exact Nat.le_refl _)] at hown
          have hrr := HRS.out.below hT (by omega)
          have r0 := hrr.c0
          have r1 := hrr.c1
          have r2 := hrr.c2
          have rz := hrr.fz
          have rlt := hrr.lt
          obtain ⟨B9, d9, hv9, hF9⟩ := hown.form Tile.ints_length
          subst hv9
          have HF9 := Lib.hid hF9
          have hyl : (((xs.filter fun z => decide (TileLt z t)) ++ [t]) ++ xs.filter fun z => decide (TileLt t z)) = insT t xs := by rw [List.append_assoc]; rfl
          rw [hyl] at hv3 hown HF9
          rw [hyl] at q2
          have hq2 := q2
          obtain ⟨m9, hm9⟩ : ∃ m9, m9 = (insT t xs).length := ⟨_, rfl⟩
          rw [← hm9] at q2
          have HM9 := Lib.hid hm9
          clear hown hF9 hyl hm9 hq2 hv3
          go_wp2
          refine bodyPost_ret (v := .agg #[.int .i64 rows, .int .i64 cols, .slice B9 m9 d9]) (by simp [results, Try.results42, go_sem, r0, r1, r2, rlt]) rfl ⟨B9, d9, by rw [HM9.out], ?_, ?_⟩
          · exact (HF9.out.touch (set3_touch wr V1.heap.size _ _ _) (by omega)).mono (by omega) (by simp [setCell_size])
          · exact (set3_touch wr V1.heap.size _ _ _).below hbr (by omega)
end Go.Proofs.Ytjacadkbkkkgfaa
