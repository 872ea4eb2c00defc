/- TouchingZones: the reference's side. No condition. -/
import Derived.Test.YtpjapemclbminaaTchI
namespace Go.Proofs.Ytpjapemclbminaa
open Go.RowKit
set_option linter.unusedVariables false
set_option linter.unusedSimpArgs false

set_option maxHeartbeats 4000000 in
set_option maxRecDepth 100000 in
theorem specTouching_any (A : Option Addr) (c : Nat) (zs : List Zone) (w : World) (hn : zs.length ≤ 1048576) (hA : Fl Zone.ints 5 w A zs) :
    Calls Try.prog 30 #[.slice A zs.length c] w (RetL Two.ints 2 w (sel (Zons zs) (tchTo zs zs.length)) (tb (Zons zs))) := by
  obtain ⟨i0, hi, hy0, hy1, hy2⟩ := info_parts infoTwoA
  obtain ⟨V0, hV0, hB0, hs0, _, _⟩ := box_world w #[] 55
  have hO0 : OwnF Two.ints 2 w.heap.size 55 V0 (.slice (some ⟨w.heap.size, 0, none⟩) 0 0) [] := hV0 ▸ OwnF.empty (Nat.le_refl _)
  have hare := l6Zones_any A c zs V0 (by omega) (hA.ext hB0)
  by_cases hZ : Zons zs
  · have hn10 := hZ.2
    rw [tb_t hZ] at hare
    rw [sel_t hZ, tb_t hZ]
    have HZB := Lib.hid hZ.zb
    have HTB := Lib.hid (fun k hk l hl z => tch_bd (zs := zs) hn10 k hk l hl z)
    have HDL := Lib.hid (fun k => List.length_drop (l := zs) (i := k))
    obtain ⟨n, hnn⟩ : ∃ n, n = List.length zs := ⟨_, rfl⟩
    rw [← hnn] at hn hn10 hare HTB HDL ⊢
    have hN := Lib.hid hnn
    have HA := Lib.hid hare
    clear hnn hare hZ
    go_enter Try.func30, Try.ntmps30
    go_wp2_with fail
    ((with_reducible refine (HA.out).mono ?_); rintro e w1 ⟨rfl, hb1⟩)
    have hb01 := ext_trans hB0 hb1
    have HOO := Lib.hid (hO0.ext hb1)
    clear hV0 hO0 hs0
    go_wp2
    go_loopw [4, 5] (fun v i wr => ∃ k : Nat, k ≤ n ∧ i = .int .i64 k ∧ Below w.heap.size w wr ∧ OwnF Two.ints 2 w.heap.size 55 wr v (tchTo zs k)) (fun _ i _ => n - (intOf i).toNat)
    case atStart => exact ⟨0, by omega, rfl, hb01, HOO.out⟩
    case round =>
      obtain ⟨k, hk, rfl, hbr, hown⟩ := hrel
      by_cases hlt : k < n
      · obtain ⟨z, b, o, hx, hAe, hbb, hc⟩ := hA.at_ (k := k) (by rw [← hN.out]; exact hlt)
        subst hAe
        have c0 : World.cell? w ⟨b, o + k * 5, none⟩ = some (.int .i64 z.id) := hc 0 _ rfl
        have c1 : World.cell? w ⟨b, o + k * 5 + 1, none⟩ = some (.int .i64 z.west) := hc 1 _ rfl
        have c2 : World.cell? w ⟨b, o + k * 5 + 2, none⟩ = some (.int .i64 z.south) := hc 2 _ rfl
        have c3 : World.cell? w ⟨b, o + k * 5 + 3, none⟩ = some (.int .i64 z.east) := hc 3 _ rfl
        have c4 : World.cell? w ⟨b, o + k * 5 + 4, none⟩ = some (.int .i64 z.north) := hc 4 _ rfl
        have HST := Lib.hid (tchTo_step hx)
        have hZz := HZB.out z (List.mem_of_getElem? hx)
        have HO0 := Lib.hid hown
        have HBR := Lib.hid hbr
        clear hc hx hown
        have hk0 : (0 : Int) ≤ (k : Int) := by omega
        have hk1 : (k : Int) < (n : Int) := by omega
        have hk2 : (k : Int) + 1 ≤ (n : Int) := by omega
        have hwr : IntKind.i64.wrap ((k : Int) + 1) = (k : Int) + 1 := IntWalk.i64_in _ (by omega)
        obtain ⟨ds, hds⟩ : ∃ q, q = zs.drop (k + 1) := ⟨_, rfl⟩
        have hdl : ds.length = n - (k + 1) := by rw [hds]; exact HDL.out _
        have HDG := Lib.hid (show ∀ (j : Nat) (y : Zone), zs[k + 1 + j]? = some y → ds[j]? = some y from fun j y h => by rw [hds, List.getElem?_drop]; exact h)
        rw [← hds] at HST
        have HLD := Lib.hid hdl
        clear hds hdl
        go_wp2
        go_loopw [4, 6] (fun out i wr => ∃ (v : Value) (j : Nat), v = out ∧ j ≤ n - (k + 1) ∧ i = .int .i64 ((k : Int) + 1 + j) ∧ Below w.heap.size w wr ∧ OwnF Two.ints 2 w.heap.size 55 wr v (tchTo zs k ++ rowT z (ds.take j))) (fun _ i _ => n - (intOf i).toNat)
        case atStart => exact ⟨_, 0, rfl, by omega, by go_num, HBR.out, by rw [List.take_zero]; simpa [rowT] using HO0.out⟩
        case round =>
          obtain ⟨v, j, rfl, hj, rfl, hbr2, hown⟩ := hrel
          by_cases hlt2 : j < n - (k + 1)
          · obtain ⟨q, hq⟩ : ∃ q : Nat, q = k + 1 + j := ⟨_, rfl⟩
            have hqi : (k : Int) + 1 + (j : Int) = (q : Int) := by omega
            rw [hqi]
            have hqn : q < n := by omega
            obtain ⟨y, b', o', hy, hAe, hbb', hc'⟩ := hA.at_ (k := q) (by rw [← hN.out]; exact hqn)
            injection hAe with hAe
            injection hAe with e1 e2 _
            subst e1 e2
            have d0 : World.cell? w ⟨b, o + q * 5, none⟩ = some (.int .i64 y.id) := hc' 0 _ rfl
            have d1 : World.cell? w ⟨b, o + q * 5 + 1, none⟩ = some (.int .i64 y.west) := hc' 1 _ rfl
            have d2 : World.cell? w ⟨b, o + q * 5 + 2, none⟩ = some (.int .i64 y.south) := hc' 2 _ rfl
            have d3 : World.cell? w ⟨b, o + q * 5 + 3, none⟩ = some (.int .i64 y.east) := hc' 3 _ rfl
            have d4 : World.cell? w ⟨b, o + q * 5 + 4, none⟩ = some (.int .i64 y.north) := hc' 4 _ rfl
            have hZy := HZB.out y (List.mem_of_getElem? hy)
            have hdy := HDG.out j y (hq ▸ hy)
            have HLT := Lib.hid (fun W => l6Touch_any z y W hZz hZy)
            have hlen : (tchTo zs k ++ rowT z (ds.take j)).length ≤ 1048576 := HTB.out k hk _ (by rw [List.length_take]; omega) z
            have hq0 : (0 : Int) ≤ (q : Int) := by omega
            have hq1 : (q : Int) < (n : Int) := by omega
            have HQ := Lib.hid hq
            have HC := Lib.hid (show ∀ W : World, Below w.heap.size w W → ∀ p : Nat, W.cell? ⟨b, p, none⟩ = w.cell? ⟨b, p, none⟩ from fun W h p => h.cell (p := ⟨b, p, none⟩) hbb)
            have g0 := (HC.out wr hbr2 _).trans c0
            have g1 := (HC.out wr hbr2 _).trans c1
            have g2 := (HC.out wr hbr2 _).trans c2
            have g3 := (HC.out wr hbr2 _).trans c3
            have g4 := (HC.out wr hbr2 _).trans c4
            have r0 := (HC.out wr hbr2 _).trans d0
            have r1 := (HC.out wr hbr2 _).trans d1
            have r2 := (HC.out wr hbr2 _).trans d2
            have r3 := (HC.out wr hbr2 _).trans d3
            have r4 := (HC.out wr hbr2 _).trans d4
            have hbw : b < wr.heap.size := Nat.lt_of_lt_of_le hbb hbr2.size
            have hpc := plus_cell wr
            have HO1 := Lib.hid hown
            have HB1 := Lib.hid hbr2
            clear hc' hy hq hqi hown hbr2
            by_cases ht : Tch z y
            · have HRT := Lib.hid (rowT_t hdy ht)
              have HLT1 := Lib.hid (show ∀ W : World, Calls Try.prog 60 #[.agg #[.int .i64 z.id, .int .i64 z.west, .int .i64 z.south, .int .i64 z.east, .int .i64 z.north], .agg #[.int .i64 y.id, .int .i64 y.west, .int .i64 y.south, .int .i64 y.east, .int .i64 y.north]] W fun e w' => e = .returned (.bool true) ∧ Below W.heap.size W w' from fun W => by have h := HLT.out W; rwa [tb_t ht] at h)
              clear ht hdy
              go_wp2_with fail
              refine wp_region_grow (by kernel_rfl) (by kernel_rfl) ?_
              repeat (go_big_quiet_step ((first | (go_at_call 60; exact quiet_below (HLT1.out _)))))
              refine wpQuiet_nil ?_
              intro w1 hb1
              obtain ⟨w2, hw2⟩ : ∃ z, z = w1 := ⟨_, rfl⟩
              subst hw2
              have HO2 := Lib.hid (HO1.out.ext hb1)
              have HB2 := Lib.hid (ext_trans HB1.out hb1)
              have hz2 : w.heap.size ≤ w2.heap.size := HB2.out.size
              clear g0 g1 g2 g3 g4 r0 r1 r2 r3 r4 hpc
              go_wp2_with fail
              go_region_held3 (fun w' => Below (World.heap w).size w w' ∧ ∀ b o, b < (World.heap w).size → w'.cell? ⟨b, o, none⟩ = World.cell? w ⟨b, o, none⟩) (first | exact cls_of (ext_drew _) | with_reducible exact cls_of HB2.out.drew | with_reducible exact cls_of (ext_trans HB2.out (ext_alloc _ _)).drew | with_reducible exact cls_of hx6) ((first | (refine step_append_all (f := Two.ints) rfl (.tmp 35) (.tmp 47) 51 rfl w.heap.size i0 _ 2 16 Try.underlying51 hi hy0 hy1 hy2 rfl (by decide) v (tchTo zs k ++ rowT z (ds.take j)) rfl ?_ (some _) 1 [⟨z.id, y.id⟩] rfl ?_ (fun _ => rfl) ?_ (by decide) ?_ ?_; (exact (HO2.out.ext (ext_alloc _ _)).ext (ext_drew _)); (exact (two_box _ _ _ _).ext (ext_drew _)); (simp only [List.length_cons, List.length_nil]; omega); (simp; omega); intro v6 w6 hown6 hg6 hb6; have hx6 := ((ext_trans HB2.out (ext_alloc _ _)).drew).trans hb6)))
              all_goals
                go_wp2
                go_roundw
                case rel => exact ⟨_, j + 1, rfl, by omega, by have := HQ.out; go_num, hx6, by rw [HRT.out, ← List.append_assoc]; exact hown6⟩
                case measure => simp [intOf]; omega
            · have HRT := Lib.hid (rowT_f hdy ht)
              have HLT1 := Lib.hid (show ∀ W : World, Calls Try.prog 60 #[.agg #[.int .i64 z.id, .int .i64 z.west, .int .i64 z.south, .int .i64 z.east, .int .i64 z.north], .agg #[.int .i64 y.id, .int .i64 y.west, .int .i64 y.south, .int .i64 y.east, .int .i64 y.north]] W fun e w' => e = .returned (.bool false) ∧ Below W.heap.size W w' from fun W => by have h := HLT.out W; rwa [tb_f ht] at h)
              clear ht hdy
              go_wp2_with fail
              refine wp_region_grow (by kernel_rfl) (by kernel_rfl) ?_
              repeat (go_big_quiet_step ((first | (go_at_call 60; exact quiet_below (HLT1.out _)))))
              refine wpQuiet_nil ?_
              intro w1 hb1
              go_wp2
              go_roundw
              case rel => exact ⟨_, j + 1, rfl, by omega, by have := HQ.out; go_num, ext_trans HB1.out hb1, by rw [HRT.out]; exact HO1.out.ext hb1⟩
              case measure => simp [intOf]; omega
          · have hjn : j = n - (k + 1) := by omega
            have hqi : (k : Int) + 1 + (j : Int) = (n : Int) := by omega
            rw [hqi]
            rw [take_all (by rw [HLD.out]; omega)] at hown
            clear hqi
            go_wp2
            go_roundw
            case rel => exact ⟨k + 1, by omega, by go_num, hbr2, by rw [HST.out]; exact hown⟩
            case measure => simp [intOf]; omega
      · have hkn : k = n := by omega
        subst hkn
        go_wp2
        go_ret2
        obtain ⟨B, d, hv, hF⟩ := hown.form Two.ints_length
        exact ⟨B, d, by rw [hv]; rfl, hF, hbr⟩
  · rw [tb_f hZ] at hare
    rw [sel_f hZ, tb_f hZ]
    generalize zs.length = n at *
    have HA := Lib.hid hare
    clear hare
    go_enter Try.func30, Try.ntmps30
    go_wp2_with fail
    ((with_reducible refine (HA.out).mono ?_); rintro e w1 ⟨rfl, hb1⟩)
    go_wp2
    go_ret2
    exact ⟨some ⟨w.heap.size, 0, none⟩, 0, rfl, FlO.nil, ext_trans hB0 hb1⟩
end Go.Proofs.Ytpjapemclbminaa
