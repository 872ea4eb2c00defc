/- TouchingZones: the program's side. No condition. -/
import Derived.Test.YtpjapemclbminaaOvS
import Derived.Test.YtpjapemclbminaaZonesOk
import Derived.Test.YtpjapemclbminaaErD
import Derived.Test.YtpjapemclbminaaCut
import Derived.Test.YtpjapemclbminaaAppAt
import Derived.Test.YtpjapemclbminaaAreaA
namespace Go.Proofs.Ytpjapemclbminaa
open Go.RowKit
set_option linter.unusedVariables false
set_option linter.unusedSimpArgs false

theorem infoTwoA : (Try.prog.info? 55).map (fun i => (i.zero, i.size, i.bytes)) = some (some (.agg (Array.replicate 2 (.int .i64 0))), 2, 16) := by kernel_rfl
theorem VarL.kept {w w' : World} {B : Nat} {vs : List Value} {ob : Option Nat} (h : VarL w B vs) (hg : w.grownBy w' ob) (hne : some B ≠ ob) : VarL w' B vs :=
  have hk := hg.block B h.lt hne
  ⟨Nat.lt_of_lt_of_le h.lt hg.size, fun j v hv => (World.cell?_of_block (w := w) (a := ⟨B, j, none⟩) hk).trans (h.cell j v hv), fun j => (World.frozen?_of_block (w := w) (a := ⟨B, j, none⟩) hk).trans (h.fz j)⟩
theorem two_box (w : World) (a b : Int) (e : TypeId) : Fl Two.ints 2 (w.alloc (.cells #[.int .i64 a, .int .i64 b] e)) (some ⟨w.heap.size, 0, none⟩) [(⟨a, b⟩ : Two)] := Fl.box (f := Two.ints) (sz := 2) (e := e) w (⟨a, b⟩ : Two)
theorem tch_bd {zs : List Zone} (h : zs.length ≤ 10) (k : Nat) (hk : k ≤ zs.length) (l : List Zone) (hl : l.length ≤ 10) (z : Zone) : (tchTo zs k ++ rowT z l).length ≤ 1048576 := by
  have h1 := tchTo_len zs k
  have h2 := rowT_len z l
  have h3 : k * zs.length ≤ 10 * 10 := Nat.mul_le_mul (by omega) h
  rw [List.length_append]
  omega
set_option maxHeartbeats 4000000 in
set_option maxRecDepth 100000 in
theorem touching_any (A : Option Addr) (c : Nat) (zs : List Zone) (w : World) (hn : zs.length ≤ 1048576) (hcap : zs.length ≤ c) (hcm : c ≤ 9223372036854775807) (hA : Fl Zone.ints 5 w A zs) :
    Calls Try.prog 29 #[.slice A zs.length c] w (RetL Two.ints 2 w (sel (Zons zs) (tchTo zs zs.length)) (tb (Zons zs))) := by
  obtain ⟨i0, hi, hy0, hy1, hy2⟩ := info_parts infoTwoA
  have hare := areZones_any A c zs w (by omega) hA
  by_cases hZ : Zons zs
  · have hn10 := hZ.2
    rw [tb_t hZ] at hare
    rw [sel_t hZ, tb_t hZ]
    have HZB := Lib.hid hZ.zb
    have HTB := Lib.hid (fun k hk l hl z => tch_bd (zs := zs) hn10 k hk l hl z)
    have HDL := Lib.hid (fun k => List.length_drop (l := zs) (i := k))
    obtain ⟨n, hnn⟩ : ∃ n, n = List.length zs := ⟨_, rfl⟩
    rw [← hnn] at hn hcap hn10 hare HTB HDL ⊢
    have hN := Lib.hid hnn
    have HA := Lib.hid hare
    clear hnn hare hZ
    go_enter Try.func29, Try.ntmps29
    go_wp2_with fail
    ((with_reducible refine (HA.out).mono ?_); rintro e w1 ⟨rfl, hb1⟩)
    have hA1 := hA.ext hb1
    go_wp2
    go_loopw [4, 14] (fun v i wr => ∃ k : Nat, k ≤ n ∧ i = .int .i64 k ∧ Below w.heap.size w wr ∧ OwnF Two.ints 2 w.heap.size 55 wr v (tchTo zs k)) (fun _ i _ => n - (intOf i).toNat)
    case atStart => exact ⟨0, by omega, rfl, hb1, OwnF.none_⟩
    case round =>
      obtain ⟨k, hk, rfl, hbr, hown⟩ := hrel
      by_cases hlt : k < n
      · obtain ⟨z, b, o, hx, hAe, hbb, hc⟩ := (hA.ext hbr).at_ (k := k) (by rw [← hN.out]; exact hlt)
        subst hAe
        have c0 : World.cell? wr ⟨b, o + k * 5, none⟩ = some (.int .i64 z.id) := hc 0 _ rfl
        have c1 : World.cell? wr ⟨b, o + k * 5 + 1, none⟩ = some (.int .i64 z.west) := hc 1 _ rfl
        have c2 : World.cell? wr ⟨b, o + k * 5 + 2, none⟩ = some (.int .i64 z.south) := hc 2 _ rfl
        have c3 : World.cell? wr ⟨b, o + k * 5 + 3, none⟩ = some (.int .i64 z.east) := hc 3 _ rfl
        have c4 : World.cell? wr ⟨b, o + k * 5 + 4, none⟩ = some (.int .i64 z.north) := hc 4 _ rfl
        have HST := Lib.hid (tchTo_step hx)
        have hZz := HZB.out z (List.mem_of_getElem? hx)
        obtain ⟨wo, hwo⟩ : ∃ z, z = wr := ⟨_, rfl⟩
        subst hwo
        obtain ⟨W0, hW0, hX0, hzx, _, _⟩ := box_world wo #[Value.int .i64 z.id, .int .i64 z.west, .int .i64 z.south, .int .i64 z.east, .int .i64 z.north] 35
        have hV : VarL W0 wo.heap.size [Value.int .i64 z.id, .int .i64 z.west, .int .i64 z.south, .int .i64 z.east, .int .i64 z.north] := hW0 ▸ VarL.box wo _ _
        have hne := hown.ne_new (Nat.le_refl _)
        have hbW := ext_trans hbr hX0
        have HO0 := Lib.hid (hown.ext hX0)
        have HNE := Lib.hid hne
        have HV := Lib.hid hV
        have HBW := Lib.hid hbW
        have hzo : w.heap.size ≤ wo.heap.size := hbr.size
        clear hc hx hown hne hV hbW
        have hk0 : (0 : Int) ≤ (k : Int) := by omega
        have hk1 : (k : Int) < (n : Int) := by omega
        have hk2 : (k : Int) + 1 ≤ (n : Int) := by omega
        have hk3 : (0 : Int) ≤ (k : Int) + 1 := by omega
        have hc2 : (n : Int) ≤ (c : Int) := by omega
        obtain ⟨ds, hds⟩ : ∃ q, q = zs.drop (k + 1) := ⟨_, rfl⟩
        have hdl : ds.length = n - (k + 1) := by rw [hds]; exact HDL.out _
        have HDR := Lib.hid (show ∀ W : World, Fl Zone.ints 5 W (some ⟨b, o, none⟩) zs → Fl Zone.ints 5 W (some ⟨b, o + (k + 1) * 5, none⟩) ds from fun W h => hds ▸ h.dropC (k + 1))
        have HDZ := Lib.hid (show ∀ y ∈ ds, ZB y from fun y hy => HZB.out y (List.mem_of_mem_drop (hds ▸ hy)))
        rw [← hds] at HST
        have HLD := Lib.hid hdl
        clear hds hdl
        have hwr : IntKind.i64.wrap ((k : Int) + 1) = (k : Int) + 1 := IntWalk.i64_in _ (by omega)
        have hk6 : (k : Int) + 1 ≤ (c : Int) := by omega
        by_cases hck : c = k + 1
        · have hnk : n = k + 1 := by omega
          subst hck
          subst hnk
          have hd0 : ds = [] := List.length_eq_zero_iff.1 (by rw [HLD.out]; omega)
          rw [hd0] at HST
          clear hd0
          go_wp2
          refine wp_loop_rounds 1 ?_
          rw [rounds_succ]
          go_wp2
          go_roundw
          case rel => exact ⟨k + 1, by omega, by go_num, HBW.out, by rw [HST.out]; simpa [rowT] using HO0.out⟩
          case measure => simp [intOf]
        · skip
          go_wp2
          go_loopw [4, 24] (fun v i wr => ∃ j : Nat, j ≤ n - (k + 1) ∧ i = .int .i64 j ∧ Below w.heap.size w wr ∧ OwnF Two.ints 2 w.heap.size 55 wr v (tchTo zs k ++ rowT z (ds.take j)) ∧ VarL wr wo.heap.size [Value.int .i64 z.id, .int .i64 z.west, .int .i64 z.south, .int .i64 z.east, .int .i64 z.north] ∧ some wo.heap.size ≠ v.ownBlock) (fun _ i _ => n - (intOf i).toNat)
          case atStart => exact ⟨0, by omega, rfl, HBW.out, by rw [List.take_zero]; simpa [rowT] using HO0.out, HV.out, HNE.out⟩
          case round =>
            obtain ⟨j, hj, rfl, hbr2, hown, hV, hne⟩ := hrel
            have v0 := hV.cell 0 _ rfl
            have v1 := hV.cell 1 _ rfl
            have v2 := hV.cell 2 _ rfl
            have v3 := hV.cell 3 _ rfl
            have v4 := hV.cell 4 _ rfl
            have vl := hV.lt
            by_cases hlt2 : j < n - (k + 1)
            · obtain ⟨y, b', o', hy, hAe, hbb', hc'⟩ := (HDR.out _ (hA.ext hbr2)).at_ (k := j) (by rw [HLD.out]; exact hlt2)
              injection hAe with hAe
              injection hAe with e1 e2 _
              subst e1 e2
              have d0 : World.cell? wr ⟨b, o + (k + 1) * 5 + j * 5, none⟩ = some (.int .i64 y.id) := hc' 0 _ rfl
              have d1 : World.cell? wr ⟨b, o + (k + 1) * 5 + j * 5 + 1, none⟩ = some (.int .i64 y.west) := hc' 1 _ rfl
              have d2 : World.cell? wr ⟨b, o + (k + 1) * 5 + j * 5 + 2, none⟩ = some (.int .i64 y.south) := hc' 2 _ rfl
              have d3 : World.cell? wr ⟨b, o + (k + 1) * 5 + j * 5 + 3, none⟩ = some (.int .i64 y.east) := hc' 3 _ rfl
              have d4 : World.cell? wr ⟨b, o + (k + 1) * 5 + j * 5 + 4, none⟩ = some (.int .i64 y.north) := hc' 4 _ rfl
              have hZy := HDZ.out y (List.mem_of_getElem? hy)
              obtain ⟨W1, hW1, hX1, hz1, hg, _⟩ := box_world wr #[Value.int .i64 y.id, .int .i64 y.west, .int .i64 y.south, .int .i64 y.east, .int .i64 y.north] 35
              have hV1 := hV.ext hX1
              have g0 : World.cell? W1 ⟨wr.heap.size, 0, none⟩ = some (.int .i64 y.id) := hg 0
              have g1 : World.cell? W1 ⟨wr.heap.size, 1, none⟩ = some (.int .i64 y.west) := hg 1
              have g2 : World.cell? W1 ⟨wr.heap.size, 2, none⟩ = some (.int .i64 y.south) := hg 2
              have g3 : World.cell? W1 ⟨wr.heap.size, 3, none⟩ = some (.int .i64 y.east) := hg 3
              have g4 : World.cell? W1 ⟨wr.heap.size, 4, none⟩ = some (.int .i64 y.north) := hg 4
              have f0 := hV1.cell 0 _ rfl
              have f1 := hV1.cell 1 _ rfl
              have f2 := hV1.cell 2 _ rfl
              have f3 := hV1.cell 3 _ rfl
              have f4 := hV1.cell 4 _ rfl
              have fl := hV1.lt
              have HO1 := Lib.hid (hown.ext hX1)
              have hbW1 := ext_trans hbr2 hX1
              have hlen : (tchTo zs k ++ rowT z (ds.take j)).length ≤ 1048576 := HTB.out k hk _ (by rw [List.length_take]; omega) z
              have hj0 : (0 : Int) ≤ (j : Int) := by omega
              have hj1 : (j : Int) < (n : Int) - ((k : Int) + 1) := by omega
              have HAD := Lib.hid (fun W => adjoin_any z y W hZz hZy)
              have HNE2 := Lib.hid hne
              have HBW1 := Lib.hid hbW1
              clear hg hc' hown hV hne hbW1
              by_cases ht : Tch z y
              · have HRT := Lib.hid (rowT_t hy ht)
                go_wp2_with fail
                ((with_reducible refine (HAD.out _).mono ?_); rintro e w2 ⟨rfl, hb2⟩)
                rw [tb_t ht]
                clear hy ht v0 v1 v2 v3 v4
                have k0 := (hb2.cell (p := ⟨wo.heap.size, 0, none⟩) fl).trans f0
                have m0 := (hb2.cell (p := ⟨wr.heap.size, 0, none⟩) hz1).trans g0
                have HO2 := Lib.hid (HO1.out.ext hb2)
                have HV2 := Lib.hid (hV1.ext hb2)
                have HB2 := Lib.hid (ext_trans HBW1.out hb2)
                have fl2 := HV2.out.lt
                have hz2 : w.heap.size ≤ w2.heap.size := HB2.out.size
                have hz3 : wr.heap.size < w2.heap.size := Nat.lt_of_lt_of_le hz1 hb2.size
                clear f0 f1 f2 f3 f4 g0 g1 g2 g3 g4 hV1
                go_wp2_with (at_builtin; refine wpList_append_all_at (f := Two.ints) rfl _ _ _ rfl w.heap.size i0 _ 2 16 Try.underlying51 hi hy0 hy1 hy2 rfl (by decide) _ _ rfl (HO2.out.ext (ext_alloc _ _)) _ 1 [⟨z.id, y.id⟩] rfl (two_box _ _ _ _) (fun _ => rfl) ?_ (by decide) ?_ ?_; (simp only [List.length_cons, List.length_nil]; omega); (simp; omega); intro v' w6 hown6 hg6 hb6 hat6)
                go_roundw
                case rel =>
                  refine ⟨j + 1, by omega, by go_num, (ext_trans HB2.out (ext_alloc _ _)).trans hb6, by rw [HRT.out, ← List.append_assoc]; exact hown6, (HV2.out.ext (ext_alloc _ _)).kept hg6 HNE2.out, ?_⟩
                  rcases hat6 with h | h
                  · rw [h]; exact HNE2.out
                  · rw [h]; intro e; injection e with e; simp at e; omega
                case measure => simp [intOf]; omega
              · have HRT := Lib.hid (rowT_f hy ht)
                go_wp2_with fail
                ((with_reducible refine (HAD.out _).mono ?_); rintro e w2 ⟨rfl, hb2⟩)
                rw [tb_f ht]
                clear hy ht
                go_wp2
                go_roundw
                case rel => exact ⟨j + 1, by omega, by go_num, ext_trans HBW1.out hb2, by rw [HRT.out]; exact HO1.out.ext hb2, hV1.ext hb2, HNE2.out⟩
                case measure => simp [intOf]; omega
            · have hjn : j = n - (k + 1) := by omega
              subst hjn
              rw [take_all (by rw [HLD.out]; exact Nat.le_refl _)] at hown
              go_wp2
              go_roundw
              case rel => exact ⟨k + 1, by omega, by go_num, hbr2, by rw [HST.out]; exact hown⟩
              case measure => simp [intOf]; omega
      · have hkn : k = n := by omega
        subst hkn
        go_wp2
        go_ret2
        obtain ⟨B, d, hv, hF⟩ := hown.form Two.ints_length
        exact ⟨B, d, by rw [hv]; rfl, hF, hbr⟩
  · rw [tb_f hZ] at hare
    rw [sel_f hZ, tb_f hZ]
    generalize zs.length = n at *
    have HA := Lib.hid hare
    clear hare
    go_enter Try.func29, Try.ntmps29
    go_wp2_with fail
    ((with_reducible refine (HA.out).mono ?_); rintro e w1 ⟨rfl, hb1⟩)
    go_wp2
    go_ret2
    exact ⟨none, 0, rfl, FlO.nil, hb1⟩
end Go.Proofs.Ytpjapemclbminaa
