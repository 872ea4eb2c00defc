/- A stretched route: the program's side. A stretched route: the reference's side. No condition. -/
import Derived.Test.YtlagfeccdcjimaaDoorWlkI
import Derived.Test.YtlagfeccdcjimaaDoorWithin
import Derived.Test.YtlagfeccdcjimaaDoorErD
import Derived.Test.YtlagfeccdcjimaaDoorBase2
import Derived.IntWalk
import Derived.Deep.DeepCutAuto
import Derived.Deep.RegionHeld3
namespace Go.Proofs.YtlagfeccdcjimaaDoor
open Go.RowKit
set_option linter.unusedVariables false
set_option linter.unusedSimpArgs false

def stU (num den : Int) (x : Leg) : Leg := ⟨x.way, x.units * num / den, x.climb⟩
def StOk (xs : List Leg) (num den : Int) : Prop := (Rt xs ∧ (1 ≤ num ∧ num ≤ 100) ∧ (1 ≤ den ∧ den ≤ 100)) ∧ (∀ x ∈ xs, x.units * num % den = 0) ∧ Rt (xs.map (stU num den))
theorem leg_box (w : World) (a b c : Int) (e : TypeId) : Fl Leg.ints 3 (w.alloc (.cells #[.int .i64 a, .int .i64 b, .int .i64 c] e)) (some ⟨w.heap.size, 0, none⟩) [(⟨a, b, c⟩ : Leg)] := Fl.box (f := Leg.ints) (sz := 3) (e := e) w (⟨a, b, c⟩ : Leg)
theorem st_walk {x : Leg} {num den : Int} (h : x.units * num % den = 0) : walkL (stU num den x) * den = walkL x * num := by
  have hd : x.units * num / den * den = x.units * num := Int.ediv_mul_cancel (Int.dvd_of_emod_eq_zero h)
  unfold walkL stU
  simp only
  split
  · rw [Int.mul_assoc, hd, Int.mul_assoc]
  · rw [Int.mul_assoc, hd, Int.mul_assoc]
theorem st_sum {num den : Int} : ∀ (xs : List Leg), (∀ x ∈ xs, x.units * num % den = 0) → wkS (xs.map (stU num den)) * den = wkS xs * num
  | [], _ => by simp [wkS]
  | x :: r, h => by
    rw [List.map_cons, wkS, wkS, Int.add_mul, Int.add_mul, st_walk (h x List.mem_cons_self), st_sum r fun y hy => h y (List.mem_cons_of_mem _ hy)]
theorem st_bd {u num den : Int} (h0 : 1 ≤ u ∧ u ≤ 999) (h1 : 1 ≤ num ∧ num ≤ 100) (h2 : 1 ≤ den ∧ den ≤ 100) : (0 ≤ u * num ∧ u * num ≤ 99900) ∧ (0 ≤ u * num / den ∧ u * num / den ≤ 99900) := by
  have a : 0 ≤ u * num := Int.mul_nonneg (by omega) (by omega)
  have b : u * num ≤ 999 * 100 := Int.mul_le_mul h0.2 h1.2 (by omega) (by decide)
  have c : 0 ≤ u * num / den := Int.ediv_nonneg a (by omega)
  have d : u * num / den ≤ u * num := Int.ediv_le_self _ a
  omega
set_option maxHeartbeats 4000000 in
set_option maxRecDepth 100000 in
theorem stretch_any (A : Option Addr) (c : Nat) (xs : List Leg) (num den : Int) (w : World) (hn : xs.length ≤ 1048576) (hA : Fl Leg.ints 3 w A xs) :
    Calls Tryd.prog 11 #[.slice A xs.length c, .int .i64 num, .int .i64 den] w (RetL Leg.ints 3 w (sel (StOk xs num den) (xs.map (stU num den))) (tb (StOk xs num den))) := by
  obtain ⟨i0, hi, hy0, hy1, hy2⟩ := info_parts infoLeg
  have hare := isRoute_any A c xs w hn hA
  obtain ⟨n, hnn⟩ : ∃ n, n = List.length xs := ⟨_, rfl⟩
  rw [← hnn] at hare hn ⊢
  have hN := Lib.hid hnn
  have HA := Lib.hid hare
  clear hnn hare
  go_enter Tryd.func11, Tryd.ntmps11
  go_wp2_with fail
  refine (HA.out).mono ?_
  rintro e w1 ⟨rfl, hb1⟩
  by_cases h1 : Rt xs
  · rw [tb_t h1]
    have H1 := Lib.hid h1
    clear h1
    by_cases h2 : 1 ≤ num ∧ num ≤ 100
    · go_wp2_with fail
      refine (within_t num 1 100 _ h2).mono ?_
      rintro e w9 ⟨rfl, rfl⟩
      by_cases h3 : 1 ≤ den ∧ den ≤ 100
      · go_wp2_with fail
        refine (within_t den 1 100 _ h3).mono ?_
        rintro e w9 ⟨rfl, rfl⟩
        have HO : Hid (Rt xs ∧ (1 ≤ num ∧ num ≤ 100) ∧ (1 ≤ den ∧ den ≤ 100)) := ⟨H1.out, h2, h3⟩
        have hn12 : n ≤ 12 := by have := HO.out.1.2; rw [← hN.out] at this; exact this
        have hnu := HO.out.2.1
        have hde := HO.out.2.2
        have HL := Lib.hid (rt_legs HO.out.1)
        go_wp2
        go_loopw [8, 26] (fun v i wr => ∃ k : Nat, k ≤ n ∧ i = .int .i64 k ∧ Below w.heap.size w wr ∧ OwnF Leg.ints 3 w.heap.size 52 wr v ((xs.take k).map (stU num den)) ∧ Hid (∀ x ∈ xs.take k, x.units * num % den = 0)) (fun _ i _ => n - (intOf i).toNat)
        case atStart => exact ⟨0, by omega, rfl, hb1, OwnF.none_, fun x hx => by simp at hx⟩
        case round =>
          obtain ⟨k, hk, rfl, hbr, hown, hall⟩ := hrel
          have hml : ((xs.take k).map (stU num den)).length = k := by rw [List.length_map, List.length_take, ← hN.out]; omega
          by_cases hlt : k < n
          · obtain ⟨x, b, o, hx, hAe, hbb, hc⟩ := (hA.ext hbr).at_ (k := k) (by rw [← hN.out]; exact hlt)
            subst hAe
            have c0 : World.cell? wr ⟨b, o + k * 3, none⟩ = some (.int .i64 x.way) := hc 0 _ rfl
            have c1 : World.cell? wr ⟨b, o + k * 3 + 1, none⟩ = some (.int .i64 x.units) := hc 1 _ rfl
            have c2 : World.cell? wr ⟨b, o + k * 3 + 2, none⟩ = some (.int .i64 x.climb) := hc 2 _ rfl
            have h := HL.out x (List.mem_of_getElem? hx)
            have HT := Lib.hid (take_get hx)
            have HXM := Lib.hid (List.mem_of_getElem? hx)
            unfold IsLeg at h
            have hbd := st_bd (u := x.units) (by omega) hnu hde
            obtain ⟨P, hP⟩ : ∃ z, z = x.units * num := ⟨_, rfl⟩
            obtain ⟨D, hD⟩ : ∃ z, z = P / den := ⟨_, rfl⟩
            rw [← hP, ← hD] at hbd
            obtain ⟨⟨p0, p1⟩, ⟨d0, d1⟩⟩ := hbd
            have w1 : IntKind.i64.wrap (x.units * num) = P := by rw [← hP]; exact IntWalk.i64_in _ (by omega)
            have w2 : P.tdiv den = D := by rw [hD]; exact Int.tdiv_eq_ediv_of_nonneg p0
            have w3 : P / den = D := hD.symm
            have w4 : IntKind.i64.wrap D = D := IntWalk.i64_in _ (by omega)
            obtain ⟨R, hR⟩ : ∃ z, z = P % den := ⟨_, rfl⟩
            have w5 : P.tmod den = R := by rw [hR]; exact Int.tmod_eq_emod_of_nonneg p0
            have w6 : P % den = R := hR.symm
            have hdz : ¬ den = 0 := by omega
            have hd0 : 0 < den := by omega
            have HU := Lib.hid (show stU num den x = ⟨x.way, D, x.climb⟩ from by rw [hD, hP]; rfl)
            have HR := Lib.hid (show x.units * num % den = R from by rw [hR, hP])
            obtain ⟨W0, hW0, hBW, hzd, hg, hgf⟩ := box_world wr #[Value.int .i64 x.way, .int .i64 x.units, .int .i64 x.climb] 52
            have hvl : VarL W0 wr.heap.size [Value.int .i64 x.way, Value.int .i64 x.units, Value.int .i64 x.climb] := hW0 ▸ VarL.box wr _ _
            have g0 := hvl.cell 0 _ rfl
            have g1 := hvl.cell 1 _ rfl
            have g2 := hvl.cell 2 _ rfl
            have gz := hvl.fz 1
            have gl := hvl.lt
            obtain ⟨W2, hW2⟩ : ∃ z, z = W0.setCell ⟨wr.heap.size, 1, none⟩ (.int .i64 D) := ⟨_, rfl⟩
            have hT : Touch wr.heap.size (wr.heap.size + 1) W0 W2 := hW2 ▸ Touch.of_set W0 ⟨wr.heap.size, 1, none⟩ _ (Nat.le_refl _) (Nat.lt_succ_self _)
            have hv2 : VarL W2 wr.heap.size [Value.int .i64 x.way, Value.int .i64 D, Value.int .i64 x.climb] := hW2 ▸ hvl.set 1 (.int .i64 D) (by simp)
            have HV2 := Lib.hid hv2
            have hbw2 : Below wr.heap.size wr W2 := hT.below hBW (Nat.le_refl _)
            have ho2 := hown.ext hbw2
            have hb2 := ext_trans hbr hbw2
            clear hg hgf hvl hv2
            clear hc hx hP hD hR h
            have hk0 : (0 : Int) ≤ (k : Int) := by omega
            have hk1 : (k : Int) < (n : Int) := by omega
            by_cases hr : R = 0
            · have hre : (R != 0) = false := by simp [hr]
              have HZ := Lib.hid (show ∀ y ∈ xs.take (k + 1), y.units * num % den = 0 from by
                rw [HT.out]; intro y hy
                rcases List.mem_append.1 hy with q | q
                · exact hall.out y q
                · rw [List.mem_singleton.1 q, HR.out, hr])
              clear hr
              go_upto_region 10 with fail
              rw [← hW2]
              clear hW2 g0 g1 g2 gz gl hW0
              have q0 := HV2.out.cell 0 _ rfl
              have q1 := HV2.out.cell 1 _ rfl
              have q2 := HV2.out.cell 2 _ rfl
              have ql := HV2.out.lt
              go_wp2_with (at_builtin; refine wpList_append_flat (f := Leg.ints) (y := ⟨x.way, D, x.climb⟩) rfl _ _ _ rfl w.heap.size i0 _ 3 24 Tryd.underlying26 hi hy0 hy1 hy2 rfl (by decide) _ _ rfl rfl ho2 rfl ?_ (by decide) ?_ ?_; omega; exact hb2.size; intro v3 w3 hown3 hg3 hb3)
              go_roundw
              case rel => exact ⟨k + 1, by omega, by go_num, hb2.trans hb3, by rw [HT.out, List.map_append, List.map_cons, List.map_nil, HU.out]; exact hown3, HZ⟩
              case measure => simp [intOf]; omega
            · have hre : (R != 0) = true := by simp [hr]
              have hok2 : ¬ StOk xs num den := fun q => hr (by rw [← HR.out]; exact q.2.1 x HXM.out)
              have HK := Lib.hid hok2
              clear hr hok2
              go_wp2
              go_ret2
              rw [sel_f HK.out, tb_f HK.out]
              exact ⟨none, 0, rfl, FlO.nil, (ext_trans hbr hBW)⟩
          · have hkn : k = n := by omega
            subst hkn
            rw [take_all (by rw [← hN.out]; exact Nat.le_refl _)] at hown hall hml
            obtain ⟨ys, hys⟩ : ∃ z, z = xs.map (stU num den) := ⟨_, rfl⟩
            rw [← hys] at hown hml
            obtain ⟨B, d, hv, hF⟩ := hown.form (fun _ => rfl)
            have hare2 := isRoute_any B d ys wr (by omega) hF.fl
            rw [hml] at hv hare2
            subst hv
            have HYS := Lib.hid hys
            have HAR := Lib.hid hare2
            clear hys hare2 hown
            go_wp2_with fail
            ((with_reducible refine (HAR.out).mono ?_); rintro e w5 ⟨rfl, hb5⟩)
            have hx5 := ext_trans hbr hb5
            by_cases hz : Rt ys
            · rw [tb_t hz]
              have hok2 : StOk xs num den := ⟨HO.out, hall.out, HYS.out ▸ hz⟩
              have HK := Lib.hid hok2
              have HML := Lib.hid hml
              clear hz hok2 hml
              go_wp2
              go_ret2
              rw [sel_t HK.out, tb_t HK.out, ← HYS.out]
              exact ⟨B, d, by rw [HML.out]; rfl, (hF.ext hb5).mono (Nat.le_refl _) hb5.size, hx5⟩
            · rw [tb_f hz]
              have hok2 : ¬ StOk xs num den := fun q => hz (HYS.out ▸ q.2.2)
              have HK := Lib.hid hok2
              clear hz hok2
              go_wp2
              go_ret2
              rw [sel_f HK.out, tb_f HK.out]
              exact ⟨none, 0, rfl, FlO.nil, hx5⟩
      · go_wp2_with fail
        refine (within_f den 1 100 _ h3).mono ?_
        rintro e w9 ⟨rfl, rfl⟩
        go_wp2
        go_ret2
        have hok : ¬ (Rt xs ∧ (1 ≤ num ∧ num ≤ 100) ∧ (1 ≤ den ∧ den ≤ 100)) := fun h => h3 h.2.2
        have hok2 : ¬ StOk xs num den := fun h => hok h.1
        rw [sel_f hok2, tb_f hok2]
        exact ⟨none, 0, rfl, FlO.nil, hb1⟩
    · go_wp2_with fail
      refine (within_f num 1 100 _ h2).mono ?_
      rintro e w9 ⟨rfl, rfl⟩
      go_wp2
      go_ret2
      have hok : ¬ (Rt xs ∧ (1 ≤ num ∧ num ≤ 100) ∧ (1 ≤ den ∧ den ≤ 100)) := fun h => h2 h.2.1
      have hok2 : ¬ StOk xs num den := fun h => hok h.1
      rw [sel_f hok2, tb_f hok2]
      exact ⟨none, 0, rfl, FlO.nil, hb1⟩
  · rw [tb_f h1]
    have H1 := Lib.hid h1
    clear h1
    go_wp2
    go_ret2
    have hok : ¬ (Rt xs ∧ (1 ≤ num ∧ num ≤ 100) ∧ (1 ≤ den ∧ den ≤ 100)) := fun h => H1.out h.1
    have hok2 : ¬ StOk xs num den := fun h => hok h.1
    rw [sel_f hok2, tb_f hok2]
    exact ⟨none, 0, rfl, FlO.nil, hb1⟩
end Go.Proofs.YtlagfeccdcjimaaDoor
namespace Go.Proofs.YtlagfeccdcjimaaDoor
open Go.RowKit
set_option linter.unusedVariables false
set_option linter.unusedSimpArgs false

set_option maxHeartbeats 4000000 in
set_option maxRecDepth 100000 in
theorem specStretch_any (A : Option Addr) (c : Nat) (xs : List Leg) (num den : Int) (w : World) (hn : xs.length ≤ 1048576) (hA : Fl Leg.ints 3 w A xs) :
    Calls Tryd.prog 12 #[.slice A xs.length c, .int .i64 num, .int .i64 den] w (RetL Leg.ints 3 w (sel (StOk xs num den) (xs.map (stU num den))) (tb (StOk xs num den))) := by
  obtain ⟨i0, hi, hy0, hy1, hy2⟩ := info_parts infoLeg
  obtain ⟨W0, hW0, hB0, hzw, _, _⟩ := box_world w #[] 52
  have hown0 : OwnF Leg.ints 3 w.heap.size 52 W0 (.slice (some ⟨w.heap.size, 0, none⟩) 0 0) ([] : List Leg) := hW0 ▸ OwnF.empty (Nat.le_refl _)
  have hare := l15Good_any A c xs W0 hn (hA.ext hB0)
  obtain ⟨n, hnn⟩ : ∃ n, n = List.length xs := ⟨_, rfl⟩
  rw [← hnn] at hare hn ⊢
  have hN := Lib.hid hnn
  have HA := Lib.hid hare
  clear hnn hare
  go_enter Tryd.func12, Tryd.ntmps12
  go_wp2_with fail
  refine (HA.out).mono ?_
  rintro e w1 ⟨rfl, hb1⟩
  by_cases h1 : Rt xs
  · rw [tb_t h1]
    have H1 := Lib.hid h1
    clear h1
    by_cases h2 : 1 ≤ num ∧ num ≤ 100
    · go_wp2_with fail
      refine (l1In_t num 1 100 _ h2).mono ?_
      rintro e w9 ⟨rfl, rfl⟩
      by_cases h3 : 1 ≤ den ∧ den ≤ 100
      · go_wp2_with fail
        refine (l1In_t den 1 100 _ h3).mono ?_
        rintro e w9 ⟨rfl, rfl⟩
        have HO : Hid (Rt xs ∧ (1 ≤ num ∧ num ≤ 100) ∧ (1 ≤ den ∧ den ≤ 100)) := ⟨H1.out, h2, h3⟩
        have hn12 : n ≤ 12 := by have := HO.out.1.2; rw [← hN.out] at this; exact this
        have hnu := HO.out.2.1
        have hde := HO.out.2.2
        have HL := Lib.hid (rt_legs HO.out.1)
        go_wp2
        go_loopw [8, 9] (fun v i wr => ∃ k : Nat, k ≤ n ∧ i = .int .i64 k ∧ Below w.heap.size w wr ∧ OwnF Leg.ints 3 w.heap.size 52 wr v ((xs.take k).map (stU num den)) ∧ Hid (∀ x ∈ xs.take k, x.units * num % den = 0)) (fun _ i _ => n - (intOf i).toNat)
        case atStart => exact ⟨0, by omega, rfl, (ext_trans hB0 hb1), hown0.ext hb1, fun x hx => by simp at hx⟩
        case round =>
          obtain ⟨k, hk, rfl, hbr, hown, hall⟩ := hrel
          have hml : ((xs.take k).map (stU num den)).length = k := by rw [List.length_map, List.length_take, ← hN.out]; omega
          by_cases hlt : k < n
          · obtain ⟨x, b, o, hx, hAe, hbb, hc⟩ := hA.at_ (k := k) (by rw [← hN.out]; exact hlt)
            subst hAe
            have c0 : World.cell? w ⟨b, o + k * 3, none⟩ = some (.int .i64 x.way) := hc 0 _ rfl
            have c1 : World.cell? w ⟨b, o + k * 3 + 1, none⟩ = some (.int .i64 x.units) := hc 1 _ rfl
            have c2 : World.cell? w ⟨b, o + k * 3 + 2, none⟩ = some (.int .i64 x.climb) := hc 2 _ rfl
            have h := HL.out x (List.mem_of_getElem? hx)
            have HT := Lib.hid (take_get hx)
            have HXM := Lib.hid (List.mem_of_getElem? hx)
            unfold IsLeg at h
            have hbd := st_bd (u := x.units) (by omega) hnu hde
            obtain ⟨P, hP⟩ : ∃ z, z = x.units * num := ⟨_, rfl⟩
            obtain ⟨D, hD⟩ : ∃ z, z = P / den := ⟨_, rfl⟩
            rw [← hP, ← hD] at hbd
            obtain ⟨⟨p0, p1⟩, ⟨d0, d1⟩⟩ := hbd
            have w1 : IntKind.i64.wrap (x.units * num) = P := by rw [← hP]; exact IntWalk.i64_in _ (by omega)
            have w2 : P.tdiv den = D := by rw [hD]; exact Int.tdiv_eq_ediv_of_nonneg p0
            have w3 : P / den = D := hD.symm
            have w4 : IntKind.i64.wrap D = D := IntWalk.i64_in _ (by omega)
            obtain ⟨R, hR⟩ : ∃ z, z = P % den := ⟨_, rfl⟩
            have w5 : P.tmod den = R := by rw [hR]; exact Int.tmod_eq_emod_of_nonneg p0
            have w6 : P % den = R := hR.symm
            have hdz : ¬ den = 0 := by omega
            have hd0 : 0 < den := by omega
            have HU := Lib.hid (show stU num den x = ⟨x.way, D, x.climb⟩ from by rw [hD, hP]; rfl)
            have HR := Lib.hid (show x.units * num % den = R from by rw [hR, hP])
            have hcl : ∀ (W : World), Below w.heap.size w W → ∀ p : Nat, W.cell? ⟨b, p, none⟩ = w.cell? ⟨b, p, none⟩ := fun W h p => h.cell (p := ⟨b, p, none⟩) hbb
            have r1 := (hcl wr hbr _).trans c1
            have hbwr : b < wr.heap.size := Nat.lt_of_lt_of_le hbb hbr.size
            have HO1 := Lib.hid hown
            have HB1 := Lib.hid hbr
            have hz2 : w.heap.size ≤ wr.heap.size := hbr.size
            clear hcl hown
            clear hc hx hP hD hR h
            have hk0 : (0 : Int) ≤ (k : Int) := by omega
            have hk1 : (k : Int) < (n : Int) := by omega
            by_cases hr : R = 0
            · have hre : (R != 0) = false := by simp [hr]
              have HZ := Lib.hid (show ∀ y ∈ xs.take (k + 1), y.units * num % den = 0 from by
                rw [HT.out]; intro y hy
                rcases List.mem_append.1 hy with q | q
                · exact hall.out y q
                · rw [List.mem_singleton.1 q, HR.out, hr])
              clear hr
              go_wp2_with fail
              clear r1 hbr
              go_region_held3 (fun w' => Below (World.heap w).size w w' ∧ ∀ b o, b < (World.heap w).size → w'.cell? ⟨b, o, none⟩ = World.cell? w ⟨b, o, none⟩) (first | exact cls_of (ext_drew _) | with_reducible exact cls_of HB1.out.drew | with_reducible exact cls_of (ext_trans HB1.out (ext_alloc _ _)).drew | with_reducible exact cls_of hx6) ((first | (refine step_append_all (f := Leg.ints) rfl (.tmp 44) (.tmp 59) 26 rfl w.heap.size i0 _ 3 24 Tryd.underlying26 hi hy0 hy1 hy2 rfl (by decide) u8 ((xs.take k).map (stU num den)) rfl ?_ (some _) 1 [⟨x.way, D, x.climb⟩] rfl ?_ (fun _ => rfl) ?_ (by decide) ?_ ?_; (exact (HO1.out.ext (ext_alloc _ _)).ext (ext_drew _)); (exact (leg_box _ _ _ _ _).ext (ext_drew _)); (simp only [List.length_cons, List.length_nil]; omega); (simp; omega); intro v6 w6 hown3 hg6 hb6; have hx6 := ((ext_trans HB1.out (ext_alloc _ _)).drew).trans hb6)))
              all_goals (go_wp2_with fail)
              go_roundw
              case rel => exact ⟨k + 1, by omega, by go_num, hx6, by rw [HT.out, List.map_append, List.map_cons, List.map_nil, HU.out]; exact hown3, HZ⟩
              case measure => simp [intOf]; omega
            · have hre : (R != 0) = true := by simp [hr]
              have hok2 : ¬ StOk xs num den := fun q => hr (by rw [← HR.out]; exact q.2.1 x HXM.out)
              have HK := Lib.hid hok2
              clear hr hok2
              go_wp2
              go_ret2
              rw [sel_f HK.out, tb_f HK.out]
              exact ⟨_, 0, rfl, FlO.nil, (hbr).trans (below_new (hbr).size _)⟩
          · have hkn : k = n := by omega
            subst hkn
            rw [take_all (by rw [← hN.out]; exact Nat.le_refl _)] at hown hall hml
            obtain ⟨ys, hys⟩ : ∃ z, z = xs.map (stU num den) := ⟨_, rfl⟩
            rw [← hys] at hown hml
            obtain ⟨B, d, hv, hF⟩ := hown.form (fun _ => rfl)
            have hare2 := l15Good_any B d ys wr (by omega) hF.fl
            rw [hml] at hv hare2
            subst hv
            have HYS := Lib.hid hys
            have HAR := Lib.hid hare2
            clear hys hare2 hown
            go_wp2_with fail
            ((with_reducible refine (HAR.out).mono ?_); rintro e w5 ⟨rfl, hb5⟩)
            have hx5 := ext_trans hbr hb5
            by_cases hz : Rt ys
            · rw [tb_t hz]
              have hok2 : StOk xs num den := ⟨HO.out, hall.out, HYS.out ▸ hz⟩
              have HK := Lib.hid hok2
              have HML := Lib.hid hml
              clear hz hok2 hml
              go_wp2
              go_ret2
              rw [sel_t HK.out, tb_t HK.out, ← HYS.out]
              exact ⟨B, d, by rw [HML.out]; rfl, (hF.ext hb5).mono (Nat.le_refl _) hb5.size, hx5⟩
            · rw [tb_f hz]
              have hok2 : ¬ StOk xs num den := fun q => hz (HYS.out ▸ q.2.2)
              have HK := Lib.hid hok2
              clear hz hok2
              go_wp2
              go_ret2
              rw [sel_f HK.out, tb_f HK.out]
              exact ⟨_, 0, rfl, FlO.nil, (hx5).trans (below_new (hx5).size _)⟩
      · go_wp2_with fail
        refine (l1In_f den 1 100 _ h3).mono ?_
        rintro e w9 ⟨rfl, rfl⟩
        go_wp2
        go_ret2
        have hok : ¬ (Rt xs ∧ (1 ≤ num ∧ num ≤ 100) ∧ (1 ≤ den ∧ den ≤ 100)) := fun h => h3 h.2.2
        have hok2 : ¬ StOk xs num den := fun h => hok h.1
        rw [sel_f hok2, tb_f hok2]
        exact ⟨some ⟨w.heap.size, 0, none⟩, 0, rfl, FlO.nil, (ext_trans hB0 hb1)⟩
    · go_wp2_with fail
      refine (l1In_f num 1 100 _ h2).mono ?_
      rintro e w9 ⟨rfl, rfl⟩
      go_wp2
      go_ret2
      have hok : ¬ (Rt xs ∧ (1 ≤ num ∧ num ≤ 100) ∧ (1 ≤ den ∧ den ≤ 100)) := fun h => h2 h.2.1
      have hok2 : ¬ StOk xs num den := fun h => hok h.1
      rw [sel_f hok2, tb_f hok2]
      exact ⟨some ⟨w.heap.size, 0, none⟩, 0, rfl, FlO.nil, (ext_trans hB0 hb1)⟩
  · rw [tb_f h1]
    have H1 := Lib.hid h1
    clear h1
    go_wp2
    go_ret2
    have hok : ¬ (Rt xs ∧ (1 ≤ num ∧ num ≤ 100) ∧ (1 ≤ den ∧ den ≤ 100)) := fun h => H1.out h.1
    have hok2 : ¬ StOk xs num den := fun h => hok h.1
    rw [sel_f hok2, tb_f hok2]
    exact ⟨some ⟨w.heap.size, 0, none⟩, 0, rfl, FlO.nil, (ext_trans hB0 hb1)⟩
end Go.Proofs.YtlagfeccdcjimaaDoor
