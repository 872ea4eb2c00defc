/- The zones without which the area would be the same: Redundant on both sides. -/
import Derived.Test.YtpjapemclbminaaAreaA
namespace Go.Proofs.Ytpjapemclbminaa
open Go.RowKit
set_option linter.unusedVariables false
set_option linter.unusedSimpArgs false

noncomputable def redTo (zs : List Zone) : Nat → List Int
  | 0 => []
  | k + 1 => match zs[k]? with
    | none => redTo zs k
    | some z => if areaZ (zs.take k ++ zs.drop (k + 1)) = areaZ zs then redTo zs k ++ [z.id] else redTo zs k
theorem redTo_t {zs : List Zone} {k : Nat} {z : Zone} (hx : zs[k]? = some z) (h : areaZ (zs.take k ++ zs.drop (k + 1)) = areaZ zs) : redTo zs (k + 1) = redTo zs k ++ [z.id] := by
  rw [redTo, hx]; simp only; rw [if_pos h]
theorem redTo_f {zs : List Zone} {k : Nat} {z : Zone} (hx : zs[k]? = some z) (h : areaZ (zs.take k ++ zs.drop (k + 1)) ≠ areaZ zs) : redTo zs (k + 1) = redTo zs k := by
  rw [redTo, hx]; simp only; rw [if_neg h]
theorem redTo_len (zs : List Zone) : ∀ k, (redTo zs k).length ≤ k
  | 0 => by simp [redTo]
  | k + 1 => by
    have ih := redTo_len zs k
    rw [redTo]
    split
    · omega
    · split
      · rw [List.length_append]; simp; omega
      · omega
set_option maxHeartbeats 600000 in
set_option maxRecDepth 100000 in
theorem redundant_any (A : Option Addr) (c : Nat) (zs : List Zone) (w : World) (hn : zs.length ≤ 1048576) (hcap : zs.length ≤ c) (hcm : c ≤ 9223372036854775807) (hA : Fl Zone.ints 5 w A zs) :
    Calls Try.prog 10 #[.slice A zs.length c] w (RetL one 1 w (sel (Zons zs) (redTo zs zs.length)) (tb (Zons zs))) := by
  obtain ⟨i0, hi, hz0, hz1, hz2⟩ := info_parts infoInt
  have hare := areZones_any A c zs w (by omega) (hA)
  have hwo := fun (j : Nat) (hj : j < zs.length) W hW => others_any A c zs j W hj hn hcap hcm hW
  have har1 := fun (h : Zons zs) W hW => areaOf_any A c zs W h.2 h.zb hW
  have har2 := fun (h : Zons zs) (j : Nat) B d W hW => areaOf_any B d (zs.take j ++ zs.drop (j + 1)) W (Nat.le_trans (without_len zs j) h.2) (zb_without h.zb j) hW
  obtain ⟨n, hnn⟩ : ∃ n, n = List.length zs := ⟨_, rfl⟩
  rw [← hnn] at hn hare hwo har1 ⊢
  have hN := Lib.hid hnn
  have HA := Lib.hid hare
  have HWO := Lib.hid hwo
  have HR1 := Lib.hid har1
  have HR2 := Lib.hid har2
  clear hnn hare hwo har1 har2
  go_enter Try.func10, Try.ntmps10
  go_wp2_with fail
  refine (HA.out).mono ?_
  rintro e w1 ⟨rfl, hb1⟩
  by_cases h1 : Zons zs
  · rw [tb_t h1]
    have H1 := Lib.hid h1
    clear h1
    have HO : Hid (Zons zs) := H1.out
    go_wp2
    go_loopw [4, 12] (fun v i wr => ∃ k : Nat, k ≤ n ∧ i = .int .i64 k ∧ Below w.heap.size w wr ∧ OwnF one 1 w.heap.size 3 wr v (redTo zs k)) (fun _ i _ => n - (intOf i).toNat)
    case atStart => exact ⟨0, by omega, rfl, (ext_trans (Below.refl _ _) hb1), OwnF.none_⟩
    case round =>
      obtain ⟨k, hk, rfl, hbr, hown⟩ := hrel
      have hzr := hbr.size
      by_cases hlt : k < n
      · obtain ⟨z, b, o, hx, hAe, hbb, hc⟩ := (hA.ext hbr).at_ (k := k) (by rw [← hN.out]; exact hlt)
        subst hAe
        have c0 : World.cell? wr ⟨b, o + k * 5, none⟩ = some (.int .i64 z.id) := hc 0 _ rfl
        have c1 : World.cell? wr ⟨b, o + k * 5 + 1, none⟩ = some (.int .i64 z.west) := hc 1 _ rfl
        have c2 : World.cell? wr ⟨b, o + k * 5 + 2, none⟩ = some (.int .i64 z.south) := hc 2 _ rfl
        have c3 : World.cell? wr ⟨b, o + k * 5 + 3, none⟩ = some (.int .i64 z.east) := hc 3 _ rfl
        have c4 : World.cell? wr ⟨b, o + k * 5 + 4, none⟩ = some (.int .i64 z.north) := hc 4 _ rfl
        have hlen : (redTo zs k).length ≤ 1048576 := Nat.le_trans (redTo_len _ _) (by omega)
        have HX := Lib.hid hx
        have HOW := Lib.hid hown
        obtain ⟨W0, hW0, hB0, hz0', hg, _⟩ := box_world wr #[Value.int .i64 z.id, .int .i64 z.west, .int .i64 z.south, .int .i64 z.east, .int .i64 z.north] 35
        have g0 : World.cell? W0 ⟨wr.heap.size, 0, none⟩ = some (.int .i64 z.id) := hg 0
        have hbW := ext_trans hbr hB0
        clear hg
        have hk0 : (0 : Int) ≤ (k : Int) := by omega
        have hk1 : (k : Int) < (n : Int) := by omega
        clear hc hx hown
        have hwj := fun W hW => HWO.out k hlt W hW
        have hrj := HR2.out H1.out k
        obtain ⟨zo, hzo⟩ : ∃ zo, zo = zs.take k ++ zs.drop (k + 1) := ⟨_, rfl⟩
        rw [← hzo] at hwj hrj
        have HZO := Lib.hid hzo
        have HWJ := Lib.hid hwj
        have HRJ := Lib.hid hrj
        clear hzo hwj hrj
        go_wp2_with fail
        refine (HWJ.out W0 (hA.ext hbW)).mono ?_
        rintro e w3 ⟨B, d, rfl, hF, hb3⟩
        go_wp2_with fail
        refine (HRJ.out B d w3 hF).mono ?_
        rintro e w4 ⟨rfl, ⟨q1, q2⟩, hb4⟩
        have hx4 := ext_trans hbW (ext_trans hb3 hb4)
        obtain ⟨p, hp⟩ : ∃ p, p = areaZ zo := ⟨_, rfl⟩
        rw [← hp] at q1 q2 ⊢
        have HPP := Lib.hid hp
        clear hp
        go_wp2_with fail
        refine (HR1.out H1.out w4 (hA.ext hx4)).mono ?_
        rintro e w5 ⟨rfl, ⟨q3, q4⟩, hb5⟩
        have hx5 := ext_trans hx4 hb5
        have hxr := ext_trans hB0 (ext_trans (ext_trans hb3 hb4) hb5)
        obtain ⟨q, hq⟩ : ∃ q, q = areaZ zs := ⟨_, rfl⟩
        rw [← hq] at q3 q4 ⊢
        have HQQ := Lib.hid hq
        clear hq
        have r0 : World.cell? w5 ⟨wr.heap.size, 0, none⟩ = some (.int .i64 z.id) := ((ext_trans (ext_trans hb3 hb4) hb5).cell (p := ⟨wr.heap.size, 0, none⟩) hz0').trans g0
        by_cases hpq : p = q
        · have HE : Hid (areaZ (zs.take k ++ zs.drop (k + 1)) = areaZ zs) := by unfold Hid; rw [← HZO.out, ← HPP.out, ← HQQ.out]; exact hpq
          have hpb : (p == q) = true := by simp [hpq]
          have hown5 := HOW.out.ext hxr
          clear hpq HPP
          go_wp2_with (at_builtin; refine wpList_append_flat (f := one) (y := z.id) rfl _ _ _ rfl w.heap.size i0 _ 1 8 Try.underlying29 hi hz0 hz1 hz2 rfl (by decide) _ _ rfl rfl hown5 rfl ?_ (by decide) ?_ ?_; omega; exact hx5.size; intro v' w6 hown6 hg6 hb6)
          go_roundw
          case rel => exact ⟨k + 1, by omega, by go_num, hx5.trans hb6, by rw [redTo_t HX.out HE.out]; exact hown6⟩
          case measure => simp [intOf]; omega
        · have HE : Hid (areaZ (zs.take k ++ zs.drop (k + 1)) ≠ areaZ zs) := by unfold Hid; rw [← HZO.out, ← HPP.out, ← HQQ.out]; exact hpq
          have hpb : (p == q) = false := by simp [hpq]
          have hown5 := HOW.out.ext hxr
          clear hpq HPP
          go_wp2
          go_roundw
          case rel => exact ⟨k + 1, by omega, by go_num, hx5, by rw [redTo_f HX.out HE.out]; exact hown5⟩
          case measure => simp [intOf]; omega
      · have hkn : k = n := by omega
        subst hkn
        go_wp2
        go_ret2
        obtain ⟨B, d, hv, hF⟩ := hown.form one_length
        rw [sel_t HO.out, tb_t HO.out]
        exact ⟨B, d, by rw [hv]; rfl, hF, hbr⟩
  · rw [tb_f h1]
    have H1 := Lib.hid h1
    clear h1
    go_wp2
    go_ret2
    have hok : ¬ (Zons zs) := fun h => H1.out h
    rw [sel_f hok, tb_f hok]
    exact ⟨none, 0, rfl, FlO.nil, (ext_trans (Below.refl _ _) hb1)⟩
set_option maxHeartbeats 600000 in
set_option maxRecDepth 100000 in
theorem specRedundant_any (A : Option Addr) (c : Nat) (zs : List Zone) (w : World) (hn : zs.length ≤ 1048576) (hcap : zs.length ≤ c) (hcm : c ≤ 9223372036854775807) (hA : Fl Zone.ints 5 w A zs) :
    Calls Try.prog 11 #[.slice A zs.length c] w (RetL one 1 w (sel (Zons zs) (redTo zs zs.length)) (tb (Zons zs))) := by
  obtain ⟨i0, hi, hz0, hz1, hz2⟩ := info_parts infoInt
  obtain ⟨W0, hW0, hB0, hzw, _, _⟩ := box_world w #[] 3
  have hown0 : OwnF one 1 w.heap.size 3 W0 (.slice (some ⟨w.heap.size, 0, none⟩) 0 0) [] := hW0 ▸ OwnF.empty (Nat.le_refl _)
  have hare := l6Zones_any A c zs W0 (by omega) (hA.ext hB0)
  have hwo := fun (j : Nat) (hj : j < zs.length) W hW => l6Without_any A c zs j W hj hn hcap hcm hW
  have har1 := fun (h : Zons zs) W hW => l6Area_any A c zs W h.2 h.zb hW
  have har2 := fun (h : Zons zs) (j : Nat) B d W hW => l6Area_any B d (zs.take j ++ zs.drop (j + 1)) W (Nat.le_trans (without_len zs j) h.2) (zb_without h.zb j) hW
  obtain ⟨n, hnn⟩ : ∃ n, n = List.length zs := ⟨_, rfl⟩
  rw [← hnn] at hn hare hwo har1 ⊢
  have hN := Lib.hid hnn
  have HA := Lib.hid hare
  have HWO := Lib.hid hwo
  have HR1 := Lib.hid har1
  have HR2 := Lib.hid har2
  clear hnn hare hwo har1 har2
  go_enter Try.func11, Try.ntmps11
  go_wp2_with fail
  refine (HA.out).mono ?_
  rintro e w1 ⟨rfl, hb1⟩
  by_cases h1 : Zons zs
  · rw [tb_t h1]
    have H1 := Lib.hid h1
    clear h1
    have HO : Hid (Zons zs) := H1.out
    go_wp2
    go_loopw [4, 5] (fun v i wr => ∃ k : Nat, k ≤ n ∧ i = .int .i64 k ∧ Below w.heap.size w wr ∧ OwnF one 1 w.heap.size 3 wr v (redTo zs k)) (fun _ i _ => n - (intOf i).toNat)
    case atStart => exact ⟨0, by omega, rfl, (ext_trans hB0 hb1), hown0.ext hb1⟩
    case round =>
      obtain ⟨k, hk, rfl, hbr, hown⟩ := hrel
      have hzr := hbr.size
      by_cases hlt : k < n
      · obtain ⟨z, b, o, hx, hAe, hbb, hc⟩ := (hA.ext hbr).at_ (k := k) (by rw [← hN.out]; exact hlt)
        have c0 : World.cell? wr ⟨b, o + k * 5, none⟩ = some (.int .i64 z.id) := hc 0 _ rfl
        have c1 : World.cell? wr ⟨b, o + k * 5 + 1, none⟩ = some (.int .i64 z.west) := hc 1 _ rfl
        have c2 : World.cell? wr ⟨b, o + k * 5 + 2, none⟩ = some (.int .i64 z.south) := hc 2 _ rfl
        have c3 : World.cell? wr ⟨b, o + k * 5 + 3, none⟩ = some (.int .i64 z.east) := hc 3 _ rfl
        have c4 : World.cell? wr ⟨b, o + k * 5 + 4, none⟩ = some (.int .i64 z.north) := hc 4 _ rfl
        have hlen : (redTo zs k).length ≤ 1048576 := Nat.le_trans (redTo_len _ _) (by omega)
        have HX := Lib.hid hx
        have HOW := Lib.hid hown
        subst hAe
        have hbW := hbr
        have hk0 : (0 : Int) ≤ (k : Int) := by omega
        have hk1 : (k : Int) < (n : Int) := by omega
        clear hc hx hown
        have hwj := fun W hW => HWO.out k hlt W hW
        have hrj := HR2.out H1.out k
        obtain ⟨zo, hzo⟩ : ∃ zo, zo = zs.take k ++ zs.drop (k + 1) := ⟨_, rfl⟩
        rw [← hzo] at hwj hrj
        have HZO := Lib.hid hzo
        have HWJ := Lib.hid hwj
        have HRJ := Lib.hid hrj
        clear hzo hwj hrj
        go_wp2_with fail
        refine (HWJ.out wr (hA.ext hbW)).mono ?_
        rintro e w3 ⟨B, d, rfl, hF, hb3⟩
        go_wp2_with fail
        refine (HRJ.out B d w3 hF).mono ?_
        rintro e w4 ⟨rfl, ⟨q1, q2⟩, hb4⟩
        have hx4 := ext_trans hbW (ext_trans hb3 hb4)
        obtain ⟨p, hp⟩ : ∃ p, p = areaZ zo := ⟨_, rfl⟩
        rw [← hp] at q1 q2 ⊢
        have HPP := Lib.hid hp
        clear hp
        go_wp2_with fail
        refine (HR1.out H1.out w4 (hA.ext hx4)).mono ?_
        rintro e w5 ⟨rfl, ⟨q3, q4⟩, hb5⟩
        have hx5 := ext_trans hx4 hb5
        have hxr := ext_trans (ext_trans hb3 hb4) hb5
        obtain ⟨q, hq⟩ : ∃ q, q = areaZ zs := ⟨_, rfl⟩
        rw [← hq] at q3 q4 ⊢
        have HQQ := Lib.hid hq
        clear hq
        have r0 := ((ext_trans (ext_trans hb3 hb4) hb5).cell (p := ⟨b, o + k * 5, none⟩) hbb).trans c0
        by_cases hpq : p = q
        · have HE : Hid (areaZ (zs.take k ++ zs.drop (k + 1)) = areaZ zs) := by unfold Hid; rw [← HZO.out, ← HPP.out, ← HQQ.out]; exact hpq
          have hpb : (p == q) = true := by simp [hpq]
          have hown5 := HOW.out.ext hxr
          clear hpq HPP
          go_wp2_with (at_builtin; refine wpList_append_flat (f := one) (y := z.id) rfl _ _ _ rfl w.heap.size i0 _ 1 8 Try.underlying29 hi hz0 hz1 hz2 rfl (by decide) _ _ rfl rfl hown5 rfl ?_ (by decide) ?_ ?_; omega; exact hx5.size; intro v' w6 hown6 hg6 hb6)
          go_roundw
          case rel => exact ⟨k + 1, by omega, by go_num, hx5.trans hb6, by rw [redTo_t HX.out HE.out]; exact hown6⟩
          case measure => simp [intOf]; omega
        · have HE : Hid (areaZ (zs.take k ++ zs.drop (k + 1)) ≠ areaZ zs) := by unfold Hid; rw [← HZO.out, ← HPP.out, ← HQQ.out]; exact hpq
          have hpb : (p == q) = false := by simp [hpq]
          have hown5 := HOW.out.ext hxr
          clear hpq HPP
          go_wp2
          go_roundw
          case rel => exact ⟨k + 1, by omega, by go_num, hx5, by rw [redTo_f HX.out HE.out]; exact hown5⟩
          case measure => simp [intOf]; omega
      · have hkn : k = n := by omega
        subst hkn
        go_wp2
        go_ret2
        obtain ⟨B, d, hv, hF⟩ := hown.form one_length
        rw [sel_t HO.out, tb_t HO.out]
        exact ⟨B, d, by rw [hv]; rfl, hF, hbr⟩
  · rw [tb_f h1]
    have H1 := Lib.hid h1
    clear h1
    go_wp2
    go_ret2
    have hok : ¬ (Zons zs) := fun h => H1.out h
    rw [sel_f hok, tb_f hok]
    exact ⟨some ⟨w.heap.size, 0, none⟩, 0, rfl, FlO.nil, (ext_trans hB0 hb1)⟩
end Go.Proofs.Ytpjapemclbminaa
