/- Copies of editions in memory of their own. -/
import Derived.Test.YtadcjfbcfiljkaaOwn2
import Derived.Test.YtadcjfbcfiljkaaCloneInt
import Derived.Test.YtadcjfbcfiljkaaFamEdition
namespace Go.Proofs.Ytadcjfbcfiljkaa
open Go.RowKit
set_option linter.unusedVariables false
set_option linter.unusedSimpArgs false

set_option maxHeartbeats 1000000 in
set_option maxRecDepth 100000 in
theorem copyEditions_any (A : Option Addr) (c : Nat) (xs : List Nest) (w : World) (hn : wt xs ≤ 4194304) (hA : Nl w A xs) :
    Calls Try.prog 29 #[.slice A xs.length c] w fun e w' => ∃ v ys, e = .returned v ∧ OwnG hdN Nest.l 3 w.heap.size 53 3 w' v ys ∧ ys.map GV.x = xs ∧ Below w.heap.size w w' := by
  obtain ⟨i0, hi, hz0, hz1, hz2⟩ := info_parts infoEdition
  have hin : ∀ y ∈ xs, y.l.length ≤ 4194304 := fun y hy => Nat.le_trans (wt_in hy) hn
  have hn1 := Nat.le_trans (wt_len xs) hn
  obtain ⟨n, hnn⟩ : ∃ n, n = List.length xs := ⟨_, rfl⟩
  rw [← hnn] at hn1 ⊢
  have hN := Lib.hid hnn
  clear hnn
  go_enter Try.func29, Try.ntmps29
  go_wp2
  go_loopw [3, 8] (fun v i wr => ∃ (k : Nat) (ys : List (GV Nest)), k ≤ n ∧ i = .int .i64 k ∧ Below w.heap.size w wr ∧ OwnG hdN Nest.l 3 w.heap.size 53 3 wr v ys ∧ Hid (ys.map GV.x = xs.take k) ∧ ys.length ≤ k) (fun _ i _ => n - (intOf i).toNat)
  case atStart => exact ⟨0, [], by omega, rfl, Below.refl _ _, OwnG.none_, rfl, by simp⟩
  case round =>
    obtain ⟨k, ys, hk, rfl, hbr, hown, hys, hyl⟩ := hrel
    have hzr := hbr.size
    by_cases hlt : k < n
    · obtain ⟨x, b, o, A', d', hx, rfl, hb, hc, hfl⟩ := (hA.ext hbr).at_ (k := k) (by rw [← hN.out]; exact hlt)
      have hxl := hin x (List.mem_of_getElem? hx)
      have c0 : World.cell? wr ⟨b, o + k * 4, none⟩ = some (.int .i64 x.a) := hc.ca
      have c1 : World.cell? wr ⟨b, o + k * 4 + 1, none⟩ = some (.int .i64 x.b) := hc.cb
      have c2 : World.cell? wr ⟨b, o + k * 4 + 2, none⟩ = some (.int .i64 x.c) := hc.cc
      have c3 : World.cell? wr ⟨b, o + k * 4 + 3, none⟩ = some (.slice A' x.l.length d') := hc.cl
      have htk := take_get hx
      obtain ⟨W0, hW0, hB0, hz0', hg, hfz⟩ := box_world wr #[Value.int .i64 x.a, .int .i64 x.b, .int .i64 x.c, .slice A' x.l.length d'] 53
      have g3 : World.cell? W0 ⟨wr.heap.size, 3, none⟩ = some (.slice A' x.l.length d') := hg 3
      have g0 : World.cell? W0 ⟨wr.heap.size, 0, none⟩ = some (.int .i64 x.a) := hg 0
      have g1 : World.cell? W0 ⟨wr.heap.size, 1, none⟩ = some (.int .i64 x.b) := hg 1
      have g2 : World.cell? W0 ⟨wr.heap.size, 2, none⟩ = some (.int .i64 x.c) := hg 2
      have hfl0 := hfl.ext hB0
      have hs0 : W0.heap.size = wr.heap.size + 1 := by rw [← hW0]; simp
      have HT := Lib.hid htk
      clear hc hA hx htk hfl hg
      have hk0 : (0 : Int) ≤ (k : Int) := by omega
      have hk1 : (k : Int) < (n : Int) := by omega
      go_wp2_with fail
      refine (cloneInt_any A' d' x.l W0 (by omega) hfl0).mono ?_
      rintro e w2 ⟨B, d, rfl, hC, hb2⟩
      have k3 : World.cell? w2 ⟨wr.heap.size, 3, none⟩ = some (.slice A' x.l.length d') := (hb2.cell (p := ⟨wr.heap.size, 3, none⟩) hz0').trans g3
      have k0 : World.cell? w2 ⟨wr.heap.size, 0, none⟩ = some (.int .i64 x.a) := (hb2.cell (p := ⟨wr.heap.size, 0, none⟩) hz0').trans g0
      have k1 : World.cell? w2 ⟨wr.heap.size, 1, none⟩ = some (.int .i64 x.b) := (hb2.cell (p := ⟨wr.heap.size, 1, none⟩) hz0').trans g1
      have k2 : World.cell? w2 ⟨wr.heap.size, 2, none⟩ = some (.int .i64 x.c) := (hb2.cell (p := ⟨wr.heap.size, 2, none⟩) hz0').trans g2
      have kf : ∀ j, w2.frozen? ⟨wr.heap.size, j, none⟩ = false := fun j => (hb2.frozen (p := ⟨wr.heap.size, j, none⟩) hz0').trans (hfz j)
      obtain ⟨w3, hw3⟩ : ∃ w3, w2.setCell ⟨wr.heap.size, 3, none⟩ (.slice B x.l.length d) = w3 := ⟨_, rfl⟩
      have hT : Touch wr.heap.size (wr.heap.size + 1) w2 w3 := hw3 ▸ Touch.of_set w2 ⟨wr.heap.size, 3, none⟩ _ (Nat.le_refl _) (Nat.lt_succ_self _)
      have hb3 : Below wr.heap.size wr w3 := hT.below (ext_trans hB0 hb2) (Nat.le_refl _)
      have j3 : World.cell? w3 ⟨wr.heap.size, 3, none⟩ = some (.slice B x.l.length d) := hw3 ▸ World.cell?_setCell_same w2 _ _ k3
      have j0 : World.cell? w3 ⟨wr.heap.size, 0, none⟩ = some (.int .i64 x.a) := by rw [← hw3, World.cell?_setCell_other w2 _ _ _ (by simp)]; exact k0
      have j1 : World.cell? w3 ⟨wr.heap.size, 1, none⟩ = some (.int .i64 x.b) := by rw [← hw3, World.cell?_setCell_other w2 _ _ _ (by simp)]; exact k1
      have j2 : World.cell? w3 ⟨wr.heap.size, 2, none⟩ = some (.int .i64 x.c) := by rw [← hw3, World.cell?_setCell_other w2 _ _ _ (by simp)]; exact k2
      have hC3 : OwnF one 1 w.heap.size 3 w3 (.slice B x.l.length d) x.l := (hC.touch hT (by omega)).from_ (by omega)
      have hown3 := hown.ext hb3
      have hfr := hown.fresh2 hC (by omega)
      have hbw := ext_trans hbr hb3
      have HF := Lib.hid hfr
      have HC := Lib.hid hC3
      have hf2 := kf 3
      clear hC hfr hC3 k0 k1 k2 kf g0 g1 g2 g3 hW0 hs0
      go_wp2_with (at_builtin; refine wpList_append_g (y := ⟨x, B, d⟩) (hd := hdN) (tl := Nest.l) rfl _ _ _ rfl w.heap.size 3 i0 _ 48 Try.underlying24 hi hz0 hz1 hz2 rfl (fun _ => rfl) _ ys rfl rfl hown3 (by decide) HC.out HF.out (by omega) (by decide) hbw.size ?_; intro v' w4 hown4 hg4 hb4)
      go_roundw
      case rel => exact ⟨k + 1, _, by omega, by go_num, hbw.trans hb4, hown4, by
        show List.map GV.x (ys ++ [_]) = _
        rw [HT.out, List.map_append, hys.out]; rfl, by simp; omega⟩
      case measure => simp [intOf]; omega
    · have hkn : k = n := by omega
      subst hkn
      go_wp2
      go_ret
      have hys' := hys.out
      rw [take_all (by rw [← hN.out]; exact Nat.le_refl _)] at hys'
      exact ⟨_, ys, rfl, hown, hys', hbr⟩

set_option maxHeartbeats 1000000 in
set_option maxRecDepth 100000 in
theorem l18Own_any (A : Option Addr) (c : Nat) (xs : List Nest) (w : World) (hn : wt xs ≤ 4194304) (hA : Nl w A xs) :
    Calls Try.prog 31 #[.slice A xs.length c] w fun e w' => ∃ v ys, e = .returned v ∧ OwnG hdN Nest.l 3 w.heap.size 53 3 w' v ys ∧ ys.map GV.x = xs ∧ Below w.heap.size w w' := by
  obtain ⟨i0, hi, hz0, hz1, hz2⟩ := info_parts infoEdition
  have hin : ∀ y ∈ xs, y.l.length ≤ 4194304 := fun y hy => Nat.le_trans (wt_in hy) hn
  have hn1 := Nat.le_trans (wt_len xs) hn
  obtain ⟨V, hV, hBV, _, _, _⟩ := box_world w #[] 53
  have hown0 : OwnG hdN Nest.l 3 w.heap.size 53 3 V (.slice (some ⟨w.heap.size, 0, none⟩) 0 0) [] := hV ▸ OwnG.empty (Nat.le_refl _)
  obtain ⟨n, hnn⟩ : ∃ n, n = List.length xs := ⟨_, rfl⟩
  rw [← hnn] at hn1 ⊢
  have hN := Lib.hid hnn
  clear hnn
  go_enter Try.func31, Try.ntmps31
  go_wp2
  go_loopw [3, 4] (fun v i wr => ∃ (k : Nat) (ys : List (GV Nest)), k ≤ n ∧ i = .int .i64 k ∧ Below w.heap.size w wr ∧ OwnG hdN Nest.l 3 w.heap.size 53 3 wr v ys ∧ Hid (ys.map GV.x = xs.take k) ∧ ys.length ≤ k) (fun _ i _ => n - (intOf i).toNat)
  case atStart => exact ⟨0, [], by omega, rfl, hBV, hown0, rfl, by simp⟩
  case round =>
    obtain ⟨k, ys, hk, rfl, hbr, hown, hys, hyl⟩ := hrel
    have hzr := hbr.size
    by_cases hlt : k < n
    · obtain ⟨x, b, o, A', d', hx, rfl, hb, hc, hfl⟩ := (hA.ext hbr).at_ (k := k) (by rw [← hN.out]; exact hlt)
      have hxl := hin x (List.mem_of_getElem? hx)
      have c0 : World.cell? wr ⟨b, o + k * 4, none⟩ = some (.int .i64 x.a) := hc.ca
      have c1 : World.cell? wr ⟨b, o + k * 4 + 1, none⟩ = some (.int .i64 x.b) := hc.cb
      have c2 : World.cell? wr ⟨b, o + k * 4 + 2, none⟩ = some (.int .i64 x.c) := hc.cc
      have c3 : World.cell? wr ⟨b, o + k * 4 + 3, none⟩ = some (.slice A' x.l.length d') := hc.cl
      have htk := take_get hx
      obtain ⟨W0, hW0, hB0, hz0', hg, hfz⟩ := box_world wr #[Value.int .i64 x.a, .int .i64 x.b, .int .i64 x.c, .slice A' x.l.length d'] 53
      have g3 : World.cell? W0 ⟨wr.heap.size, 3, none⟩ = some (.slice A' x.l.length d') := hg 3
      have g0 : World.cell? W0 ⟨wr.heap.size, 0, none⟩ = some (.int .i64 x.a) := hg 0
      have g1 : World.cell? W0 ⟨wr.heap.size, 1, none⟩ = some (.int .i64 x.b) := hg 1
      have g2 : World.cell? W0 ⟨wr.heap.size, 2, none⟩ = some (.int .i64 x.c) := hg 2
      have hfl0 := hfl.ext hB0
      have hs0 : W0.heap.size = wr.heap.size + 1 := by rw [← hW0]; simp
      have HT := Lib.hid htk
      clear hc hA hx htk hfl hg
      have hk0 : (0 : Int) ≤ (k : Int) := by omega
      have hk1 : (k : Int) < (n : Int) := by omega
      go_wp2_with fail
      refine (l1Own_any A' d' x.l W0 (by omega) hfl0).mono ?_
      rintro e w2 ⟨B, d, rfl, hC, hb2⟩
      have k3 : World.cell? w2 ⟨wr.heap.size, 3, none⟩ = some (.slice A' x.l.length d') := (hb2.cell (p := ⟨wr.heap.size, 3, none⟩) hz0').trans g3
      have k0 : World.cell? w2 ⟨wr.heap.size, 0, none⟩ = some (.int .i64 x.a) := (hb2.cell (p := ⟨wr.heap.size, 0, none⟩) hz0').trans g0
      have k1 : World.cell? w2 ⟨wr.heap.size, 1, none⟩ = some (.int .i64 x.b) := (hb2.cell (p := ⟨wr.heap.size, 1, none⟩) hz0').trans g1
      have k2 : World.cell? w2 ⟨wr.heap.size, 2, none⟩ = some (.int .i64 x.c) := (hb2.cell (p := ⟨wr.heap.size, 2, none⟩) hz0').trans g2
      have kf : ∀ j, w2.frozen? ⟨wr.heap.size, j, none⟩ = false := fun j => (hb2.frozen (p := ⟨wr.heap.size, j, none⟩) hz0').trans (hfz j)
      obtain ⟨w3, hw3⟩ : ∃ w3, w2.setCell ⟨wr.heap.size, 3, none⟩ (.slice B x.l.length d) = w3 := ⟨_, rfl⟩
      have hT : Touch wr.heap.size (wr.heap.size + 1) w2 w3 := hw3 ▸ Touch.of_set w2 ⟨wr.heap.size, 3, none⟩ _ (Nat.le_refl _) (Nat.lt_succ_self _)
      have hb3 : Below wr.heap.size wr w3 := hT.below (ext_trans hB0 hb2) (Nat.le_refl _)
      have j3 : World.cell? w3 ⟨wr.heap.size, 3, none⟩ = some (.slice B x.l.length d) := hw3 ▸ World.cell?_setCell_same w2 _ _ k3
      have j0 : World.cell? w3 ⟨wr.heap.size, 0, none⟩ = some (.int .i64 x.a) := by rw [← hw3, World.cell?_setCell_other w2 _ _ _ (by simp)]; exact k0
      have j1 : World.cell? w3 ⟨wr.heap.size, 1, none⟩ = some (.int .i64 x.b) := by rw [← hw3, World.cell?_setCell_other w2 _ _ _ (by simp)]; exact k1
      have j2 : World.cell? w3 ⟨wr.heap.size, 2, none⟩ = some (.int .i64 x.c) := by rw [← hw3, World.cell?_setCell_other w2 _ _ _ (by simp)]; exact k2
      have hC3 : OwnF one 1 w.heap.size 3 w3 (.slice B x.l.length d) x.l := (hC.touch hT (by omega)).from_ (by omega)
      have hown3 := hown.ext hb3
      have hfr := hown.fresh2 hC (by omega)
      have hbw := ext_trans hbr hb3
      have HF := Lib.hid hfr
      have HC := Lib.hid hC3
      have hf2 := kf 3
      clear hC hfr hC3 k0 k1 k2 kf g0 g1 g2 g3 hW0 hs0
      go_wp2_with (at_builtin; refine wpList_append_g (y := ⟨x, B, d⟩) (hd := hdN) (tl := Nest.l) rfl _ _ _ rfl w.heap.size 3 i0 _ 48 Try.underlying24 hi hz0 hz1 hz2 rfl (fun _ => rfl) _ ys rfl rfl hown3 (by decide) HC.out HF.out (by omega) (by decide) hbw.size ?_; intro v' w4 hown4 hg4 hb4)
      go_roundw
      case rel => exact ⟨k + 1, _, by omega, by go_num, hbw.trans hb4, hown4, by
        show List.map GV.x (ys ++ [_]) = _
        rw [HT.out, List.map_append, hys.out]; rfl, by simp; omega⟩
      case measure => simp [intOf]; omega
    · have hkn : k = n := by omega
      subst hkn
      go_wp2
      go_ret
      have hys' := hys.out
      rw [take_all (by rw [← hN.out]; exact Nat.le_refl _)] at hys'
      exact ⟨_, ys, rfl, hown, hys', hbr⟩
end Go.Proofs.Ytadcjfbcfiljkaa
