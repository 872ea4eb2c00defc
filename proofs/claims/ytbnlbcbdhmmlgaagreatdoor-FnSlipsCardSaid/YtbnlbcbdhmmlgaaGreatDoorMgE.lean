/- Copies of held copies, and a list in which a copy has other slips. Lists that are turned element by element. No condition. -/
import Derived.Test.YtbnlbcbdhmmlgaaGreatDoorOwnSet
import Derived.Test.YtbnlbcbdhmmlgaaGreatDoorCloneInt
import Derived.Test.YtbnlbcbdhmmlgaaGreatDoorFamHeld
namespace Go.Proofs.YtbnlbcbdhmmlgaaGreatDoor
open Go.RowKit
set_option linter.unusedVariables false
set_option linter.unusedSimpArgs false

/-- the row that is owned: its block and its cells -/
theorem OwnG.blockN {lo : Nat} {e et : TypeId} {w : World} {v : Value} {ys : List (GV Nest)} (h : OwnG hdN Nest.l 3 lo e et w v ys) (hne : ys ≠ []) :
    ∃ g c, v = .slice (some ⟨g, 0, none⟩) ys.length c ∧ lo ≤ g ∧ g < w.heap.size ∧ (∀ j, w.frozen? ⟨g, j, none⟩ = false) ∧ (∀ (i : Nat) (y : GV Nest), ys[i]? = some y → NAt w g (i * 4) y.x y.A y.d) ∧ ys.length ≤ c := by
  rcases h.out.2 with ⟨hv, h0⟩ | ⟨g, cap, cur, hv, hg, hh, hnc, hcm, hcs, htk⟩
  · exact absurd (List.length_eq_zero_iff.1 h0) hne
  · refine ⟨g, cap, hv, hg, (Array.getElem?_eq_some_iff.1 hh).1, fun j => by simp [World.frozen?, hh], fun i z hz => ?_, hnc⟩
    have hc : ∀ q u, (z.cells hdN Nest.l)[q]? = some u → w.cell? ⟨g, i * 4 + q, none⟩ = some u := fun q u hq => by
      have hr := rowG_get (hd := hdN) (tl := Nest.l) (p := 3) (fun _ => rfl) ys i z hz q u hq
      rw [cell_of_row w g _ cur e (0, 0) hh]
      rw [← htk, List.getElem?_take] at hr
      split at hr
      · simpa using hr
      · cases hr
    exact ⟨hc 0 _ rfl, hc 1 _ rfl, hc 2 _ rfl, hc 3 _ rfl⟩
theorem map_get {ys : List (GV Nest)} {i : Nat} {x : Nest} (h : (ys.map GV.x)[i]? = some x) : ∃ y, ys[i]? = some y ∧ y.x = x := by
  rw [List.getElem?_map] at h
  rcases hz : ys[i]? with _ | z
  · rw [hz] at h; cases h
  · rw [hz] at h; cases h; exact ⟨z, rfl, rfl⟩
set_option maxHeartbeats 1000000 in
set_option maxRecDepth 100000 in
theorem copyHeldI_any (A : Option Addr) (c : Nat) (xs : List Nest) (w : World) (hn : wt xs ≤ 4194304) (hA : Nl w A xs) :
    Calls Tryz.prog 33 #[.slice A xs.length c] w fun e w' => ∃ v ys, e = .returned v ∧ OwnG hdN Nest.l 3 w.heap.size 41 3 w' v ys ∧ ys.map GV.x = xs ∧ InjA ys ∧ Below w.heap.size w w' := by
  obtain ⟨i0, hi, hz0, hz1, hz2⟩ := info_parts infoHeld
  have hin : ∀ y ∈ xs, y.l.length ≤ 4194304 := fun y hy => Nat.le_trans (wt_in hy) hn
  have hn1 := Nat.le_trans (wt_len xs) hn
  obtain ⟨n, hnn⟩ : ∃ n, n = List.length xs := ⟨_, rfl⟩
  rw [← hnn] at hn1 ⊢
  have hN := Lib.hid hnn
  clear hnn
  go_enter Tryz.func33, Tryz.ntmps33
  go_wp2
  go_loopw [3, 8] (fun v i wr => ∃ (k : Nat) (ys : List (GV Nest)), k ≤ n ∧ i = .int .i64 k ∧ Below w.heap.size w wr ∧ OwnG hdN Nest.l 3 w.heap.size 41 3 wr v ys ∧ Hid (ys.map GV.x = xs.take k) ∧ ys.length ≤ k ∧ InjA ys) (fun _ i _ => n - (intOf i).toNat)
  case atStart => exact ⟨0, [], by omega, rfl, Below.refl _ _, OwnG.none_, rfl, by simp, InjA.nil⟩
  case round =>
    obtain ⟨k, ys, hk, rfl, hbr, hown, hys, hyl, hia⟩ := hrel
    have hzr := hbr.size
    by_cases hlt : k < n
    · obtain ⟨x, b, o, A', d', hx, rfl, hb, hc, hfl⟩ := (hA.ext hbr).at_ (k := k) (by rw [← hN.out]; exact hlt)
      have hxl := hin x (List.mem_of_getElem? hx)
      have c0 : World.cell? wr ⟨b, o + k * 4, none⟩ = some (.int .i64 x.a) := hc.ca
      have c1 : World.cell? wr ⟨b, o + k * 4 + 1, none⟩ = some (.int .i64 x.b) := hc.cb
      have c2 : World.cell? wr ⟨b, o + k * 4 + 2, none⟩ = some (.int .i64 x.c) := hc.cc
      have c3 : World.cell? wr ⟨b, o + k * 4 + 3, none⟩ = some (.slice A' x.l.length d') := hc.cl
      have htk := take_get hx
      obtain ⟨W0, hW0, hB0, hz0', hg, hfz⟩ := box_world wr #[Value.int .i64 x.a, .int .i64 x.b, .int .i64 x.c, .slice A' x.l.length d'] 41
      have g3 : World.cell? W0 ⟨wr.heap.size, 3, none⟩ = some (.slice A' x.l.length d') := hg 3
      have g0 : World.cell? W0 ⟨wr.heap.size, 0, none⟩ = some (.int .i64 x.a) := hg 0
      have g1 : World.cell? W0 ⟨wr.heap.size, 1, none⟩ = some (.int .i64 x.b) := hg 1
      have g2 : World.cell? W0 ⟨wr.heap.size, 2, none⟩ = some (.int .i64 x.c) := hg 2
      have hfl0 := hfl.ext hB0
      have hs0 : W0.heap.size = wr.heap.size + 1 := by rw [← hW0]; simp
      have HT := Lib.hid htk
      clear hc hA hx htk hfl hg
      have hk0 : (0 : Int) ≤ (k : Int) := by omega
      have hk1 : (k : Int) < (n : Int) := by omega
      go_wp2_with fail
      refine (cloneInt_any A' d' x.l W0 (by omega) hfl0).mono ?_
      rintro e w2 ⟨B, d, rfl, hC, hb2⟩
      have k3 : World.cell? w2 ⟨wr.heap.size, 3, none⟩ = some (.slice A' x.l.length d') := (hb2.cell (p := ⟨wr.heap.size, 3, none⟩) hz0').trans g3
      have k0 : World.cell? w2 ⟨wr.heap.size, 0, none⟩ = some (.int .i64 x.a) := (hb2.cell (p := ⟨wr.heap.size, 0, none⟩) hz0').trans g0
      have k1 : World.cell? w2 ⟨wr.heap.size, 1, none⟩ = some (.int .i64 x.b) := (hb2.cell (p := ⟨wr.heap.size, 1, none⟩) hz0').trans g1
      have k2 : World.cell? w2 ⟨wr.heap.size, 2, none⟩ = some (.int .i64 x.c) := (hb2.cell (p := ⟨wr.heap.size, 2, none⟩) hz0').trans g2
      have kf : ∀ j, w2.frozen? ⟨wr.heap.size, j, none⟩ = false := fun j => (hb2.frozen (p := ⟨wr.heap.size, j, none⟩) hz0').trans (hfz j)
      obtain ⟨w3, hw3⟩ : ∃ w3, w2.setCell ⟨wr.heap.size, 3, none⟩ (.slice B x.l.length d) = w3 := ⟨_, rfl⟩
      have hT : Touch wr.heap.size (wr.heap.size + 1) w2 w3 := hw3 ▸ Touch.of_set w2 ⟨wr.heap.size, 3, none⟩ _ (Nat.le_refl _) (Nat.lt_succ_self _)
      have hb3 : Below wr.heap.size wr w3 := hT.below (ext_trans hB0 hb2) (Nat.le_refl _)
      have j3 : World.cell? w3 ⟨wr.heap.size, 3, none⟩ = some (.slice B x.l.length d) := hw3 ▸ World.cell?_setCell_same w2 _ _ k3
      have j0 : World.cell? w3 ⟨wr.heap.size, 0, none⟩ = some (.int .i64 x.a) := by rw [← hw3, World.cell?_setCell_other w2 _ _ _ (by simp)]; exact k0
      have j1 : World.cell? w3 ⟨wr.heap.size, 1, none⟩ = some (.int .i64 x.b) := by rw [← hw3, World.cell?_setCell_other w2 _ _ _ (by simp)]; exact k1
      have j2 : World.cell? w3 ⟨wr.heap.size, 2, none⟩ = some (.int .i64 x.c) := by rw [← hw3, World.cell?_setCell_other w2 _ _ _ (by simp)]; exact k2
      have hC3 : OwnF one 1 w.heap.size 3 w3 (.slice B x.l.length d) x.l := (hC.touch hT (by omega)).from_ (by omega)
      have hown3 := hown.ext hb3
      have hfr := hown.fresh2 hC (by omega)
      have HIA := Lib.hid (hia.snoc hown hC (by omega) x d)
      have hbw := ext_trans hbr hb3
      have HF := Lib.hid hfr
      have HC := Lib.hid hC3
      have hf2 := kf 3
      clear hC hfr hC3 k0 k1 k2 kf g0 g1 g2 g3 hW0 hs0
      go_wp2_with (at_builtin; refine wpList_append_g (y := ⟨x, B, d⟩) (hd := hdN) (tl := Nest.l) rfl _ _ _ rfl w.heap.size 3 i0 _ 48 Tryz.underlying25 hi hz0 hz1 hz2 rfl (fun _ => rfl) _ ys rfl rfl hown3 (by decide) HC.out HF.out (by omega) (by decide) hbw.size ?_; intro v' w4 hown4 hg4 hb4)
      go_roundw
      case rel => exact ⟨k + 1, _, by omega, by go_num, hbw.trans hb4, hown4, by
        show List.map GV.x (ys ++ [_]) = _
        rw [HT.out, List.map_append, hys.out]; rfl, by simp; omega, HIA.out⟩
      case measure => simp [intOf]; omega
    · have hkn : k = n := by omega
      subst hkn
      go_wp2
      go_ret
      have hys' := hys.out
      rw [take_all (by rw [← hN.out]; exact Nat.le_refl _)] at hys'
      exact ⟨_, ys, rfl, hown, hys', hia, hbr⟩

set_option maxHeartbeats 1000000 in
set_option maxRecDepth 100000 in
theorem l19OwnI_any (A : Option Addr) (c : Nat) (xs : List Nest) (w : World) (hn : wt xs ≤ 4194304) (hA : Nl w A xs) :
    Calls Tryz.prog 48 #[.slice A xs.length c] w fun e w' => ∃ v ys, e = .returned v ∧ OwnG hdN Nest.l 3 w.heap.size 41 3 w' v ys ∧ ys.map GV.x = xs ∧ InjA ys ∧ Below w.heap.size w w' := by
  obtain ⟨i0, hi, hz0, hz1, hz2⟩ := info_parts infoHeld
  have hin : ∀ y ∈ xs, y.l.length ≤ 4194304 := fun y hy => Nat.le_trans (wt_in hy) hn
  have hn1 := Nat.le_trans (wt_len xs) hn
  obtain ⟨V, hV, hBV, _, _, _⟩ := box_world w #[] 41
  have hown0 : OwnG hdN Nest.l 3 w.heap.size 41 3 V (.slice (some ⟨w.heap.size, 0, none⟩) 0 0) [] := hV ▸ OwnG.empty (Nat.le_refl _)
  obtain ⟨n, hnn⟩ : ∃ n, n = List.length xs := ⟨_, rfl⟩
  rw [← hnn] at hn1 ⊢
  have hN := Lib.hid hnn
  clear hnn
  go_enter Tryz.func48, Tryz.ntmps48
  go_wp2
  go_loopw [3, 4] (fun v i wr => ∃ (k : Nat) (ys : List (GV Nest)), k ≤ n ∧ i = .int .i64 k ∧ Below w.heap.size w wr ∧ OwnG hdN Nest.l 3 w.heap.size 41 3 wr v ys ∧ Hid (ys.map GV.x = xs.take k) ∧ ys.length ≤ k ∧ InjA ys) (fun _ i _ => n - (intOf i).toNat)
  case atStart => exact ⟨0, [], by omega, rfl, hBV, hown0, rfl, by simp, InjA.nil⟩
  case round =>
    obtain ⟨k, ys, hk, rfl, hbr, hown, hys, hyl, hia⟩ := hrel
    have hzr := hbr.size
    by_cases hlt : k < n
    · obtain ⟨x, b, o, A', d', hx, rfl, hb, hc, hfl⟩ := (hA.ext hbr).at_ (k := k) (by rw [← hN.out]; exact hlt)
      have hxl := hin x (List.mem_of_getElem? hx)
      have c0 : World.cell? wr ⟨b, o + k * 4, none⟩ = some (.int .i64 x.a) := hc.ca
      have c1 : World.cell? wr ⟨b, o + k * 4 + 1, none⟩ = some (.int .i64 x.b) := hc.cb
      have c2 : World.cell? wr ⟨b, o + k * 4 + 2, none⟩ = some (.int .i64 x.c) := hc.cc
      have c3 : World.cell? wr ⟨b, o + k * 4 + 3, none⟩ = some (.slice A' x.l.length d') := hc.cl
      have htk := take_get hx
      obtain ⟨W0, hW0, hB0, hz0', hg, hfz⟩ := box_world wr #[Value.int .i64 x.a, .int .i64 x.b, .int .i64 x.c, .slice A' x.l.length d'] 41
      have g3 : World.cell? W0 ⟨wr.heap.size, 3, none⟩ = some (.slice A' x.l.length d') := hg 3
      have g0 : World.cell? W0 ⟨wr.heap.size, 0, none⟩ = some (.int .i64 x.a) := hg 0
      have g1 : World.cell? W0 ⟨wr.heap.size, 1, none⟩ = some (.int .i64 x.b) := hg 1
      have g2 : World.cell? W0 ⟨wr.heap.size, 2, none⟩ = some (.int .i64 x.c) := hg 2
      have hfl0 := hfl.ext hB0
      have hs0 : W0.heap.size = wr.heap.size + 1 := by rw [← hW0]; simp
      have HT := Lib.hid htk
      clear hc hA hx htk hfl hg
      have hk0 : (0 : Int) ≤ (k : Int) := by omega
      have hk1 : (k : Int) < (n : Int) := by omega
      go_wp2_with fail
      refine (l1Own_any A' d' x.l W0 (by omega) hfl0).mono ?_
      rintro e w2 ⟨B, d, rfl, hC, hb2⟩
      have k3 : World.cell? w2 ⟨wr.heap.size, 3, none⟩ = some (.slice A' x.l.length d') := (hb2.cell (p := ⟨wr.heap.size, 3, none⟩) hz0').trans g3
      have k0 : World.cell? w2 ⟨wr.heap.size, 0, none⟩ = some (.int .i64 x.a) := (hb2.cell (p := ⟨wr.heap.size, 0, none⟩) hz0').trans g0
      have k1 : World.cell? w2 ⟨wr.heap.size, 1, none⟩ = some (.int .i64 x.b) := (hb2.cell (p := ⟨wr.heap.size, 1, none⟩) hz0').trans g1
      have k2 : World.cell? w2 ⟨wr.heap.size, 2, none⟩ = some (.int .i64 x.c) := (hb2.cell (p := ⟨wr.heap.size, 2, none⟩) hz0').trans g2
      have kf : ∀ j, w2.frozen? ⟨wr.heap.size, j, none⟩ = false := fun j => (hb2.frozen (p := ⟨wr.heap.size, j, none⟩) hz0').trans (hfz j)
      obtain ⟨w3, hw3⟩ : ∃ w3, w2.setCell ⟨wr.heap.size, 3, none⟩ (.slice B x.l.length d) = w3 := ⟨_, rfl⟩
      have hT : Touch wr.heap.size (wr.heap.size + 1) w2 w3 := hw3 ▸ Touch.of_set w2 ⟨wr.heap.size, 3, none⟩ _ (Nat.le_refl _) (Nat.lt_succ_self _)
      have hb3 : Below wr.heap.size wr w3 := hT.below (ext_trans hB0 hb2) (Nat.le_refl _)
      have j3 : World.cell? w3 ⟨wr.heap.size, 3, none⟩ = some (.slice B x.l.length d) := hw3 ▸ World.cell?_setCell_same w2 _ _ k3
      have j0 : World.cell? w3 ⟨wr.heap.size, 0, none⟩ = some (.int .i64 x.a) := by rw [← hw3, World.cell?_setCell_other w2 _ _ _ (by simp)]; exact k0
      have j1 : World.cell? w3 ⟨wr.heap.size, 1, none⟩ = some (.int .i64 x.b) := by rw [← hw3, World.cell?_setCell_other w2 _ _ _ (by simp)]; exact k1
      have j2 : World.cell? w3 ⟨wr.heap.size, 2, none⟩ = some (.int .i64 x.c) := by rw [← hw3, World.cell?_setCell_other w2 _ _ _ (by simp)]; exact k2
      have hC3 : OwnF one 1 w.heap.size 3 w3 (.slice B x.l.length d) x.l := (hC.touch hT (by omega)).from_ (by omega)
      have hown3 := hown.ext hb3
      have hfr := hown.fresh2 hC (by omega)
      have HIA := Lib.hid (hia.snoc hown hC (by omega) x d)
      have hbw := ext_trans hbr hb3
      have HF := Lib.hid hfr
      have HC := Lib.hid hC3
      have hf2 := kf 3
      clear hC hfr hC3 k0 k1 k2 kf g0 g1 g2 g3 hW0 hs0
      go_wp2_with (at_builtin; refine wpList_append_g (y := ⟨x, B, d⟩) (hd := hdN) (tl := Nest.l) rfl _ _ _ rfl w.heap.size 3 i0 _ 48 Tryz.underlying25 hi hz0 hz1 hz2 rfl (fun _ => rfl) _ ys rfl rfl hown3 (by decide) HC.out HF.out (by omega) (by decide) hbw.size ?_; intro v' w4 hown4 hg4 hb4)
      go_roundw
      case rel => exact ⟨k + 1, _, by omega, by go_num, hbw.trans hb4, hown4, by
        show List.map GV.x (ys ++ [_]) = _
        rw [HT.out, List.map_append, hys.out]; rfl, by simp; omega, HIA.out⟩
      case measure => simp [intOf]; omega
    · have hkn : k = n := by omega
      subst hkn
      go_wp2
      go_ret
      have hys' := hys.out
      rw [take_all (by rw [← hN.out]; exact Nat.le_refl _)] at hys'
      exact ⟨_, ys, rfl, hown, hys', hia, hbr⟩
/-- a list in which a copy has other slips -/
def withS (hs : List Nest) (j : Nat) (x : Nest) (ls : List Int) : List Nest := hs.set j { x with l := ls }
set_option maxHeartbeats 2000000 in
set_option maxRecDepth 100000 in
theorem l19With_any (A : Option Addr) (c : Nat) (hs : List Nest) (j : Nat) (x : Nest) (hx : hs[j]? = some x) (C : Option Addr) (cc : Nat) (ls : List Int) (w : World) (hn : wt hs ≤ 4194304) (hA : Nl w A hs) (hl : ls.length ≤ 16777216) (hC : Fl one 1 w C ls) :
    Calls Tryz.prog 40 #[.slice A hs.length c, .int .i64 j, .slice C ls.length cc] w fun e w' => ∃ v ys, e = .returned v ∧ OwnG hdN Nest.l 3 w.heap.size 41 3 w' v ys ∧ ys.map GV.x = withS hs j x ls ∧ Below w.heap.size w w' := by
  have hown := l19OwnI_any A c hs w hn hA
  have hjl := lt_of_get hx
  have hn1 := Nat.le_trans (wt_len hs) hn
  have hlo := fun W hW => l1Own_any C cc ls W hl hW
  obtain ⟨n, hnn⟩ : ∃ n, n = List.length hs := ⟨_, rfl⟩
  obtain ⟨m, hmm⟩ : ∃ m, m = List.length ls := ⟨_, rfl⟩
  rw [← hnn] at hown hjl hn1 ⊢
  rw [← hmm] at hlo ⊢
  have hN := Lib.hid hnn
  have hM := Lib.hid hmm
  have HO := Lib.hid hown
  have HL := Lib.hid hlo
  have HX := Lib.hid hx
  clear hown hnn hmm hlo hx hA
  have hj0 : (0 : Int) ≤ (j : Int) := by omega
  have hj1 : (j : Int) < (n : Int) := by omega
  go_enter Tryz.func40, Tryz.ntmps40
  go_wp2_with fail
  refine (HO.out).mono ?_
  rintro e w1 ⟨v, ys, rfl, hown, hys, hia, hb1⟩
  have hyl : ys.length = n := by have h := congrArg List.length hys; rwa [List.length_map, ← hN.out] at h
  obtain ⟨y, hy, hyx⟩ := map_get (by rw [hys]; exact HX.out : (ys.map GV.x)[j]? = some x)
  obtain ⟨g, cp, hv, hgl, hgw, hgf, hgc, hcp⟩ := hown.blockN (fun e => by rw [e] at hyl; simp at hyl; omega)
  have hc := hgc j y hy
  subst hyx
  have c0 : World.cell? w1 ⟨g, j * 4, none⟩ = some (.int .i64 y.x.a) := hc.ca
  have c1 : World.cell? w1 ⟨g, j * 4 + 1, none⟩ = some (.int .i64 y.x.b) := hc.cb
  have c2 : World.cell? w1 ⟨g, j * 4 + 2, none⟩ = some (.int .i64 y.x.c) := hc.cc
  have c3 : World.cell? w1 ⟨g, j * 4 + 3, none⟩ = some (.slice y.A y.x.l.length y.d) := hc.cl
  rw [hyl] at hv
  subst hv
  have HY := Lib.hid hy
  have HYS := Lib.hid hys
  have HYL := Lib.hid hyl
  have HOW := Lib.hid hown
  obtain ⟨W1, hW1, hB1, hz1, hg1, hfz⟩ := box_world w1 #[Value.int .i64 y.x.a, .int .i64 y.x.b, .int .i64 y.x.c, .slice y.A y.x.l.length y.d] 41
  have g0 : World.cell? W1 ⟨w1.heap.size, 0, none⟩ = some (.int .i64 y.x.a) := hg1 0
  have g1 : World.cell? W1 ⟨w1.heap.size, 1, none⟩ = some (.int .i64 y.x.b) := hg1 1
  have g2 : World.cell? W1 ⟨w1.heap.size, 2, none⟩ = some (.int .i64 y.x.c) := hg1 2
  have g3 : World.cell? W1 ⟨w1.heap.size, 3, none⟩ = some (.slice y.A y.x.l.length y.d) := hg1 3
  have hC1 := hC.ext (ext_trans hb1 hB1)
  have hs1 : W1.heap.size = w1.heap.size + 1 := by rw [← hW1]; simp
  clear hgc hc hg1 hy hys hyl hown hC
  go_wp2_with fail
  refine (HL.out W1 hC1).mono ?_
  rintro e w2 ⟨B, d, rfl, hF, hb2⟩
  rw [← hM.out] at hF ⊢
  have k0 : World.cell? w2 ⟨w1.heap.size, 0, none⟩ = some (.int .i64 y.x.a) := (hb2.cell (p := ⟨w1.heap.size, 0, none⟩) hz1).trans g0
  have k1 : World.cell? w2 ⟨w1.heap.size, 1, none⟩ = some (.int .i64 y.x.b) := (hb2.cell (p := ⟨w1.heap.size, 1, none⟩) hz1).trans g1
  have k2 : World.cell? w2 ⟨w1.heap.size, 2, none⟩ = some (.int .i64 y.x.c) := (hb2.cell (p := ⟨w1.heap.size, 2, none⟩) hz1).trans g2
  have k3 : World.cell? w2 ⟨w1.heap.size, 3, none⟩ = some (.slice y.A y.x.l.length y.d) := (hb2.cell (p := ⟨w1.heap.size, 3, none⟩) hz1).trans g3
  have kf : ∀ j, w2.frozen? ⟨w1.heap.size, j, none⟩ = false := fun j => (hb2.frozen (p := ⟨w1.heap.size, j, none⟩) hz1).trans (hfz j)
  have hb12 := ext_trans hB1 hb2
  have q0 := (hb12.cell (p := ⟨g, j * 4, none⟩) hgw).trans c0
  have q1 := (hb12.cell (p := ⟨g, j * 4 + 1, none⟩) hgw).trans c1
  have q2 := (hb12.cell (p := ⟨g, j * 4 + 2, none⟩) hgw).trans c2
  have q3 := (hb12.cell (p := ⟨g, j * 4 + 3, none⟩) hgw).trans c3
  have qf : ∀ i, w2.frozen? ⟨g, i, none⟩ = false := fun i => (hb12.frozen (p := ⟨g, i, none⟩) hgw).trans (hgf i)
  have hzw2 := hb2.size
  obtain ⟨w3, hw3⟩ : ∃ w3, w2.setCell ⟨w1.heap.size, 3, none⟩ (.slice B m d) = w3 := ⟨_, rfl⟩
  have hT : Touch w1.heap.size (w1.heap.size + 1) w2 w3 := hw3 ▸ Touch.of_set w2 ⟨w1.heap.size, 3, none⟩ _ (Nat.le_refl _) (Nat.lt_succ_self _)
  have hb3 : Below w1.heap.size w1 w3 := hT.below hb12 (Nat.le_refl _)
  have j3 : World.cell? w3 ⟨w1.heap.size, 3, none⟩ = some (.slice B m d) := hw3 ▸ World.cell?_setCell_same w2 _ _ k3
  have j0 : World.cell? w3 ⟨w1.heap.size, 0, none⟩ = some (.int .i64 y.x.a) := by rw [← hw3, World.cell?_setCell_other w2 _ _ _ (by simp)]; exact k0
  have j1 : World.cell? w3 ⟨w1.heap.size, 1, none⟩ = some (.int .i64 y.x.b) := by rw [← hw3, World.cell?_setCell_other w2 _ _ _ (by simp)]; exact k1
  have j2 : World.cell? w3 ⟨w1.heap.size, 2, none⟩ = some (.int .i64 y.x.c) := by rw [← hw3, World.cell?_setCell_other w2 _ _ _ (by simp)]; exact k2
  have hgne : g < w1.heap.size ∨ w1.heap.size + 1 ≤ g := .inl hgw
  have hgw2 : g < w2.heap.size := Nat.lt_of_lt_of_le hgw hb12.size
  have r0 := (hT.cell (o := j * 4) hgw2 hgne).trans q0
  have r1 := (hT.cell (o := j * 4 + 1) hgw2 hgne).trans q1
  have r2 := (hT.cell (o := j * 4 + 2) hgw2 hgne).trans q2
  have r3 := (hT.cell (o := j * 4 + 3) hgw2 hgne).trans q3
  have rf : ∀ i, w3.frozen? ⟨g, i, none⟩ = false := fun i => (hT.frozen hgw2 hgne).trans (qf i)
  have hF3 : OwnF one 1 w.heap.size 3 w3 (.slice B ls.length d) ls := by rw [← hM.out]; exact (hF.touch hT (by omega)).from_ (by have := hb1.size; omega)
  have hBq : ∀ q, B = some ⟨q, 0, none⟩ → w1.heap.size ≤ q := fun q hq => by
    rcases hF.base with h | ⟨q', h, h2, _⟩
    · rw [h] at hq; cases hq
    · rw [h] at hq; injection hq with hq; injection hq with hq; omega
  have HS4 := Lib.hid (HOW.out.setRow4 (W := w3) (g := g) (c := cp) hia HY.out (by decide) (by rw [HYL.out]) hb3 hF3 hBq)
  have hf2 := kf 3
  have HRF := Lib.hid rf
  have rf0 := rf (j * 4)
  have rf1 := rf (j * 4 + 1)
  have rf2 := rf (j * 4 + 2)
  have rf3 := rf (j * 4 + 3)
  have HB3 := Lib.hid (ext_trans hb1 hb3)
  have hbw := (setRow_touch g (Nat.le_refl g) (Nat.lt_succ_self g) [Value.int .i64 y.x.a, .int .i64 y.x.b, .int .i64 y.x.c, .slice B m d] w3 (j * 4)).below HB3.out hgl
  have HBW := Lib.hid hbw
  clear hF3 hF hBq kf qf k0 k1 k2 q0 q1 q2 q3 c0 c1 c2 c3 g0 g1 g2 g3 hgf hfz rf hW1 hs1 hia hT hbw
  go_wp2
  go_ret
  rw [← hM.out] at HS4
  exact ⟨_, _, rfl, (HS4.out.1 : OwnG _ _ _ _ _ _ (setRow w3 g (j * 4) _) _ _), by rw [map_put HY.out, HYS.out]; rfl, HBW.out⟩
end Go.Proofs.YtbnlbcbdhmmlgaaGreatDoor
namespace Go.Proofs.YtbnlbcbdhmmlgaaGreatDoor
open Go.RowKit
set_option linter.unusedVariables false
set_option linter.unusedSimpArgs false

def updTo (f : Nest → Nest) (hs : List Nest) (k : Nat) : List Nest := (hs.take k).map f ++ hs.drop k
section
variable {f : Nest → Nest} {hs : List Nest} {k : Nat} {x : Nest}
theorem updTo_zero (f : Nest → Nest) (hs : List Nest) : updTo f hs 0 = hs := by simp [updTo]
theorem updTo_all (hk : hs.length ≤ k) : updTo f hs k = hs.map f := by simp [updTo, take_all hk, drop_all hk]
theorem updTo_len (f : Nest → Nest) (hs : List Nest) (k : Nat) : (updTo f hs k).length = hs.length := by simp [updTo]; omega
theorem updTo_left (hx : hs[k]? = some x) : ((hs.take k).map f).length = k := by have := lt_of_get hx; rw [List.length_map, List.length_take]; omega
theorem updTo_get (hx : hs[k]? = some x) : (updTo f hs k)[k]? = some x := by
  unfold updTo
  rw [List.getElem?_append_right (by rw [updTo_left hx]; exact Nat.le_refl _), updTo_left hx, drop_get hx, Nat.sub_self]
  rfl
theorem updTo_step (hx : hs[k]? = some x) : (updTo f hs k).set k (f x) = updTo f hs (k + 1) := by
  unfold updTo
  rw [List.set_append_right _ _ (by rw [updTo_left hx]; exact Nat.le_refl _), updTo_left hx, take_get hx, List.map_append, drop_get hx, Nat.sub_self]
  simp
theorem lsum_map (D : Nat) : ∀ l : List Nest, (∀ x ∈ l, (f x).l.length ≤ x.l.length + D) → lsum (l.map f) ≤ lsum l + l.length * D
  | [], _ => by simp [lsum]
  | x :: r, h => by
    have h1 := h x List.mem_cons_self
    have h2 := lsum_map D r fun y hy => h y (List.mem_cons_of_mem _ hy)
    simp only [List.map_cons, lsum, List.length_cons, Nat.add_mul, Nat.one_mul]
    omega
theorem updTo_wt (D k : Nat) (h : ∀ x ∈ hs, (f x).l.length ≤ x.l.length + D) : wt (updTo f hs k) ≤ wt hs + hs.length * D := by
  have h1 := lsum_map (f := f) D (hs.take k) fun x hx => h x (List.mem_of_mem_take hx)
  have h2 : lsum (hs.take k) + lsum (hs.drop k) = lsum hs := by rw [← lsum_append, List.take_append_drop]
  have h3 : (hs.take k).length * D ≤ hs.length * D := Nat.mul_le_mul_right _ (by rw [List.length_take]; omega)
  unfold wt
  rw [updTo_len]
  unfold updTo
  rw [lsum_append]
  omega
end
theorem Fl.takeK {α : Type} {f : α → List Int} {sz : Nat} {w : World} {A : Option Addr} {xs : List α} (h : Fl f sz w A xs) (k : Nat) : Fl f sz w A (xs.take k) := fun hn => by
  obtain ⟨b, o, h1, h2, h3⟩ := h (fun e => hn (by rw [e]; simp))
  refine ⟨b, o, h1, h2, fun i x hx => h3 i x ?_⟩
  rw [List.getElem?_take] at hx
  split at hx
  · exact hx
  · cases hx
theorem Fl.dropK {α : Type} {f : α → List Int} {sz : Nat} {w : World} {b o : Nat} {xs : List α} (h : Fl f sz w (some ⟨b, o, none⟩) xs) (k : Nat) : Fl f sz w (some ⟨b, o + k * sz, none⟩) (xs.drop k) := fun hn => by
  obtain ⟨b', o', h1, h2, h3⟩ := h (fun e => hn (by rw [e]; simp))
  injection h1 with h1
  injection h1 with e1 e2 _
  subst e1 e2
  refine ⟨b, o + k * sz, rfl, h2, fun i x hx j v hv => ?_⟩
  rw [List.getElem?_drop] at hx
  have := h3 (k + i) x hx j v hv
  rwa [Nat.add_mul, ← Nat.add_assoc] at this
theorem alloc_drew_lt (w : World) (o : Obj) : w.heap.size < (w.alloc o).drew.heap.size := by
  have h : w.heap.size < (w.alloc o).heap.size := by simp
  exact h
theorem alloc_drew_cell (w : World) (cs : Array Value) (t : TypeId) (j : Nat) : (w.alloc (.cells cs t)).drew.cell? ⟨w.heap.size, j, none⟩ = cs[j]? := World.cell?_alloc_new w cs t j
theorem OwnG.ne_row {lo : Nat} {e et : TypeId} {w : World} {ys : List (GV Nest)} {g n c k : Nat} {y : GV Nest} (h : OwnG hdN Nest.l 3 lo e et w (.slice (some ⟨g, 0, none⟩) n c) ys) (hy : ys[k]? = some y) (hee : e ≠ et) (n' m' : Nat) : some g ≠ (Value.slice y.A n' m').ownBlock := by
  have h1 := (h.inn k y hy).blk_ne h.out hee
  intro he
  have h2 : (Value.slice y.A n' m').ownBlock = (Value.slice y.A (Nest.l y.x).length y.d).ownBlock := by cases y.A <;> rfl
  rw [h2] at he
  rcases h1 with h1 | h1
  · rw [h1] at he; cases he
  · exact h1 he.symm
theorem OwnF.low {lo : Nat} {et : TypeId} {w : World} {A : Option Addr} {n d : Nat} {l : List Int} (h : OwnF one 1 lo et w (.slice A n d) l) (n' m' : Nat) : ∀ q, (Value.slice A n' m').ownBlock = some q → lo ≤ q := fun q hq => by
  rcases h.base with h | ⟨g, h, h2, _⟩
  · rw [h] at hq; cases hq
  · rw [h] at hq; simp [Value.ownBlock] at hq; omega
end Go.Proofs.YtbnlbcbdhmmlgaaGreatDoor
