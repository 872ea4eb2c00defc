/- Legs: the reference's way of one leg (under way). -/
import Derived.Test.YtlkojpmhniokfaaLegT
import Derived.Test.YtlkojpmhniokfaaLegE
namespace Go.Proofs.Ytlkojpmhniokfaa
open Go.RowKit
set_option linter.unusedVariables false
set_option linter.unusedSimpArgs false

noncomputable def walkF (wide high : Int) (bars : List Four) (a b : Int) : Nat → Int → Int → Int
  | 0, _, _ => 0
  | u + 1, e, n => if stepF wide high bars e n a b = 0 then walkF wide high bars a b u (e + a) (n + b) else stepF wide high bars e n a b
theorem walkF_go {wide high : Int} {bars : List Four} {a b e n : Int} {u : Nat} (h : stepF wide high bars e n a b = 0) : walkF wide high bars a b (u + 1) e n = walkF wide high bars a b u (e + a) (n + b) := by rw [walkF, if_pos h]
theorem walkF_stop {wide high : Int} {bars : List Four} {a b e n r : Int} {u : Nat} (h : stepF wide high bars e n a b = r) (hr : r ≠ 0) : walkF wide high bars a b (u + 1) e n = r := by rw [walkF, h, if_neg hr]
set_option maxHeartbeats 4000000 in
set_option maxRecDepth 100000 in
theorem l16Walk_any (wide high steep e0' n0' : Int) (x : Leg) (A : Option Addr) (c : Nat) (xs : List Four) (w : World) (hn : xs.length ≤ 1048576) (hA : Fl Four.ints 4 w A xs) (hw : 1 ≤ wide ∧ wide ≤ 2000) (hh : 1 ≤ high ∧ high ≤ 2000)
    (hl : IsLeg x) (he : 0 ≤ e0' ∧ e0' ≤ 2000) (hnn : 0 ≤ n0' ∧ n0' ≤ 2000) :
    Calls Try.prog 57 #[.agg #[.int .i64 wide, .int .i64 high, .slice A xs.length c, .int .i64 steep], .int .i64 e0', .int .i64 n0', .agg #[.int .i64 x.way, .int .i64 x.units, .int .i64 x.climb]] w fun r w' =>
      r = .returned (.int .i64 (walkF wide high xs (stepE x.way) (stepN x.way) x.units.toNat e0' n0')) ∧ Below w.heap.size w w' := by
  obtain ⟨U0, hU0, hD0, hz0, hcu, _⟩ := box_world w #[Value.int .i64 wide, .int .i64 high, .slice A xs.length c, .int .i64 steep] 26
  obtain ⟨V0, hV0, hC0, hy0, hv, _⟩ := box_world U0 #[Value.int .i64 x.way, .int .i64 x.units, .int .i64 x.climb] 65
  have hst0 := fun W => l15Step_any x.way hl.1 W
  have hab := stepE_bd x.way
  have hbb := stepN_bd x.way
  obtain ⟨UU, hUU⟩ : ∃ UU : Nat, x.units = (UU : Int) := ⟨x.units.toNat, by unfold IsLeg at hl; omega⟩
  have hU9 : UU ≤ 999 := by unfold IsLeg at hl; omega
  have hut : x.units.toNat = UU := by omega
  rw [hut]
  generalize stepE x.way = a at hst0 hab ⊢
  generalize stepN x.way = b at hst0 hbb ⊢
  obtain ⟨ha1, ha2⟩ := hab
  obtain ⟨hb1', hb2'⟩ := hbb
  obtain ⟨he1, he2⟩ := he
  obtain ⟨hn1, hn2⟩ := hnn
  rw [hUU] at hV0 hv ⊢
  have hhas := fun e n W => l16In_any wide high steep e n (.slice A xs.length c) W hw hh rfl
  have hfr := fun e n W hW => l16Free_any wide high steep e n A c xs W (by omega) (Fl.ext hA hW) hw hh
  have hzz : w.heap.size < V0.heap.size := Nat.lt_of_lt_of_le hz0 hC0.size
  have HST0 := Lib.hid hst0
  generalize hm : xs.length = m at *
  have e0 : World.cell? V0 ⟨w.heap.size, 0, none⟩ = some (.int .i64 wide) := (hC0.cell (p := ⟨w.heap.size, 0, none⟩) hz0).trans (hcu 0)
  have e1 : World.cell? V0 ⟨w.heap.size, 1, none⟩ = some (.int .i64 high) := (hC0.cell (p := ⟨w.heap.size, 1, none⟩) hz0).trans (hcu 1)
  have e2 : World.cell? V0 ⟨w.heap.size, 2, none⟩ = some (.slice A m c) := (hC0.cell (p := ⟨w.heap.size, 2, none⟩) hz0).trans (hcu 2)
  have e3 : World.cell? V0 ⟨w.heap.size, 3, none⟩ = some (.int .i64 steep) := (hC0.cell (p := ⟨w.heap.size, 3, none⟩) hz0).trans (hcu 3)
  have v0 : World.cell? V0 ⟨U0.heap.size, 0, none⟩ = some (.int .i64 x.way) := hv 0
  have v1 : World.cell? V0 ⟨U0.heap.size, 1, none⟩ = some (.int .i64 (UU : Int)) := hv 1
  have HHAS := Lib.hid hhas
  have HFR := Lib.hid hfr
  have hbw := ext_trans hD0 hC0
  clear hst0 hhas hfr hcu hv hm hUU hut
  go_enter Try.func57, Try.ntmps57
  go_wp2_with fail
  refine (HST0.out V0).mono ?_
  rintro e w0 ⟨rfl, hb0⟩
  have r0 := (hb0.cell (p := ⟨w.heap.size, 0, none⟩) hzz).trans e0
  have r1 := (hb0.cell (p := ⟨w.heap.size, 1, none⟩) hzz).trans e1
  have r2 := (hb0.cell (p := ⟨w.heap.size, 2, none⟩) hzz).trans e2
  have r3 := (hb0.cell (p := ⟨w.heap.size, 3, none⟩) hzz).trans e3
  have rU := (hb0.cell (p := ⟨U0.heap.size, 1, none⟩) hy0).trans v1
  go_wp2
  go_loopw [1, 2, 11] (fun e' n' i wr => ∃ (k : Nat) (e n : Int), k ≤ UU ∧ i = .int .i64 k ∧ e' = .int .i64 e ∧ n' = .int .i64 n ∧ 0 ≤ e ∧ e ≤ 2000 ∧ 0 ≤ n ∧ n ≤ 2000 ∧ Below V0.heap.size V0 wr ∧ Hid (walkF wide high xs a b (UU - k) e n = walkF wide high xs a b UU e0' n0')) (fun _ _ i _ => UU - (intOf i).toNat)
  case atStart => exact ⟨0, e0', n0', by omega, rfl, rfl, rfl, he1, he2, hn1, hn2, hb0, rfl⟩
  case round =>
    obtain ⟨k, e, n, hk, rfl, rfl, rfl, hee1, hee2, hnn1, hnn2, hbr, hst⟩ := hrel
    have hbx := ext_trans hbw hbr
    have f0 := (hbr.cell (p := ⟨w.heap.size, 0, none⟩) hzz).trans e0
    have f1 := (hbr.cell (p := ⟨w.heap.size, 1, none⟩) hzz).trans e1
    have f2 := (hbr.cell (p := ⟨w.heap.size, 2, none⟩) hzz).trans e2
    have f3 := (hbr.cell (p := ⟨w.heap.size, 3, none⟩) hzz).trans e3
    have fU := (hbr.cell (p := ⟨U0.heap.size, 1, none⟩) hy0).trans v1
    by_cases hlt : k < UU
    · have huk : UU - k = (UU - k - 1) + 1 := by omega
      have HUK := Lib.hid huk
      clear huk
      have hBl : Blocked wide high xs e n a b ↔ (¬ OpenSq wide high xs (e + a) (n + b) ∨ (a ≠ 0 ∧ b ≠ 0 ∧ ¬ OpenSq wide high xs (e + a) n ∧ ¬ OpenSq wide high xs e (n + b))) := Iff.rfl
      have HBL := Lib.hid hBl
      clear hBl
      have hk0 : (0 : Int) ≤ (k : Int) := by omega
      have hk1 : (k : Int) < (UU : Int) := by omega
      go_wp2_with fail
      refine (HHAS.out (e + a) (n + b) wr).mono ?_
      rintro e w1 ⟨rfl, hb1⟩
      have hx1 := ext_trans hbx hb1
      have g0 := ((ext_trans hbr hb1).cell (p := ⟨w.heap.size, 0, none⟩) hzz).trans e0
      have g1 := ((ext_trans hbr hb1).cell (p := ⟨w.heap.size, 1, none⟩) hzz).trans e1
      have g2 := ((ext_trans hbr hb1).cell (p := ⟨w.heap.size, 2, none⟩) hzz).trans e2
      have g3 := ((ext_trans hbr hb1).cell (p := ⟨w.heap.size, 3, none⟩) hzz).trans e3
      have gU := ((ext_trans hbr hb1).cell (p := ⟨U0.heap.size, 1, none⟩) hy0).trans v1
      by_cases h1 : InLand wide high (e + a) (n + b)
      · rw [tb_t h1]
        have hi := h1
        unfold InLand at hi
        have H1 := Lib.hid h1
        clear h1
        obtain ⟨i1, i2, i3, i4⟩ := hi
        go_wp2_with fail
        refine (HFR.out (e + a) (n + b) w1 hx1).mono ?_
        rintro e w2 ⟨rfl, hb2⟩
        have hx2 := ext_trans hx1 hb2
        have k0 := ((ext_trans (ext_trans hbr hb1) hb2).cell (p := ⟨w.heap.size, 0, none⟩) hzz).trans e0
        have k1 := ((ext_trans (ext_trans hbr hb1) hb2).cell (p := ⟨w.heap.size, 1, none⟩) hzz).trans e1
        have k2 := ((ext_trans (ext_trans hbr hb1) hb2).cell (p := ⟨w.heap.size, 2, none⟩) hzz).trans e2
        have k3 := ((ext_trans (ext_trans hbr hb1) hb2).cell (p := ⟨w.heap.size, 3, none⟩) hzz).trans e3
        have kU := ((ext_trans (ext_trans hbr hb1) hb2).cell (p := ⟨U0.heap.size, 1, none⟩) hy0).trans v1
        by_cases h2 : OpenSq wide high xs (e + a) (n + b)
        · rw [tb_t h2]
          have H2 := Lib.hid h2
          clear h2
          by_cases ha0 : a = 0
          · have HN : Hid (¬ Blocked wide high xs e n a b) := fun h => (HBL.out.1 h).elim (fun q => q H2.out) (fun q => q.1 ha0)
            have hs0 := stepF_ok H1.out HN.out
            have HS0 := Lib.hid hs0
            clear hs0
            have en1 : (a != 0) = false := by simp [ha0]
            have HA0 := Lib.hid ha0
            clear ha0
            go_wp2
            go_roundw
            case rel => exact ⟨k + 1, e + a, n + b, by omega, by go_num, rfl, rfl, by omega, by omega, by omega, by omega, (ext_trans (ext_trans hbr hb1) hb2), by have h := hst.out; rw [HUK.out, walkF_go (HS0.out)] at h; rw [show UU - (k + 1) = UU - k - 1 from by omega]; exact h⟩
            case measure => simp [intOf]; omega
          · by_cases hb0' : b = 0
            · have HN : Hid (¬ Blocked wide high xs e n a b) := fun h => (HBL.out.1 h).elim (fun q => q H2.out) (fun q => q.2.1 hb0')
              have hs0 := stepF_ok H1.out HN.out
              have HS0 := Lib.hid hs0
              clear hs0
              have en1 : (a != 0) = true := bne_iff_ne.2 ha0
              have en2 : (b != 0) = false := by simp [hb0']
              have HB0 := Lib.hid hb0'
              clear hb0'
              go_wp2
              go_roundw
              case rel => exact ⟨k + 1, e + a, n + b, by omega, by go_num, rfl, rfl, by omega, by omega, by omega, by omega, (ext_trans (ext_trans hbr hb1) hb2), by have h := hst.out; rw [HUK.out, walkF_go (HS0.out)] at h; rw [show UU - (k + 1) = UU - k - 1 from by omega]; exact h⟩
              case measure => simp [intOf]; omega
            · have en1 : (a != 0) = true := bne_iff_ne.2 ha0
              have en2 : (b != 0) = true := bne_iff_ne.2 hb0'
              have HA0 := Lib.hid ha0
              have HB0 := Lib.hid hb0'
              go_wp2_with fail
              refine (HFR.out (e + a) n w2 hx2).mono ?_
              rintro e w3 ⟨rfl, hb3⟩
              have hx3 := ext_trans hx2 hb3
              have l0 := ((ext_trans (ext_trans (ext_trans hbr hb1) hb2) hb3).cell (p := ⟨w.heap.size, 0, none⟩) hzz).trans e0
              have l1 := ((ext_trans (ext_trans (ext_trans hbr hb1) hb2) hb3).cell (p := ⟨w.heap.size, 1, none⟩) hzz).trans e1
              have l2 := ((ext_trans (ext_trans (ext_trans hbr hb1) hb2) hb3).cell (p := ⟨w.heap.size, 2, none⟩) hzz).trans e2
              have l3 := ((ext_trans (ext_trans (ext_trans hbr hb1) hb2) hb3).cell (p := ⟨w.heap.size, 3, none⟩) hzz).trans e3
              have lU := ((ext_trans (ext_trans (ext_trans hbr hb1) hb2) hb3).cell (p := ⟨U0.heap.size, 1, none⟩) hy0).trans v1
              by_cases h3 : OpenSq wide high xs (e + a) n
              · rw [tb_t h3]
                have HN : Hid (¬ Blocked wide high xs e n a b) := fun h => (HBL.out.1 h).elim (fun q => q H2.out) (fun q => q.2.2.1 h3)
                have hs0 := stepF_ok H1.out HN.out
                have HS0 := Lib.hid hs0
                clear hs0 h3
                go_wp2
                go_roundw
                case rel => exact ⟨k + 1, e + a, n + b, by omega, by go_num, rfl, rfl, by omega, by omega, by omega, by omega, (ext_trans (ext_trans (ext_trans hbr hb1) hb2) hb3), by have h := hst.out; rw [HUK.out, walkF_go (HS0.out)] at h; rw [show UU - (k + 1) = UU - k - 1 from by omega]; exact h⟩
                case measure => simp [intOf]; omega
              · rw [tb_f h3]
                have H3 := Lib.hid h3
                clear h3
                go_wp2_with fail
                refine (HFR.out e (n + b) w3 hx3).mono ?_
                rintro e w4 ⟨rfl, hb4⟩
                have hx4 := ext_trans hx3 hb4
                have m0 := ((ext_trans (ext_trans (ext_trans (ext_trans hbr hb1) hb2) hb3) hb4).cell (p := ⟨w.heap.size, 0, none⟩) hzz).trans e0
                have m1 := ((ext_trans (ext_trans (ext_trans (ext_trans hbr hb1) hb2) hb3) hb4).cell (p := ⟨w.heap.size, 1, none⟩) hzz).trans e1
                have m2 := ((ext_trans (ext_trans (ext_trans (ext_trans hbr hb1) hb2) hb3) hb4).cell (p := ⟨w.heap.size, 2, none⟩) hzz).trans e2
                have m3 := ((ext_trans (ext_trans (ext_trans (ext_trans hbr hb1) hb2) hb3) hb4).cell (p := ⟨w.heap.size, 3, none⟩) hzz).trans e3
                have mU := ((ext_trans (ext_trans (ext_trans (ext_trans hbr hb1) hb2) hb3) hb4).cell (p := ⟨U0.heap.size, 1, none⟩) hy0).trans v1
                by_cases h4 : OpenSq wide high xs e (n + b)
                · rw [tb_t h4]
                  have HN : Hid (¬ Blocked wide high xs e n a b) := fun h => (HBL.out.1 h).elim (fun q => q H2.out) (fun q => q.2.2.2 h4)
                  have hs0 := stepF_ok H1.out HN.out
                  have HS0 := Lib.hid hs0
                  clear hs0 h4
                  go_wp2
                  go_roundw
                  case rel => exact ⟨k + 1, e + a, n + b, by omega, by go_num, rfl, rfl, by omega, by omega, by omega, by omega, (ext_trans (ext_trans (ext_trans (ext_trans hbr hb1) hb2) hb3) hb4), by have h := hst.out; rw [HUK.out, walkF_go (HS0.out)] at h; rw [show UU - (k + 1) = UU - k - 1 from by omega]; exact h⟩
                  case measure => simp [intOf]; omega
                · rw [tb_f h4]
                  have HY : Hid (Blocked wide high xs e n a b) := HBL.out.2 (.inr ⟨HA0.out, HB0.out, H3.out, h4⟩)
                  clear h4
                  go_wp2
                  go_ret
                  exact ⟨ret_int (by rw [← hst.out, HUK.out]; exact (walkF_stop (stepF_bar H1.out HY.out) (by decide)).symm), hx4⟩
        · rw [tb_f h2]
          have HY : Hid (Blocked wide high xs e n a b) := HBL.out.2 (.inl h2)
          clear h2
          go_wp2
          go_ret
          exact ⟨ret_int (by rw [← hst.out, HUK.out]; exact (walkF_stop (stepF_bar H1.out HY.out) (by decide)).symm), hx2⟩
      · rw [tb_f h1]
        have H1 := Lib.hid h1
        clear h1
        go_wp2
        go_ret
        exact ⟨ret_int (by rw [← hst.out, HUK.out]; exact (walkF_stop (stepF_out H1.out) (by decide)).symm), hx1⟩
    · have hkn : k = UU := by omega
      subst hkn
      go_wp2
      go_ret
      exact ⟨ret_int (by rw [← hst.out, Nat.sub_self]; rfl), hbx⟩
end Go.Proofs.Ytlkojpmhniokfaa
