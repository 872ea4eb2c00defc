/- A sheet that comes back: the program's side. No condition. -/
import Derived.Test.YtpmhbkfcddbenaaRetD
import Derived.Test.YtpmhbkfcddbenaaLoanI
import Derived.Test.YtpmhbkfcddbenaaWithin
namespace Go.Proofs.Ytpmhbkfcddbenaa
open Go.RowKit
set_option linter.unusedVariables false
set_option linter.unusedSimpArgs false

set_option maxHeartbeats 1000000 in
set_option maxRecDepth 100000 in
theorem returnSheet_any (A : Option Addr) (c : Nat) (xs : List Loan) (s day : Int) (w : World) (hn : xs.length ≤ 1048576) (hcap : xs.length ≤ c) (hcm : c ≤ 9223372036854775807) (hA : Fl Loan.ints 5 w A xs) :
    Calls Try.prog 13 #[.slice A xs.length c, .int .i64 s, .int .i64 day] w (RetLIC Loan.ints 5 w (sel (RtOk xs s day) (retL s day xs)) (seli (RtOk xs s day) (retF s day xs)) (tb (RtOk xs s day))) := by
  have hare := fun W hW => areLoans_any A c xs W hn hcap hcm (Fl.ext hA hW)
  have hclo := fun W hW => cloneLoan_any A c xs W (by omega) (Fl.ext hA hW)
  have hix := lentAt_any A c xs s w (by omega) hA
  obtain ⟨r, hr⟩ : ∃ r, idxB (opB s) 0 xs = r := ⟨_, rfl⟩
  rw [hr] at hix
  obtain ⟨n, hnn⟩ : ∃ n, n = List.length xs := ⟨_, rfl⟩
  rw [← hnn] at hare hclo hix hn hcap ⊢
  have hN := Lib.hid hnn
  have HA := Lib.hid hare
  have HC := Lib.hid hclo
  have HIX := Lib.hid hix
  have HR := Lib.hid hr
  clear hare hclo hix hnn hr
  go_enter Try.func13, Try.ntmps13
  go_wp2_with fail
  refine (HIX.out).mono ?_
  rintro e w0 ⟨rfl, hb00⟩
  go_wp2_with fail
  refine (HA.out _ (hb00)).mono ?_
  rintro e w1 ⟨rfl, hb1⟩
  by_cases h1 : Lns xs
  · rw [tb_t h1]
    have H1 := Lib.hid h1
    clear h1
    by_cases h2 : 0 ≤ r
    · have hr0 : ¬ r < 0 := by omega
      by_cases h3 : 0 ≤ day ∧ day ≤ 4000
      · go_wp2_with fail
        refine (isDay_t day _ h3).mono ?_
        rintro e w9 ⟨rfl, rfl⟩
        have HO : Hid (Lns xs ∧ 0 ≤ r ∧ (0 ≤ day ∧ day ≤ 4000)) := ⟨H1.out, h2, h3⟩
        obtain ⟨k, x, hk, hx, _⟩ := idx_at HR.out HO.out.2.1
        subst hk
        have hkl : k < n := by rw [hN.out]; exact lt_of_get hx
        have hkn : (0 : Int) ≤ (k : Int) := by omega
        have hkm : (k : Int) < (n : Int) := by omega
        have hn15 : n ≤ 15 := by have := HO.out.1.2; rw [← hN.out] at this; exact this
        have hday := HO.out.2.2
        have HX := Lib.hid hx
        obtain ⟨y, hy⟩ : ∃ y, y = setBack day x := ⟨_, rfl⟩
        have HY := Lib.hid hy
        clear hx hr0
        go_wp2_with fail
        refine (HC.out _ (ext_trans hb00 hb1)).mono ?_
        rintro e w3 ⟨B3, d3, rfl, hown3, hb3⟩
        have hown3 := OwnF.from_ (lo' := w.heap.size) hown3 ((ext_trans hb00 hb1)).size
        have hc3 := hown3.capL
        have hx3 := ext_trans (ext_trans hb00 hb1) hb3
        obtain ⟨g, hBg, hg1, hg2, hfz, hcl⟩ := hown3.blkL HX.out
        subst hBg
        have hst := hown3.store1 (u := .int .i64 day) (x' := y) HX.out (by decide : 4 < 5) (by rw [hy]; rfl)
        have c4 : w3.cell? ⟨g, k * 5 + 4, none⟩ = some (.int .i64 x.back) := hcl 4 _ rfl
        have f4 := hfz (k * 5 + 4)
        obtain ⟨W4, hW4⟩ : ∃ W4, w3.setCell ⟨g, k * 5 + 4, none⟩ (.int .i64 day) = W4 := ⟨_, rfl⟩
        rw [hW4] at hst
        obtain ⟨hO4, hg4⟩ := hst
        have hx4 := hx3.grown hg4 hx3.size (fun q hq => by injection hq with hq; omega)
        obtain ⟨ys, hys⟩ : ∃ ys, ys = xs.set k y := ⟨_, rfl⟩
        rw [← hys] at hO4
        clear hfz hcl hown3 hg4 hy
        have hyl : ys.length = n := by rw [hys, List.length_set, hN.out]
        have hare4 := areLoans_any (some ⟨g, 0, none⟩) d3 ys W4 (by omega) (by omega) hc3.2 hO4.floL.fl
        rw [hyl] at hare4
        have HYS := Lib.hid hys
        have HYL := Lib.hid hyl
        have HO4 := Lib.hid hO4
        have HAR4 := Lib.hid hare4
        clear hys hyl hO4 hare4
        go_wp2_with fail
        refine (HAR4.out).mono ?_
        rintro e w5 ⟨rfl, hb5⟩
        have hx5 := ext_trans hx4 hb5
        have hF5 := HO4.out.floL.ext hb5
        by_cases hz : Lns ys
        · rw [tb_t hz]
          have HZ := Lib.hid hz
          have hyy : ys[k]? = some y := by rw [HYS.out]; exact set_get HX.out
          have hylo := (hz.1 k y hyy).1
          clear hz
          try clear hW4
          have hc' := (HO4.out.floL.ext hb5).fl.get hyy
          have hc2 : ∀ j v, (Loan.ints y)[j]? = some v → w5.cell? ⟨g, k * 5 + j, none⟩ = some (.int .i64 v) := fun j v hj => by have := hc' j v hj; rwa [Nat.zero_add] at this
          have q0 : World.cell? w5 ⟨g, k * 5, none⟩ = some (.int .i64 y.sheet) := hc2 0 _ rfl
          have q1 : World.cell? w5 ⟨g, k * 5 + 1, none⟩ = some (.int .i64 y.reader) := hc2 1 _ rfl
          have q2 : World.cell? w5 ⟨g, k * 5 + 2, none⟩ = some (.int .i64 y.out) := hc2 2 _ rfl
          have q3 : World.cell? w5 ⟨g, k * 5 + 3, none⟩ = some (.int .i64 y.due) := hc2 3 _ rfl
          have q4 : World.cell? w5 ⟨g, k * 5 + 4, none⟩ = some (.int .i64 y.back) := hc2 4 _ rfl
          have HFV := Lib.hid (fine_any y day w5 hylo hday)
          clear hc' hc2 hyy hylo
          go_wp2_with fail
          refine (HFV.out).mono ?_
          rintro e w6 ⟨rfl, hb6⟩
          go_wp2
          go_ret3
          have hre := ret_at (d := day) HR.out HX.out
          rw [← HY.out, ← HYS.out] at hre
          have hok : RtOk xs s day := ⟨⟨HO.out.1, by rw [HR.out]; omega, HO.out.2.2⟩, by rw [hre.1]; exact HZ.out⟩
          rw [sel_t hok, seli_t hok, tb_t hok, hre.1, hre.2]
          exact ⟨some ⟨g, 0, none⟩, d3, by rw [HYL.out]; rfl, by rw [HYL.out]; exact hc3, (hF5.ext hb6).mono (Nat.le_refl _) (Nat.le_trans hb5.size hb6.size), ext_trans hx5 hb6⟩
        · rw [tb_f hz]
          have HZ := Lib.hid hz
          clear hz
          go_wp2
          go_ret3
          have hre := ret_at (d := day) HR.out HX.out
          rw [← HY.out, ← HYS.out] at hre
          have hok : ¬ RtOk xs s day := fun h => HZ.out (by have := h.2; rwa [hre.1] at this)
          rw [sel_f hok, seli_f hok, tb_f hok]
          exact ⟨none, 0, rfl, ⟨by simp, by omega⟩, FlO.nil, hx5⟩
      · go_wp2_with fail
        refine (isDay_f day _ h3).mono ?_
        rintro e w9 ⟨rfl, rfl⟩
        go_wp2
        go_ret3
        have hok : ¬ (Lns xs ∧ 0 ≤ r ∧ (0 ≤ day ∧ day ≤ 4000)) := fun h => h3 h.2.2
        have hok2 : ¬ RtOk xs s day := fun h => hok (by have := h.1; rwa [HR.out] at this)
        rw [sel_f hok2, seli_f hok2, tb_f hok2]
        exact ⟨none, 0, rfl, ⟨by simp, by omega⟩, FlO.nil, (ext_trans hb00 hb1)⟩
    · have hr0 : r < 0 := by omega
      go_wp2
      go_ret3
      have hok : ¬ (Lns xs ∧ 0 ≤ r ∧ (0 ≤ day ∧ day ≤ 4000)) := fun h => (fun (q : 0 ≤ r) => (by omega : False)) h.2.1
      have hok2 : ¬ RtOk xs s day := fun h => hok (by have := h.1; rwa [HR.out] at this)
      rw [sel_f hok2, seli_f hok2, tb_f hok2]
      exact ⟨none, 0, rfl, ⟨by simp, by omega⟩, FlO.nil, (ext_trans hb00 hb1)⟩
  · rw [tb_f h1]
    have H1 := Lib.hid h1
    clear h1
    go_wp2
    go_ret3
    have hok : ¬ (Lns xs ∧ 0 ≤ r ∧ (0 ≤ day ∧ day ≤ 4000)) := fun h => H1.out h.1
    have hok2 : ¬ RtOk xs s day := fun h => hok (by have := h.1; rwa [HR.out] at this)
    rw [sel_f hok2, seli_f hok2, tb_f hok2]
    exact ⟨none, 0, rfl, ⟨by simp, by omega⟩, FlO.nil, (ext_trans hb00 hb1)⟩
end Go.Proofs.Ytpmhbkfcddbenaa
