/- A loan prolonged: the program's side. A loan prolonged: the reference's side. No condition. -/
import Derived.Test.YtnikeelpcokffaaDoorPrlD
import Derived.Test.YtnikeelpcokffaaDoorLoanI
import Derived.Test.YtnikeelpcokffaaDoorWithin
import Derived.Test.YtnikeelpcokffaaDoorLoanS
namespace Go.Proofs.YtnikeelpcokffaaDoor
open Go.RowKit
set_option linter.unusedVariables false
set_option linter.unusedSimpArgs false

set_option maxHeartbeats 1000000 in
set_option maxRecDepth 100000 in
theorem prolongLoan_any (A : Option Addr) (c : Nat) (xs : List Loan) (s day days : Int) (w : World) (hn : xs.length ≤ 1048576) (hcap : xs.length ≤ c) (hcm : c ≤ 9223372036854775807) (hA : Fl Loan.ints 5 w A xs) :
    Calls Tryd.prog 11 #[.slice A xs.length c, .int .i64 s, .int .i64 day, .int .i64 days] w (RetLC Loan.ints 5 w (sel (PrOk xs s day days) (prlL s days xs)) (tb (PrOk xs s day days))) := by
  have hare := fun W hW => areLoans_any A c xs W hn hcap hcm (Fl.ext hA hW)
  have hclo := fun W hW => cloneLoan_any A c xs W (by omega) (Fl.ext hA hW)
  have hix := lentAt_any A c xs s w (by omega) hA
  obtain ⟨r, hr⟩ : ∃ r, idxB (opB s) 0 xs = r := ⟨_, rfl⟩
  rw [hr] at hix
  obtain ⟨n, hnn⟩ : ∃ n, n = List.length xs := ⟨_, rfl⟩
  rw [← hnn] at hare hclo hix hn hcap ⊢
  have hN := Lib.hid hnn
  have HA := Lib.hid hare
  have HC := Lib.hid hclo
  have HIX := Lib.hid hix
  have HR := Lib.hid hr
  clear hare hclo hix hnn hr
  go_enter Tryd.func11, Tryd.ntmps11
  go_wp2_with fail
  refine (HIX.out).mono ?_
  rintro e w0 ⟨rfl, hb00⟩
  go_wp2_with fail
  refine (HA.out _ (hb00)).mono ?_
  rintro e w1 ⟨rfl, hb1⟩
  by_cases h1 : Lns xs
  · rw [tb_t h1]
    have H1 := Lib.hid h1
    clear h1
    by_cases h2 : 0 ≤ r
    · have hr0 : ¬ r < 0 := by omega
      by_cases h3 : 0 ≤ day ∧ day ≤ 4000
      · go_wp2_with fail
        refine (isDay_t day _ h3).mono ?_
        rintro e w9 ⟨rfl, rfl⟩
        by_cases h4 : 1 ≤ days ∧ days ≤ 60
        · go_wp2_with fail
          refine (within_t days 1 60 _ h4).mono ?_
          rintro e w9 ⟨rfl, rfl⟩
          have HO : Hid (Lns xs ∧ 0 ≤ r ∧ (0 ≤ day ∧ day ≤ 4000) ∧ (1 ≤ days ∧ days ≤ 60)) := ⟨H1.out, h2, h3, h4⟩
          obtain ⟨k, x, hk, hx, hp⟩ := idx_at HR.out HO.out.2.1
          subst hk
          have hkl : k < n := by rw [hN.out]; exact lt_of_get hx
          have hkn : (0 : Int) ≤ (k : Int) := by omega
          have hkm : (k : Int) < (n : Int) := by omega
          have hn15 : n ≤ 15 := by have := HO.out.1.2; rw [← hN.out] at this; exact this
          have hday := HO.out.2.2.1
          have hds := HO.out.2.2.2
          have HX := Lib.hid hx
          have hlo := (HO.out.1.1 k x hx).1
          have hbk : x.back = -1 := by unfold opB at hp; exact (of_decide_eq_true hp).2
          have hlt : Late day x ↔ x.out ≤ day ∧ x.due < day := by unfold Late; omega
          have hdu : 0 ≤ x.due ∧ x.due ≤ 4000 := hlo.2.2.2.1
          have hwd : IntKind.i64.wrap (x.due + days) = x.due + days := IntWalk.i64_in _ (by omega)
          obtain ⟨y, hy⟩ : ∃ y, y = setDue days x := ⟨_, rfl⟩
          have HY := Lib.hid hy
          have HLT := Lib.hid hlt
          obtain ⟨x', bx, ox, hx', hAe, hbx, hcx⟩ := (hA.ext (ext_trans hb00 hb1)).at_ (k := k) (by rw [← hN.out]; exact hkl)
          rw [HX.out] at hx'
          cases hx'
          subst hAe
          have c0 : World.cell? w1 ⟨bx, ox + k * 5, none⟩ = some (.int .i64 x.sheet) := hcx 0 _ rfl
          have c1 : World.cell? w1 ⟨bx, ox + k * 5 + 1, none⟩ = some (.int .i64 x.reader) := hcx 1 _ rfl
          have c2 : World.cell? w1 ⟨bx, ox + k * 5 + 2, none⟩ = some (.int .i64 x.out) := hcx 2 _ rfl
          have c3 : World.cell? w1 ⟨bx, ox + k * 5 + 3, none⟩ = some (.int .i64 x.due) := hcx 3 _ rfl
          have c4 : World.cell? w1 ⟨bx, ox + k * 5 + 4, none⟩ = some (.int .i64 x.back) := hcx 4 _ rfl
          have HCX := Lib.hid hcx
          clear hx hr0 hp hlo hbk hlt hcx
          go_wp2_with fail
          refine (isLate_any x day _).mono ?_
          rintro e w2 ⟨rfl, hb2⟩
          have hx2 := ext_trans (ext_trans hb00 hb1) hb2
          by_cases hl : Late day x
          · rw [tb_t hl]
            have hok2 : ¬ PrOk xs s day days := fun h => by
              have h1 := (prl_at (d := days) HR.out HX.out).2.1 h.2.1
              have h2 := HLT.out.1 hl
              omega
            have HN := Lib.hid hok2
            clear hl hok2
            go_wp2
            go_ret2
            rw [sel_f HN.out, tb_f HN.out]
            exact ⟨none, 0, rfl, ⟨by simp, by omega⟩, FlO.nil, hx2⟩
          · rw [tb_f hl]
            have e2 : World.cell? w2 ⟨bx, ox + k * 5 + 2, none⟩ = some (.int .i64 x.out) := (hb2.cell (p := ⟨bx, _, none⟩) hbx).trans c2
            have hbx2 := Nat.lt_of_lt_of_le hbx hb2.size
            clear c0 c1 c2 c3 c4
            by_cases ho : x.out ≤ day
            · have HDO := Lib.hid (show day ≤ x.due ∧ x.out ≤ day from ⟨by have h9 : ¬ (x.out ≤ day ∧ x.due < day) := fun h => hl (HLT.out.2 h); omega, ho⟩)
              have hog : ¬ day < x.out := by omega
              clear hl
              go_wp2_with fail
              refine (HC.out _ hx2).mono ?_
              rintro e w3 ⟨B3, d3, rfl, hown3, hb3⟩
              have hown3 := OwnF.from_ (lo' := w.heap.size) hown3 (hx2).size
              have hc3 := hown3.capL
              have hx3 := ext_trans hx2 hb3
              obtain ⟨g, hBg, hg1, hg2, hfz, hcl⟩ := hown3.blkL HX.out
              subst hBg
              have hst := hown3.store1 (u := .int .i64 (x.due + days)) (x' := y) HX.out (by decide : 3 < 5) (by rw [hy]; rfl)
              have q3 : w3.cell? ⟨g, k * 5 + 3, none⟩ = some (.int .i64 x.due) := hcl 3 _ rfl
              have f3 := hfz (k * 5 + 3)
              obtain ⟨W4, hW4⟩ : ∃ W4, w3.setCell ⟨g, k * 5 + 3, none⟩ (.int .i64 (x.due + days)) = W4 := ⟨_, rfl⟩
              rw [hW4] at hst
              obtain ⟨hO4, hg4⟩ := hst
              have hx4 := hx3.grown hg4 hx3.size (fun q hq => by injection hq with hq; omega)
              obtain ⟨ys, hys⟩ : ∃ ys, ys = xs.set k y := ⟨_, rfl⟩
              rw [← hys] at hO4
              clear hfz hcl hown3 hg4 hy
              have hyl : ys.length = n := by rw [hys, List.length_set, hN.out]
              have hare4 := areLoans_any (some ⟨g, 0, none⟩) d3 ys W4 (by omega) (by omega) hc3.2 hO4.floL.fl
              rw [hyl] at hare4
              have HYS := Lib.hid hys
              have HYL := Lib.hid hyl
              have HO4 := Lib.hid hO4
              have HAR4 := Lib.hid hare4
              clear hys hyl hO4 hare4
              go_wp2_with fail
              refine (HAR4.out).mono ?_
              rintro e w5 ⟨rfl, hb5⟩
              have hx5 := ext_trans hx4 hb5
              have hF5 := HO4.out.floL.ext hb5
              by_cases hz : Lns ys
              · rw [tb_t hz]
                have HZ := Lib.hid hz
                clear hz
                go_wp2
                go_ret2
                have hre := @prl_at s days day _ _ _ HR.out HX.out
                rw [← HY.out, ← HYS.out] at hre
                have hok : PrOk xs s day days := ⟨⟨HO.out.1, by rw [HR.out]; omega, HO.out.2.2⟩, hre.2.2 HDO.out, by rw [hre.1]; exact HZ.out⟩
                rw [sel_t hok, tb_t hok, hre.1]
                exact ⟨some ⟨g, 0, none⟩, d3, by rw [HYL.out]; rfl, by rw [HYL.out]; exact hc3, hF5.mono (Nat.le_refl _) hb5.size, hx5⟩
              · rw [tb_f hz]
                have HZ := Lib.hid hz
                clear hz
                go_wp2
                go_ret2
                have hre := @prl_at s days day _ _ _ HR.out HX.out
                rw [← HY.out, ← HYS.out] at hre
                have hok : ¬ PrOk xs s day days := fun h => HZ.out (by have := h.2.2; rwa [hre.1] at this)
                rw [sel_f hok, tb_f hok]
                exact ⟨none, 0, rfl, ⟨by simp, by omega⟩, FlO.nil, hx5⟩
            · have hog : day < x.out := by omega
              have hok2 : ¬ PrOk xs s day days := fun h => by
                have h1 := (prl_at (d := days) HR.out HX.out).2.1 h.2.1
                omega
              have HN := Lib.hid hok2
              clear hok2 hl
              go_wp2
              go_ret2
              rw [sel_f HN.out, tb_f HN.out]
              exact ⟨none, 0, rfl, ⟨by simp, by omega⟩, FlO.nil, hx2⟩
        · go_wp2_with fail
          refine (within_f days 1 60 _ h4).mono ?_
          rintro e w9 ⟨rfl, rfl⟩
          go_wp2
          go_ret2
          have hok : ¬ (Lns xs ∧ 0 ≤ r ∧ (0 ≤ day ∧ day ≤ 4000) ∧ (1 ≤ days ∧ days ≤ 60)) := fun h => h4 h.2.2.2
          have hok2 : ¬ PrOk xs s day days := fun h => hok (by have := h.1; rwa [HR.out] at this)
          rw [sel_f hok2, tb_f hok2]
          exact ⟨none, 0, rfl, ⟨by simp, by omega⟩, FlO.nil, (ext_trans hb00 hb1)⟩
      · go_wp2_with fail
        refine (isDay_f day _ h3).mono ?_
        rintro e w9 ⟨rfl, rfl⟩
        go_wp2
        go_ret2
        have hok : ¬ (Lns xs ∧ 0 ≤ r ∧ (0 ≤ day ∧ day ≤ 4000) ∧ (1 ≤ days ∧ days ≤ 60)) := fun h => h3 h.2.2.1
        have hok2 : ¬ PrOk xs s day days := fun h => hok (by have := h.1; rwa [HR.out] at this)
        rw [sel_f hok2, tb_f hok2]
        exact ⟨none, 0, rfl, ⟨by simp, by omega⟩, FlO.nil, (ext_trans hb00 hb1)⟩
    · have hr0 : r < 0 := by omega
      go_wp2
      go_ret2
      have hok : ¬ (Lns xs ∧ 0 ≤ r ∧ (0 ≤ day ∧ day ≤ 4000) ∧ (1 ≤ days ∧ days ≤ 60)) := fun h => (fun (q : 0 ≤ r) => (by omega : False)) h.2.1
      have hok2 : ¬ PrOk xs s day days := fun h => hok (by have := h.1; rwa [HR.out] at this)
      rw [sel_f hok2, tb_f hok2]
      exact ⟨none, 0, rfl, ⟨by simp, by omega⟩, FlO.nil, (ext_trans hb00 hb1)⟩
  · rw [tb_f h1]
    have H1 := Lib.hid h1
    clear h1
    go_wp2
    go_ret2
    have hok : ¬ (Lns xs ∧ 0 ≤ r ∧ (0 ≤ day ∧ day ≤ 4000) ∧ (1 ≤ days ∧ days ≤ 60)) := fun h => H1.out h.1
    have hok2 : ¬ PrOk xs s day days := fun h => hok (by have := h.1; rwa [HR.out] at this)
    rw [sel_f hok2, tb_f hok2]
    exact ⟨none, 0, rfl, ⟨by simp, by omega⟩, FlO.nil, (ext_trans hb00 hb1)⟩
end Go.Proofs.YtnikeelpcokffaaDoor
namespace Go.Proofs.YtnikeelpcokffaaDoor
open Go.RowKit
set_option linter.unusedVariables false
set_option linter.unusedSimpArgs false


set_option maxHeartbeats 400000 in
theorem l11Days_any (n : Int) (w : World) :
    Calls Tryd.prog 47 #[.int .i64 n] w fun e w' => e = .returned (.bool (tb (1 ≤ n ∧ n ≤ 60))) ∧ w = w' := by
  go_enter Tryd.func47, Tryd.ntmps47
  go_wp2
  all_goals
    go_ret
    refine ⟨ret_bool ?_, rfl⟩
    first | exact (tb_t (by omega)).symm | exact (tb_f (by omega)).symm | exact tb_dec (by omega)
theorem l11Days_t (n : Int) (w : World) (h : 1 ≤ n ∧ n ≤ 60) :
    Calls Tryd.prog 47 #[.int .i64 n] w fun e w' => e = .returned (.bool true) ∧ w = w' := by
  have := l11Days_any n w; rwa [tb_t h] at this
theorem l11Days_f (n : Int) (w : World) (h : ¬ (1 ≤ n ∧ n ≤ 60)) :
    Calls Tryd.prog 47 #[.int .i64 n] w fun e w' => e = .returned (.bool false) ∧ w = w' := by
  have := l11Days_any n w; rwa [tb_f h] at this
set_option maxHeartbeats 1000000 in
set_option maxRecDepth 100000 in
theorem specProlongLoan_any (A : Option Addr) (c : Nat) (xs : List Loan) (s day days : Int) (w : World) (hn : xs.length ≤ 1048576) (hcap : xs.length ≤ c) (hcm : c ≤ 9223372036854775807) (hA : Fl Loan.ints 5 w A xs) :
    Calls Tryd.prog 12 #[.slice A xs.length c, .int .i64 s, .int .i64 day, .int .i64 days] w (RetLC Loan.ints 5 w (sel (PrOk xs s day days) (prlL s days xs)) (tb (PrOk xs s day days))) := by
  obtain ⟨i0, hi, hz0, hz1, hz2⟩ := info_parts infoLoan
  have hare := fun W hW => l11Good_any A c xs W hn hcap hcm (Fl.ext hA hW)
  have hix := l11Open_any A c xs s w (by omega) hA
  obtain ⟨r, hr⟩ : ∃ r, idxB (opS s) 0 xs = r := ⟨_, rfl⟩
  rw [hr] at hix
  obtain ⟨n, hnn⟩ : ∃ n, n = List.length xs := ⟨_, rfl⟩
  rw [← hnn] at hare hix hn hcap ⊢
  have hN := Lib.hid hnn
  have HA := Lib.hid hare
  have HIX := Lib.hid hix
  have HRS := Lib.hid hr
  clear hare hix hnn hr
  go_enter Tryd.func12, Tryd.ntmps12
  go_wp2_with fail
  refine (HIX.out).mono ?_
  rintro e w0 ⟨rfl, rfl⟩
  go_wp2_with fail
  refine (HA.out _ (Below.refl _ _)).mono ?_
  rintro e w1 ⟨rfl, hb1⟩
  by_cases h1 : Lns xs
  · rw [tb_t h1]
    have H1 := Lib.hid h1
    clear h1
    by_cases h2 : 0 ≤ r
    · have hr0 : ¬ r < 0 := by omega
      by_cases h3 : 0 ≤ day ∧ day ≤ 4000
      · go_wp2_with fail
        refine (l2Day_t day _ h3).mono ?_
        rintro e w9 ⟨rfl, rfl⟩
        by_cases h4 : 1 ≤ days ∧ days ≤ 60
        · go_wp2_with fail
          refine (l11Days_t days _ h4).mono ?_
          rintro e w9 ⟨rfl, rfl⟩
          have HO : Hid (Lns xs ∧ 0 ≤ r ∧ (0 ≤ day ∧ day ≤ 4000) ∧ (1 ≤ days ∧ days ≤ 60)) := ⟨H1.out, h2, h3, h4⟩
          have HR : Hid (idxB (opB s) 0 xs = r) := (opS_lns HO.out.1 s).symm.trans HRS.out
          obtain ⟨k, x, hk, hx, hp⟩ := idx_at HR.out HO.out.2.1
          subst hk
          have hkl : k < n := by rw [hN.out]; exact lt_of_get hx
          have hkn : (0 : Int) ≤ (k : Int) := by omega
          have hkm : (k : Int) < (n : Int) := by omega
          have hn15 : n ≤ 15 := by have := HO.out.1.2; rw [← hN.out] at this; exact this
          have hday := HO.out.2.2.1
          have hds := HO.out.2.2.2
          have HX := Lib.hid hx
          have hlo := (HO.out.1.1 k x hx).1
          have hdu : 0 ≤ x.due ∧ x.due ≤ 4000 := hlo.2.2.2.1
          have hwd : IntKind.i64.wrap (x.due + days) = x.due + days := IntWalk.i64_in _ (by omega)
          obtain ⟨y, hy⟩ : ∃ y, y = setDue days x := ⟨_, rfl⟩
          have HY := Lib.hid hy
          obtain ⟨x', bx, ox, hx', hAe, hbx, hcx⟩ := (hA.ext hb1).at_ (k := k) (by rw [← hN.out]; exact hkl)
          rw [HX.out] at hx'
          cases hx'
          subst hAe
          have c0 : World.cell? w1 ⟨bx, ox + k * 5, none⟩ = some (.int .i64 x.sheet) := hcx 0 _ rfl
          have c1 : World.cell? w1 ⟨bx, ox + k * 5 + 1, none⟩ = some (.int .i64 x.reader) := hcx 1 _ rfl
          have c2 : World.cell? w1 ⟨bx, ox + k * 5 + 2, none⟩ = some (.int .i64 x.out) := hcx 2 _ rfl
          have c3 : World.cell? w1 ⟨bx, ox + k * 5 + 3, none⟩ = some (.int .i64 x.due) := hcx 3 _ rfl
          have c4 : World.cell? w1 ⟨bx, ox + k * 5 + 4, none⟩ = some (.int .i64 x.back) := hcx 4 _ rfl
          clear hx hr0 hp hlo hcx
          by_cases hl : x.due < day
          · have hok2 : ¬ PrOk xs s day days := fun h => by
              have h1 := (prl_at (d := days) HR.out HX.out).2.1 h.2.1
              omega
            have HN := Lib.hid hok2
            clear hok2
            go_wp2
            go_ret2
            rw [sel_f HN.out, tb_f HN.out]
            exact ⟨_, 0, rfl, ⟨by simp, by omega⟩, FlO.nil, (hb1).trans (below_new (hb1).size _)⟩
          · by_cases ho : x.out ≤ day
            · have HDO := Lib.hid (show day ≤ x.due ∧ x.out ≤ day from ⟨by omega, ho⟩)
              have hog : ¬ day < x.out := by omega
              have hx1 := hb1
              go_wp2_with (at_builtin; refine wpList_append_all (f := Loan.ints) rfl _ _ _ rfl w.heap.size i0 _ 5 40 Tryd.underlying24 hi hz0 hz1 hz2 rfl (by decide) _ [] rfl (OwnF.empty hx1.size) (some ⟨bx, ox, none⟩) c xs (congrArg (fun n => Value.slice (some ⟨bx, ox, none⟩) n c) hN.out) ((hA.ext hx1).ext (ext_alloc _ _)) (fun _ => rfl) (by have := hN.out; simp; omega) (by decide) (by have h9 := hx1.size; simp; omega) ?_; intro v3 w3 hown3 hg3 hb3; rw [List.nil_append] at hown3; have hx3 : Below w.heap.size w w3 := (hx1.alloc hx1.size _).trans hb3; (obtain ⟨B3, d3, hv3, _⟩ := hown3.form (fun _ => rfl)); subst hv3; rw [← hN.out] at hown3; rw [← hN.out]; have hc3 := hown3.capL; (obtain ⟨g, hBg, hg1, hg2, hfz, hcl⟩ := hown3.blkL HX.out); subst hBg; clear c0 c1 c2 c3 c4; have c0 : World.cell? w3 ⟨g, k * 5, none⟩ = some (.int .i64 x.sheet) := hcl 0 _ rfl; have c1 : World.cell? w3 ⟨g, k * 5 + 1, none⟩ = some (.int .i64 x.reader) := hcl 1 _ rfl; have c2 : World.cell? w3 ⟨g, k * 5 + 2, none⟩ = some (.int .i64 x.out) := hcl 2 _ rfl; have c3 : World.cell? w3 ⟨g, k * 5 + 3, none⟩ = some (.int .i64 x.due) := hcl 3 _ rfl; have c4 : World.cell? w3 ⟨g, k * 5 + 4, none⟩ = some (.int .i64 x.back) := hcl 4 _ rfl; have HCL0 := Lib.hid hcl; clear hcl; (obtain ⟨W5, W6, W7, hW5, hW6, hW7, hv, hvf, hu, hr, hrf, ht, hz7, ho7, hb7⟩ := prl_facts (t := 43) days hown3 HX.out hx3.size hg1 hg2 hfz (HCL0.out)); have v0 : World.cell? W5 ⟨w3.heap.size, 0, none⟩ = some (.int .i64 x.sheet) := hv 0 _ rfl; have v1 : World.cell? W5 ⟨w3.heap.size, 1, none⟩ = some (.int .i64 x.reader) := hv 1 _ rfl; have v2 : World.cell? W5 ⟨w3.heap.size, 2, none⟩ = some (.int .i64 x.out) := hv 2 _ rfl; have v3 : World.cell? W5 ⟨w3.heap.size, 3, none⟩ = some (.int .i64 x.due) := hv 3 _ rfl; have v4 : World.cell? W5 ⟨w3.heap.size, 4, none⟩ = some (.int .i64 x.back) := hv 4 _ rfl; have vf := hvf 3; have u0 : World.cell? W6 ⟨w3.heap.size, 0, none⟩ = some (.int .i64 x.sheet) := hu 0 _ rfl; have u1 : World.cell? W6 ⟨w3.heap.size, 1, none⟩ = some (.int .i64 x.reader) := hu 1 _ rfl; have u2 : World.cell? W6 ⟨w3.heap.size, 2, none⟩ = some (.int .i64 x.out) := hu 2 _ rfl; have u3 : World.cell? W6 ⟨w3.heap.size, 3, none⟩ = some (.int .i64 (x.due + days)) := hu 3 _ rfl; have u4 : World.cell? W6 ⟨w3.heap.size, 4, none⟩ = some (.int .i64 x.back) := hu 4 _ rfl; have r0 : World.cell? W6 ⟨g, k * 5, none⟩ = some (.int .i64 x.sheet) := hr 0 _ rfl; have r1 : World.cell? W6 ⟨g, k * 5 + 1, none⟩ = some (.int .i64 x.reader) := hr 1 _ rfl; have r2 : World.cell? W6 ⟨g, k * 5 + 2, none⟩ = some (.int .i64 x.out) := hr 2 _ rfl; have r3 : World.cell? W6 ⟨g, k * 5 + 3, none⟩ = some (.int .i64 x.due) := hr 3 _ rfl; have r4 : World.cell? W6 ⟨g, k * 5 + 4, none⟩ = some (.int .i64 x.back) := hr 4 _ rfl; have rf0 := hrf (k * 5); have rf1 := hrf (k * 5 + 1); have rf2 := hrf (k * 5 + 2); have rf3 := hrf (k * 5 + 3); have rf4 := hrf (k * 5 + 4); have HT := Lib.hid ht; clear hv hvf hu hr hrf ht hfz hown3 hg3 hb3)
              have hx4 := hx3.trans hb7
              obtain ⟨ys, hys⟩ : ∃ ys, ys = xs.set k y := ⟨_, rfl⟩
              rw [← hy, ← hys] at ho7
              have hO4 := ho7
              clear hy ho7 c0 c1 c2 c3 c4 u0 u1 u2 u3 u4 v0 v1 v2 v3 v4 r0 r1 r2 r3 r4 rf0 rf1 rf2 rf3 rf4 vf
              have hyl : ys.length = n := by rw [hys, List.length_set, hN.out]
              have hare4 := l11Good_any (some ⟨g, 0, none⟩) d3 ys W7 (by omega) (by omega) hc3.2 hO4.floL.fl
              rw [hyl] at hare4
              have HYS := Lib.hid hys
              have HYL := Lib.hid hyl
              have HO4 := Lib.hid hO4
              have HAR4 := Lib.hid hare4
              clear hys hyl hO4 hare4
              go_wp2_with fail
              refine (HAR4.out).mono ?_
              rintro e w5 ⟨rfl, hb5⟩
              have hx5 := ext_trans hx4 hb5
              have hF5 := HO4.out.floL.ext hb5
              by_cases hz : Lns ys
              · rw [tb_t hz]
                have HZ := Lib.hid hz
                clear hz
                go_wp2
                go_ret2
                have hre := @prl_at s days day _ _ _ HR.out HX.out
                rw [← HY.out, ← HYS.out] at hre
                have hok : PrOk xs s day days := ⟨⟨HO.out.1, by rw [HR.out]; omega, HO.out.2.2⟩, hre.2.2 HDO.out, by rw [hre.1]; exact HZ.out⟩
                rw [sel_t hok, tb_t hok, hre.1]
                exact ⟨some ⟨g, 0, none⟩, d3, by rw [HYL.out]; rfl, by rw [HYL.out]; exact hc3, hF5.mono (Nat.le_refl _) hb5.size, hx5⟩
              · rw [tb_f hz]
                have HZ := Lib.hid hz
                clear hz
                go_wp2
                go_ret2
                have hre := @prl_at s days day _ _ _ HR.out HX.out
                rw [← HY.out, ← HYS.out] at hre
                have hok : ¬ PrOk xs s day days := fun h => HZ.out (by have := h.2.2; rwa [hre.1] at this)
                rw [sel_f hok, tb_f hok]
                exact ⟨_, 0, rfl, ⟨by simp, by omega⟩, FlO.nil, hx5.trans (below_new hx5.size _)⟩
            · have hog : day < x.out := by omega
              have hok2 : ¬ PrOk xs s day days := fun h => by
                have h1 := (prl_at (d := days) HR.out HX.out).2.1 h.2.1
                omega
              have HN := Lib.hid hok2
              clear hok2
              go_wp2
              go_ret2
              rw [sel_f HN.out, tb_f HN.out]
              exact ⟨_, 0, rfl, ⟨by simp, by omega⟩, FlO.nil, (hb1).trans (below_new (hb1).size _)⟩
        · go_wp2_with fail
          refine (l11Days_f days _ h4).mono ?_
          rintro e w9 ⟨rfl, rfl⟩
          go_wp2
          go_ret2
          have hok : ¬ (Lns xs ∧ 0 ≤ r ∧ (0 ≤ day ∧ day ≤ 4000) ∧ (1 ≤ days ∧ days ≤ 60)) := fun h => h4 h.2.2.2
          have hok2 : ¬ PrOk xs s day days := fun h => hok (by have := h.1; rw [← opS_lns this.1 s, HRS.out] at this; exact this)
          rw [sel_f hok2, tb_f hok2]
          exact ⟨_, 0, rfl, ⟨by simp, by omega⟩, FlO.nil, (hb1).trans (below_new (hb1).size _)⟩
      · go_wp2_with fail
        refine (l2Day_f day _ h3).mono ?_
        rintro e w9 ⟨rfl, rfl⟩
        go_wp2
        go_ret2
        have hok : ¬ (Lns xs ∧ 0 ≤ r ∧ (0 ≤ day ∧ day ≤ 4000) ∧ (1 ≤ days ∧ days ≤ 60)) := fun h => h3 h.2.2.1
        have hok2 : ¬ PrOk xs s day days := fun h => hok (by have := h.1; rw [← opS_lns this.1 s, HRS.out] at this; exact this)
        rw [sel_f hok2, tb_f hok2]
        exact ⟨_, 0, rfl, ⟨by simp, by omega⟩, FlO.nil, (hb1).trans (below_new (hb1).size _)⟩
    · have hr0 : r < 0 := by omega
      go_wp2
      go_ret2
      have hok : ¬ (Lns xs ∧ 0 ≤ r ∧ (0 ≤ day ∧ day ≤ 4000) ∧ (1 ≤ days ∧ days ≤ 60)) := fun h => (fun (q : 0 ≤ r) => (by omega : False)) h.2.1
      have hok2 : ¬ PrOk xs s day days := fun h => hok (by have := h.1; rw [← opS_lns this.1 s, HRS.out] at this; exact this)
      rw [sel_f hok2, tb_f hok2]
      exact ⟨_, 0, rfl, ⟨by simp, by omega⟩, FlO.nil, (hb1).trans (below_new (hb1).size _)⟩
  · rw [tb_f h1]
    have H1 := Lib.hid h1
    clear h1
    go_wp2
    go_ret2
    have hok : ¬ (Lns xs ∧ 0 ≤ r ∧ (0 ≤ day ∧ day ≤ 4000) ∧ (1 ≤ days ∧ days ≤ 60)) := fun h => H1.out h.1
    have hok2 : ¬ PrOk xs s day days := fun h => hok (by have := h.1; rw [← opS_lns this.1 s, HRS.out] at this; exact this)
    rw [sel_f hok2, tb_f hok2]
    exact ⟨_, 0, rfl, ⟨by simp, by omega⟩, FlO.nil, (hb1).trans (below_new (hb1).size _)⟩
end Go.Proofs.YtnikeelpcokffaaDoor
