/- A sheet lent: the reference's side. No condition. -/
import Derived.Test.YtpmhbkfcddbenaaLoanS
import Derived.Test.YtpmhbkfcddbenaaLendI
import Derived.Test.YtpmhbkfcddbenaaWithin
namespace Go.Proofs.Ytpmhbkfcddbenaa
open Go.RowKit
set_option linter.unusedVariables false
set_option linter.unusedSimpArgs false


set_option maxHeartbeats 400000 in
theorem l11Days_any (n : Int) (w : World) :
    Calls Try.prog 31 #[.int .i64 n] w fun e w' => e = .returned (.bool (tb (1 ≤ n ∧ n ≤ 60))) ∧ w = w' := by
  go_enter Try.func31, Try.ntmps31
  go_wp2
  all_goals
    go_ret
    refine ⟨ret_bool ?_, rfl⟩
    first | exact (tb_t (by omega)).symm | exact (tb_f (by omega)).symm | exact tb_dec (by omega)
theorem l11Days_t (n : Int) (w : World) (h : 1 ≤ n ∧ n ≤ 60) :
    Calls Try.prog 31 #[.int .i64 n] w fun e w' => e = .returned (.bool true) ∧ w = w' := by
  have := l11Days_any n w; rwa [tb_t h] at this
theorem l11Days_f (n : Int) (w : World) (h : ¬ (1 ≤ n ∧ n ≤ 60)) :
    Calls Try.prog 31 #[.int .i64 n] w fun e w' => e = .returned (.bool false) ∧ w = w' := by
  have := l11Days_any n w; rwa [tb_f h] at this
set_option maxHeartbeats 1000000 in
set_option maxRecDepth 100000 in
theorem specLendSheet_any (A : Option Addr) (c : Nat) (xs : List Loan) (s r day days : Int) (w : World) (hn : xs.length ≤ 1048576) (hcap : xs.length ≤ c) (hcm : c ≤ 9223372036854775807) (hA : Fl Loan.ints 5 w A xs) :
    Calls Try.prog 7 #[.slice A xs.length c, .int .i64 s, .int .i64 r, .int .i64 day, .int .i64 days] w (RetLC Loan.ints 5 w (sel (LeOk xs s r day days) (xs ++ [lentX s r day days])) (tb (LeOk xs s r day days))) := by
  obtain ⟨i0, hi, hz0, hz1, hz2⟩ := info_parts infoLoan
  have hare := l11Good_any A c xs w hn hcap hcm hA
  have hDw : 1 ≤ days ∧ days ≤ 60 → ∃ D, IntKind.i64.wrap (day + days) = D ∧ Hid (0 ≤ day ∧ day ≤ 4000 → D = day + days) := fun hd => ⟨_, rfl, fun hy => IntWalk.i64_in _ (by omega)⟩
  have HDW := Lib.hid hDw
  clear hDw
  have hA0 := hA
  obtain ⟨n, hnn⟩ : ∃ n, n = List.length xs := ⟨_, rfl⟩
  rw [← hnn] at hare hn hcap ⊢
  have hN := Lib.hid hnn
  have HA := Lib.hid hare
  clear hare hnn
  go_enter Try.func7, Try.ntmps7
  go_wp2_with fail
  refine (HA.out).mono ?_
  rintro e w1 ⟨rfl, hb1⟩
  by_cases h1 : Lns xs
  · rw [tb_t h1]
    have H1 := Lib.hid h1
    clear h1
    by_cases h2 : 0 ≤ day ∧ day ≤ 4000
    · go_wp2_with fail
      refine (l2Day_t day _ h2).mono ?_
      rintro e w9 ⟨rfl, rfl⟩
      by_cases h3 : 1 ≤ days ∧ days ≤ 60
      · go_wp2_with fail
        refine (l11Days_t days _ h3).mono ?_
        rintro e w9 ⟨rfl, rfl⟩
        have HO : Hid (Lns xs ∧ (0 ≤ day ∧ day ≤ 4000) ∧ (1 ≤ days ∧ days ≤ 60)) := ⟨H1.out, h2, h3⟩
        have HL := Lib.hid HO.out.1
        have hds := HO.out.2.2
        obtain ⟨D, hDe, hD⟩ := HDW.out hds
        have hnl : n ≤ 15 := by have := HL.out.2; rw [← hN.out] at this; exact this
        have hx1 := hb1
        go_wp2_with (at_builtin; first | (refine wpList_append_all (f := Loan.ints) rfl _ _ _ rfl w.heap.size i0 _ 5 40 Try.underlying24 hi hz0 hz1 hz2 rfl (by decide) _ [] rfl (OwnF.empty hx1.size) A c xs (congrArg (fun n => Value.slice A n c) hN.out) ((hA.ext hx1).ext (ext_alloc _ _)) (fun _ => rfl) (by have := hN.out; simp; omega) (by decide) (by have h9 := hx1.size; simp; omega) ?_; intro v3 w3 hown3 hg3 hb3; rw [List.nil_append] at hown3; have hx3 : Below w.heap.size w w3 := (hx1.alloc hx1.size _).trans hb3; obtain ⟨B3, d3, hv3, _⟩ := hown3.form (fun _ => rfl); subst hv3) | (refine wpList_append_flat (f := Loan.ints) (y := ⟨s, r, day, D, -1⟩) rfl _ _ _ rfl w.heap.size i0 _ 5 40 Try.underlying24 hi hz0 hz1 hz2 rfl (by decide) _ _ rfl rfl hown3 rfl ?_ (by decide) ?_ ?_; (have := hN.out; omega); exact hx3.size; intro v4 w4 hown4 hg4 hb4))
        have hx4 := hx3.trans hb4
        obtain ⟨ys, hys⟩ : ∃ ys, ys = xs ++ [Loan.mk s r day D (-1)] := ⟨_, rfl⟩
        rw [← hys] at hown4
        have hyl : ys.length ≤ 1048576 := by have := hN.out; rw [hys]; simp; omega
        have HYS := Lib.hid hys
        clear hys hg4
        obtain ⟨B4, d4, hv4, hc4, hF4⟩ := hown4.formL (fun _ => rfl)
        subst hv4
        clear hown4 hown3
        go_wp2_with fail
        refine (l11Good_any B4 d4 ys _ hyl hc4.1 hc4.2 hF4.fl).mono ?_
        rintro e w5 ⟨rfl, hb5⟩
        have hx5 := ext_trans hx4 hb5
        have hF5 := hF4.ext hb5
        by_cases hz : Lns ys
        · rw [tb_t hz]
          have HZ := Lib.hid hz
          clear hz
          go_wp2
          go_ret2
          have hdy := LeOk.snoc (HYS.out ▸ HZ.out)
          have hye : xs ++ [lentX s r day days] = ys := by unfold lentX; rw [HYS.out, hD.out hdy]
          have hok : LeOk xs s r day days := ⟨HL.out, hdy, hds, hye ▸ HZ.out⟩
          rw [sel_t hok, tb_t hok, hye]
          exact ⟨B4, d4, rfl, hc4, hF5.mono (Nat.le_refl _) hb5.size, hx5⟩
        · rw [tb_f hz]
          have HZ := Lib.hid hz
          clear hz
          go_wp2
          go_ret2
          have hok : ¬ LeOk xs s r day days := fun h => HZ.out (by have h2 := h.2.2.2; unfold lentX at h2; rw [HYS.out, hD.out h.2.1]; exact h2)
          rw [sel_f hok, tb_f hok]
          exact ⟨_, 0, rfl, ⟨by simp, by omega⟩, FlO.nil, hx5.trans (below_new hx5.size _)⟩
      · go_wp2_with fail
        refine (l11Days_f days _ h3).mono ?_
        rintro e w9 ⟨rfl, rfl⟩
        go_wp2
        go_ret2
        have hok : ¬ (Lns xs ∧ (0 ≤ day ∧ day ≤ 4000) ∧ (1 ≤ days ∧ days ≤ 60)) := fun h => h3 h.2.2
        have hok2 : ¬ LeOk xs s r day days := fun h => hok ⟨h.1, h.2.1, h.2.2.1⟩
        rw [sel_f hok2, tb_f hok2]
        exact ⟨_, 0, rfl, ⟨by simp, by omega⟩, FlO.nil, (hb1).trans (below_new (hb1).size _)⟩
    · go_wp2_with fail
      refine (l2Day_f day _ h2).mono ?_
      rintro e w9 ⟨rfl, rfl⟩
      go_wp2
      go_ret2
      have hok : ¬ (Lns xs ∧ (0 ≤ day ∧ day ≤ 4000) ∧ (1 ≤ days ∧ days ≤ 60)) := fun h => h2 h.2.1
      have hok2 : ¬ LeOk xs s r day days := fun h => hok ⟨h.1, h.2.1, h.2.2.1⟩
      rw [sel_f hok2, tb_f hok2]
      exact ⟨_, 0, rfl, ⟨by simp, by omega⟩, FlO.nil, (hb1).trans (below_new (hb1).size _)⟩
  · rw [tb_f h1]
    have H1 := Lib.hid h1
    clear h1
    go_wp2
    go_ret2
    have hok : ¬ (Lns xs ∧ (0 ≤ day ∧ day ≤ 4000) ∧ (1 ≤ days ∧ days ≤ 60)) := fun h => H1.out h.1
    have hok2 : ¬ LeOk xs s r day days := fun h => hok ⟨h.1, h.2.1, h.2.2.1⟩
    rw [sel_f hok2, tb_f hok2]
    exact ⟨_, 0, rfl, ⟨by simp, by omega⟩, FlO.nil, (hb1).trans (below_new (hb1).size _)⟩
end Go.Proofs.Ytpmhbkfcddbenaa
