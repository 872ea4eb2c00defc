/- A sheet lent: the program's side. No condition. -/
import Derived.Test.YtpmhbkfcddbenaaLoanI
import Derived.Test.YtpmhbkfcddbenaaCloL
import Derived.Test.YtpmhbkfcddbenaaWithin
import Derived.IntWalk
namespace Go.Proofs.Ytpmhbkfcddbenaa
open Go.RowKit
set_option linter.unusedVariables false
set_option linter.unusedSimpArgs false

def lentX (s r day days : Int) : Loan := ⟨s, r, day, day + days, -1⟩
def LeOk (xs : List Loan) (s r day days : Int) : Prop := Lns xs ∧ (0 ≤ day ∧ day ≤ 4000) ∧ (1 ≤ days ∧ days ≤ 60) ∧ Lns (xs ++ [lentX s r day days])
theorem LeOk.snoc {xs : List Loan} {s r day D : Int} (h : Lns (xs ++ [⟨s, r, day, D, -1⟩])) : 0 ≤ day ∧ day ≤ 4000 := by
  have := (h.1 xs.length ⟨s, r, day, D, -1⟩ (by simp)).1
  exact this.2.2.1
set_option maxHeartbeats 1000000 in
set_option maxRecDepth 100000 in
theorem lendSheet_any (A : Option Addr) (c : Nat) (xs : List Loan) (s r day days : Int) (w : World) (hn : xs.length ≤ 1048576) (hcap : xs.length ≤ c) (hcm : c ≤ 9223372036854775807) (hA : Fl Loan.ints 5 w A xs) :
    Calls Try.prog 6 #[.slice A xs.length c, .int .i64 s, .int .i64 r, .int .i64 day, .int .i64 days] w (RetLC Loan.ints 5 w (sel (LeOk xs s r day days) (xs ++ [lentX s r day days])) (tb (LeOk xs s r day days))) := by
  obtain ⟨i0, hi, hz0, hz1, hz2⟩ := info_parts infoLoan
  have hare := areLoans_any A c xs w hn hcap hcm hA
  have hDw : 1 ≤ days ∧ days ≤ 60 → ∃ D, IntKind.i64.wrap (day + days) = D ∧ Hid (0 ≤ day ∧ day ≤ 4000 → D = day + days) := fun hd => ⟨_, rfl, fun hy => IntWalk.i64_in _ (by omega)⟩
  have HDW := Lib.hid hDw
  clear hDw
  have hclo := fun W hW => cloneLoan_any A c xs W (by omega) (Fl.ext hA hW)
  obtain ⟨n, hnn⟩ : ∃ n, n = List.length xs := ⟨_, rfl⟩
  rw [← hnn] at hare hclo hn hcap ⊢
  have hN := Lib.hid hnn
  have HA := Lib.hid hare
  have HC := Lib.hid hclo
  clear hare hclo hnn
  go_enter Try.func6, Try.ntmps6
  go_wp2_with fail
  refine (HA.out).mono ?_
  rintro e w1 ⟨rfl, hb1⟩
  by_cases h1 : Lns xs
  · rw [tb_t h1]
    have H1 := Lib.hid h1
    clear h1
    by_cases h2 : 1 ≤ days ∧ days ≤ 60
    · go_wp2_with fail
      refine (within_t days 1 60 _ h2).mono ?_
      rintro e w9 ⟨rfl, rfl⟩
      have HO : Hid (Lns xs ∧ (1 ≤ days ∧ days ≤ 60)) := ⟨H1.out, h2⟩
      have HL := Lib.hid HO.out.1
      have hds := HO.out.2
      obtain ⟨D, hDe, hD⟩ := HDW.out hds
      have hnl : n ≤ 15 := by have := HL.out.2; rw [← hN.out] at this; exact this
      go_wp2_with fail
      refine (HC.out _ hb1).mono ?_
      rintro e w3 ⟨B3, d3, rfl, hown3, hb3⟩
      have hown3 := OwnF.from_ (lo' := w.heap.size) hown3 (hb1).size
      have hx3 := ext_trans hb1 hb3
      go_wp2_with (at_builtin; refine wpList_append_flat (f := Loan.ints) (y := ⟨s, r, day, D, -1⟩) rfl _ _ _ rfl w.heap.size i0 _ 5 40 Try.underlying24 hi hz0 hz1 hz2 rfl (by decide) _ _ rfl rfl hown3 rfl ?_ (by decide) ?_ ?_; (have := hN.out; omega); exact hx3.size; intro v4 w4 hown4 hg4 hb4)
      have hx4 := hx3.trans hb4
      obtain ⟨ys, hys⟩ : ∃ ys, ys = xs ++ [Loan.mk s r day D (-1)] := ⟨_, rfl⟩
      rw [← hys] at hown4
      have hyl : ys.length ≤ 1048576 := by have := hN.out; rw [hys]; simp; omega
      have HYS := Lib.hid hys
      clear hys hg4
      obtain ⟨B4, d4, hv4, hc4, hF4⟩ := hown4.formL (fun _ => rfl)
      subst hv4
      clear hown4 hown3
      go_wp2_with fail
      refine (areLoans_any B4 d4 ys _ hyl hc4.1 hc4.2 hF4.fl).mono ?_
      rintro e w5 ⟨rfl, hb5⟩
      have hx5 := ext_trans hx4 hb5
      have hF5 := hF4.ext hb5
      by_cases hz : Lns ys
      · rw [tb_t hz]
        have HZ := Lib.hid hz
        clear hz
        go_wp2
        go_ret2
        have hdy := LeOk.snoc (HYS.out ▸ HZ.out)
        have hye : xs ++ [lentX s r day days] = ys := by unfold lentX; rw [HYS.out, hD.out hdy]
        have hok : LeOk xs s r day days := ⟨HL.out, hdy, hds, hye ▸ HZ.out⟩
        rw [sel_t hok, tb_t hok, hye]
        exact ⟨B4, d4, rfl, hc4, hF5.mono (Nat.le_refl _) hb5.size, hx5⟩
      · rw [tb_f hz]
        have HZ := Lib.hid hz
        clear hz
        go_wp2
        go_ret2
        have hok : ¬ LeOk xs s r day days := fun h => HZ.out (by have h2 := h.2.2.2; unfold lentX at h2; rw [HYS.out, hD.out h.2.1]; exact h2)
        rw [sel_f hok, tb_f hok]
        exact ⟨none, 0, rfl, ⟨by simp, by omega⟩, FlO.nil, hx5⟩
    · go_wp2_with fail
      refine (within_f days 1 60 _ h2).mono ?_
      rintro e w9 ⟨rfl, rfl⟩
      go_wp2
      go_ret2
      have hok : ¬ (Lns xs ∧ (1 ≤ days ∧ days ≤ 60)) := fun h => h2 h.2
      have hok2 : ¬ LeOk xs s r day days := fun h => hok ⟨h.1, h.2.2.1⟩
      rw [sel_f hok2, tb_f hok2]
      exact ⟨none, 0, rfl, ⟨by simp, by omega⟩, FlO.nil, hb1⟩
  · rw [tb_f h1]
    have H1 := Lib.hid h1
    clear h1
    go_wp2
    go_ret2
    have hok : ¬ (Lns xs ∧ (1 ≤ days ∧ days ≤ 60)) := fun h => H1.out h.1
    have hok2 : ¬ LeOk xs s r day days := fun h => hok ⟨h.1, h.2.2.1⟩
    rw [sel_f hok2, tb_f hok2]
    exact ⟨none, 0, rfl, ⟨by simp, by omega⟩, FlO.nil, hb1⟩
end Go.Proofs.Ytpmhbkfcddbenaa
