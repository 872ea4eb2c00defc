/- How long a sheet was lent: the program's side. How long a sheet was lent: the reference's side. No condition. -/
import Derived.Test.YtnikeelpcokffaaDoorDysD
import Derived.Test.YtnikeelpcokffaaDoorLoF
import Derived.Test.YtnikeelpcokffaaDoorLoanI
import Derived.Test.YtnikeelpcokffaaDoorWithin
import Derived.IntWalk
import Derived.Test.YtnikeelpcokffaaDoorLoanS
namespace Go.Proofs.YtnikeelpcokffaaDoor
open Go.RowKit
set_option linter.unusedVariables false
set_option linter.unusedSimpArgs false

set_option maxHeartbeats 1000000 in
set_option maxRecDepth 100000 in
theorem daysLent_any (A : Option Addr) (c : Nat) (xs : List Loan) (s day : Int) (w : World) (hn : xs.length ≤ 1048576) (hcap : xs.length ≤ c) (hcm : c ≤ 9223372036854775807) (hA : Fl Loan.ints 5 w A xs) :
    Calls Tryd.prog 17 #[.slice A xs.length c, .int .i64 s, .int .i64 day] w (fun e w' => e = .returned (.tuple #[.int .i64 (seli (WhOk xs s day) (dlS s day xs)), .bool (tb (WhOk xs s day))]) ∧ Below w.heap.size w w') := by
  have hare := areLoans_any A c xs w hn hcap hcm hA
  obtain ⟨n, hnn⟩ : ∃ n, n = List.length xs := ⟨_, rfl⟩
  rw [← hnn] at hare hn hcap ⊢
  have hN := Lib.hid hnn
  have HA := Lib.hid hare
  clear hare hnn
  go_enter Tryd.func17, Tryd.ntmps17
  go_wp2_with fail
  refine (HA.out).mono ?_
  rintro e w1 ⟨rfl, hb1⟩
  by_cases h1 : Lns xs
  · rw [tb_t h1]
    have H1 := Lib.hid h1
    clear h1
    by_cases h2 : 1 ≤ s ∧ s ≤ 999
    · go_wp2_with fail
      refine (isId_t s _ h2).mono ?_
      rintro e w9 ⟨rfl, rfl⟩
      by_cases h3 : 0 ≤ day ∧ day ≤ 4000
      · go_wp2_with fail
        refine (isDay_t day _ h3).mono ?_
        rintro e w9 ⟨rfl, rfl⟩
        have HO : Hid (WhOk xs s day) := ⟨H1.out, h2, h3⟩
        go_wp2
        go_loopw [8, 27] (fun s' i wr => ∃ k : Nat, k ≤ n ∧ i = .int .i64 k ∧ s' = .int .i64 (dlS s day (xs.take k)) ∧ Below w.heap.size w wr) (fun s' i _ => n - (intOf i).toNat)
        case atStart => exact ⟨0, by omega, rfl, rfl, hb1⟩
        case round =>
          obtain ⟨k, hk, rfl, rfl, hbr⟩ := hrel
          have hS := dlS_bd (s := s) HO.out.2.2 (xs.take k) (fun y hy => lns_lo HO.out.1 y (List.mem_of_mem_take hy))
          by_cases hlt : k < n
          · have hkl : (xs.take k).length = k := by rw [List.length_take, ← hN.out]; omega
            rw [hkl] at hS
            have hn15 : n ≤ 15 := by have := HO.out.1.2; rw [← hN.out] at this; exact this
            obtain ⟨x, b, o, hx, hAe, hb, hc⟩ := (hA.ext hbr).at_ (k := k) (by rw [← hN.out]; exact hlt)
            subst hAe
            have c0 : World.cell? wr ⟨b, o + k * 5, none⟩ = some (.int .i64 x.sheet) := hc 0 _ rfl
            have c1 : World.cell? wr ⟨b, o + k * 5 + 1, none⟩ = some (.int .i64 x.reader) := hc 1 _ rfl
            have c2 : World.cell? wr ⟨b, o + k * 5 + 2, none⟩ = some (.int .i64 x.out) := hc 2 _ rfl
            have c3 : World.cell? wr ⟨b, o + k * 5 + 3, none⟩ = some (.int .i64 x.due) := hc 3 _ rfl
            have c4 : World.cell? wr ⟨b, o + k * 5 + 4, none⟩ = some (.int .i64 x.back) := hc 4 _ rfl
            obtain ⟨W0, hW0, hB0, hz0', hg, _⟩ := box_world wr #[Value.int .i64 x.sheet, .int .i64 x.reader, .int .i64 x.out, .int .i64 x.due, .int .i64 x.back] 43
            have g0 : World.cell? W0 ⟨wr.heap.size, 0, none⟩ = some (.int .i64 x.sheet) := hg 0
            have g1 : World.cell? W0 ⟨wr.heap.size, 1, none⟩ = some (.int .i64 x.reader) := hg 1
            have g2 : World.cell? W0 ⟨wr.heap.size, 2, none⟩ = some (.int .i64 x.out) := hg 2
            have g3 : World.cell? W0 ⟨wr.heap.size, 3, none⟩ = some (.int .i64 x.due) := hg 3
            have g4 : World.cell? W0 ⟨wr.heap.size, 4, none⟩ = some (.int .i64 x.back) := hg 4
            have hbW := ext_trans hbr hB0
            have hlo := (HO.out.1.1 k x hx).1
            have hdy := HO.out.2.2
            have HT := Lib.hid (take_get hx)
            have HOP := Lib.hid (isOpen_any x day W0 hlo)
            obtain ⟨S, hSS⟩ : ∃ S, S = dlS s day (xs.take k) := ⟨_, rfl⟩
            rw [← hSS] at hS ⊢
            have HSS := Lib.hid hSS
            clear hc hg hx hSS hkl
            have hk0 : (0 : Int) ≤ (k : Int) := by omega
            have hk1 : (k : Int) < (n : Int) := by omega
            by_cases hs : x.sheet = s
            · have es : (x.sheet == s) = true := by simp [hs]
              have es2 : (x.sheet != s) = false := by simp [hs]
              by_cases ho : x.out ≤ day
              · have hod : ¬ day < x.out := by omega
                have HSO := Lib.hid (show x.sheet = s ∧ x.out ≤ day from ⟨hs, ho⟩)
                have hlo2 : 0 ≤ x.out ∧ -1 ≤ x.back ∧ x.back ≤ 4000 := by unfold IsLo at hlo; omega
                have hcl : ¬ (x.back < 0 ∨ day < x.back) → 0 ≤ x.back ∧ x.out ≤ x.back := by unfold IsLo at hlo; omega
                clear hs
                go_wp2_with fail
                clear hW0
                ((with_reducible refine (HOP.out).mono ?_); rintro e w5 ⟨rfl, hb5⟩)
                have q2 := (hb5.cell (p := ⟨wr.heap.size, 2, none⟩) hz0').trans g2
                have q4 := (hb5.cell (p := ⟨wr.heap.size, 4, none⟩) hz0').trans g4
                have hz5 := Nat.lt_of_lt_of_le hz0' hb5.size
                clear hlo g0 g1 g2 g3 g4
                by_cases hp : OpenL day x
                · rw [tb_t hp]
                  have HV := Lib.hid (show dlV s day x = day - x.out from by unfold dlV; rw [if_pos HSO.out, if_pos hp.2])
                  clear hp hcl
                  have w1 : IntKind.i64.wrap (day - x.out) = day - x.out := IntWalk.i64_in _ (by omega)
                  have w2 : IntKind.i64.wrap (S + (day - x.out)) = S + (day - x.out) := IntWalk.i64_in _ (by omega)
                  have w3 : IntKind.i64.wrap (S + day) = S + day := IntWalk.i64_in _ (by omega)
                  have w4 : IntKind.i64.wrap (S + day - x.out) = S + day - x.out := IntWalk.i64_in _ (by omega)
                  go_wp2
                  go_roundw
                  case rel => exact ⟨k + 1, by omega, by go_num, by rw [HT.out, dlS_snoc, ← HSS.out, HV.out], ext_trans hbW hb5⟩
                  case measure => simp [intOf]; omega
                · rw [tb_f hp]
                  have hnp : ¬ (x.back < 0 ∨ day < x.back) := fun q => hp ⟨ho, q⟩
                  have HV := Lib.hid (show dlV s day x = x.back - x.out from by unfold dlV; rw [if_pos HSO.out, if_neg hnp])
                  have hc2 := hcl hnp
                  clear hp hcl hnp
                  have w1 : IntKind.i64.wrap (x.back - x.out) = x.back - x.out := IntWalk.i64_in _ (by omega)
                  have w2 : IntKind.i64.wrap (S + (x.back - x.out)) = S + (x.back - x.out) := IntWalk.i64_in _ (by omega)
                  have w3 : IntKind.i64.wrap (S + x.back) = S + x.back := IntWalk.i64_in _ (by omega)
                  have w4 : IntKind.i64.wrap (S + x.back - x.out) = S + x.back - x.out := IntWalk.i64_in _ (by omega)
                  go_wp2
                  go_roundw
                  case rel => exact ⟨k + 1, by omega, by go_num, by rw [HT.out, dlS_snoc, ← HSS.out, HV.out], ext_trans hbW hb5⟩
                  case measure => simp [intOf]; omega
              · have hod : day < x.out := by omega
                have HNO := Lib.hid ho
                clear ho hs hlo
                have HV := Lib.hid (show dlV s day x = 0 from if_neg (fun q => HNO.out q.2))
                go_wp2
                go_roundw
                case rel => exact ⟨k + 1, by omega, by go_num, by rw [HT.out, dlS_snoc, ← HSS.out, HV.out, Int.add_zero], hbW⟩
                case measure => simp [intOf]; omega
            · have es : (x.sheet == s) = false := by simp [hs]
              have es2 : (x.sheet != s) = true := by simp [hs]
              have HS := Lib.hid hs
              clear hs hlo
              have HV := Lib.hid (show dlV s day x = 0 from if_neg (fun q => HS.out q.1))
              go_wp2
              go_roundw
              case rel => exact ⟨k + 1, by omega, by go_num, by rw [HT.out, dlS_snoc, ← HSS.out, HV.out, Int.add_zero], hbW⟩
              case measure => simp [intOf]; omega
          · have hkn : k = n := by omega
            subst hkn
            rw [take_all (by rw [← hN.out]; exact Nat.le_refl _)] at hS ⊢
            obtain ⟨S, hSS⟩ : ∃ S, S = dlS s day xs := ⟨_, rfl⟩
            rw [← hSS] at hS ⊢
            have HSS := Lib.hid hSS
            clear hSS
            go_wp2
            go_ret2
            exact ⟨by rw [seli_t HO.out, tb_t HO.out, HSS.out]; rfl, hbr⟩
      · go_wp2_with fail
        refine (isDay_f day _ h3).mono ?_
        rintro e w9 ⟨rfl, rfl⟩
        go_wp2
        go_ret2
        have hok : ¬ (WhOk xs s day) := fun h => h3 h.2.2
        exact ⟨ret_ib (seli_f hok).symm (tb_f hok).symm, hb1⟩
    · go_wp2_with fail
      refine (isId_f s _ h2).mono ?_
      rintro e w9 ⟨rfl, rfl⟩
      go_wp2
      go_ret2
      have hok : ¬ (WhOk xs s day) := fun h => h2 h.2.1
      exact ⟨ret_ib (seli_f hok).symm (tb_f hok).symm, hb1⟩
  · rw [tb_f h1]
    have H1 := Lib.hid h1
    clear h1
    go_wp2
    go_ret2
    have hok : ¬ (WhOk xs s day) := fun h => H1.out h.1
    exact ⟨ret_ib (seli_f hok).symm (tb_f hok).symm, hb1⟩
end Go.Proofs.YtnikeelpcokffaaDoor
namespace Go.Proofs.YtnikeelpcokffaaDoor
open Go.RowKit
set_option linter.unusedVariables false
set_option linter.unusedSimpArgs false

set_option maxHeartbeats 1000000 in
set_option maxRecDepth 100000 in
theorem specDaysLent_any (A : Option Addr) (c : Nat) (xs : List Loan) (s day : Int) (w : World) (hn : xs.length ≤ 1048576) (hcap : xs.length ≤ c) (hcm : c ≤ 9223372036854775807) (hA : Fl Loan.ints 5 w A xs) :
    Calls Tryd.prog 18 #[.slice A xs.length c, .int .i64 s, .int .i64 day] w (fun e w' => e = .returned (.tuple #[.int .i64 (seli (WhOk xs s day) (dlS s day xs)), .bool (tb (WhOk xs s day))]) ∧ Below w.heap.size w w') := by
  have hare := l11Good_any A c xs w hn hcap hcm hA
  obtain ⟨n, hnn⟩ : ∃ n, n = List.length xs := ⟨_, rfl⟩
  rw [← hnn] at hare hn hcap ⊢
  have hN := Lib.hid hnn
  have HA := Lib.hid hare
  clear hare hnn
  go_enter Tryd.func18, Tryd.ntmps18
  go_wp2_with fail
  refine (HA.out).mono ?_
  rintro e w1 ⟨rfl, hb1⟩
  by_cases h1 : Lns xs
  · rw [tb_t h1]
    have H1 := Lib.hid h1
    clear h1
    by_cases h2 : 1 ≤ s ∧ s ≤ 999
    · go_wp2_with fail
      refine (l11Id_t s _ h2).mono ?_
      rintro e w9 ⟨rfl, rfl⟩
      by_cases h3 : 0 ≤ day ∧ day ≤ 4000
      · go_wp2_with fail
        refine (l2Day_t day _ h3).mono ?_
        rintro e w9 ⟨rfl, rfl⟩
        have HO : Hid (WhOk xs s day) := ⟨H1.out, h2, h3⟩
        go_wp2
        go_loopw [8, 9] (fun s' i wr => ∃ k : Nat, k ≤ n ∧ i = .int .i64 k ∧ s' = .int .i64 (dlS s day (xs.take k)) ∧ Below w.heap.size w wr) (fun s' i _ => n - (intOf i).toNat)
        case atStart => exact ⟨0, by omega, rfl, rfl, hb1⟩
        case round =>
          obtain ⟨k, hk, rfl, rfl, hbr⟩ := hrel
          have hS := dlS_bd (s := s) HO.out.2.2 (xs.take k) (fun y hy => lns_lo HO.out.1 y (List.mem_of_mem_take hy))
          by_cases hlt : k < n
          · have hkl : (xs.take k).length = k := by rw [List.length_take, ← hN.out]; omega
            rw [hkl] at hS
            have hn15 : n ≤ 15 := by have := HO.out.1.2; rw [← hN.out] at this; exact this
            obtain ⟨x, b, o, hx, hAe, hb, hc⟩ := (hA.ext hbr).at_ (k := k) (by rw [← hN.out]; exact hlt)
            subst hAe
            have c0 : World.cell? wr ⟨b, o + k * 5, none⟩ = some (.int .i64 x.sheet) := hc 0 _ rfl
            have c1 : World.cell? wr ⟨b, o + k * 5 + 1, none⟩ = some (.int .i64 x.reader) := hc 1 _ rfl
            have c2 : World.cell? wr ⟨b, o + k * 5 + 2, none⟩ = some (.int .i64 x.out) := hc 2 _ rfl
            have c3 : World.cell? wr ⟨b, o + k * 5 + 3, none⟩ = some (.int .i64 x.due) := hc 3 _ rfl
            have c4 : World.cell? wr ⟨b, o + k * 5 + 4, none⟩ = some (.int .i64 x.back) := hc 4 _ rfl
            obtain ⟨W0, hW0, hB0, hz0', hg, _⟩ := box_world wr #[Value.int .i64 x.sheet, .int .i64 x.reader, .int .i64 x.out, .int .i64 x.due, .int .i64 x.back] 43
            have g0 : World.cell? W0 ⟨wr.heap.size, 0, none⟩ = some (.int .i64 x.sheet) := hg 0
            have g1 : World.cell? W0 ⟨wr.heap.size, 1, none⟩ = some (.int .i64 x.reader) := hg 1
            have g2 : World.cell? W0 ⟨wr.heap.size, 2, none⟩ = some (.int .i64 x.out) := hg 2
            have g3 : World.cell? W0 ⟨wr.heap.size, 3, none⟩ = some (.int .i64 x.due) := hg 3
            have g4 : World.cell? W0 ⟨wr.heap.size, 4, none⟩ = some (.int .i64 x.back) := hg 4
            have hbW := ext_trans hbr hB0
            have hlo := (HO.out.1.1 k x hx).1
            have hdy := HO.out.2.2
            have HT := Lib.hid (take_get hx)
            have HOP := Lib.hid (l11IsOpen_any x day W0)
            obtain ⟨S, hSS⟩ : ∃ S, S = dlS s day (xs.take k) := ⟨_, rfl⟩
            rw [← hSS] at hS ⊢
            have HSS := Lib.hid hSS
            clear hc hg hx hSS hkl
            have hk0 : (0 : Int) ≤ (k : Int) := by omega
            have hk1 : (k : Int) < (n : Int) := by omega
            by_cases hs : x.sheet = s
            · have es : (x.sheet == s) = true := by simp [hs]
              have es2 : (x.sheet != s) = false := by simp [hs]
              by_cases ho : x.out ≤ day
              · have hod : ¬ day < x.out := by omega
                have HSO := Lib.hid (show x.sheet = s ∧ x.out ≤ day from ⟨hs, ho⟩)
                have hlo2 : 0 ≤ x.out ∧ -1 ≤ x.back ∧ x.back ≤ 4000 := by unfold IsLo at hlo; omega
                have hcl : ¬ (x.back < 0 ∨ day < x.back) → 0 ≤ x.back ∧ x.out ≤ x.back := by unfold IsLo at hlo; omega
                clear hs
                go_wp2_with fail
                clear hW0
                ((with_reducible refine (HOP.out).mono ?_); rintro e w5 ⟨rfl, hb5⟩)
                have q2 := (hb5.cell (p := ⟨wr.heap.size, 2, none⟩) hz0').trans g2
                have q4 := (hb5.cell (p := ⟨wr.heap.size, 4, none⟩) hz0').trans g4
                have hz5 := Nat.lt_of_lt_of_le hz0' hb5.size
                clear hlo g0 g1 g2 g3 g4
                by_cases hp : OpenL day x
                · rw [tb_t hp]
                  have HV := Lib.hid (show dlV s day x = day - x.out from by unfold dlV; rw [if_pos HSO.out, if_pos hp.2])
                  clear hp hcl
                  have w1 : IntKind.i64.wrap (day - x.out) = day - x.out := IntWalk.i64_in _ (by omega)
                  have w2 : IntKind.i64.wrap (S + (day - x.out)) = S + (day - x.out) := IntWalk.i64_in _ (by omega)
                  have w3 : IntKind.i64.wrap (S + day) = S + day := IntWalk.i64_in _ (by omega)
                  have w4 : IntKind.i64.wrap (S + day - x.out) = S + day - x.out := IntWalk.i64_in _ (by omega)
                  go_wp2
                  go_roundw
                  case rel => exact ⟨k + 1, by omega, by go_num, by rw [HT.out, dlS_snoc, ← HSS.out, HV.out]; congr 1; omega, ext_trans hbW hb5⟩
                  case measure => simp [intOf]; omega
                · rw [tb_f hp]
                  have hnp : ¬ (x.back < 0 ∨ day < x.back) := fun q => hp ⟨ho, q⟩
                  have HV := Lib.hid (show dlV s day x = x.back - x.out from by unfold dlV; rw [if_pos HSO.out, if_neg hnp])
                  have hc2 := hcl hnp
                  clear hp hcl hnp
                  have w1 : IntKind.i64.wrap (x.back - x.out) = x.back - x.out := IntWalk.i64_in _ (by omega)
                  have w2 : IntKind.i64.wrap (S + (x.back - x.out)) = S + (x.back - x.out) := IntWalk.i64_in _ (by omega)
                  have w3 : IntKind.i64.wrap (S + x.back) = S + x.back := IntWalk.i64_in _ (by omega)
                  have w4 : IntKind.i64.wrap (S + x.back - x.out) = S + x.back - x.out := IntWalk.i64_in _ (by omega)
                  go_wp2
                  go_roundw
                  case rel => exact ⟨k + 1, by omega, by go_num, by rw [HT.out, dlS_snoc, ← HSS.out, HV.out]; congr 1; omega, ext_trans hbW hb5⟩
                  case measure => simp [intOf]; omega
              · have hod : day < x.out := by omega
                have HNO := Lib.hid ho
                clear ho hs hlo
                have HV := Lib.hid (show dlV s day x = 0 from if_neg (fun q => HNO.out q.2))
                go_wp2
                go_roundw
                case rel => exact ⟨k + 1, by omega, by go_num, by rw [HT.out, dlS_snoc, ← HSS.out, HV.out, Int.add_zero], hbW⟩
                case measure => simp [intOf]; omega
            · have es : (x.sheet == s) = false := by simp [hs]
              have es2 : (x.sheet != s) = true := by simp [hs]
              have HS := Lib.hid hs
              clear hs hlo
              have HV := Lib.hid (show dlV s day x = 0 from if_neg (fun q => HS.out q.1))
              go_wp2
              go_roundw
              case rel => exact ⟨k + 1, by omega, by go_num, by rw [HT.out, dlS_snoc, ← HSS.out, HV.out, Int.add_zero], hbW⟩
              case measure => simp [intOf]; omega
          · have hkn : k = n := by omega
            subst hkn
            rw [take_all (by rw [← hN.out]; exact Nat.le_refl _)] at hS ⊢
            obtain ⟨S, hSS⟩ : ∃ S, S = dlS s day xs := ⟨_, rfl⟩
            rw [← hSS] at hS ⊢
            have HSS := Lib.hid hSS
            clear hSS
            go_wp2
            go_ret2
            exact ⟨by rw [seli_t HO.out, tb_t HO.out, HSS.out]; rfl, hbr⟩
      · go_wp2_with fail
        refine (l2Day_f day _ h3).mono ?_
        rintro e w9 ⟨rfl, rfl⟩
        go_wp2
        go_ret2
        have hok : ¬ (WhOk xs s day) := fun h => h3 h.2.2
        exact ⟨ret_ib (seli_f hok).symm (tb_f hok).symm, hb1⟩
    · go_wp2_with fail
      refine (l11Id_f s _ h2).mono ?_
      rintro e w9 ⟨rfl, rfl⟩
      go_wp2
      go_ret2
      have hok : ¬ (WhOk xs s day) := fun h => h2 h.2.1
      exact ⟨ret_ib (seli_f hok).symm (tb_f hok).symm, hb1⟩
  · rw [tb_f h1]
    have H1 := Lib.hid h1
    clear h1
    go_wp2
    go_ret2
    have hok : ¬ (WhOk xs s day) := fun h => H1.out h.1
    exact ⟨ret_ib (seli_f hok).symm (tb_f hok).symm, hb1⟩
end Go.Proofs.YtnikeelpcokffaaDoor
