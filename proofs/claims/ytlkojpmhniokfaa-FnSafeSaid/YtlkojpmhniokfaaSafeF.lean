/- FirstFault on both sides. -/
import Derived.Test.YtlkojpmhniokfaaSafeD
namespace Go.Proofs.Ytlkojpmhniokfaa
open Go.RowKit
set_option linter.unusedVariables false
set_option linter.unusedSimpArgs false

set_option maxHeartbeats 1000000 in
set_option maxRecDepth 100000 in
theorem firstFaultI_any (wide high steep e n most : Int) (A : Option Addr) (c : Nat) (xs : List Four) (B : Option Addr) (d : Nat) (ls : List Leg) (w : World) (hn : xs.length ≤ 1048576) (hA : Fl Four.ints 4 w A xs) (hm : ls.length ≤ 1048576) (hB : Fl Leg.ints 3 w B ls) (hcap : ls.length ≤ d) (hcm : d ≤ 9223372036854775807) :
    Calls Try.prog 7 #[.agg #[.int .i64 wide, .int .i64 high, .slice A xs.length c, .int .i64 steep], .int .i64 e, .int .i64 n, .slice B ls.length d, .int .i64 most] w (fun r w' => r = .returned (.tuple #[.int .i64 (seli (Asked wide high steep e n xs ls most) (faultL wide high steep most xs ls 0 e n 0).1), .int .i64 (seli (Asked wide high steep e n xs ls most) (faultP (faultL wide high steep most xs ls 0 e n 0))), .bool (tb (Asked wide high steep e n xs ls most))]) ∧ Below w.heap.size w w') := by
  obtain ⟨V0, hV0, hC0, hz0, hcv, _⟩ := box_world w #[Value.int .i64 wide, .int .i64 high, .slice A xs.length c, .int .i64 steep] 26
  have hask := canStart_any wide high steep e n most A c xs B d ls V0 hn (hA.ext hC0) hm (hB.ext hC0)
  have hflt := fun (h : Asked wide high steep e n xs ls most) W hW => firstFault_any wide high steep e n most A c xs B d ls W hn (Fl.ext hA hW) (Fl.ext hB hW) hcap hcm ⟨h.1.2.1, h.1.2.2.1⟩ ⟨h.1.2.2.2.1, h.1.2.2.2.2.1⟩ ⟨h.1.2.2.2.2.2.2.1, h.1.2.2.2.2.2.2.2⟩ h.2.2.1 h.2.1.2 h.2.2.2
  obtain ⟨ji, hi1, hi2, hi3, hi4, hi5⟩ := faultL_idx (wide := wide) (high := high) (steep := steep) (most := most) (bars := xs) ls 0 e n 0
  generalize faultL wide high steep most xs ls 0 e n 0 = R at *
  obtain ⟨p, q⟩ := R
  simp only at hi1 hi4 hi5
  subst hi1
  simp only [Nat.zero_add] at hi3 hi4 hi5
  generalize Asked wide high steep e n xs ls most = Q at *
  by_cases h : Q
  · rw [tb_t h] at hask
    rw [tb_t h, seli_t h, seli_t h]
    have H := Lib.hid h
    clear h
    generalize xs.length = m at *
    have e0 : World.cell? V0 ⟨w.heap.size, 0, none⟩ = some (.int .i64 wide) := hcv 0
    have e1 : World.cell? V0 ⟨w.heap.size, 1, none⟩ = some (.int .i64 high) := hcv 1
    have e2 : World.cell? V0 ⟨w.heap.size, 2, none⟩ = some (.slice A m c) := hcv 2
    have e3 : World.cell? V0 ⟨w.heap.size, 3, none⟩ = some (.int .i64 steep) := hcv 3
    have HASK := Lib.hid hask
    have HFLT := Lib.hid hflt
    have HI4 := Lib.hid hi4
    have HI5 := Lib.hid hi5
    clear hask hflt hcv hi4 hi5
    go_enter Try.func7, Try.ntmps7
    go_wp2_with fail
    ((with_reducible refine (HASK.out).mono ?_); rintro e w1 ⟨rfl, hb1⟩)
    have hx1 := ext_trans hC0 hb1
    have f0 := (hb1.cell (p := ⟨w.heap.size, 0, none⟩) hz0).trans e0
    have f1 := (hb1.cell (p := ⟨w.heap.size, 1, none⟩) hz0).trans e1
    have f2 := (hb1.cell (p := ⟨w.heap.size, 2, none⟩) hz0).trans e2
    have f3 := (hb1.cell (p := ⟨w.heap.size, 3, none⟩) hz0).trans e3
    go_wp2_with fail
    ((with_reducible refine (HFLT.out H.out w1 hx1).mono ?_); rintro e w2 ⟨rfl, hb2⟩)
    by_cases hp : p = 0
    · subst hp
      have HFP : Hid (faultP (0, (ji : Int)) = 0) := if_pos rfl
      go_wp2
      go_ret3
      exact ⟨by rw [HFP.out]; rfl, ext_trans hx1 hb2⟩
    · have hpb : (p == 0) = false := beq_eq_false_iff_ne.2 hp
      have HFP := Lib.hid (show faultP (p, (ji : Int)) = (ji : Int) from if_neg hp)
      clear hp
      go_wp2
      go_ret3
      exact ⟨by rw [HFP.out]; rfl, ext_trans hx1 hb2⟩
  · rw [tb_f h] at hask
    rw [tb_f h, seli_f h, seli_f h]
    clear h
    generalize xs.length = m at *
    have e0 : World.cell? V0 ⟨w.heap.size, 0, none⟩ = some (.int .i64 wide) := hcv 0
    have e1 : World.cell? V0 ⟨w.heap.size, 1, none⟩ = some (.int .i64 high) := hcv 1
    have e2 : World.cell? V0 ⟨w.heap.size, 2, none⟩ = some (.slice A m c) := hcv 2
    have e3 : World.cell? V0 ⟨w.heap.size, 3, none⟩ = some (.int .i64 steep) := hcv 3
    have HASK := Lib.hid hask
    have HFLT := Lib.hid hflt
    have HI4 := Lib.hid hi4
    have HI5 := Lib.hid hi5
    clear hask hflt hcv hi4 hi5
    go_enter Try.func7, Try.ntmps7
    go_wp2_with fail
    ((with_reducible refine (HASK.out).mono ?_); rintro e w1 ⟨rfl, hb1⟩)
    go_wp2
    go_ret3
    exact ⟨rfl, ext_trans hC0 hb1⟩
set_option maxHeartbeats 1000000 in
set_option maxRecDepth 100000 in
theorem specFirstFault_any (wide high steep e n most : Int) (A : Option Addr) (c : Nat) (xs : List Four) (B : Option Addr) (d : Nat) (ls : List Leg) (w : World) (hn : xs.length ≤ 1048576) (hA : Fl Four.ints 4 w A xs) (hm : ls.length ≤ 1048576) (hB : Fl Leg.ints 3 w B ls) (hcap : ls.length ≤ d) (hcm : d ≤ 9223372036854775807) :
    Calls Try.prog 8 #[.agg #[.int .i64 wide, .int .i64 high, .slice A xs.length c, .int .i64 steep], .int .i64 e, .int .i64 n, .slice B ls.length d, .int .i64 most] w (fun r w' => r = .returned (.tuple #[.int .i64 (seli (Asked wide high steep e n xs ls most) (faultL wide high steep most xs ls 0 e n 0).1), .int .i64 (seli (Asked wide high steep e n xs ls most) (faultP (faultL wide high steep most xs ls 0 e n 0))), .bool (tb (Asked wide high steep e n xs ls most))]) ∧ Below w.heap.size w w') := by
  obtain ⟨V0, hV0, hC0, hz0, hcv, _⟩ := box_world w #[Value.int .i64 wide, .int .i64 high, .slice A xs.length c, .int .i64 steep] 26
  have hask := l16Asked_any wide high steep e n most A c xs B d ls V0 hn (hA.ext hC0) hm (hB.ext hC0)
  have hflt := fun (h : Asked wide high steep e n xs ls most) W hW => l16Fault_any wide high steep e n most A c xs B d ls W hn (Fl.ext hA hW) (Fl.ext hB hW) ⟨h.1.2.1, h.1.2.2.1⟩ ⟨h.1.2.2.2.1, h.1.2.2.2.2.1⟩ ⟨h.1.2.2.2.2.2.2.1, h.1.2.2.2.2.2.2.2⟩ h.2.2.1 h.2.1.2 h.2.2.2
  obtain ⟨ji, hi1, hi2, hi3, hi4, hi5⟩ := faultL_idx (wide := wide) (high := high) (steep := steep) (most := most) (bars := xs) ls 0 e n 0
  generalize faultL wide high steep most xs ls 0 e n 0 = R at *
  obtain ⟨p, q⟩ := R
  simp only at hi1 hi4 hi5
  subst hi1
  simp only [Nat.zero_add] at hi3 hi4 hi5
  generalize Asked wide high steep e n xs ls most = Q at *
  by_cases h : Q
  · rw [tb_t h] at hask
    rw [tb_t h, seli_t h, seli_t h]
    have H := Lib.hid h
    clear h
    generalize xs.length = m at *
    have e0 : World.cell? V0 ⟨w.heap.size, 0, none⟩ = some (.int .i64 wide) := hcv 0
    have e1 : World.cell? V0 ⟨w.heap.size, 1, none⟩ = some (.int .i64 high) := hcv 1
    have e2 : World.cell? V0 ⟨w.heap.size, 2, none⟩ = some (.slice A m c) := hcv 2
    have e3 : World.cell? V0 ⟨w.heap.size, 3, none⟩ = some (.int .i64 steep) := hcv 3
    have HASK := Lib.hid hask
    have HFLT := Lib.hid hflt
    have HI4 := Lib.hid hi4
    have HI5 := Lib.hid hi5
    clear hask hflt hcv hi4 hi5
    go_enter Try.func8, Try.ntmps8
    go_wp2_with fail
    ((with_reducible refine (HASK.out).mono ?_); rintro e w1 ⟨rfl, hb1⟩)
    have hx1 := ext_trans hC0 hb1
    have f0 := (hb1.cell (p := ⟨w.heap.size, 0, none⟩) hz0).trans e0
    have f1 := (hb1.cell (p := ⟨w.heap.size, 1, none⟩) hz0).trans e1
    have f2 := (hb1.cell (p := ⟨w.heap.size, 2, none⟩) hz0).trans e2
    have f3 := (hb1.cell (p := ⟨w.heap.size, 3, none⟩) hz0).trans e3
    go_wp2_with fail
    ((with_reducible refine (HFLT.out H.out w1 hx1).mono ?_); rintro e w2 ⟨rfl, hb2⟩)
    go_wp2
    go_ret3
    exact ⟨rfl, ext_trans hx1 hb2⟩
  · rw [tb_f h] at hask
    rw [tb_f h, seli_f h, seli_f h]
    clear h
    generalize xs.length = m at *
    have e0 : World.cell? V0 ⟨w.heap.size, 0, none⟩ = some (.int .i64 wide) := hcv 0
    have e1 : World.cell? V0 ⟨w.heap.size, 1, none⟩ = some (.int .i64 high) := hcv 1
    have e2 : World.cell? V0 ⟨w.heap.size, 2, none⟩ = some (.slice A m c) := hcv 2
    have e3 : World.cell? V0 ⟨w.heap.size, 3, none⟩ = some (.int .i64 steep) := hcv 3
    have HASK := Lib.hid hask
    have HFLT := Lib.hid hflt
    have HI4 := Lib.hid hi4
    have HI5 := Lib.hid hi5
    clear hask hflt hcv hi4 hi5
    go_enter Try.func8, Try.ntmps8
    go_wp2_with fail
    ((with_reducible refine (HASK.out).mono ?_); rintro e w1 ⟨rfl, hb1⟩)
    go_wp2
    go_ret3
    exact ⟨rfl, ext_trans hC0 hb1⟩
end Go.Proofs.Ytlkojpmhniokfaa
