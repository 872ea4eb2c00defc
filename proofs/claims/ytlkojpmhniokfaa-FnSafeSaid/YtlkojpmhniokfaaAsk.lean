/- What is asked of a land, a square, a route and minutes. -/
import Derived.Test.YtlkojpmhniokfaaLegD
import Derived.Test.YtlkojpmhniokfaaLandFree
namespace Go.Proofs.Ytlkojpmhniokfaa
open Go.RowKit
set_option linter.unusedVariables false
set_option linter.unusedSimpArgs false

def Asked (wide high steep e n : Int) (bars : List Four) (route : List Leg) (most : Int) : Prop := Lnd wide high steep bars ∧ OpenSq wide high bars e n ∧ Rt route ∧ (0 ≤ most ∧ most ≤ 100000)
set_option maxHeartbeats 1000000 in
set_option maxRecDepth 100000 in
theorem canStart_any (wide high steep e n most : Int) (A : Option Addr) (c : Nat) (xs : List Four) (B : Option Addr) (d : Nat) (ls : List Leg) (w : World) (hn : xs.length ≤ 1048576) (hA : Fl Four.ints 4 w A xs) (hm : ls.length ≤ 1048576) (hB : Fl Leg.ints 3 w B ls) :
    Calls Try.prog 30 #[.agg #[.int .i64 wide, .int .i64 high, .slice A xs.length c, .int .i64 steep], .int .i64 e, .int .i64 n, .slice B ls.length d, .int .i64 most] w fun r w' =>
      r = .returned (.bool (tb (Asked wide high steep e n xs ls most))) ∧ Below w.heap.size w w' := by
  obtain ⟨V0, hV0, hC0, hz0, hcv, _⟩ := box_world w #[Value.int .i64 wide, .int .i64 high, .slice A xs.length c, .int .i64 steep] 26
  have hland := isLand_any wide high steep A c xs V0 (by omega) (hA.ext hC0)
  have hopen := fun (h : Lnd wide high steep xs) W hW => isOpen_any wide high steep e n A c xs W (by omega) (Fl.ext hA hW) ⟨h.2.1, h.2.2.1⟩ ⟨h.2.2.2.1, h.2.2.2.2.1⟩
  have hroute := fun W hW => isRoute_any B d ls W hm (Fl.ext hB hW)
  have hask : Asked wide high steep e n xs ls most ↔ Lnd wide high steep xs ∧ OpenSq wide high xs e n ∧ Rt ls ∧ (0 ≤ most ∧ most ≤ 100000) := Iff.rfl
  generalize Asked wide high steep e n xs ls most = Q at hask ⊢
  generalize Lnd wide high steep xs = P1 at hland hopen hask
  generalize OpenSq wide high xs e n = P2 at hopen hask
  generalize Rt ls = P3 at hroute hask
  generalize xs.length = m at *
  generalize ls.length = l at *
  have e0 : World.cell? V0 ⟨w.heap.size, 0, none⟩ = some (.int .i64 wide) := hcv 0
  have e1 : World.cell? V0 ⟨w.heap.size, 1, none⟩ = some (.int .i64 high) := hcv 1
  have e2 : World.cell? V0 ⟨w.heap.size, 2, none⟩ = some (.slice A m c) := hcv 2
  have e3 : World.cell? V0 ⟨w.heap.size, 3, none⟩ = some (.int .i64 steep) := hcv 3
  have HLAND := Lib.hid hland
  have HOPEN := Lib.hid hopen
  have HROUTE := Lib.hid hroute
  have HASK := Lib.hid hask
  clear hland hopen hroute hask hcv
  go_enter Try.func30, Try.ntmps30
  go_wp2_with fail
  refine (HLAND.out).mono ?_
  rintro e w1 ⟨rfl, hb1⟩
  have hx1 := ext_trans hC0 hb1
  have f0 := (hb1.cell (p := ⟨w.heap.size, 0, none⟩) hz0).trans e0
  have f1 := (hb1.cell (p := ⟨w.heap.size, 1, none⟩) hz0).trans e1
  have f2 := (hb1.cell (p := ⟨w.heap.size, 2, none⟩) hz0).trans e2
  have f3 := (hb1.cell (p := ⟨w.heap.size, 3, none⟩) hz0).trans e3
  by_cases h1 : P1
  · rw [tb_t h1]
    have H1 := Lib.hid h1
    clear h1
    go_wp2_with fail
    refine (HOPEN.out H1.out w1 hx1).mono ?_
    rintro e w2 ⟨rfl, hb2⟩
    have hx2 := ext_trans hx1 hb2
    by_cases h2 : P2
    · rw [tb_t h2]
      have H2 := Lib.hid h2
      clear h2
      go_wp2_with fail
      refine (HROUTE.out w2 hx2).mono ?_
      rintro e w3 ⟨rfl, hb3⟩
      have hx3 := ext_trans hx2 hb3
      by_cases h3 : P3
      · rw [tb_t h3]
        have H3 := Lib.hid h3
        clear h3
        by_cases h4 : 0 ≤ most ∧ most ≤ 100000
        · go_wp2_with fail
          refine (within_t most 0 100000 w3 h4).mono ?_
          rintro e w4 ⟨rfl, rfl⟩
          go_wp2
          go_ret
          exact ⟨ret_bool (tb_t (HASK.out.2 ⟨H1.out, H2.out, H3.out, h4⟩)).symm, hx3⟩
        · go_wp2_with fail
          refine (within_f most 0 100000 w3 h4).mono ?_
          rintro e w4 ⟨rfl, rfl⟩
          go_wp2
          go_ret
          exact ⟨ret_bool (tb_f (fun h => h4 (HASK.out.1 h).2.2.2)).symm, hx3⟩
      · rw [tb_f h3]
        have H3 := Lib.hid h3
        clear h3
        go_wp2
        go_ret
        exact ⟨ret_bool (tb_f (fun h => H3.out (HASK.out.1 h).2.2.1)).symm, hx3⟩
    · rw [tb_f h2]
      have H2 := Lib.hid h2
      clear h2
      go_wp2
      go_ret
      exact ⟨ret_bool (tb_f (fun h => H2.out (HASK.out.1 h).2.1)).symm, hx2⟩
  · rw [tb_f h1]
    have H1 := Lib.hid h1
    clear h1
    go_wp2
    go_ret
    exact ⟨ret_bool (tb_f (fun h => H1.out (HASK.out.1 h).1)).symm, hx1⟩
set_option maxHeartbeats 1000000 in
set_option maxRecDepth 100000 in
theorem l16Asked_any (wide high steep e n most : Int) (A : Option Addr) (c : Nat) (xs : List Four) (B : Option Addr) (d : Nat) (ls : List Leg) (w : World) (hn : xs.length ≤ 1048576) (hA : Fl Four.ints 4 w A xs) (hm : ls.length ≤ 1048576) (hB : Fl Leg.ints 3 w B ls) :
    Calls Try.prog 32 #[.agg #[.int .i64 wide, .int .i64 high, .slice A xs.length c, .int .i64 steep], .int .i64 e, .int .i64 n, .slice B ls.length d, .int .i64 most] w fun r w' =>
      r = .returned (.bool (tb (Asked wide high steep e n xs ls most))) ∧ Below w.heap.size w w' := by
  obtain ⟨V0, hV0, hC0, hz0, hcv, _⟩ := box_world w #[Value.int .i64 wide, .int .i64 high, .slice A xs.length c, .int .i64 steep] 26
  have hland := l16Good_any wide high steep A c xs V0 (by omega) (hA.ext hC0)
  have hopen := fun (h : Lnd wide high steep xs) W hW => l16Free_any wide high steep e n A c xs W (by omega) (Fl.ext hA hW) ⟨h.2.1, h.2.2.1⟩ ⟨h.2.2.2.1, h.2.2.2.2.1⟩
  have hroute := fun W hW => l15Good_any B d ls W hm (Fl.ext hB hW)
  have hask : Asked wide high steep e n xs ls most ↔ Lnd wide high steep xs ∧ OpenSq wide high xs e n ∧ Rt ls ∧ (0 ≤ most ∧ most ≤ 100000) := Iff.rfl
  generalize Asked wide high steep e n xs ls most = Q at hask ⊢
  generalize Lnd wide high steep xs = P1 at hland hopen hask
  generalize OpenSq wide high xs e n = P2 at hopen hask
  generalize Rt ls = P3 at hroute hask
  generalize xs.length = m at *
  generalize ls.length = l at *
  have e0 : World.cell? V0 ⟨w.heap.size, 0, none⟩ = some (.int .i64 wide) := hcv 0
  have e1 : World.cell? V0 ⟨w.heap.size, 1, none⟩ = some (.int .i64 high) := hcv 1
  have e2 : World.cell? V0 ⟨w.heap.size, 2, none⟩ = some (.slice A m c) := hcv 2
  have e3 : World.cell? V0 ⟨w.heap.size, 3, none⟩ = some (.int .i64 steep) := hcv 3
  have HLAND := Lib.hid hland
  have HOPEN := Lib.hid hopen
  have HROUTE := Lib.hid hroute
  have HASK := Lib.hid hask
  clear hland hopen hroute hask hcv
  go_enter Try.func32, Try.ntmps32
  go_wp2_with fail
  refine (HLAND.out).mono ?_
  rintro e w1 ⟨rfl, hb1⟩
  have hx1 := ext_trans hC0 hb1
  have f0 := (hb1.cell (p := ⟨w.heap.size, 0, none⟩) hz0).trans e0
  have f1 := (hb1.cell (p := ⟨w.heap.size, 1, none⟩) hz0).trans e1
  have f2 := (hb1.cell (p := ⟨w.heap.size, 2, none⟩) hz0).trans e2
  have f3 := (hb1.cell (p := ⟨w.heap.size, 3, none⟩) hz0).trans e3
  by_cases h1 : P1
  · rw [tb_t h1]
    have H1 := Lib.hid h1
    clear h1
    go_wp2_with fail
    refine (HOPEN.out H1.out w1 hx1).mono ?_
    rintro e w2 ⟨rfl, hb2⟩
    have hx2 := ext_trans hx1 hb2
    by_cases h2 : P2
    · rw [tb_t h2]
      have H2 := Lib.hid h2
      clear h2
      go_wp2_with fail
      refine (HROUTE.out w2 hx2).mono ?_
      rintro e w3 ⟨rfl, hb3⟩
      have hx3 := ext_trans hx2 hb3
      by_cases h3 : P3
      · rw [tb_t h3]
        have H3 := Lib.hid h3
        clear h3
        by_cases h4 : 0 ≤ most ∧ most ≤ 100000
        · go_wp2_with fail
          refine (l1In_t most 0 100000 w3 h4).mono ?_
          rintro e w4 ⟨rfl, rfl⟩
          go_wp2
          go_ret
          exact ⟨ret_bool (tb_t (HASK.out.2 ⟨H1.out, H2.out, H3.out, h4⟩)).symm, hx3⟩
        · go_wp2_with fail
          refine (l1In_f most 0 100000 w3 h4).mono ?_
          rintro e w4 ⟨rfl, rfl⟩
          go_wp2
          go_ret
          exact ⟨ret_bool (tb_f (fun h => h4 (HASK.out.1 h).2.2.2)).symm, hx3⟩
      · rw [tb_f h3]
        have H3 := Lib.hid h3
        clear h3
        go_wp2
        go_ret
        exact ⟨ret_bool (tb_f (fun h => H3.out (HASK.out.1 h).2.2.1)).symm, hx3⟩
    · rw [tb_f h2]
      have H2 := Lib.hid h2
      clear h2
      go_wp2
      go_ret
      exact ⟨ret_bool (tb_f (fun h => H2.out (HASK.out.1 h).2.1)).symm, hx2⟩
  · rw [tb_f h1]
    have H1 := Lib.hid h1
    clear h1
    go_wp2
    go_ret
    exact ⟨ret_bool (tb_f (fun h => H1.out (HASK.out.1 h).1)).symm, hx1⟩
end Go.Proofs.Ytlkojpmhniokfaa
