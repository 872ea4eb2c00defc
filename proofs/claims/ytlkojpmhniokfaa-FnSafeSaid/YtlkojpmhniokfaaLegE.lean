/- Legs: what a step meets. -/
import Derived.Test.YtlkojpmhniokfaaLegU
import Derived.Test.YtlkojpmhniokfaaLandFree
namespace Go.Proofs.Ytlkojpmhniokfaa
open Go.RowKit
set_option linter.unusedVariables false
set_option linter.unusedSimpArgs false

def Blocked (wide high : Int) (bars : List Four) (e n a b : Int) : Prop := ¬ OpenSq wide high bars (e + a) (n + b) ∨ (a ≠ 0 ∧ b ≠ 0 ∧ ¬ OpenSq wide high bars (e + a) n ∧ ¬ OpenSq wide high bars e (n + b))
noncomputable def stepF (wide high : Int) (bars : List Four) (e n a b : Int) : Int :=
  @ite _ (InLand wide high (e + a) (n + b)) (Classical.propDecidable _) (@ite _ (Blocked wide high bars e n a b) (Classical.propDecidable _) 2 0) 1
theorem stepF_out {wide high : Int} {bars : List Four} {e n a b : Int} (h : ¬ InLand wide high (e + a) (n + b)) : stepF wide high bars e n a b = 1 := by simp [stepF, h]
theorem stepF_bar {wide high : Int} {bars : List Four} {e n a b : Int} (h : InLand wide high (e + a) (n + b)) (h2 : Blocked wide high bars e n a b) : stepF wide high bars e n a b = 2 := by simp [stepF, h, h2]
theorem stepF_ok {wide high : Int} {bars : List Four} {e n a b : Int} (h : InLand wide high (e + a) (n + b)) (h2 : ¬ Blocked wide high bars e n a b) : stepF wide high bars e n a b = 0 := by simp [stepF, h, h2]
set_option maxHeartbeats 2000000 in
set_option maxRecDepth 100000 in
theorem enter_any (wide high steep e n a b : Int) (A : Option Addr) (c : Nat) (xs : List Four) (w : World) (hn : xs.length ≤ 1048576) (hA : Fl Four.ints 4 w A xs) (hw : 1 ≤ wide ∧ wide ≤ 2000) (hh : 1 ≤ high ∧ high ≤ 2000)
    (ha : -1 ≤ a ∧ a ≤ 1) (hb : -1 ≤ b ∧ b ≤ 1) (he : -10 ≤ e ∧ e ≤ 2010) (hnn : -10 ≤ n ∧ n ≤ 2010) :
    Calls Try.prog 55 #[.agg #[.int .i64 wide, .int .i64 high, .slice A xs.length c, .int .i64 steep], .int .i64 (e + a), .int .i64 (n + b), .int .i64 a, .int .i64 b] w fun r w' =>
      r = .returned (.int .i64 (stepF wide high xs e n a b)) ∧ Below w.heap.size w w' := by
  obtain ⟨ha1, ha2⟩ := ha
  obtain ⟨hb1', hb2'⟩ := hb
  obtain ⟨he1, he2⟩ := he
  obtain ⟨hn1, hn2⟩ := hnn
  obtain ⟨V0, hV0, hC0, hz0, hcv, _⟩ := box_world w #[Value.int .i64 wide, .int .i64 high, .slice A xs.length c, .int .i64 steep] 26
  have hhas := fun W => hasLand_any wide high steep (e + a) (n + b) (.slice A xs.length c) W hw hh rfl
  have ho1 := fun W hW => isOpen_any wide high steep (e + a) (n + b) A c xs W (by omega) (Fl.ext hA hW) hw hh
  have ho2 := fun W hW => isOpen_any wide high steep e (n + b) A c xs W (by omega) (Fl.ext hA hW) hw hh
  have ho3 := fun W hW => isOpen_any wide high steep (e + a) n A c xs W (by omega) (Fl.ext hA hW) hw hh
  have q1 : IntKind.i64.wrap (e + a - a) = e := by rw [IntWalk.i64_in _ (by omega)]; omega
  have q2 : IntKind.i64.wrap (n + b - b) = n := by rw [IntWalk.i64_in _ (by omega)]; omega
  have hBl : Blocked wide high xs e n a b ↔ (¬ OpenSq wide high xs (e + a) (n + b) ∨ (a ≠ 0 ∧ b ≠ 0 ∧ ¬ OpenSq wide high xs (e + a) n ∧ ¬ OpenSq wide high xs e (n + b))) := Iff.rfl
  have hout := @stepF_out wide high xs e n a b
  have hbar := @stepF_bar wide high xs e n a b
  have hok := @stepF_ok wide high xs e n a b
  generalize stepF wide high xs e n a b = R at hout hbar hok ⊢
  generalize OpenSq wide high xs (e + a) (n + b) = P1 at ho1 hBl
  generalize OpenSq wide high xs e (n + b) = P2 at ho2 hBl
  generalize OpenSq wide high xs (e + a) n = P3 at ho3 hBl
  generalize Blocked wide high xs e n a b = BL at hBl hbar hok
  generalize InLand wide high (e + a) (n + b) = IL at hhas hout hbar hok
  generalize xs.length = m at *
  have e0 : World.cell? V0 ⟨w.heap.size, 0, none⟩ = some (.int .i64 wide) := hcv 0
  have e1 : World.cell? V0 ⟨w.heap.size, 1, none⟩ = some (.int .i64 high) := hcv 1
  have e2 : World.cell? V0 ⟨w.heap.size, 2, none⟩ = some (.slice A m c) := hcv 2
  have e3 : World.cell? V0 ⟨w.heap.size, 3, none⟩ = some (.int .i64 steep) := hcv 3
  have HHAS := Lib.hid hhas
  have HO1 := Lib.hid ho1
  have HO2 := Lib.hid ho2
  have HO3 := Lib.hid ho3
  have HBL := Lib.hid hBl
  have HOUT := Lib.hid hout
  have HBAR := Lib.hid hbar
  have HOK := Lib.hid hok
  clear hhas ho1 ho2 ho3 hBl hout hbar hok hcv
  go_enter Try.func55, Try.ntmps55
  go_wp2_with fail
  refine (HHAS.out V0).mono ?_
  rintro e w1 ⟨rfl, hb1⟩
  have hx1 := ext_trans hC0 hb1
  have f0 := (hb1.cell (p := ⟨w.heap.size, 0, none⟩) hz0).trans e0
  have f1 := (hb1.cell (p := ⟨w.heap.size, 1, none⟩) hz0).trans e1
  have f2 := (hb1.cell (p := ⟨w.heap.size, 2, none⟩) hz0).trans e2
  have f3 := (hb1.cell (p := ⟨w.heap.size, 3, none⟩) hz0).trans e3
  by_cases h1 : IL
  · rw [tb_t h1]
    have H1 := Lib.hid h1
    clear h1
    go_wp2_with fail
    refine (HO1.out w1 hx1).mono ?_
    rintro e w2 ⟨rfl, hb2⟩
    have hx2 := ext_trans hx1 hb2
    have g0 := ((ext_trans hb1 hb2).cell (p := ⟨w.heap.size, 0, none⟩) hz0).trans e0
    have g1 := ((ext_trans hb1 hb2).cell (p := ⟨w.heap.size, 1, none⟩) hz0).trans e1
    have g2 := ((ext_trans hb1 hb2).cell (p := ⟨w.heap.size, 2, none⟩) hz0).trans e2
    have g3 := ((ext_trans hb1 hb2).cell (p := ⟨w.heap.size, 3, none⟩) hz0).trans e3
    by_cases h2 : P1
    · rw [tb_t h2]
      have H2 := Lib.hid h2
      clear h2
      by_cases ha0 : a = 0
      · have HN : Hid (¬ BL) := fun h => (HBL.out.1 h).elim (fun q => q H2.out) (fun q => q.1 ha0)
        subst ha0
        go_wp2
        go_ret
        exact ⟨ret_int (HOK.out H1.out HN.out).symm, hx2⟩
      · have ea : (a == 0) = false := beq_eq_false_iff_ne.2 ha0
        by_cases hb0 : b = 0
        · have HN : Hid (¬ BL) := fun h => (HBL.out.1 h).elim (fun q => q H2.out) (fun q => q.2.1 hb0)
          subst hb0
          go_wp2
          go_ret
          exact ⟨ret_int (HOK.out H1.out HN.out).symm, hx2⟩
        · have eb : (b == 0) = false := beq_eq_false_iff_ne.2 hb0
          have HA0 := Lib.hid ha0
          have HB0 := Lib.hid hb0
          clear ha0 hb0
          go_wp2_with fail
          refine (HO2.out w2 hx2).mono ?_
          rintro e w3 ⟨rfl, hb3⟩
          have hx3 := ext_trans hx2 hb3
          have k0 := ((ext_trans (ext_trans hb1 hb2) hb3).cell (p := ⟨w.heap.size, 0, none⟩) hz0).trans e0
          have k1 := ((ext_trans (ext_trans hb1 hb2) hb3).cell (p := ⟨w.heap.size, 1, none⟩) hz0).trans e1
          have k2 := ((ext_trans (ext_trans hb1 hb2) hb3).cell (p := ⟨w.heap.size, 2, none⟩) hz0).trans e2
          have k3 := ((ext_trans (ext_trans hb1 hb2) hb3).cell (p := ⟨w.heap.size, 3, none⟩) hz0).trans e3
          by_cases h3 : P2
          · rw [tb_t h3]
            have HN : Hid (¬ BL) := fun h => (HBL.out.1 h).elim (fun q => q H2.out) (fun q => q.2.2.2 h3)
            clear h3
            go_wp2
            go_ret
            exact ⟨ret_int (HOK.out H1.out HN.out).symm, hx3⟩
          · rw [tb_f h3]
            have H3 := Lib.hid h3
            clear h3
            go_wp2_with fail
            refine (HO3.out w3 hx3).mono ?_
            rintro e w4 ⟨rfl, hb4⟩
            have hx4 := ext_trans hx3 hb4
            by_cases h4 : P3
            · rw [tb_t h4]
              have HN : Hid (¬ BL) := fun h => (HBL.out.1 h).elim (fun q => q H2.out) (fun q => q.2.2.1 h4)
              clear h4
              go_wp2
              go_ret
              exact ⟨ret_int (HOK.out H1.out HN.out).symm, hx4⟩
            · rw [tb_f h4]
              have en1 : (a != 0) = true := bne_iff_ne.2 HA0.out
              have en2 : (b != 0) = true := bne_iff_ne.2 HB0.out
              have HY : Hid BL := HBL.out.2 (.inr ⟨HA0.out, HB0.out, h4, H3.out⟩)
              clear h4
              go_wp2
              go_ret
              exact ⟨ret_int (HBAR.out H1.out HY.out).symm, hx4⟩
    · rw [tb_f h2]
      have HY : Hid BL := HBL.out.2 (.inl h2)
      clear h2
      go_wp2
      go_ret
      exact ⟨ret_int (HBAR.out H1.out HY.out).symm, hx2⟩
  · rw [tb_f h1]
    have H1 := Lib.hid h1
    clear h1
    go_wp2
    go_ret
    exact ⟨ret_int (HOUT.out H1.out).symm, hx1⟩
end Go.Proofs.Ytlkojpmhniokfaa
