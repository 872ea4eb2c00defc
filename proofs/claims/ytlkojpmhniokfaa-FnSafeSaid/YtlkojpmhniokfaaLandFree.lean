/- Which squares of a land are open (where IsOpenSquare itself is not in the seat). -/
import Derived.Test.YtlkojpmhniokfaaLandOk
namespace Go.Proofs.Ytlkojpmhniokfaa
open Go.RowKit
set_option linter.unusedVariables false
set_option linter.unusedSimpArgs false

def InBar (e n : Int) (b : Four) : Prop := b.a ≤ e ∧ e ≤ b.c ∧ b.b ≤ n ∧ n ≤ b.d
def InLand (wide high e n : Int) : Prop := 0 ≤ e ∧ e < wide ∧ 0 ≤ n ∧ n < high
def OpenSq (wide high : Int) (bars : List Four) (e n : Int) : Prop := Good (fun b => ¬ InBar e n b) (fun _ _ => True) bars ∧ InLand wide high e n

set_option maxHeartbeats 1000000 in
theorem hasLand_any (wide high steep e1 n1 : Int) (v : Value) (w : World) (hw : 1 ≤ wide ∧ wide ≤ 2000) (hh : 1 ≤ high ∧ high ≤ 2000) (hv : v.oneCell' = true) :
    Calls Try.prog 44 #[.agg #[.int .i64 wide, .int .i64 high, v, .int .i64 steep], .int .i64 e1, .int .i64 n1] w fun e w' => e = .returned (.bool (tb (InLand wide high e1 n1))) ∧ Below w.heap.size w w' := by
  obtain ⟨hw1, hw2⟩ := hw
  obtain ⟨hh1, hh2⟩ := hh
  go_enter Try.func44, Try.ntmps44
  go_wp2
  all_goals
    go_ret
    refine ⟨ret_bool ?_, by go_grown⟩
    first | exact (tb_t (by unfold InLand; omega)).symm | exact (tb_f (by unfold InLand; omega)).symm | exact tb_dec (by unfold InLand; omega)
set_option maxHeartbeats 1000000 in
theorem l16In_any (wide high steep e1 n1 : Int) (v : Value) (w : World) (hw : 1 ≤ wide ∧ wide ≤ 2000) (hh : 1 ≤ high ∧ high ≤ 2000) (hv : v.oneCell' = true) :
    Calls Try.prog 46 #[.agg #[.int .i64 wide, .int .i64 high, v, .int .i64 steep], .int .i64 e1, .int .i64 n1] w fun e w' => e = .returned (.bool (tb (InLand wide high e1 n1))) ∧ Below w.heap.size w w' := by
  obtain ⟨hw1, hw2⟩ := hw
  obtain ⟨hh1, hh2⟩ := hh
  go_enter Try.func46, Try.ntmps46
  go_wp2
  all_goals
    go_ret
    refine ⟨ret_bool ?_, by go_grown⟩
    first | exact (tb_t (by unfold InLand; omega)).symm | exact (tb_f (by unfold InLand; omega)).symm | exact tb_dec (by unfold InLand; omega)

set_option maxHeartbeats 2000000 in
set_option maxRecDepth 100000 in
theorem isOpen_any (wide high steep p1 n1 : Int) (A : Option Addr) (c : Nat) (xs : List Four) (w : World) (hn : xs.length ≤ 1152921504606846976) (hA : Fl Four.ints 4 w A xs) (hw : 1 ≤ wide ∧ wide ≤ 2000) (hh : 1 ≤ high ∧ high ≤ 2000) :
    Calls Try.prog 45 #[.agg #[.int .i64 wide, .int .i64 high, .slice A xs.length c, .int .i64 steep], .int .i64 p1, .int .i64 n1] w fun e w' => e = .returned (.bool (tb (OpenSq wide high xs p1 n1))) ∧ Below w.heap.size w w' := by
  obtain ⟨n, hnn⟩ : ∃ n, n = List.length xs := ⟨_, rfl⟩
  rw [← hnn] at hn ⊢
  have hN := Lib.hid hnn
  clear hnn
  go_enter Try.func45, Try.ntmps45
  go_wp2
  go_loopw [12] (fun i wr => ∃ k : Nat, k ≤ n ∧ i = .int .i64 k ∧ Below (w.heap.size + 1) (w.alloc (.cells #[.int .i64 wide, .int .i64 high, .slice A n c, .int .i64 steep] 26)) wr ∧ Hid (GoodTo (fun b => ¬ InBar p1 n1 b) (fun _ _ => True) xs k)) (fun i _ => n - (intOf i).toNat)
  case atStart => exact ⟨0, by omega, rfl, Below.refl _ _, GoodTo.zero⟩
  case round =>
    obtain ⟨k, hk, rfl, hbr0, hall⟩ := hrel
    have hbr : Below w.heap.size w wr := (by go_grown : Below w.heap.size w _).trans (hbr0.mono (by omega))
    have hz : w.heap.size + 1 ≤ wr.heap.size := by have := hbr0.size; simpa using this
    have hbx : ∀ j, wr.cell? ⟨w.heap.size, j, none⟩ = #[Value.int .i64 wide, .int .i64 high, .slice A n c, .int .i64 steep][j]? := fun j =>
      (hbr0.cell (p := ⟨w.heap.size, j, none⟩) (by simp)).trans (World.cell?_alloc_new _ _ _ _)
    have e0 : World.cell? wr ⟨w.heap.size, 0, none⟩ = some (.int .i64 wide) := hbx 0
    have e1 : World.cell? wr ⟨w.heap.size, 1, none⟩ = some (.int .i64 high) := hbx 1
    have e2 : World.cell? wr ⟨w.heap.size, 2, none⟩ = some (.slice A n c) := hbx 2
    have e3 : World.cell? wr ⟨w.heap.size, 3, none⟩ = some (.int .i64 steep) := hbx 3
    clear hbx
    have hzz : w.heap.size < wr.heap.size := by omega
    by_cases hlt : k < n
    · have hAr := hA.ext hbr
      obtain ⟨x, b, o, hx, rfl, hb, hc⟩ := hAr.at_ (k := k) (by rw [← hN.out]; exact hlt)
      have hX := Lib.hid hx
      clear hx
      have c0 : World.cell? wr ⟨b, o + k * 4, none⟩ = some (.int .i64 x.a) := hc 0 _ rfl
      have c1 : World.cell? wr ⟨b, o + k * 4 + 1, none⟩ = some (.int .i64 x.b) := hc 1 _ rfl
      have c2 : World.cell? wr ⟨b, o + k * 4 + 2, none⟩ = some (.int .i64 x.c) := hc 2 _ rfl
      have c3 : World.cell? wr ⟨b, o + k * 4 + 3, none⟩ = some (.int .i64 x.d) := hc 3 _ rfl
      clear hc hA hAr
      have hk0 : (0 : Int) ≤ (k : Int) := by omega
      have hk1 : (k : Int) < (n : Int) := by omega
      go_wp2
      all_goals first
        | (have hP : InBar p1 n1 x := by unfold InBar; omega
           go_ret
           exact ⟨ret_bool (tb_f (fun h => Good.not_elem hX.out (fun h2 => h2 hP) h.1)).symm, by go_grown⟩)
        | (have hP : ¬ InBar p1 n1 x := by unfold InBar; omega
           go_roundw
           case rel => exact ⟨k + 1, by omega, by go_num, hbr0.trans (by go_grown), hall.out.step hX.out hP (fun m z hm _ => trivial)⟩
           case measure => simp [intOf]; omega)
    · have hkn : k = n := by omega
      subst hkn
      clear hA
      have hG := Lib.hid (show Good (fun b => ¬ InBar p1 n1 b) (fun _ _ => True) xs from hall.out.all (by rw [← hN.out]; exact Nat.le_refl _))
      go_wp2_with fail
      refine (hasLand_any wide high steep _ n1 (.slice A k c) _ hw hh rfl).mono ?_
      rintro e w1 ⟨rfl, hb1⟩
      go_wp2
      go_ret
      exact ⟨ret_bool (tb_iff ⟨fun h => ⟨hG.out, h⟩, fun h => h.2⟩), ext_trans hbr hb1⟩
set_option maxHeartbeats 2000000 in
set_option maxRecDepth 100000 in
theorem l16Free_any (wide high steep p1 n1 : Int) (A : Option Addr) (c : Nat) (xs : List Four) (w : World) (hn : xs.length ≤ 1152921504606846976) (hA : Fl Four.ints 4 w A xs) (hw : 1 ≤ wide ∧ wide ≤ 2000) (hh : 1 ≤ high ∧ high ≤ 2000) :
    Calls Try.prog 47 #[.agg #[.int .i64 wide, .int .i64 high, .slice A xs.length c, .int .i64 steep], .int .i64 p1, .int .i64 n1] w fun e w' => e = .returned (.bool (tb (OpenSq wide high xs p1 n1))) ∧ Below w.heap.size w w' := by
  obtain ⟨n, hnn⟩ : ∃ n, n = List.length xs := ⟨_, rfl⟩
  rw [← hnn] at hn ⊢
  have hN := Lib.hid hnn
  clear hnn
  go_enter Try.func47, Try.ntmps47
  go_wp2
  go_loopw [7] (fun i wr => ∃ k : Nat, k ≤ n ∧ i = .int .i64 k ∧ Below (w.heap.size + 1) (w.alloc (.cells #[.int .i64 wide, .int .i64 high, .slice A n c, .int .i64 steep] 26)) wr ∧ Hid (GoodTo (fun b => ¬ InBar p1 n1 b) (fun _ _ => True) xs k)) (fun i _ => n - (intOf i).toNat)
  case atStart => exact ⟨0, by omega, rfl, Below.refl _ _, GoodTo.zero⟩
  case round =>
    obtain ⟨k, hk, rfl, hbr0, hall⟩ := hrel
    have hbr : Below w.heap.size w wr := (by go_grown : Below w.heap.size w _).trans (hbr0.mono (by omega))
    have hz : w.heap.size + 1 ≤ wr.heap.size := by have := hbr0.size; simpa using this
    have hbx : ∀ j, wr.cell? ⟨w.heap.size, j, none⟩ = #[Value.int .i64 wide, .int .i64 high, .slice A n c, .int .i64 steep][j]? := fun j =>
      (hbr0.cell (p := ⟨w.heap.size, j, none⟩) (by simp)).trans (World.cell?_alloc_new _ _ _ _)
    have e0 : World.cell? wr ⟨w.heap.size, 0, none⟩ = some (.int .i64 wide) := hbx 0
    have e1 : World.cell? wr ⟨w.heap.size, 1, none⟩ = some (.int .i64 high) := hbx 1
    have e2 : World.cell? wr ⟨w.heap.size, 2, none⟩ = some (.slice A n c) := hbx 2
    have e3 : World.cell? wr ⟨w.heap.size, 3, none⟩ = some (.int .i64 steep) := hbx 3
    clear hbx
    have hzz : w.heap.size < wr.heap.size := by omega
    by_cases hlt : k < n
    · have hAr := hA.ext hbr
      obtain ⟨x, b, o, hx, rfl, hb, hc⟩ := hAr.at_ (k := k) (by rw [← hN.out]; exact hlt)
      have hX := Lib.hid hx
      clear hx
      have c0 : World.cell? wr ⟨b, o + k * 4, none⟩ = some (.int .i64 x.a) := hc 0 _ rfl
      have c1 : World.cell? wr ⟨b, o + k * 4 + 1, none⟩ = some (.int .i64 x.b) := hc 1 _ rfl
      have c2 : World.cell? wr ⟨b, o + k * 4 + 2, none⟩ = some (.int .i64 x.c) := hc 2 _ rfl
      have c3 : World.cell? wr ⟨b, o + k * 4 + 3, none⟩ = some (.int .i64 x.d) := hc 3 _ rfl
      clear hc hA hAr
      have hk0 : (0 : Int) ≤ (k : Int) := by omega
      have hk1 : (k : Int) < (n : Int) := by omega
      go_wp2
      all_goals first
        | (have hP : InBar p1 n1 x := by unfold InBar; omega
           go_ret
           exact ⟨ret_bool (tb_f (fun h => Good.not_elem hX.out (fun h2 => h2 hP) h.1)).symm, by go_grown⟩)
        | (have hP : ¬ InBar p1 n1 x := by unfold InBar; omega
           go_roundw
           case rel => exact ⟨k + 1, by omega, by go_num, hbr0.trans (by go_grown), hall.out.step hX.out hP (fun m z hm _ => trivial)⟩
           case measure => simp [intOf]; omega)
    · have hkn : k = n := by omega
      subst hkn
      clear hA
      have hG := Lib.hid (show Good (fun b => ¬ InBar p1 n1 b) (fun _ _ => True) xs from hall.out.all (by rw [← hN.out]; exact Nat.le_refl _))
      go_wp2_with fail
      refine (l16In_any wide high steep _ n1 (.slice A k c) _ hw hh rfl).mono ?_
      rintro e w1 ⟨rfl, hb1⟩
      go_wp2
      go_ret
      exact ⟨ret_bool (tb_iff ⟨fun h => ⟨hG.out, h⟩, fun h => h.2⟩), ext_trans hbr hb1⟩

end Go.Proofs.Ytlkojpmhniokfaa
