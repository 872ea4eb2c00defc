/- Which lands are valid: the program's IsLand and the reference's. -/
import Derived.Test.YtlkojpmhniokfaaProg
import Derived.Test.YtlkojpmhniokfaaBase
import Derived.Test.YtlkojpmhniokfaaTypes
namespace Go.Proofs.Ytlkojpmhniokfaa
open Go.RowKit
set_option linter.unusedVariables false
set_option linter.unusedSimpArgs false

def BarOk (wide high : Int) (b : Four) : Prop := 0 ≤ b.a ∧ b.a ≤ b.c ∧ b.c < wide ∧ 0 ≤ b.b ∧ b.b ≤ b.d ∧ b.d < high
def Lnd (wide high steep : Int) (bars : List Four) : Prop := Good (BarOk wide high) (fun _ _ => True) bars ∧ 1 ≤ wide ∧ wide ≤ 2000 ∧ 1 ≤ high ∧ high ≤ 2000 ∧ bars.length ≤ 10 ∧ 1 ≤ steep ∧ steep ≤ 100

set_option maxHeartbeats 2000000 in
set_option maxRecDepth 100000 in
theorem isLand_any (wide high steep : Int) (A : Option Addr) (c : Nat) (xs : List Four) (w : World) (hn : xs.length ≤ 1152921504606846976) (hA : Fl Four.ints 4 w A xs) :
    Calls Try.prog 9 #[.agg #[.int .i64 wide, .int .i64 high, .slice A xs.length c, .int .i64 steep]] w fun e w' => e = .returned (.bool (tb (Lnd wide high steep xs))) ∧ Below w.heap.size w w' := by
  obtain ⟨n, hnn⟩ : ∃ n, n = List.length xs := ⟨_, rfl⟩
  rw [← hnn] at hn ⊢
  have hN := Lib.hid hnn
  clear hnn
  go_enter Try.func9, Try.ntmps9
  go_wp2
  go_loopw [8] (fun i wr => ∃ k : Nat, k ≤ n ∧ i = .int .i64 k ∧ Below (w.heap.size + 1) (w.alloc (.cells #[.int .i64 wide, .int .i64 high, .slice A n c, .int .i64 steep] 26)) wr ∧ Hid (GoodTo (BarOk wide high) (fun _ _ => True) xs k)) (fun i _ => n - (intOf i).toNat)
  case atStart => exact ⟨0, by omega, rfl, Below.refl _ _, GoodTo.zero⟩
  case round =>
    obtain ⟨k, hk, rfl, hbr0, hall⟩ := hrel
    have hbr : Below w.heap.size w wr := (by go_grown : Below w.heap.size w _).trans (hbr0.mono (by omega))
    have hz : w.heap.size + 1 ≤ wr.heap.size := by have := hbr0.size; simpa using this
    have hbx : ∀ j, wr.cell? ⟨w.heap.size, j, none⟩ = #[Value.int .i64 wide, .int .i64 high, .slice A n c, .int .i64 steep][j]? := fun j =>
      (hbr0.cell (p := ⟨w.heap.size, j, none⟩) (by simp)).trans (World.cell?_alloc_new _ _ _ _)
    have e0 : World.cell? wr ⟨w.heap.size, 0, none⟩ = some (.int .i64 wide) := hbx 0
    have e1 : World.cell? wr ⟨w.heap.size, 1, none⟩ = some (.int .i64 high) := hbx 1
    have e2 : World.cell? wr ⟨w.heap.size, 2, none⟩ = some (.slice A n c) := hbx 2
    have e3 : World.cell? wr ⟨w.heap.size, 3, none⟩ = some (.int .i64 steep) := hbx 3
    clear hbx
    have hzz : w.heap.size < wr.heap.size := by omega
    by_cases hlt : k < n
    · have hAr := hA.ext hbr
      obtain ⟨x, b, o, hx, rfl, hb, hc⟩ := hAr.at_ (k := k) (by rw [← hN.out]; exact hlt)
      have hX := Lib.hid hx
      clear hx
      have c0 : World.cell? wr ⟨b, o + k * 4, none⟩ = some (.int .i64 x.a) := hc 0 _ rfl
      have c1 : World.cell? wr ⟨b, o + k * 4 + 1, none⟩ = some (.int .i64 x.b) := hc 1 _ rfl
      have c2 : World.cell? wr ⟨b, o + k * 4 + 2, none⟩ = some (.int .i64 x.c) := hc 2 _ rfl
      have c3 : World.cell? wr ⟨b, o + k * 4 + 3, none⟩ = some (.int .i64 x.d) := hc 3 _ rfl
      clear hc hA hAr
      have hk0 : (0 : Int) ≤ (k : Int) := by omega
      have hk1 : (k : Int) < (n : Int) := by omega
      by_cases hP : BarOk wide high x
      · obtain ⟨a1, a2, a3, a4, a5, a6⟩ := id hP
        go_wp2
        go_roundw
        case rel => exact ⟨k + 1, by omega, by go_num, hbr0.trans (by go_grown), hall.out.step hX.out hP (fun m z hm _ => trivial)⟩
        case measure => simp [intOf]; omega
      · go_wp2
        all_goals first
          | (exfalso; apply hP; unfold BarOk; omega)
          | (go_ret; exact ⟨ret_bool (tb_f (fun h => Good.not_elem hX.out hP h.1)).symm, by go_grown⟩)
    · have hkn : k = n := by omega
      subst hkn
      clear hA
      have hG : Good (BarOk wide high) (fun _ _ => True) xs := hall.out.all (by rw [← hN.out]; exact Nat.le_refl _)
      have hL := hN.out
      have hG := Lib.hid hG
      have hL := Lib.hid hL
      go_wp2
      all_goals
        go_ret
        refine ⟨ret_bool ?_, by go_grown⟩
        first
          | exact (tb_t ⟨hG.out, by have := hL.out; omega⟩).symm
          | exact (tb_f (fun h => by have := h.2; have := hL.out; omega)).symm
          | exact tb_dec ⟨fun h => by have := h.2; have := hL.out; omega, fun h => ⟨hG.out, by have := hL.out; omega⟩⟩
set_option maxHeartbeats 2000000 in
set_option maxRecDepth 100000 in
theorem l16Good_any (wide high steep : Int) (A : Option Addr) (c : Nat) (xs : List Four) (w : World) (hn : xs.length ≤ 1152921504606846976) (hA : Fl Four.ints 4 w A xs) :
    Calls Try.prog 35 #[.agg #[.int .i64 wide, .int .i64 high, .slice A xs.length c, .int .i64 steep]] w fun e w' => e = .returned (.bool (tb (Lnd wide high steep xs))) ∧ Below w.heap.size w w' := by
  obtain ⟨n, hnn⟩ : ∃ n, n = List.length xs := ⟨_, rfl⟩
  rw [← hnn] at hn ⊢
  have hN := Lib.hid hnn
  clear hnn
  go_enter Try.func35, Try.ntmps35
  go_wp2
  go_loopw [3] (fun i wr => ∃ k : Nat, k ≤ n ∧ i = .int .i64 k ∧ Below (w.heap.size + 1) (w.alloc (.cells #[.int .i64 wide, .int .i64 high, .slice A n c, .int .i64 steep] 26)) wr ∧ Hid (GoodTo (BarOk wide high) (fun _ _ => True) xs k)) (fun i _ => n - (intOf i).toNat)
  case atStart => exact ⟨0, by omega, rfl, Below.refl _ _, GoodTo.zero⟩
  case round =>
    obtain ⟨k, hk, rfl, hbr0, hall⟩ := hrel
    have hbr : Below w.heap.size w wr := (by go_grown : Below w.heap.size w _).trans (hbr0.mono (by omega))
    have hz : w.heap.size + 1 ≤ wr.heap.size := by have := hbr0.size; simpa using this
    have hbx : ∀ j, wr.cell? ⟨w.heap.size, j, none⟩ = #[Value.int .i64 wide, .int .i64 high, .slice A n c, .int .i64 steep][j]? := fun j =>
      (hbr0.cell (p := ⟨w.heap.size, j, none⟩) (by simp)).trans (World.cell?_alloc_new _ _ _ _)
    have e0 : World.cell? wr ⟨w.heap.size, 0, none⟩ = some (.int .i64 wide) := hbx 0
    have e1 : World.cell? wr ⟨w.heap.size, 1, none⟩ = some (.int .i64 high) := hbx 1
    have e2 : World.cell? wr ⟨w.heap.size, 2, none⟩ = some (.slice A n c) := hbx 2
    have e3 : World.cell? wr ⟨w.heap.size, 3, none⟩ = some (.int .i64 steep) := hbx 3
    clear hbx
    have hzz : w.heap.size < wr.heap.size := by omega
    by_cases hlt : k < n
    · have hAr := hA.ext hbr
      obtain ⟨x, b, o, hx, rfl, hb, hc⟩ := hAr.at_ (k := k) (by rw [← hN.out]; exact hlt)
      have hX := Lib.hid hx
      clear hx
      have c0 : World.cell? wr ⟨b, o + k * 4, none⟩ = some (.int .i64 x.a) := hc 0 _ rfl
      have c1 : World.cell? wr ⟨b, o + k * 4 + 1, none⟩ = some (.int .i64 x.b) := hc 1 _ rfl
      have c2 : World.cell? wr ⟨b, o + k * 4 + 2, none⟩ = some (.int .i64 x.c) := hc 2 _ rfl
      have c3 : World.cell? wr ⟨b, o + k * 4 + 3, none⟩ = some (.int .i64 x.d) := hc 3 _ rfl
      clear hc hA hAr
      have hk0 : (0 : Int) ≤ (k : Int) := by omega
      have hk1 : (k : Int) < (n : Int) := by omega
      by_cases hP : BarOk wide high x
      · obtain ⟨a1, a2, a3, a4, a5, a6⟩ := id hP
        go_wp2
        go_roundw
        case rel => exact ⟨k + 1, by omega, by go_num, hbr0.trans (by go_grown), hall.out.step hX.out hP (fun m z hm _ => trivial)⟩
        case measure => simp [intOf]; omega
      · go_wp2
        all_goals first
          | (exfalso; apply hP; unfold BarOk; omega)
          | (go_ret; exact ⟨ret_bool (tb_f (fun h => Good.not_elem hX.out hP h.1)).symm, by go_grown⟩)
    · have hkn : k = n := by omega
      subst hkn
      clear hA
      have hG : Good (BarOk wide high) (fun _ _ => True) xs := hall.out.all (by rw [← hN.out]; exact Nat.le_refl _)
      have hL := hN.out
      have hG := Lib.hid hG
      have hL := Lib.hid hL
      go_wp2
      all_goals
        go_ret
        refine ⟨ret_bool ?_, by go_grown⟩
        first
          | exact (tb_t ⟨hG.out, by have := hL.out; omega⟩).symm
          | exact (tb_f (fun h => by have := h.2; have := hL.out; omega)).symm
          | exact tb_dec ⟨fun h => by have := h.2; have := hL.out; omega, fun h => ⟨hG.out, by have := hL.out; omega⟩⟩
end Go.Proofs.Ytlkojpmhniokfaa
