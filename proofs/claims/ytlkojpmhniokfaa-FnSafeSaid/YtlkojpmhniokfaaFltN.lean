/- FaultName on both sides, and its draw. No condition. -/
import Derived.Test.YtlkojpmhniokfaaWithin
import Derived.Test.YtlkojpmhniokfaaDrD
import Derived.Test.YtlkojpmhniokfaaErD
namespace Go.Proofs.Ytlkojpmhniokfaa
open Go.RowKit
set_option linter.unusedVariables false
set_option linter.unusedSimpArgs false

/-- the name of a fault -/
def fltN (f : Int) : ByteArray := if f = 0 then ⟨#[110, 111, 110, 101]⟩ else if f = 1 then ⟨#[111, 117, 116]⟩ else if f = 2 then ⟨#[98, 97, 114]⟩ else if f = 3 then ⟨#[115, 116, 101, 101, 112]⟩ else if f = 4 then ⟨#[108, 97, 116, 101]⟩ else ⟨#[]⟩
set_option maxHeartbeats 2000000 in
theorem faultName_any (f : Int) (w : World) :
    Calls Try.prog 20 #[.int .i64 f] w fun e w' => e = .returned (.tuple #[.string (fltN f), .bool (tb (0 ≤ f ∧ f ≤ 4))]) ∧ Below w.heap.size w w' := by
  by_cases h : 0 ≤ f ∧ f ≤ 4
  · rw [tb_t h]
    have hf : f = 0 ∨ f = 1 ∨ f = 2 ∨ f = 3 ∨ f = 4 := by omega
    clear h
    rcases hf with rfl | rfl | rfl | rfl | rfl
    all_goals
      go_enter Try.func20, Try.ntmps20
      go_wp2_with fail
      ((with_reducible refine (within_t _ 0 4 _ (by omega)).mono ?_); rintro e w4 ⟨rfl, rfl⟩)
      go_wp2
      go_ret2
      exact ⟨rfl, by go_grown⟩
  · rw [tb_f h]
    have hz : fltN f = ⟨#[]⟩ := by unfold fltN; rw [if_neg (by omega), if_neg (by omega), if_neg (by omega), if_neg (by omega), if_neg (by omega)]
    rw [hz]
    clear hz
    go_enter Try.func20, Try.ntmps20
    go_wp2_with fail
    ((with_reducible refine (within_f _ 0 4 _ h).mono ?_); rintro e w4 ⟨rfl, rfl⟩)
    go_wp2
    go_ret2
    exact ⟨rfl, by go_grown⟩
set_option maxHeartbeats 2000000 in
theorem specFaultName_any (f : Int) (w : World) :
    Calls Try.prog 21 #[.int .i64 f] w fun e w' => e = .returned (.tuple #[.string (fltN f), .bool (tb (0 ≤ f ∧ f ≤ 4))]) ∧ Below w.heap.size w w' := by
  by_cases h : 0 ≤ f ∧ f ≤ 4
  · rw [tb_t h]
    have hf : f = 0 ∨ f = 1 ∨ f = 2 ∨ f = 3 ∨ f = 4 := by omega
    clear h
    rcases hf with rfl | rfl | rfl | rfl | rfl
    all_goals
      go_enter Try.func21, Try.ntmps21
      go_wp2_with fail
      ((with_reducible refine (l1In_t _ 0 4 _ (by omega)).mono ?_); rintro e w4 ⟨rfl, rfl⟩)
      go_wp2
      go_ret2
      exact ⟨rfl, by go_grown⟩
  · rw [tb_f h]
    have hz : fltN f = ⟨#[]⟩ := by unfold fltN; rw [if_neg (by omega), if_neg (by omega), if_neg (by omega), if_neg (by omega), if_neg (by omega)]
    rw [hz]
    clear hz
    go_enter Try.func21, Try.ntmps21
    go_wp2_with fail
    ((with_reducible refine (l1In_f _ 0 4 _ h).mono ?_); rintro e w4 ⟨rfl, rfl⟩)
    go_wp2
    go_ret2
    exact ⟨rfl, by go_grown⟩
def FnDr (w : World) (e : Ending) (w' : World) : Prop := ∃ x : Int, e = .returned (.int .i64 x) ∧ Below w.heap.size w w'
set_option maxHeartbeats 4000000 in
set_option maxRecDepth 100000 in
theorem drawFaultName_any (A : Option Addr) (n cap : Nat) (w : World) (hA : Bytes w A n) (hn : n ≤ 1099511627776) :
    Calls Try.prog 19 #[.slice A n cap] w (FnDr w) := by
  obtain ⟨V0, hV0, hB0, hz0, hu0, hf0⟩ := box_world w #[Value.slice A n cap, .int .i64 0, .int .u64 0] 57
  have hC0 : CurAt w.heap.size A n cap 0 V0 := hV0 ▸ CurAt.start hA cap _
  obtain ⟨g, hg⟩ : ∃ g, g = w.heap.size := ⟨_, rfl⟩
  rw [← hg] at hC0
  have HG := Lib.hid hg
  have hgw : w.heap.size ≤ g := by omega
  have hgV : g + 1 ≤ V0.heap.size := by omega
  have HP := Lib.hid (pick_any 6 g A n cap 0 V0 hC0 (by omega) hn)
  have HB0 := Lib.hid hB0
  clear hg hC0 hu0 hf0 hA hB0
  go_enter Try.func19, Try.ntmps19
  go_wp2_with fail
  rw [← HG.out]
  clear hV0
  ((with_reducible refine (HP.out).mono ?_); rintro e w1 ⟨_, rfl, ⟨x, rfl, hx0, hx1⟩, hC, hU⟩)
  have hT := hU
  have hz_w1 : V0.heap.size ≤ w1.heap.size := hU.size
  clear hU
  have HN2 := Lib.hid (pick_any 9 g A n cap _ w1 hC (by omega) hn)
  clear hC
  go_wp2_with fail
  ((with_reducible refine (HN2.out).mono ?_); rintro e w2 ⟨_, rfl, ⟨y, rfl, y0, y1⟩, hC, hU2⟩)
  replace hT := hT.trans hU2
  have hz_w2 : (World.heap w1).size ≤ (World.heap w2).size := hU2.size
  clear hU2
  have hy9 : 0 ≤ y ∧ y < 9 := by omega
  have hx9 : 0 ≤ x ∧ x < 6 := by omega
  have HT := Lib.hid (hT.below HB0.out hgw)
  have t1 : y.tdiv 8 = y / 8 := Int.tdiv_eq_ediv_of_nonneg hy9.1
  have hyd : 0 ≤ y / 8 ∧ y / 8 ≤ 1 := by omega
  clear hC hT hx0 hx1
  go_wp2
  go_ret
  exact ⟨_, rfl, HT.out⟩
end Go.Proofs.Ytlkojpmhniokfaa
