/- The laws' own functions over structs that hold a slice: the marks. -/
import Derived.Test.YtbldoidcjkffdaaBoxLaw
namespace Go.Proofs.Ytbldoidcjkffdaa
open Go.RowKit
set_option linter.unusedVariables false
set_option linter.unusedSimpArgs false
set_option maxHeartbeats 1000000 in
theorem markScan_any (rows cols : Int) (A : Option Addr) (c lo hi : Nat) (k0 : Int) (xs : List Tile) (w : World) (hk : 0 ≤ k0) (hn : xs.length ≤ 16777216) (hk1 : k0 ≤ 1099511627776) (hA : FlO Tile.ints 3 lo hi w A xs) :
    Calls Try.prog 15 #[.agg #[.int .i64 rows, .int .i64 cols, .slice A xs.length c], .int .i64 k0] w fun e w' => e = .returned (.int .i64 (k0 + (xs.length : Int) * 3)) ∧ Num lo hi w' A (xs.length * 3) k0 ∧ Touch lo hi w w' := by
  have hmk := fun W hW => markTileS_any A c lo hi k0 xs W hk hn hk1 hW
  obtain ⟨N, hN⟩ : ∃ N, N = xs.length := ⟨_, rfl⟩
  obtain ⟨V0, hV0, hC0, hz0, _, _⟩ := box_world w #[Value.int .i64 rows, .int .i64 cols, .slice A N c] 28
  rw [← hN] at hmk ⊢
  obtain ⟨K, hK⟩ : ∃ K, K = k0 + (N : Int) * 3 := ⟨_, rfl⟩
  rw [← hK] at hmk ⊢
  have HM := Lib.hid hmk
  clear hmk hN hK
  go_enter Try.func15, Try.ntmps15
  go_wp2_with fail
  clear hV0
  refine (HM.out V0 (hA.ext hC0)).mono ?_
  rintro e w1 ⟨rfl, hN1, hT1⟩
  go_wp2
  go_ret
  exact ⟨rfl, hN1, (Touch.of_ext hC0).trans hT1⟩
set_option maxHeartbeats 1000000 in
theorem heldScan_any (rows cols : Int) (A : Option Addr) (n c lo hi : Nat) (k0 : Int) (w : World) (hk : 0 ≤ k0) (hn : n ≤ 16777216) (hk1 : k0 ≤ 1099511627776) (hA : Num lo hi w A (n * 3) k0) :
    Calls Try.prog 16 #[.agg #[.int .i64 rows, .int .i64 cols, .slice A n c], .int .i64 k0] w fun e w' => e = .returned (.int .i64 (k0 + (n : Int) * 3)) ∧ Below w.heap.size w w' := by
  obtain ⟨V0, hV0, hC0, hz0, _, _⟩ := box_world w #[Value.int .i64 rows, .int .i64 cols, .slice A n c] 28
  have hmk := heldTileS_any A n c lo hi k0 V0 hk hn hk1 (hA.ext hC0)
  have hd : ¬ k0 + (n : Int) * 3 < 0 := by omega
  obtain ⟨K, hK⟩ : ∃ K, K = k0 + (n : Int) * 3 := ⟨_, rfl⟩
  rw [← hK] at hmk hd ⊢
  have HM := Lib.hid hmk
  clear hmk hK
  go_enter Try.func16, Try.ntmps16
  go_wp2_with fail
  clear hV0
  refine HM.out.mono ?_
  rintro e w1 ⟨rfl, rfl⟩
  go_wp2
  go_ret
  exact ⟨rfl, hC0⟩
end Go.Proofs.Ytbldoidcjkffdaa
