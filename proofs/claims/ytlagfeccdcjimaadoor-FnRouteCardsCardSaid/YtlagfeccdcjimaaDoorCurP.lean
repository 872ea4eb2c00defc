/- The draws of a number and of a yes. No condition. -/
import Derived.Test.YtlagfeccdcjimaaDoorCurD
namespace Go.Proofs.YtlagfeccdcjimaaDoor
open Go.RowKit
set_option linter.unusedVariables false
set_option linter.unusedSimpArgs false

set_option maxHeartbeats 4000000 in
set_option maxRecDepth 100000 in
theorem pick_any (m : Int) (g : Nat) (C : Option Addr) (n cap k : Nat) (w : World) (hC : CurAt g C n cap k w) (hk : k ≤ 549755813888) (hn : n ≤ 1099511627776) :
    Calls Tryd.prog 44 #[.pointer (some ⟨g, 0, none⟩), .int .i64 m] w (Drew (fun v => ∃ z : Int, v = .int .i64 z ∧ 0 ≤ z ∧ (z < m ∨ z = 0)) g C n cap k 2 w) := by
  have HN1 := Lib.hid (next_any g C n cap k w hC (by omega) hn)
  by_cases h1 : m ≤ 1
  · have HC := Lib.hid hC
    clear hC
    go_enter Tryd.func44, Tryd.ntmps44
    go_wp2
    go_ret
    exact ⟨_, rfl, ⟨0, rfl, by omega, .inr rfl⟩, HC.out.mono (by omega), Touch.refl _ _ _⟩
  · have hm0 : 0 < m := by omega
    by_cases h2 : 200 < m
    · clear hC
      go_enter Tryd.func44, Tryd.ntmps44
      go_wp2_with fail
      ((with_reducible refine (HN1.out).mono ?_); rintro e w1 ⟨_, rfl, ⟨z, rfl, hz0, hz1⟩, hC1, hT1⟩)
      have HC1 := Lib.hid hC1
      have HT1 := Lib.hid hT1
      have HN2 := Lib.hid (next_any g C n cap (k + 1) w1 hC1 (by omega) hn)
      clear hC1 hT1
      go_wp2_with fail
      ((with_reducible refine (HN2.out).mono ?_); rintro e w2 ⟨_, rfl, ⟨y, rfl, hy0, hy1⟩, hC2, hT2⟩)
      have hx0 : 0 ≤ z * 256 + y := by omega
      have hmod0 := Int.emod_nonneg (z * 256 + y) (show m ≠ 0 by omega)
      have hmod1 := Int.emod_lt_of_pos (z * 256 + y) hm0
      have HC2 := Lib.hid hC2
      have HT2 := Lib.hid hT2
      have hmne : m ≠ 0 := by omega
      clear hC2 hT2
      go_wp2
      go_ret
      exact ⟨_, rfl, ⟨_, rfl, hmod0, .inl hmod1⟩, HC2.out, HT1.out.trans HT2.out⟩
    · clear hC
      go_enter Tryd.func44, Tryd.ntmps44
      go_wp2_with fail
      ((with_reducible refine (HN1.out).mono ?_); rintro e w1 ⟨_, rfl, ⟨z, rfl, hz0, hz1⟩, hC1, hT1⟩)
      have hmod0 := Int.emod_nonneg z (show m ≠ 0 by omega)
      have hmod1 := Int.emod_lt_of_pos z hm0
      have hmne : m ≠ 0 := by omega
      have HC1 := Lib.hid hC1
      have HT1 := Lib.hid hT1
      clear hC1 hT1
      go_wp2
      go_ret
      exact ⟨_, rfl, ⟨_, rfl, hmod0, .inl hmod1⟩, HC1.out.mono (by omega), HT1.out⟩
set_option maxHeartbeats 4000000 in
set_option maxRecDepth 100000 in
theorem one_any (m : Int) (g : Nat) (C : Option Addr) (n cap k : Nat) (w : World) (hC : CurAt g C n cap k w) (hk : k ≤ 549755813888) (hn : n ≤ 1099511627776) :
    Calls Tryd.prog 51 #[.pointer (some ⟨g, 0, none⟩), .int .i64 m] w (Drew (fun v => ∃ b : Bool, v = .bool b) g C n cap k 2 w) := by
  have HN1 := Lib.hid (pick_any m g C n cap k w hC hk hn)
  clear hC
  go_enter Tryd.func51, Tryd.ntmps51
  go_wp2_with fail
  ((with_reducible refine (HN1.out).mono ?_); rintro e w1 ⟨_, rfl, ⟨z, rfl, hz0, hz1⟩, hC1, hT1⟩)
  have HC1 := Lib.hid hC1
  have HT1 := Lib.hid hT1
  clear hC1 hT1
  go_wp2
  go_ret
  exact ⟨_, rfl, ⟨_, rfl⟩, HC1.out, HT1.out⟩
end Go.Proofs.YtlagfeccdcjimaaDoor
