/- Zones drawn: the draws of the laws. No condition. -/
import Derived.Test.YtpjapemclbminaaZonA
import Derived.Test.YtpjapemclbminaaDrD
namespace Go.Proofs.Ytpjapemclbminaa
open Go.RowKit
set_option linter.unusedVariables false
set_option linter.unusedSimpArgs false

def ZnDr (w : World) (e : Ending) (w' : World) : Prop :=
  ∃ (A : Option Addr) (d : Nat) (xs : List Zone), e = .returned (.slice A xs.length d) ∧ xs.length ≤ 12 ∧ (xs.length ≤ d ∧ d ≤ 9223372036854775807) ∧ FlO Zone.ints 5 w.heap.size w'.heap.size w' A xs ∧ Below w.heap.size w w'
def ZaDr (w : World) (e : Ending) (w' : World) : Prop :=
  ∃ (A : Option Addr) (d : Nat) (xs : List Zone) (x y : Int), e = .returned (.tuple #[.slice A xs.length d, .int .i64 x, .int .i64 y]) ∧ xs.length ≤ 12 ∧ (xs.length ≤ d ∧ d ≤ 9223372036854775807) ∧ FlO Zone.ints 5 w.heap.size w'.heap.size w' A xs ∧ Below w.heap.size w w'
def ZiDr (w : World) (e : Ending) (w' : World) : Prop :=
  ∃ (A : Option Addr) (d : Nat) (xs : List Zone) (x : Int), e = .returned (.tuple #[.slice A xs.length d, .int .i64 x]) ∧ xs.length ≤ 12 ∧ (xs.length ≤ d ∧ d ≤ 9223372036854775807) ∧ FlO Zone.ints 5 w.heap.size w'.heap.size w' A xs ∧ Below w.heap.size w w'
set_option maxHeartbeats 4000000 in
set_option maxRecDepth 100000 in
theorem drawAreZones_any (A : Option Addr) (n cap : Nat) (w : World) (hA : Bytes w A n) (hn : n ≤ 1099511627776) :
    Calls Try.prog 36 #[.slice A n cap] w (ZnDr w) := by
  obtain ⟨V0, hV0, hB0, hz0, hu0, hf0⟩ := box_world w #[Value.slice A n cap, .int .i64 0, .int .u64 0] 71
  have hC0 : CurAt w.heap.size A n cap 0 V0 := hV0 ▸ CurAt.start hA cap _
  obtain ⟨g, hg⟩ : ∃ g, g = w.heap.size := ⟨_, rfl⟩
  rw [← hg] at hC0
  have HG := Lib.hid hg
  have hgw : w.heap.size ≤ g := by omega
  have hgV : g + 1 ≤ V0.heap.size := by omega
  have HP := Lib.hid (zones_any g A n cap 0 V0 hC0 (by omega) hn)
  have HB0 := Lib.hid hB0
  clear hg hC0 hu0 hf0 hA hB0
  go_enter Try.func36, Try.ntmps36
  go_wp2_with fail
  rw [← HG.out]
  clear hV0
  ((with_reducible refine (HP.out).mono ?_); rintro e w1 ⟨B, d, xs, rfl, hl, hcap, hF, hC, hU⟩)
  have hT := hU
  have hz_w1 : V0.heap.size ≤ w1.heap.size := hU.size
  clear hU
  have HF := Lib.hid hF
  have HT := Lib.hid (hT.below HB0.out hgw)
  clear hF hC hT
  go_wp2
  go_ret
  exact ⟨B, d, xs, rfl, hl, hcap, HF.out.mono (by omega) (Nat.le_refl _), HT.out⟩
set_option maxHeartbeats 400000 in
theorem drawRedundant_any (A : Option Addr) (n cap : Nat) (w : World) (hA : Bytes w A n) (hn : n ≤ 1099511627776) :
    Calls Try.prog 6 #[.slice A n cap] w (ZnDr w) := by
  have HP := Lib.hid (drawAreZones_any A n cap w hA hn)
  clear hA
  go_enter Try.func6, Try.ntmps6
  go_wp2_with fail
  ((with_reducible refine (HP.out).mono ?_); rintro e w1 ⟨B, d, xs, rfl, hl, hcap, hF, hB⟩)
  have HF := Lib.hid hF
  have HB := Lib.hid hB
  clear hF hB
  go_wp2
  go_ret
  exact ⟨B, d, xs, rfl, hl, hcap, HF.out, HB.out⟩
set_option maxHeartbeats 400000 in
theorem drawMostDeep_any (A : Option Addr) (n cap : Nat) (w : World) (hA : Bytes w A n) (hn : n ≤ 1099511627776) :
    Calls Try.prog 16 #[.slice A n cap] w (ZnDr w) := by
  have HP := Lib.hid (drawAreZones_any A n cap w hA hn)
  clear hA
  go_enter Try.func16, Try.ntmps16
  go_wp2_with fail
  ((with_reducible refine (HP.out).mono ?_); rintro e w1 ⟨B, d, xs, rfl, hl, hcap, hF, hB⟩)
  have HF := Lib.hid hF
  have HB := Lib.hid hB
  clear hF hB
  go_wp2
  go_ret
  exact ⟨B, d, xs, rfl, hl, hcap, HF.out, HB.out⟩
set_option maxHeartbeats 4000000 in
set_option maxRecDepth 100000 in
theorem drawZonesAt_any (A : Option Addr) (n cap : Nat) (w : World) (hA : Bytes w A n) (hn : n ≤ 1099511627776) :
    Calls Try.prog 20 #[.slice A n cap] w (ZaDr w) := by
  obtain ⟨V0, hV0, hB0, hz0, hu0, hf0⟩ := box_world w #[Value.slice A n cap, .int .i64 0, .int .u64 0] 71
  have hC0 : CurAt w.heap.size A n cap 0 V0 := hV0 ▸ CurAt.start hA cap _
  obtain ⟨g, hg⟩ : ∃ g, g = w.heap.size := ⟨_, rfl⟩
  rw [← hg] at hC0
  have HG := Lib.hid hg
  have hgw : w.heap.size ≤ g := by omega
  have hgV : g + 1 ≤ V0.heap.size := by omega
  have HP := Lib.hid (zones_any g A n cap 0 V0 hC0 (by omega) hn)
  have HB0 := Lib.hid hB0
  clear hg hC0 hu0 hf0 hA hB0
  go_enter Try.func20, Try.ntmps20
  go_wp2_with fail
  rw [← HG.out]
  clear hV0
  ((with_reducible refine (HP.out).mono ?_); rintro e w1 ⟨B, d, xs, rfl, hl, hcap, hF, hC, hU⟩)
  have hT := hU
  have hz_w1 : V0.heap.size ≤ w1.heap.size := hU.size
  clear hU
  have hlt2 : g < (World.heap w1).size := hC.lt
  have HN2 := Lib.hid (among_any (some ⟨(World.heap w1).size, 0, none⟩) 8 8 [0, 9, 10, 19, 20, 9998, 9999, -1] rfl (World.heap w1).size ((World.heap w1).size + 1) g A n cap _ (World.alloc w1 (.cells #[Value.int .i64 (0), Value.int .i64 (9), Value.int .i64 (10), Value.int .i64 (19), Value.int .i64 (20), Value.int .i64 (9998), Value.int .i64 (9999), Value.int .i64 (-1)] 3)) (hC.ext (ext_alloc _ _)) (by omega) hn (lit_flo w1 [0, 9, 10, 19, 20, 9998, 9999, -1] _ _ rfl) (by simp) (by simp) (.inl hlt2))
  clear hC
  go_wp2_with fail
  ((with_reducible refine (HN2.out).mono ?_); rintro e w2 ⟨_, rfl, ⟨q1, _, rfl⟩, hC, hU2⟩)
  replace hU2 := (Touch.of_ext (ext_alloc w1 (.cells #[Value.int .i64 (0), Value.int .i64 (9), Value.int .i64 (10), Value.int .i64 (19), Value.int .i64 (20), Value.int .i64 (9998), Value.int .i64 (9999), Value.int .i64 (-1)] 3))).trans hU2
  replace hF := hF.touch hU2 (by omega)
  replace hT := hT.trans hU2
  have hz_w2 : (World.heap w1).size ≤ (World.heap w2).size := hU2.size
  clear hU2
  have hlt3 : g < (World.heap w2).size := hC.lt
  have HN3 := Lib.hid (among_any (some ⟨(World.heap w2).size, 0, none⟩) 6 6 [0, 4, 5, 10, 9998, 9999] rfl (World.heap w2).size ((World.heap w2).size + 1) g A n cap _ (World.alloc w2 (.cells #[Value.int .i64 (0), Value.int .i64 (4), Value.int .i64 (5), Value.int .i64 (10), Value.int .i64 (9998), Value.int .i64 (9999)] 3)) (hC.ext (ext_alloc _ _)) (by omega) hn (lit_flo w2 [0, 4, 5, 10, 9998, 9999] _ _ rfl) (by simp) (by simp) (.inl hlt3))
  clear hC
  go_wp2_with fail
  ((with_reducible refine (HN3.out).mono ?_); rintro e w3 ⟨_, rfl, ⟨q2, _, rfl⟩, hC, hU3⟩)
  replace hU3 := (Touch.of_ext (ext_alloc w2 (.cells #[Value.int .i64 (0), Value.int .i64 (4), Value.int .i64 (5), Value.int .i64 (10), Value.int .i64 (9998), Value.int .i64 (9999)] 3))).trans hU3
  replace hF := hF.touch hU3 (by omega)
  replace hT := hT.trans hU3
  have hz_w3 : (World.heap w2).size ≤ (World.heap w3).size := hU3.size
  clear hU3
  have HF := Lib.hid hF
  have HT := Lib.hid (hT.below HB0.out hgw)
  clear hF hC hT
  go_wp2
  go_ret3
  exact ⟨B, d, xs, q1, q2, rfl, hl, hcap, HF.out.mono (by omega) (by omega), HT.out⟩
end Go.Proofs.Ytpjapemclbminaa
