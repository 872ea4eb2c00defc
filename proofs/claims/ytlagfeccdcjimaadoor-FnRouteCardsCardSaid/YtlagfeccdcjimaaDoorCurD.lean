/- The cursor of the reference's draws. No condition. -/
import Derived.Test.YtlagfeccdcjimaaDoorProg
import Derived.Test.YtlagfeccdcjimaaDoorBase
import Derived.Test.YtlagfeccdcjimaaDoorBase2
import Derived.BigQuiet
import Derived.Lib.Hide
import Derived.Laws.BitsAllLaws
namespace Go.Proofs.YtlagfeccdcjimaaDoor
open Go.RowKit
set_option linter.unusedVariables false
set_option linter.unusedSimpArgs false

/-- block g is a cursor over n bytes at C: its place is at most k -/
structure CurAt (g : Nat) (C : Option Addr) (n cap k : Nat) (w : World) : Prop where
  lt : g < w.heap.size
  c0 : w.cell? ⟨g, 0, none⟩ = some (.slice C n cap)
  c1 : ∃ a : Nat, a ≤ k ∧ w.cell? ⟨g, 1, none⟩ = some (.int .i64 a)
  c2 : ∃ s : Int, 0 ≤ s ∧ s ≤ 18446744073709551615 ∧ w.cell? ⟨g, 2, none⟩ = some (.int .u64 s)
  fz : ∀ j, w.frozen? ⟨g, j, none⟩ = false
  code : ∀ i, i < n → ∃ b o v, C = some ⟨b, o, none⟩ ∧ b < g ∧ (0 : Int) ≤ v ∧ v ≤ 255 ∧ w.cell? ⟨b, o + i, none⟩ = some (.int .u8 v)
theorem CurAt.mono {g : Nat} {C : Option Addr} {n cap k k' : Nat} {w : World} (h : CurAt g C n cap k w) (hk : k ≤ k') : CurAt g C n cap k' w :=
  ⟨h.lt, h.c0, by obtain ⟨a, h1, h2⟩ := h.c1; exact ⟨a, by omega, h2⟩, h.c2, h.fz, h.code⟩
theorem CurAt.ext {g : Nat} {C : Option Addr} {n cap k : Nat} {w w' : World} (h : CurAt g C n cap k w) (hb : Below w.heap.size w w') : CurAt g C n cap k w' := by
  have c := fun j => hb.cell (p := ⟨g, j, none⟩) h.lt
  refine ⟨Nat.lt_of_lt_of_le h.lt hb.size, (c 0).trans h.c0, ?_, ?_, fun j => (hb.frozen (p := ⟨g, j, none⟩) h.lt).trans (h.fz j), fun i hi => ?_⟩
  · obtain ⟨a, h1, h2⟩ := h.c1; exact ⟨a, h1, (c 1).trans h2⟩
  · obtain ⟨s, h1, h2, h3⟩ := h.c2; exact ⟨s, h1, h2, (c 2).trans h3⟩
  · obtain ⟨b, o, v, h1, h2, h3, h4, h5⟩ := h.code i hi
    exact ⟨b, o, v, h1, h2, h3, h4, (hb.cell (p := ⟨b, _, none⟩) (Nat.lt_trans h2 h.lt)).trans h5⟩
/-- what a draw leaves: a value, the cursor moved on by at most d, all else as it was -/
def Drew (P : Value → Prop) (g : Nat) (C : Option Addr) (n cap k d : Nat) (w : World) (e : Ending) (w' : World) : Prop :=
  ∃ v, e = .returned v ∧ P v ∧ CurAt g C n cap (k + d) w' ∧ Touch g (g + 1) w w'
theorem byte_of (S : Int) (h0 : 0 ≤ S) (h1 : S ≤ 18446744073709551615) : 0 ≤ wrap64 (bits BinOp.and IntKind.u64 (S / 1099511627776) 255) ∧ wrap64 (bits BinOp.and IntKind.u64 (S / 1099511627776) 255) ≤ 255 := by
  rw [u64_and _ _ (by omega) (by omega) (by omega) (by omega)]
  have h := @Nat.and_le_right (S / 1099511627776).toNat (255 : Int).toNat
  have h2 : (255 : Int).toNat = 255 := rfl
  rw [h2] at h ⊢
  unfold wrap64
  omega
set_option maxHeartbeats 4000000 in
set_option maxRecDepth 100000 in
theorem next_any (g : Nat) (C : Option Addr) (n cap k : Nat) (w : World) (hC : CurAt g C n cap k w) (hk : k ≤ 1099511627776) (hn : n ≤ 1099511627776) :
    Calls Tryd.prog 61 #[.pointer (some ⟨g, 0, none⟩)] w (Drew (fun v => ∃ z : Int, v = .int .i64 z ∧ 0 ≤ z ∧ z ≤ 255) g C n cap k 1 w) := by
  obtain ⟨a, ha, c1⟩ := hC.c1
  obtain ⟨s, hs0, hs1, c2⟩ := hC.c2
  have c0 := hC.c0
  have fz := hC.fz
  have lt := hC.lt
  have hpc := plus_cell w
  have HC := Lib.hid hC
  clear hC
  by_cases h : a < n
  · obtain ⟨b, o, v, rfl, hb, hv0, hv1, hv⟩ := HC.out.code a h
    have hbl : b < w.heap.size := Nat.lt_trans hb lt
    have h1 : (a : Int) < (n : Int) := by omega
    have h0 : (0 : Int) ≤ (a : Int) := by omega
    go_enter Tryd.func61, Tryd.ntmps61
    go_wp2_with fail
    refine wp_region_grow (by kernel_rfl) (by kernel_rfl) ?_
    repeat (go_big_quiet_step ((first | (fail))))
    refine wpQuiet_nil ?_
    intro w1 hb1
    obtain ⟨w2, hz2⟩ : ∃ z, z = w1 := ⟨_, rfl⟩
    subst hz2
    have hb2 := hb1
    have q0 := (hb2.cell (p := ⟨g, 0, none⟩) lt).trans c0
    have q1 := (hb2.cell (p := ⟨g, 1, none⟩) lt).trans c1
    have q2 := (hb2.cell (p := ⟨g, 2, none⟩) lt).trans c2
    have lt2 : g < w2.heap.size := Nat.lt_of_lt_of_le lt hb2.size
    have hpc2 := plus_cell w2
    clear hpc c0 c1 c2
    have k1 := (hb1.cell (p := ⟨b, o + a, none⟩) hbl).trans hv
    have hbl2 : b < w2.heap.size := Nat.lt_of_lt_of_le hbl hb1.size
    go_wp2_with fail
    refine wp_region_grow (by kernel_rfl) (by kernel_rfl) ?_
    repeat (go_big_quiet_step ((first | (fail))))
    refine wpQuiet_nil ?_
    intro w1 hb1
    obtain ⟨w3, hz3⟩ : ∃ z, z = w1 := ⟨_, rfl⟩
    subst hz3
    have hb3 := ext_trans hb2 hb1
    have p0 := (hb1.cell (p := ⟨g, 0, none⟩) lt2).trans q0
    have p1 := (hb1.cell (p := ⟨g, 1, none⟩) lt2).trans q1
    have p2 := (hb1.cell (p := ⟨g, 2, none⟩) lt2).trans q2
    have lt3 : g < w3.heap.size := Nat.lt_of_lt_of_le lt2 hb1.size
    have fz3 : ∀ j, w3.frozen? ⟨g, j, none⟩ = false := fun j => (hb3.frozen (p := ⟨g, j, none⟩) lt).trans (fz j)
    clear hpc2 q0 q1 q2
    go_wp2
    obtain ⟨S, hS⟩ : ∃ S, S = IntKind.u64.wrap (IntKind.u64.wrap (IntKind.u64.wrap (s * 6364136223846793005) + v) + 604171) := ⟨_, rfl⟩
    have hS0 : 0 ≤ S ∧ S ≤ 18446744073709551615 := by rw [hS]; simp [IntKind.wrap, IntKind.bits, IntKind.signed]; omega
    rw [← hS]
    obtain ⟨w4, hw4⟩ : ∃ z, z = (w3.setCell ⟨g, 1, none⟩ (Value.int .i64 ((a : Int) + 1))).setCell ⟨g, 2, none⟩ (Value.int .u64 S) := ⟨_, rfl⟩
    rw [← hw4]
    have r0 : w4.cell? ⟨g, 0, none⟩ = some (.slice (some ⟨b, o, none⟩) n cap) := by rw [hw4]; simp [go_sem, p0, p1, p2, lt3]
    have r1 : w4.cell? ⟨g, 1, none⟩ = some (.int .i64 ((a : Int) + 1)) := by rw [hw4]; simp [go_sem, p0, p1, p2, lt3]
    have r2 : w4.cell? ⟨g, 2, none⟩ = some (.int .u64 S) := by rw [hw4]; simp [go_sem, p0, p1, p2, lt3]
    have hsz4 : w4.heap.size = w3.heap.size := by rw [hw4]; simp [setCell_size]
    have hTW : Touch g (g + 1) w w4 := by rw [hw4]; exact ((Touch.of_ext hb3).set (p := ⟨g, 1, none⟩) (Nat.le_refl g) (Nat.lt_succ_self g) _).set (p := ⟨g, 2, none⟩) (Nat.le_refl g) (Nat.lt_succ_self g) _
    have fz4 : ∀ j, w4.frozen? ⟨g, j, none⟩ = false := fun j => by rw [hw4, frozen_setCell, frozen_setCell]; exact fz3 j
    have hCW : CurAt g (some ⟨b, o, none⟩) n cap (k + 1) w4 := ⟨by omega, r0, ⟨a + 1, by omega, r1⟩, ⟨S, hS0.1, hS0.2, r2⟩, fz4, fun i hi => by
      obtain ⟨b8, o8, v8, e8, h8, h81, h82, h83⟩ := HC.out.code i hi
      exact ⟨b8, o8, v8, e8, h8, h81, h82, (hTW.cell (Nat.lt_trans h8 lt) (.inl h8)).trans h83⟩⟩
    have lt4 : g < w4.heap.size := by omega
    have hpc4 := plus_cell w4
    clear hw4 hS p0 p1 p2
    go_wp2_with fail
    refine wp_region_grow (by kernel_rfl) (by kernel_rfl) ?_
    repeat (go_big_quiet_step ((first | (fail))))
    refine wpQuiet_nil ?_
    intro w1 hb1
    obtain ⟨w5, hz5⟩ : ∃ z, z = w1 := ⟨_, rfl⟩
    subst hz5
    have s2 := (hb1.cell (p := ⟨g, 2, none⟩) lt4).trans r2
    clear hpc4 r0 r1 r2
    by_cases hcmp : ((a : Int) + 1 ≤ (n : Int))
    · go_wp2
      refine bodyPost_ret (v := .int .i64 v) (by simp [results, Tryd.results61, go_sem]) rfl ⟨_, rfl, ⟨v, rfl, hv0, hv1⟩, hCW.ext hb1, hTW.trans (Touch.of_ext hb1)⟩
    · omega
  · have h1 : ¬ (a : Int) < (n : Int) := by omega
    go_enter Tryd.func61, Tryd.ntmps61
    go_wp2_with fail
    refine wp_region_grow (by kernel_rfl) (by kernel_rfl) ?_
    repeat (go_big_quiet_step ((first | (fail))))
    refine wpQuiet_nil ?_
    intro w1 hb1
    obtain ⟨w3, hz3⟩ : ∃ z, z = w1 := ⟨_, rfl⟩
    subst hz3
    have hb3 := hb1
    have p0 := (hb3.cell (p := ⟨g, 0, none⟩) lt).trans c0
    have p1 := (hb3.cell (p := ⟨g, 1, none⟩) lt).trans c1
    have p2 := (hb3.cell (p := ⟨g, 2, none⟩) lt).trans c2
    have lt3 : g < w3.heap.size := Nat.lt_of_lt_of_le lt hb3.size
    have fz3 : ∀ j, w3.frozen? ⟨g, j, none⟩ = false := fun j => (hb3.frozen (p := ⟨g, j, none⟩) lt).trans (fz j)
    clear hpc c0 c1 c2
    go_wp2
    obtain ⟨S, hS⟩ : ∃ S, S = IntKind.u64.wrap (IntKind.u64.wrap (IntKind.u64.wrap (s * 6364136223846793005)) + 604171) := ⟨_, rfl⟩
    have hS0 : 0 ≤ S ∧ S ≤ 18446744073709551615 := by rw [hS]; simp [IntKind.wrap, IntKind.bits, IntKind.signed]; omega
    rw [← hS]
    obtain ⟨w4, hw4⟩ : ∃ z, z = (w3.setCell ⟨g, 1, none⟩ (Value.int .i64 ((a : Int) + 1))).setCell ⟨g, 2, none⟩ (Value.int .u64 S) := ⟨_, rfl⟩
    rw [← hw4]
    have r0 : w4.cell? ⟨g, 0, none⟩ = some (.slice C n cap) := by rw [hw4]; simp [go_sem, p0, p1, p2, lt3]
    have r1 : w4.cell? ⟨g, 1, none⟩ = some (.int .i64 ((a : Int) + 1)) := by rw [hw4]; simp [go_sem, p0, p1, p2, lt3]
    have r2 : w4.cell? ⟨g, 2, none⟩ = some (.int .u64 S) := by rw [hw4]; simp [go_sem, p0, p1, p2, lt3]
    have hsz4 : w4.heap.size = w3.heap.size := by rw [hw4]; simp [setCell_size]
    have hTW : Touch g (g + 1) w w4 := by rw [hw4]; exact ((Touch.of_ext hb3).set (p := ⟨g, 1, none⟩) (Nat.le_refl g) (Nat.lt_succ_self g) _).set (p := ⟨g, 2, none⟩) (Nat.le_refl g) (Nat.lt_succ_self g) _
    have fz4 : ∀ j, w4.frozen? ⟨g, j, none⟩ = false := fun j => by rw [hw4, frozen_setCell, frozen_setCell]; exact fz3 j
    have hCW : CurAt g C n cap (k + 1) w4 := ⟨by omega, r0, ⟨a + 1, by omega, r1⟩, ⟨S, hS0.1, hS0.2, r2⟩, fz4, fun i hi => by
      obtain ⟨b8, o8, v8, e8, h8, h81, h82, h83⟩ := HC.out.code i hi
      exact ⟨b8, o8, v8, e8, h8, h81, h82, (hTW.cell (Nat.lt_trans h8 lt) (.inl h8)).trans h83⟩⟩
    have lt4 : g < w4.heap.size := by omega
    have hpc4 := plus_cell w4
    clear hw4 hS p0 p1 p2
    go_wp2_with fail
    refine wp_region_grow (by kernel_rfl) (by kernel_rfl) ?_
    repeat (go_big_quiet_step ((first | (fail))))
    refine wpQuiet_nil ?_
    intro w1 hb1
    obtain ⟨w5, hz5⟩ : ∃ z, z = w1 := ⟨_, rfl⟩
    subst hz5
    have s2 := (hb1.cell (p := ⟨g, 2, none⟩) lt4).trans r2
    clear hpc4 r0 r1 r2
    have hcmp : ¬ ((a : Int) + 1 ≤ (n : Int)) := by omega
    go_wp2
    obtain ⟨y0, y1⟩ := byte_of S hS0.1 hS0.2
    refine bodyPost_ret (v := .int .i64 (wrap64 (bits BinOp.and IntKind.u64 (S / 1099511627776) 255))) (by simp [results, Tryd.results61, go_sem]) rfl ⟨_, rfl, ⟨_, rfl, y0, y1⟩, hCW.ext hb1, hTW.trans (Touch.of_ext hb1)⟩
end Go.Proofs.YtlagfeccdcjimaaDoor
