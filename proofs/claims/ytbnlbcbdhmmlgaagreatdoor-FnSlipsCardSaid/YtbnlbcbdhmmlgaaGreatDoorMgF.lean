/- The cursor of the reference's draws. The draws of a number and of a yes. The draws of one among some numbers. The laws' own functions over structs that hold a slice: what is left of the size; the marks. No condition. -/
import Derived.Test.YtbnlbcbdhmmlgaaGreatDoorProg
import Derived.Test.YtbnlbcbdhmmlgaaGreatDoorMgA
import Derived.BigQuiet
import Derived.Lib.Hide
import Derived.Laws.BitsAllLaws
namespace Go.Proofs.YtbnlbcbdhmmlgaaGreatDoor
open Go.RowKit
set_option linter.unusedVariables false
set_option linter.unusedSimpArgs false

/-- block g is a cursor over n bytes at C: its place is at most k -/
structure CurAt (g : Nat) (C : Option Addr) (n cap k : Nat) (w : World) : Prop where
  lt : g < w.heap.size
  c0 : w.cell? ⟨g, 0, none⟩ = some (.slice C n cap)
  c1 : ∃ a : Nat, a ≤ k ∧ w.cell? ⟨g, 1, none⟩ = some (.int .i64 a)
  c2 : ∃ s : Int, 0 ≤ s ∧ s ≤ 18446744073709551615 ∧ w.cell? ⟨g, 2, none⟩ = some (.int .u64 s)
  fz : ∀ j, w.frozen? ⟨g, j, none⟩ = false
  code : ∀ i, i < n → ∃ b o v, C = some ⟨b, o, none⟩ ∧ b < g ∧ (0 : Int) ≤ v ∧ v ≤ 255 ∧ w.cell? ⟨b, o + i, none⟩ = some (.int .u8 v)
theorem CurAt.mono {g : Nat} {C : Option Addr} {n cap k k' : Nat} {w : World} (h : CurAt g C n cap k w) (hk : k ≤ k') : CurAt g C n cap k' w :=
  ⟨h.lt, h.c0, by obtain ⟨a, h1, h2⟩ := h.c1; exact ⟨a, by omega, h2⟩, h.c2, h.fz, h.code⟩
theorem CurAt.ext {g : Nat} {C : Option Addr} {n cap k : Nat} {w w' : World} (h : CurAt g C n cap k w) (hb : Below w.heap.size w w') : CurAt g C n cap k w' := by
  have c := fun j => hb.cell (p := ⟨g, j, none⟩) h.lt
  refine ⟨Nat.lt_of_lt_of_le h.lt hb.size, (c 0).trans h.c0, ?_, ?_, fun j => (hb.frozen (p := ⟨g, j, none⟩) h.lt).trans (h.fz j), fun i hi => ?_⟩
  · obtain ⟨a, h1, h2⟩ := h.c1; exact ⟨a, h1, (c 1).trans h2⟩
  · obtain ⟨s, h1, h2, h3⟩ := h.c2; exact ⟨s, h1, h2, (c 2).trans h3⟩
  · obtain ⟨b, o, v, h1, h2, h3, h4, h5⟩ := h.code i hi
    exact ⟨b, o, v, h1, h2, h3, h4, (hb.cell (p := ⟨b, _, none⟩) (Nat.lt_trans h2 h.lt)).trans h5⟩
/-- what a draw leaves: a value, the cursor moved on by at most d, all else as it was -/
def Drew (P : Value → Prop) (g : Nat) (C : Option Addr) (n cap k d : Nat) (w : World) (e : Ending) (w' : World) : Prop :=
  ∃ v, e = .returned v ∧ P v ∧ CurAt g C n cap (k + d) w' ∧ Touch g (g + 1) w w'
theorem byte_of (S : Int) (h0 : 0 ≤ S) (h1 : S ≤ 18446744073709551615) : 0 ≤ wrap64 (bits BinOp.and IntKind.u64 (S / 1099511627776) 255) ∧ wrap64 (bits BinOp.and IntKind.u64 (S / 1099511627776) 255) ≤ 255 := by
  rw [u64_and _ _ (by omega) (by omega) (by omega) (by omega)]
  have h := @Nat.and_le_right (S / 1099511627776).toNat (255 : Int).toNat
  have h2 : (255 : Int).toNat = 255 := rfl
  rw [h2] at h ⊢
  unfold wrap64
  omega
set_option maxHeartbeats 4000000 in
set_option maxRecDepth 100000 in
theorem next_any (g : Nat) (C : Option Addr) (n cap k : Nat) (w : World) (hC : CurAt g C n cap k w) (hk : k ≤ 1099511627776) (hn : n ≤ 1099511627776) :
    Calls Tryz.prog 78 #[.pointer (some ⟨g, 0, none⟩)] w (Drew (fun v => ∃ z : Int, v = .int .i64 z ∧ 0 ≤ z ∧ z ≤ 255) g C n cap k 1 w) := by
  obtain ⟨a, ha, c1⟩ := hC.c1
  obtain ⟨s, hs0, hs1, c2⟩ := hC.c2
  have c0 := hC.c0
  have fz := hC.fz
  have lt := hC.lt
  have hpc := plus_cell w
  have HC := Lib.hid hC
  clear hC
  by_cases h : a < n
  · obtain ⟨b, o, v, rfl, hb, hv0, hv1, hv⟩ := HC.out.code a h
    have hbl : b < w.heap.size := Nat.lt_trans hb lt
    have h1 : (a : Int) < (n : Int) := by omega
    have h0 : (0 : Int) ≤ (a : Int) := by omega
    go_enter Tryz.func78, Tryz.ntmps78
    go_wp2_with fail
    refine wp_region_grow (by kernel_rfl) (by kernel_rfl) ?_
    repeat (go_big_quiet_step ((first | (fail))))
    refine wpQuiet_nil ?_
    intro w1 hb1
    obtain ⟨w2, hz2⟩ : ∃ z, z = w1 := ⟨_, rfl⟩
    subst hz2
    have hb2 := hb1
    have q0 := (hb2.cell (p := ⟨g, 0, none⟩) lt).trans c0
    have q1 := (hb2.cell (p := ⟨g, 1, none⟩) lt).trans c1
    have q2 := (hb2.cell (p := ⟨g, 2, none⟩) lt).trans c2
    have lt2 : g < w2.heap.size := Nat.lt_of_lt_of_le lt hb2.size
    have hpc2 := plus_cell w2
    clear hpc c0 c1 c2
    have k1 := (hb1.cell (p := ⟨b, o + a, none⟩) hbl).trans hv
    have hbl2 : b < w2.heap.size := Nat.lt_of_lt_of_le hbl hb1.size
    go_wp2_with fail
    refine wp_region_grow (by kernel_rfl) (by kernel_rfl) ?_
    repeat (go_big_quiet_step ((first | (fail))))
    refine wpQuiet_nil ?_
    intro w1 hb1
    obtain ⟨w3, hz3⟩ : ∃ z, z = w1 := ⟨_, rfl⟩
    subst hz3
    have hb3 := ext_trans hb2 hb1
    have p0 := (hb1.cell (p := ⟨g, 0, none⟩) lt2).trans q0
    have p1 := (hb1.cell (p := ⟨g, 1, none⟩) lt2).trans q1
    have p2 := (hb1.cell (p := ⟨g, 2, none⟩) lt2).trans q2
    have lt3 : g < w3.heap.size := Nat.lt_of_lt_of_le lt2 hb1.size
    have fz3 : ∀ j, w3.frozen? ⟨g, j, none⟩ = false := fun j => (hb3.frozen (p := ⟨g, j, none⟩) lt).trans (fz j)
    clear hpc2 q0 q1 q2
    go_wp2
    obtain ⟨S, hS⟩ : ∃ S, S = IntKind.u64.wrap (IntKind.u64.wrap (IntKind.u64.wrap (s * 6364136223846793005) + v) + 604171) := ⟨_, rfl⟩
    have hS0 : 0 ≤ S ∧ S ≤ 18446744073709551615 := by rw [hS]; simp [IntKind.wrap, IntKind.bits, IntKind.signed]; omega
    rw [← hS]
    obtain ⟨w4, hw4⟩ : ∃ z, z = (w3.setCell ⟨g, 1, none⟩ (Value.int .i64 ((a : Int) + 1))).setCell ⟨g, 2, none⟩ (Value.int .u64 S) := ⟨_, rfl⟩
    rw [← hw4]
    have r0 : w4.cell? ⟨g, 0, none⟩ = some (.slice (some ⟨b, o, none⟩) n cap) := by rw [hw4]; simp [go_sem, p0, p1, p2, lt3]
    have r1 : w4.cell? ⟨g, 1, none⟩ = some (.int .i64 ((a : Int) + 1)) := by rw [hw4]; simp [go_sem, p0, p1, p2, lt3]
    have r2 : w4.cell? ⟨g, 2, none⟩ = some (.int .u64 S) := by rw [hw4]; simp [go_sem, p0, p1, p2, lt3]
    have hsz4 : w4.heap.size = w3.heap.size := by rw [hw4]; simp [setCell_size]
    have hTW : Touch g (g + 1) w w4 := by rw [hw4]; exact ((Touch.of_ext hb3).set (p := ⟨g, 1, none⟩) (Nat.le_refl g) (Nat.lt_succ_self g) _).set (p := ⟨g, 2, none⟩) (Nat.le_refl g) (Nat.lt_succ_self g) _
    have fz4 : ∀ j, w4.frozen? ⟨g, j, none⟩ = false := fun j => by rw [hw4, frozen_setCell, frozen_setCell]; exact fz3 j
    have hCW : CurAt g (some ⟨b, o, none⟩) n cap (k + 1) w4 := ⟨by omega, r0, ⟨a + 1, by omega, r1⟩, ⟨S, hS0.1, hS0.2, r2⟩, fz4, fun i hi => by
      obtain ⟨b8, o8, v8, e8, h8, h81, h82, h83⟩ := HC.out.code i hi
      exact ⟨b8, o8, v8, e8, h8, h81, h82, (hTW.cell (Nat.lt_trans h8 lt) (.inl h8)).trans h83⟩⟩
    have lt4 : g < w4.heap.size := by omega
    have hpc4 := plus_cell w4
    clear hw4 hS p0 p1 p2
    go_wp2_with fail
    refine wp_region_grow (by kernel_rfl) (by kernel_rfl) ?_
    repeat (go_big_quiet_step ((first | (fail))))
    refine wpQuiet_nil ?_
    intro w1 hb1
    obtain ⟨w5, hz5⟩ : ∃ z, z = w1 := ⟨_, rfl⟩
    subst hz5
    have s2 := (hb1.cell (p := ⟨g, 2, none⟩) lt4).trans r2
    clear hpc4 r0 r1 r2
    by_cases hcmp : ((a : Int) + 1 ≤ (n : Int))
    · go_wp2
      refine bodyPost_ret (v := .int .i64 v) (by simp [results, Tryz.results78, go_sem]) rfl ⟨_, rfl, ⟨v, rfl, hv0, hv1⟩, hCW.ext hb1, hTW.trans (Touch.of_ext hb1)⟩
    · omega
  · have h1 : ¬ (a : Int) < (n : Int) := by omega
    go_enter Tryz.func78, Tryz.ntmps78
    go_wp2_with fail
    refine wp_region_grow (by kernel_rfl) (by kernel_rfl) ?_
    repeat (go_big_quiet_step ((first | (fail))))
    refine wpQuiet_nil ?_
    intro w1 hb1
    obtain ⟨w3, hz3⟩ : ∃ z, z = w1 := ⟨_, rfl⟩
    subst hz3
    have hb3 := hb1
    have p0 := (hb3.cell (p := ⟨g, 0, none⟩) lt).trans c0
    have p1 := (hb3.cell (p := ⟨g, 1, none⟩) lt).trans c1
    have p2 := (hb3.cell (p := ⟨g, 2, none⟩) lt).trans c2
    have lt3 : g < w3.heap.size := Nat.lt_of_lt_of_le lt hb3.size
    have fz3 : ∀ j, w3.frozen? ⟨g, j, none⟩ = false := fun j => (hb3.frozen (p := ⟨g, j, none⟩) lt).trans (fz j)
    clear hpc c0 c1 c2
    go_wp2
    obtain ⟨S, hS⟩ : ∃ S, S = IntKind.u64.wrap (IntKind.u64.wrap (IntKind.u64.wrap (s * 6364136223846793005)) + 604171) := ⟨_, rfl⟩
    have hS0 : 0 ≤ S ∧ S ≤ 18446744073709551615 := by rw [hS]; simp [IntKind.wrap, IntKind.bits, IntKind.signed]; omega
    rw [← hS]
    obtain ⟨w4, hw4⟩ : ∃ z, z = (w3.setCell ⟨g, 1, none⟩ (Value.int .i64 ((a : Int) + 1))).setCell ⟨g, 2, none⟩ (Value.int .u64 S) := ⟨_, rfl⟩
    rw [← hw4]
    have r0 : w4.cell? ⟨g, 0, none⟩ = some (.slice C n cap) := by rw [hw4]; simp [go_sem, p0, p1, p2, lt3]
    have r1 : w4.cell? ⟨g, 1, none⟩ = some (.int .i64 ((a : Int) + 1)) := by rw [hw4]; simp [go_sem, p0, p1, p2, lt3]
    have r2 : w4.cell? ⟨g, 2, none⟩ = some (.int .u64 S) := by rw [hw4]; simp [go_sem, p0, p1, p2, lt3]
    have hsz4 : w4.heap.size = w3.heap.size := by rw [hw4]; simp [setCell_size]
    have hTW : Touch g (g + 1) w w4 := by rw [hw4]; exact ((Touch.of_ext hb3).set (p := ⟨g, 1, none⟩) (Nat.le_refl g) (Nat.lt_succ_self g) _).set (p := ⟨g, 2, none⟩) (Nat.le_refl g) (Nat.lt_succ_self g) _
    have fz4 : ∀ j, w4.frozen? ⟨g, j, none⟩ = false := fun j => by rw [hw4, frozen_setCell, frozen_setCell]; exact fz3 j
    have hCW : CurAt g C n cap (k + 1) w4 := ⟨by omega, r0, ⟨a + 1, by omega, r1⟩, ⟨S, hS0.1, hS0.2, r2⟩, fz4, fun i hi => by
      obtain ⟨b8, o8, v8, e8, h8, h81, h82, h83⟩ := HC.out.code i hi
      exact ⟨b8, o8, v8, e8, h8, h81, h82, (hTW.cell (Nat.lt_trans h8 lt) (.inl h8)).trans h83⟩⟩
    have lt4 : g < w4.heap.size := by omega
    have hpc4 := plus_cell w4
    clear hw4 hS p0 p1 p2
    go_wp2_with fail
    refine wp_region_grow (by kernel_rfl) (by kernel_rfl) ?_
    repeat (go_big_quiet_step ((first | (fail))))
    refine wpQuiet_nil ?_
    intro w1 hb1
    obtain ⟨w5, hz5⟩ : ∃ z, z = w1 := ⟨_, rfl⟩
    subst hz5
    have s2 := (hb1.cell (p := ⟨g, 2, none⟩) lt4).trans r2
    clear hpc4 r0 r1 r2
    have hcmp : ¬ ((a : Int) + 1 ≤ (n : Int)) := by omega
    go_wp2
    obtain ⟨y0, y1⟩ := byte_of S hS0.1 hS0.2
    refine bodyPost_ret (v := .int .i64 (wrap64 (bits BinOp.and IntKind.u64 (S / 1099511627776) 255))) (by simp [results, Tryz.results78, go_sem]) rfl ⟨_, rfl, ⟨_, rfl, y0, y1⟩, hCW.ext hb1, hTW.trans (Touch.of_ext hb1)⟩
end Go.Proofs.YtbnlbcbdhmmlgaaGreatDoor
namespace Go.Proofs.YtbnlbcbdhmmlgaaGreatDoor
open Go.RowKit
set_option linter.unusedVariables false
set_option linter.unusedSimpArgs false

set_option maxHeartbeats 4000000 in
set_option maxRecDepth 100000 in
theorem pick_any (m : Int) (g : Nat) (C : Option Addr) (n cap k : Nat) (w : World) (hC : CurAt g C n cap k w) (hk : k ≤ 549755813888) (hn : n ≤ 1099511627776) :
    Calls Tryz.prog 57 #[.pointer (some ⟨g, 0, none⟩), .int .i64 m] w (Drew (fun v => ∃ z : Int, v = .int .i64 z ∧ 0 ≤ z ∧ (z < m ∨ z = 0)) g C n cap k 2 w) := by
  have HN1 := Lib.hid (next_any g C n cap k w hC (by omega) hn)
  by_cases h1 : m ≤ 1
  · have HC := Lib.hid hC
    clear hC
    go_enter Tryz.func57, Tryz.ntmps57
    go_wp2
    go_ret
    exact ⟨_, rfl, ⟨0, rfl, by omega, .inr rfl⟩, HC.out.mono (by omega), Touch.refl _ _ _⟩
  · have hm0 : 0 < m := by omega
    by_cases h2 : 200 < m
    · clear hC
      go_enter Tryz.func57, Tryz.ntmps57
      go_wp2_with fail
      ((with_reducible refine (HN1.out).mono ?_); rintro e w1 ⟨_, rfl, ⟨z, rfl, hz0, hz1⟩, hC1, hT1⟩)
      have HC1 := Lib.hid hC1
      have HT1 := Lib.hid hT1
      have HN2 := Lib.hid (next_any g C n cap (k + 1) w1 hC1 (by omega) hn)
      clear hC1 hT1
      go_wp2_with fail
      ((with_reducible refine (HN2.out).mono ?_); rintro e w2 ⟨_, rfl, ⟨y, rfl, hy0, hy1⟩, hC2, hT2⟩)
      have hx0 : 0 ≤ z * 256 + y := by omega
      have hmod0 := Int.emod_nonneg (z * 256 + y) (show m ≠ 0 by omega)
      have hmod1 := Int.emod_lt_of_pos (z * 256 + y) hm0
      have HC2 := Lib.hid hC2
      have HT2 := Lib.hid hT2
      have hmne : m ≠ 0 := by omega
      clear hC2 hT2
      go_wp2
      go_ret
      exact ⟨_, rfl, ⟨_, rfl, hmod0, .inl hmod1⟩, HC2.out, HT1.out.trans HT2.out⟩
    · clear hC
      go_enter Tryz.func57, Tryz.ntmps57
      go_wp2_with fail
      ((with_reducible refine (HN1.out).mono ?_); rintro e w1 ⟨_, rfl, ⟨z, rfl, hz0, hz1⟩, hC1, hT1⟩)
      have hmod0 := Int.emod_nonneg z (show m ≠ 0 by omega)
      have hmod1 := Int.emod_lt_of_pos z hm0
      have hmne : m ≠ 0 := by omega
      have HC1 := Lib.hid hC1
      have HT1 := Lib.hid hT1
      clear hC1 hT1
      go_wp2
      go_ret
      exact ⟨_, rfl, ⟨_, rfl, hmod0, .inl hmod1⟩, HC1.out.mono (by omega), HT1.out⟩
set_option maxHeartbeats 4000000 in
set_option maxRecDepth 100000 in
theorem one_any (m : Int) (g : Nat) (C : Option Addr) (n cap k : Nat) (w : World) (hC : CurAt g C n cap k w) (hk : k ≤ 549755813888) (hn : n ≤ 1099511627776) :
    Calls Tryz.prog 58 #[.pointer (some ⟨g, 0, none⟩), .int .i64 m] w (Drew (fun v => ∃ b : Bool, v = .bool b) g C n cap k 2 w) := by
  have HN1 := Lib.hid (pick_any m g C n cap k w hC hk hn)
  clear hC
  go_enter Tryz.func58, Tryz.ntmps58
  go_wp2_with fail
  ((with_reducible refine (HN1.out).mono ?_); rintro e w1 ⟨_, rfl, ⟨z, rfl, hz0, hz1⟩, hC1, hT1⟩)
  have HC1 := Lib.hid hC1
  have HT1 := Lib.hid hT1
  clear hC1 hT1
  go_wp2
  go_ret
  exact ⟨_, rfl, ⟨_, rfl⟩, HC1.out, HT1.out⟩
end Go.Proofs.YtbnlbcbdhmmlgaaGreatDoor
namespace Go.Proofs.YtbnlbcbdhmmlgaaGreatDoor
open Go.RowKit
set_option linter.unusedVariables false
set_option linter.unusedSimpArgs false

theorem lit_flo (w : World) (xs : List Int) (e : TypeId) (cs : Array Value) (hcs : cs = (xs.map (Value.int .i64)).toArray) : FlO one 1 w.heap.size (w.heap.size + 1) (w.alloc (.cells cs e)) (some ⟨w.heap.size, 0, none⟩) xs := fun _ => by
  subst hcs
  refine ⟨w.heap.size, 0, rfl, by simp, Nat.le_refl _, Nat.lt_succ_self _, fun j => by unfold World.frozen?; rw [show (w.alloc (.cells (xs.map (Value.int .i64)).toArray e)).heap[(⟨w.heap.size, j, none⟩ : Addr).block]? = some (.cells (xs.map (Value.int .i64)).toArray e) from heap_alloc_new w _]; simp, fun i x hx j v hv => ?_⟩
  have hj : j = 0 := by
    have := (List.getElem?_eq_some_iff.1 hv).1
    simp [one] at this
    exact this
  subst hj
  simp [one] at hv
  subst hv
  rw [Nat.mul_one, Nat.add_zero, Nat.zero_add, World.cell?_alloc_new]
  simp [hx]
set_option maxHeartbeats 4000000 in
set_option maxRecDepth 100000 in
theorem among_any (A : Option Addr) (d l : Nat) (xs : List Int) (hll : l = xs.length) (lo hi : Nat) (g : Nat) (C : Option Addr) (n cap k : Nat) (w : World) (hC : CurAt g C n cap k w) (hk : k ≤ 549755813888) (hn : n ≤ 1099511627776) (hF : FlO one 1 lo hi w A xs) (hne : 0 < xs.length) (hl : xs.length ≤ 1048576) (hg : g < lo ∨ hi ≤ g) :
    Calls Tryz.prog 52 #[.pointer (some ⟨g, 0, none⟩), .slice A l d] w (Drew (fun v => ∃ z ∈ xs, v = .int .i64 z) g C n cap k 2 w) := by
  have hp := pick_any (xs.length : Int) g C n cap k w hC hk hn
  rw [← hll] at hp hne hl
  have HL := Lib.hid hll
  have HN1 := Lib.hid hp
  clear hC hp hll
  go_enter Tryz.func52, Tryz.ntmps52
  go_wp2_with fail
  ((with_reducible refine (HN1.out).mono ?_); rintro e w1 ⟨_, rfl, ⟨z, rfl, hz0, hz1⟩, hC1, hT1⟩)
  obtain ⟨m, rfl⟩ : ∃ m : Nat, z = m := ⟨z.toNat, by omega⟩
  have hm : m < l := by omega
  obtain ⟨x, b, o, hx, hAe, hb, hc⟩ := ((hF.touch hT1 (by omega)).fl).at_ (k := m) (by rw [← HL.out]; exact hm)
  have c0 : World.cell? w1 ⟨b, o + m, none⟩ = some (.int .i64 x) := by have := hc 0 x rfl; simpa using this
  have HX := Lib.hid (List.mem_of_getElem? hx)
  have HC1 := Lib.hid hC1
  have HT1 := Lib.hid hT1
  have hmi : (m : Int) < (l : Int) := by omega
  subst hAe
  clear hC1 hT1 hc hx hF hz1
  go_wp2
  go_ret
  exact ⟨_, rfl, ⟨x, HX.out, rfl⟩, HC1.out, HT1.out⟩
end Go.Proofs.YtbnlbcbdhmmlgaaGreatDoor
namespace Go.Proofs.YtbnlbcbdhmmlgaaGreatDoor
open Go.RowKit
set_option linter.unusedVariables false
set_option linter.unusedSimpArgs false
theorem held_below {W w' : World} (h : Below W.heap.size W w' ∧ ∀ b o, b < W.heap.size → w'.cell? ⟨b, o, none⟩ = W.cell? ⟨b, o, none⟩) : Below W.heap.size W w' := h.1
theorem cls_next {W w w' : World} {R : Prop} (h : Below W.heap.size W w ∧ R) (hb : Below w.heap.size w w') : Below W.heap.size W w' ∧ ∀ b o, b < W.heap.size → w'.cell? ⟨b, o, none⟩ = W.cell? ⟨b, o, none⟩ := cls_of (ext_trans h.1 hb)
theorem alloc_lt {W w' : World} {o : Obj} (h : Below (W.alloc o).heap.size (W.alloc o) w') : W.heap.size < w'.heap.size := by have := h.size; simp at this; omega
theorem alloc_lt' {W w' : World} {o : Obj} (h : Below (W.alloc o).drew.heap.size (W.alloc o).drew w') : W.heap.size < w'.heap.size := by
  have := h.size
  have h2 : (W.alloc o).drew.heap.size = W.heap.size + 1 := by show (W.alloc o).heap.size = _; simp
  omega
theorem fcell {W w1 : World} (hb : Below W.heap.size W w1) : ∀ b o, b < W.heap.size → w1.frozen? ⟨b, o, none⟩ = W.frozen? ⟨b, o, none⟩ :=
  fun b o h => hb.frozen (p := ⟨b, o, none⟩) h
end Go.Proofs.YtbnlbcbdhmmlgaaGreatDoor
