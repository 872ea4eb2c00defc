/- The draws of one among some numbers. No condition. -/
import Derived.Test.YtlagfeccdcjimaaDoorCurP
namespace Go.Proofs.YtlagfeccdcjimaaDoor
open Go.RowKit
set_option linter.unusedVariables false
set_option linter.unusedSimpArgs false

theorem lit_flo (w : World) (xs : List Int) (e : TypeId) (cs : Array Value) (hcs : cs = (xs.map (Value.int .i64)).toArray) : FlO one 1 w.heap.size (w.heap.size + 1) (w.alloc (.cells cs e)) (some ⟨w.heap.size, 0, none⟩) xs := fun _ => by
  subst hcs
  refine ⟨w.heap.size, 0, rfl, by simp, Nat.le_refl _, Nat.lt_succ_self _, fun j => by unfold World.frozen?; rw [show (w.alloc (.cells (xs.map (Value.int .i64)).toArray e)).heap[(⟨w.heap.size, j, none⟩ : Addr).block]? = some (.cells (xs.map (Value.int .i64)).toArray e) from heap_alloc_new w _]; simp, fun i x hx j v hv => ?_⟩
  have hj : j = 0 := by
    have := (List.getElem?_eq_some_iff.1 hv).1
    simp [one] at this
    exact this
  subst hj
  simp [one] at hv
  subst hv
  rw [Nat.mul_one, Nat.add_zero, Nat.zero_add, World.cell?_alloc_new]
  simp [hx]
set_option maxHeartbeats 4000000 in
set_option maxRecDepth 100000 in
theorem among_any (A : Option Addr) (d l : Nat) (xs : List Int) (hll : l = xs.length) (lo hi : Nat) (g : Nat) (C : Option Addr) (n cap k : Nat) (w : World) (hC : CurAt g C n cap k w) (hk : k ≤ 549755813888) (hn : n ≤ 1099511627776) (hF : FlO one 1 lo hi w A xs) (hne : 0 < xs.length) (hl : xs.length ≤ 1048576) (hg : g < lo ∨ hi ≤ g) :
    Calls Tryd.prog 22 #[.pointer (some ⟨g, 0, none⟩), .slice A l d] w (Drew (fun v => ∃ z ∈ xs, v = .int .i64 z) g C n cap k 2 w) := by
  have hp := pick_any (xs.length : Int) g C n cap k w hC hk hn
  rw [← hll] at hp hne hl
  have HL := Lib.hid hll
  have HN1 := Lib.hid hp
  clear hC hp hll
  go_enter Tryd.func22, Tryd.ntmps22
  go_wp2_with fail
  ((with_reducible refine (HN1.out).mono ?_); rintro e w1 ⟨_, rfl, ⟨z, rfl, hz0, hz1⟩, hC1, hT1⟩)
  obtain ⟨m, rfl⟩ : ∃ m : Nat, z = m := ⟨z.toNat, by omega⟩
  have hm : m < l := by omega
  obtain ⟨x, b, o, hx, hAe, hb, hc⟩ := ((hF.touch hT1 (by omega)).fl).at_ (k := m) (by rw [← HL.out]; exact hm)
  have c0 : World.cell? w1 ⟨b, o + m, none⟩ = some (.int .i64 x) := by have := hc 0 x rfl; simpa using this
  have HX := Lib.hid (List.mem_of_getElem? hx)
  have HC1 := Lib.hid hC1
  have HT1 := Lib.hid hT1
  have hmi : (m : Int) < (l : Int) := by omega
  subst hAe
  clear hC1 hT1 hc hx hF hz1
  go_wp2
  go_ret
  exact ⟨_, rfl, ⟨x, HX.out, rfl⟩, HC1.out, HT1.out⟩
end Go.Proofs.YtlagfeccdcjimaaDoor
