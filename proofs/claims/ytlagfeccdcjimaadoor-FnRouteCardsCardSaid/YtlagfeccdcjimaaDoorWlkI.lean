/- The walk of a route. No condition. -/
import Derived.Test.YtlagfeccdcjimaaDoorLegW
import Derived.Test.YtlagfeccdcjimaaDoorLegD
import Derived.IntWalk
namespace Go.Proofs.YtlagfeccdcjimaaDoor
open Go.RowKit
set_option linter.unusedVariables false
set_option linter.unusedSimpArgs false

def wkS : List Leg → Int
  | [] => 0
  | x :: r => walkL x + wkS r
theorem wkS_snoc : ∀ (l : List Leg) (x : Leg), wkS (l ++ [x]) = wkS l + walkL x
  | [], x => by simp [wkS]
  | y :: r, x => by rw [List.cons_append, wkS, wkS, wkS_snoc r x]; omega
theorem wkS_bd : ∀ (l : List Leg), (∀ x ∈ l, IsLeg x) → 0 ≤ wkS l ∧ wkS l ≤ 13986 * (l.length : Int)
  | [], _ => by simp [wkS]
  | x :: r, h => by
    have h1 := walkL_bd (h x List.mem_cons_self)
    have h2 := wkS_bd r (fun y hy => h y (List.mem_cons_of_mem _ hy))
    rw [wkS, List.length_cons]
    omega
theorem rt_legs {xs : List Leg} (h : Rt xs) : ∀ x ∈ xs, IsLeg x := fun x hx => by
  obtain ⟨i, hi⟩ := List.mem_iff_getElem?.1 hx
  exact h.1 i x hi
set_option maxHeartbeats 4000000 in
set_option maxRecDepth 100000 in
theorem walkOf_any (A : Option Addr) (c : Nat) (xs : List Leg) (w : World) (hn : xs.length ≤ 1048576) (hA : Fl Leg.ints 3 w A xs) :
    Calls Tryd.prog 13 #[.slice A xs.length c] w fun e w' => e = .returned (.tuple #[.int .i64 (seli (Rt xs) (wkS xs)), .bool (tb (Rt xs))]) ∧ Below w.heap.size w w' := by
  have hgr := isRoute_any A c xs w hn hA
  by_cases hR : Rt xs
  · rw [tb_t hR] at hgr
    have hL := rt_legs hR
    have hn12 : xs.length ≤ 12 := hR.2
    have HL := Lib.hid hL
    have HR := Lib.hid hR
    clear hR hL
    obtain ⟨n, hnn⟩ : ∃ n, n = List.length xs := ⟨_, rfl⟩
    rw [← hnn] at hgr hn12 hn ⊢
    have hN := Lib.hid hnn
    have HG := Lib.hid hgr
    clear hnn hgr
    go_enter Tryd.func13, Tryd.ntmps13
    go_wp2_with fail
    ((with_reducible refine (HG.out).mono ?_); rintro e w1 ⟨rfl, hb1⟩)
    have hA1 := hA.ext hb1
    go_wp2
    go_loopw [4, 12] (fun s i wr => ∃ k : Nat, k ≤ n ∧ i = .int .i64 k ∧ s = .int .i64 (wkS (xs.take k)) ∧ Below w1.heap.size w1 wr) (fun _ i _ => n - (intOf i).toNat)
    case atStart => exact ⟨0, by omega, rfl, rfl, Below.refl _ _⟩
    case round =>
      obtain ⟨k, hk, rfl, rfl, hbr⟩ := hrel
      have hS := wkS_bd (xs.take k) (fun y hy => HL.out y (List.mem_of_mem_take hy))
      rw [List.length_take, ← hN.out] at hS
      by_cases hlt : k < n
      · obtain ⟨x, b, o, hx, hAe, hb, hc⟩ := (hA1.ext hbr).at_ (k := k) (by rw [← hN.out]; exact hlt)
        subst hAe
        have c0 : World.cell? wr ⟨b, o + k * 3, none⟩ = some (.int .i64 x.way) := hc 0 _ rfl
        have c1 : World.cell? wr ⟨b, o + k * 3 + 1, none⟩ = some (.int .i64 x.units) := hc 1 _ rfl
        have c2 : World.cell? wr ⟨b, o + k * 3 + 2, none⟩ = some (.int .i64 x.climb) := hc 2 _ rfl
        have h := HL.out x (List.mem_of_getElem? hx)
        have HT := Lib.hid (take_get hx)
        have hwb := walkL_bd h
        obtain ⟨W0, hW0, hD0, hzd, hg, _⟩ := box_world wr #[Value.int .i64 x.way, .int .i64 x.units, .int .i64 x.climb] 52
        have g0 : World.cell? W0 ⟨wr.heap.size, 0, none⟩ = some (.int .i64 x.way) := hg 0
        have g1 : World.cell? W0 ⟨wr.heap.size, 1, none⟩ = some (.int .i64 x.units) := hg 1
        have g2 : World.cell? W0 ⟨wr.heap.size, 2, none⟩ = some (.int .i64 x.climb) := hg 2
        have hwk := walkLeg_any x h W0
        obtain ⟨K, hK⟩ : ∃ z, z = walkL x := ⟨_, rfl⟩
        obtain ⟨C, hC⟩ : ∃ z, z = wkS (xs.take k) := ⟨_, rfl⟩
        rw [← hK] at hwk hwb
        rw [← hC] at hS ⊢
        have HWK := Lib.hid hwk
        have HK := Lib.hid hK
        have HC := Lib.hid hC
        have hw : IntKind.i64.wrap (C + K) = C + K := IntWalk.i64_in _ (by omega)
        clear hc hx hg hC hK h hwk
        have hk0 : (0 : Int) ≤ (k : Int) := by omega
        have hk1 : (k : Int) < (n : Int) := by omega
        go_wp2_with fail
        clear hW0
        ((with_reducible refine (HWK.out).mono ?_); rintro e w5 ⟨rfl, hb5⟩)
        go_wp2
        go_roundw
        case rel => exact ⟨k + 1, by omega, by go_num, by rw [HT.out, wkS_snoc, ← HC.out, ← HK.out], ext_trans (ext_trans hbr hD0) hb5⟩
        case measure => simp [intOf] <;> omega
      · have hkn : k = n := by omega
        subst hkn
        rw [take_all (by rw [← hN.out]; exact Nat.le_refl _)]
        go_wp2
        go_ret2
        exact ⟨by rw [seli_t HR.out, tb_t HR.out]; rfl, ext_trans hb1 hbr⟩
  · rw [tb_f hR] at hgr
    have HG := Lib.hid hgr
    have HR := Lib.hid hR
    generalize xs.length = n at *
    clear hgr hR
    go_enter Tryd.func13, Tryd.ntmps13
    go_wp2_with fail
    ((with_reducible refine (HG.out).mono ?_); rintro e w1 ⟨rfl, hb1⟩)
    go_wp2
    go_ret2
    exact ⟨by rw [seli_f HR.out, tb_f HR.out]; rfl, hb1⟩
end Go.Proofs.YtlagfeccdcjimaaDoor
