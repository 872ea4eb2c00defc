/- How long a route takes: the program's minutes. -/
import Derived.Test.YtlagfeccdcjimaaDoorLegW
namespace Go.Proofs.YtlagfeccdcjimaaDoor
open Go.RowKit
set_option linter.unusedVariables false
set_option linter.unusedSimpArgs false

def sumP : List Leg → Int
  | [] => 0
  | x :: r => partsL x + sumP r
theorem sumP_snoc : ∀ (l : List Leg) (x : Leg), sumP (l ++ [x]) = sumP l + partsL x
  | [], x => by simp [sumP]
  | y :: r, x => by rw [List.cons_append, sumP, sumP, sumP_snoc r x]; omega
theorem sumP_bd : ∀ (l : List Leg), (∀ x ∈ l, IsLeg x) → 0 ≤ sumP l ∧ sumP l ≤ 300000 * (l.length : Int)
  | [], _ => by simp [sumP]
  | x :: r, h => by
    have h1 := partsL_bd (h x List.mem_cons_self)
    have h2 := sumP_bd r (fun y hy => h y (List.mem_cons_of_mem _ hy))
    rw [sumP, List.length_cons]
    omega
set_option maxHeartbeats 2000000 in
set_option maxRecDepth 100000 in
theorem minutes_any (A : Option Addr) (c : Nat) (xs : List Leg) (w : World) (hn : xs.length ≤ 12) (hL : ∀ x ∈ xs, IsLeg x) (hA : Fl Leg.ints 3 w A xs) :
    Calls Tryd.prog 38 #[.slice A xs.length c] w fun e w' => e = .returned (.int .i64 (sumP xs)) ∧ Below w.heap.size w w' := by
  have HL := Lib.hid hL
  clear hL
  obtain ⟨n, hnn⟩ : ∃ n, n = List.length xs := ⟨_, rfl⟩
  rw [← hnn] at hn ⊢
  have hN := Lib.hid hnn
  clear hnn
  go_enter Tryd.func38, Tryd.ntmps38
  go_wp2
  go_loopw [3, 8] (fun s i wr => ∃ k : Nat, k ≤ n ∧ i = .int .i64 k ∧ s = .int .i64 (sumP (xs.take k)) ∧ Below w.heap.size w wr) (fun _ i _ => n - (intOf i).toNat)
  case atStart => exact ⟨0, by omega, rfl, rfl, Below.refl _ _⟩
  case round =>
    obtain ⟨k, hk, rfl, rfl, hbr⟩ := hrel
    by_cases hlt : k < n
    · obtain ⟨x, b, o, hx, hAe, hb, hc⟩ := (hA.ext hbr).at_ (k := k) (by rw [← hN.out]; exact hlt)
      subst hAe
      have c0 : World.cell? wr ⟨b, o + k * 3, none⟩ = some (.int .i64 x.way) := hc 0 _ rfl
      have c1 : World.cell? wr ⟨b, o + k * 3 + 1, none⟩ = some (.int .i64 x.units) := hc 1 _ rfl
      have c2 : World.cell? wr ⟨b, o + k * 3 + 2, none⟩ = some (.int .i64 x.climb) := hc 2 _ rfl
      have h := HL.out x (List.mem_of_getElem? hx)
      have hS := sumP_bd (xs.take k) (fun y hy => HL.out y (List.mem_of_mem_take hy))
      have hkl : (xs.take k).length = k := by rw [List.length_take, ← hN.out]; omega
      rw [hkl] at hS
      have HT := Lib.hid (take_get hx)
      have hwk := fun W => walkLeg_any x h W
      have hbw := walkL_bd h
      have hpb := partsL_bd h
      have hP : partsL x = 18 * walkL x + 15 * posI x.climb + 5 * posI (-100 - x.climb) := rfl
      unfold IsLeg at h
      obtain ⟨⟨p1, p2⟩, ⟨p3, p4⟩, ⟨p5, p6⟩⟩ := h
      have HP := Lib.hid hP
      obtain ⟨WK, hWK⟩ : ∃ WK, WK = walkL x := ⟨_, rfl⟩
      rw [← hWK] at hwk hbw hP
      have HPW := Lib.hid hP
      clear hP HP
      obtain ⟨S, hSS⟩ : ∃ S, S = sumP (xs.take k) := ⟨_, rfl⟩
      rw [← hSS] at hS ⊢
      have HSS := Lib.hid hSS
      have HWK := Lib.hid hwk
      obtain ⟨W0, hW0, hB0, hz0', hg, _⟩ := box_world wr #[Value.int .i64 x.way, .int .i64 x.units, .int .i64 x.climb] 52
      have g0 : World.cell? W0 ⟨wr.heap.size, 0, none⟩ = some (.int .i64 x.way) := hg 0
      have g1 : World.cell? W0 ⟨wr.heap.size, 1, none⟩ = some (.int .i64 x.units) := hg 1
      have g2 : World.cell? W0 ⟨wr.heap.size, 2, none⟩ = some (.int .i64 x.climb) := hg 2
      have hpc := plus_cell W0
      have hbW := ext_trans hbr hB0
      clear hc hg hx hwk hSS hWK hkl
      have hk0 : (0 : Int) ≤ (k : Int) := by omega
      have hk1 : (k : Int) < (n : Int) := by omega
      go_wp2_with fail
      refine wp_region_grow (by kernel_rfl) (by kernel_rfl) ?_
      repeat (go_big_quiet_step ((first | (go_at_call 35; exact quiet_below (HWK.out _)))))
      refine wpQuiet_nil ?_
      intro w1 hb1
      go_wp2
      go_roundw
      case rel => exact ⟨k + 1, by omega, by go_num, by rw [HT.out, sumP_snoc, ← HSS.out, HPW.out]; congr 1; unfold posI; (repeat' split) <;> omega, ext_trans hbW hb1⟩
      case measure => simp [intOf]; omega
    · have hkn : k = n := by omega
      subst hkn
      go_wp2
      go_ret
      exact ⟨ret_int (by rw [take_all (by rw [← hN.out]; exact Nat.le_refl _)]), hbr⟩
end Go.Proofs.YtlagfeccdcjimaaDoor
