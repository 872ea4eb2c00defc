/- What the law FnRouteCards asks. No condition. -/
import Derived.Test.YtlagfeccdcjimaaDoorMgC
import Derived.Test.YtlagfeccdcjimaaDoorMgE
import Derived.Test.YtlagfeccdcjimaaDoorMgS
import Derived.Test.YtlagfeccdcjimaaDoorMgM
namespace Go.Proofs.YtlagfeccdcjimaaDoor
open Go.RowKit
set_option linter.unusedVariables false
set_option linter.unusedSimpArgs false

theorem mem_closeD {e n : Int} {x : Leg} (h : x ∈ closeD e n) : 0 < min (absI e) (absI n) ∧ x = ⟨wayOf (sgnI e) (sgnI n), min (absI e) (absI n), 0⟩ := by
  unfold closeD at h
  split at h
  · rename_i h1; exact ⟨h1, List.mem_singleton.1 h⟩
  · simp at h
theorem close_legs {e n : Int} (h : CkOk e n) : ∀ x ∈ closeL e n, IsLeg x := fun x hx => by
  have ha := absI_bd h.1.1 h.1.2
  have hb := absI_bd h.2.1 h.2.2
  rcases List.mem_append.1 hx with q | q
  · obtain ⟨h1, rfl⟩ := mem_closeD q
    have := wayOf_bd (sgnI e) (sgnI n)
    unfold IsLeg
    simp only
    omega
  · unfold closeS at q
    split at q
    · rw [List.mem_singleton.1 q]
      have := wayOf_bd (sgnI e) 0
      unfold IsLeg
      simp only
      omega
    · split at q
      · rw [List.mem_singleton.1 q]
        have := wayOf_bd 0 (sgnI n)
        unfold IsLeg
        simp only
        omega
      · simp at q
theorem end_app (l r : List Leg) : endE (l ++ r) = endE l + endE r ∧ endN (l ++ r) = endN l + endN r ∧ clS (l ++ r) = clS l + clS r := by
  induction l with
  | nil => simp [endE, endN, clS]
  | cons x l ih => rw [List.cons_append, endE, endN, clS, endE, endN, clS]; omega
theorem sgn_nz {n : Int} (h : 0 < absI n) : sgnI n ≠ 0 := sgn_zero h
theorem closeD_end {e n : Int} (ha : 0 ≤ absI e) (hb : 0 ≤ absI n) : endE (closeD e n) = min (absI e) (absI n) * sgnI e ∧ endN (closeD e n) = min (absI e) (absI n) * sgnI n ∧ clS (closeD e n) = 0 := by
  unfold closeD
  split
  · rename_i h
    have hs := sgn_nz (n := e) (by omega)
    have hw := wayOf_step (sgnI_bd e) (sgnI_bd n) (fun q => hs q.1)
    simp [endE, endN, clS, hw.1, hw.2]
  · have : min (absI e) (absI n) = 0 := by omega
    rw [this]
    simp [endE, endN, clS]
theorem closeS_end {e n : Int} : endE (closeS e n) = (absI e - min (absI e) (absI n)) * sgnI e ∧ endN (closeS e n) = (absI n - min (absI e) (absI n)) * sgnI n ∧ clS (closeS e n) = 0 := by
  have h0 : ∀ m : Int, 0 ≤ absI m := fun m => by unfold absI; split <;> omega
  have ha := h0 e
  have hb := h0 n
  unfold closeS
  split
  · rename_i h
    have hs := sgn_nz (n := e) (by omega)
    have hw := wayOf_step (x := sgnI e) (y := 0) (sgnI_bd e) (by omega) (fun q => hs q.1)
    have hm : min (absI e) (absI n) = absI n := by omega
    rw [hm]
    simp [endE, endN, clS, hw.1, hw.2]
  · split
    · rename_i h1 h
      have hs := sgn_nz (n := n) (by omega)
      have hw := wayOf_step (x := 0) (y := sgnI n) (by omega) (sgnI_bd n) (fun q => hs q.2)
      have hm : min (absI e) (absI n) = absI e := by omega
      rw [hm]
      simp [endE, endN, clS, hw.1, hw.2]
    · have h1 : absI e - min (absI e) (absI n) = 0 := by omega
      have h2 : absI n - min (absI e) (absI n) = 0 := by omega
      rw [h1, h2]
      simp [endE, endN, clS]
theorem close_law {e n : Int} (h : CkOk e n) : Rt (closeL e n) ∧ endE (closeL e n) = e ∧ endN (closeL e n) = n ∧ clS (closeL e n) = 0 := by
  have ha := absI_bd h.1.1 h.1.2
  have hb := absI_bd h.2.1 h.2.2
  obtain ⟨d1, d2, d3⟩ := closeD_end (e := e) (n := n) ha.1 hb.1
  obtain ⟨s1, s2, s3⟩ := closeS_end (e := e) (n := n)
  obtain ⟨a1, a2, a3⟩ := end_app (closeD e n) (closeS e n)
  refine ⟨⟨fun i x hx => close_legs h x (List.mem_of_getElem? hx), Nat.le_trans (closeL_len e n) (by decide)⟩, ?_, ?_, ?_⟩
  · show endE (closeD e n ++ closeS e n) = e
    rw [a1, d1, s1, ← Int.add_mul, show min (absI e) (absI n) + (absI e - min (absI e) (absI n)) = absI e by omega, sgn_abs]
  · show endN (closeD e n ++ closeS e n) = n
    rw [a2, d2, s2, ← Int.add_mul, show min (absI e) (absI n) + (absI n - min (absI e) (absI n)) = absI n by omega, sgn_abs]
  · show clS (closeD e n ++ closeS e n) = 0
    rw [a3, d3, s3]; rfl
theorem stretch_law {xs : List Leg} {num den : Int} (h : StOk xs num den) : Rt xs ∧ Rt (xs.map (stU num den)) ∧ (1 ≤ num ∧ num ≤ 100) ∧ (1 ≤ den ∧ den ≤ 100) ∧ wkS (xs.map (stU num den)) * den = wkS xs * num ∧ (0 ≤ wkS xs ∧ wkS xs ≤ 200000) ∧ (0 ≤ wkS xs * num ∧ wkS xs * num ≤ 20000000) := by
  obtain ⟨⟨h1, h2, h3⟩, h4, h5⟩ := h
  have hb := wkS_bd xs (rt_legs h1)
  have hl := h1.2
  have hw : 0 ≤ wkS xs ∧ wkS xs ≤ 200000 := by omega
  have p1 : 0 ≤ wkS xs * num := Int.mul_nonneg hw.1 (by omega)
  have p2 : wkS xs * num ≤ 200000 * 100 := Int.mul_le_mul hw.2 h2.2 (by omega) (by decide)
  exact ⟨h1, h5, h2, h3, st_sum xs h4, hw, p1, by omega⟩
theorem minutes_law {xs : List Leg} (h : Rt xs) : ∃ p q z m : Nat, mnP xs = p ∧ mnQ xs = q ∧ mnE xs = z ∧ (p ≤ 4000000 ∧ q ≤ 150 ∧ z ≤ 4000000 ∧ m ≤ 8000000) ∧ (z : Int) * (q : Int) = (m : Int) ∧ p ≤ m ∧ ((z : Int) - 1) * (q : Int) = (m : Int) - (q : Int) ∧ (m : Int) - (q : Int) < (p : Int) := by
  obtain ⟨s, _, hs, hp, hq, hz⟩ := sum_nat h
  obtain ⟨g1, g2, g3, g4, g5, g6, g7, g8⟩ := gG_facts s
  refine ⟨s / gG s, 150 / gG s, (s + 149) / 150, (s + 149) / 150 * (150 / gG s), hp, hq, hz, ⟨by omega, by omega, by omega, by omega⟩, by rw [Int.natCast_mul], g7, ?_, by omega⟩
  rw [Int.sub_mul, Int.one_mul, Int.natCast_mul]
end Go.Proofs.YtlagfeccdcjimaaDoor
