/- Scans: what a put tile leaves. No condition. -/
import Derived.Test.YtjacadkbkkkgfaaScanG
import Derived.Test.YtjacadkbkkkgfaaPtD
import Derived.Test.YtjacadkbkkkgfaaWhole
namespace Go.Proofs.Ytjacadkbkkkgfaa
open Go.RowKit
set_option linter.unusedVariables false
set_option linter.unusedSimpArgs false

theorem row_snoc_len (p : Int → Int → Prop) (r : Int) : ∀ (m : Nat) (c : Int), (rowFrom p r (m + 1) c).length = (rowFrom p r m c).length + (@ite _ (p r (c + m)) (Classical.propDecidable _) 1 0)
  | 0, c => by
    by_cases h : p r c
    · rw [rowFrom_t h]
      simp [rowFrom, h]
    · rw [rowFrom_f h]
      simp [rowFrom, h]
  | m + 1, c => by
    have ih := row_snoc_len p r m (c + 1)
    have e : c + 1 + (m : Int) = c + ((m + 1 : Nat) : Int) := by omega
    rw [e] at ih
    by_cases h : p r c
    · rw [rowFrom_t h, rowFrom_t h, List.length_cons, List.length_cons, ih]; omega
    · rw [rowFrom_f h, rowFrom_f h, ih]
theorem miss_row {rows cols : Int} {xs : List Tile} (h : Scn rows cols xs) (r : Int) : ∀ m : Nat, (rowFrom (missP xs) r m 0).length + colCnt r xs m = m
  | 0 => rfl
  | m + 1 => by
    have ih := miss_row h r m
    rw [row_snoc_len, colCnt]
    have e : (0 : Int) + (m : Int) = (m : Int) := by omega
    rw [e]
    rcases at_pos' h r (m : Int) with ⟨h1, h2⟩ | ⟨h1, h2⟩
    · rw [if_neg (show ¬ missP xs r (m : Int) from by unfold missP; omega), if_pos h1]; omega
    · rw [if_pos (show missP xs r (m : Int) from by unfold missP; omega), if_neg (by omega)]; omega
def cntR (xs : List Tile) (r0 m : Int) : Nat := (xs.filter fun t => decide (r0 ≤ t.row ∧ t.row < r0 + m)).length
theorem cntR_step (r0 : Int) (m : Nat) : ∀ xs : List Tile, cntR xs r0 ((m + 1 : Nat) : Int) = rowCnt r0 xs + cntR xs (r0 + 1) (m : Int)
  | [] => rfl
  | x :: xs => by
    have ih := cntR_step r0 m xs
    unfold cntR rowCnt at *
    simp only [List.filter_cons]
    by_cases h1 : x.row = r0
    · rw [if_pos (by simp; omega), if_pos (by simp; omega), if_neg (by simp; omega)]
      simp only [List.length_cons]
      omega
    · by_cases h2 : r0 + 1 ≤ x.row ∧ x.row < r0 + 1 + m
      · rw [if_pos (by simp; omega), if_neg (by simp; omega), if_pos (by simp; omega)]
        simp only [List.length_cons]
        omega
      · rw [if_neg (by simp; omega), if_neg (by simp; omega), if_neg (by simp; omega)]
        exact ih
theorem miss_grid {rows cols : Int} {xs : List Tile} (h : Scn rows cols xs) : ∀ (m : Nat) (r0 : Int), (gridFrom (missP xs) cols.toNat m r0).length + cntR xs r0 (m : Int) = cols.toNat * m
  | 0, r0 => by
    have e : cntR xs r0 ((0 : Nat) : Int) = 0 := by
      unfold cntR
      rw [List.length_eq_zero_iff, List.filter_eq_nil_iff]
      intro t _
      simp <;> omega
    rw [e]; simp [gridFrom]
  | m + 1, r0 => by
    have ih := miss_grid h m (r0 + 1)
    have h1 := miss_row h r0 cols.toNat
    have h2 := scn_cnt h r0
    have h3 := cntR_step r0 m xs
    rw [gridFrom, List.length_append, h3, Nat.mul_add]
    omega
theorem miss_len {rows cols : Int} {xs : List Tile} (h : Scn rows cols xs) : ((gridS (missP xs) rows cols).length : Int) + (xs.length : Int) = rows * cols := by
  have h1 := miss_grid h rows.toNat 0
  have e : cntR xs 0 (rows.toNat : Int) = xs.length := by
    unfold cntR
    rw [List.filter_eq_self.2 (fun t ht => by have := scn_mem h ht; have := h.2.1; unfold TileOk at *; simp; omega)]
  rw [e] at h1
  unfold gridS
  have h2 : ((cols.toNat * rows.toNat : Nat) : Int) = rows * cols := by
    rw [Int.natCast_mul, Int.toNat_of_nonneg (by have := h.2.2.2.1; omega), Int.toNat_of_nonneg (by have := h.2.1; omega), Int.mul_comm]
  rw [← h2, ← h1]
  omega
theorem row_mem {p : Int → Int → Prop} {r : Int} {x : List Int} : ∀ (m : Nat) (c : Int), x ∈ rowFrom p r m c → ∃ k, x = [r, k] ∧ p r k
  | 0, c, h => by simp [rowFrom] at h
  | m + 1, c, h => by
    by_cases hp : p r c
    · rw [rowFrom_t hp, List.mem_cons] at h
      rcases h with h | h
      · exact ⟨c, h, hp⟩
      · exact row_mem m _ h
    · rw [rowFrom_f hp] at h
      exact row_mem m _ h
theorem grid_mem {p : Int → Int → Prop} {C : Nat} {x : List Int} : ∀ (m : Nat) (r : Int), x ∈ gridFrom p C m r → ∃ a b, x = [a, b] ∧ p a b
  | 0, r, h => by simp [gridFrom] at h
  | m + 1, r, h => by
    rw [gridFrom, List.mem_append] at h
    rcases h with h | h
    · obtain ⟨k, h1, h2⟩ := row_mem C 0 h
      exact ⟨r, k, h1, h2⟩
    · exact grid_mem m _ h
theorem insT_pw {t : Tile} {xs : List Tile} (hs : xs.Pairwise TileLt) : (insT t xs).Pairwise TileLt := by
  unfold insT
  rw [List.pairwise_append]
  refine ⟨hs.filter _, List.pairwise_cons.2 ⟨fun z hz => ?_, hs.filter _⟩, fun a ha b hb => ?_⟩
  · simpa using (List.mem_filter.1 hz).2
  · have h1 : TileLt a t := by simpa using (List.mem_filter.1 ha).2
    rcases List.mem_cons.1 hb with rfl | hb
    · exact h1
    · exact tileLt_trans _ _ _ h1 (by simpa using (List.mem_filter.1 hb).2)
theorem insT_scn {rows cols : Int} {xs : List Tile} {t : Tile} (h : PutOk rows cols xs t) : Scn rows cols (insT t xs) := by
  obtain ⟨h1, h2⟩ := h
  refine ⟨⟨fun i x hx => ?_, fun i x y hx hy => pw_get (insT_pw (scn_pw h1)) (Nat.lt_succ_self i) hx hy⟩, h1.2⟩
  have hm := List.mem_of_getElem? hx
  unfold insT at hm
  rcases List.mem_append.1 hm with hm | hm
  · exact scn_mem h1 (List.mem_filter.1 hm).1
  · rcases List.mem_cons.1 hm with rfl | hm
    · exact h2
    · exact scn_mem h1 (List.mem_filter.1 hm).1
theorem insT_at {rows cols : Int} {xs : List Tile} {t : Tile} (h : PutOk rows cols xs t) : 0 ≤ atI t.row t.col (insT t xs) ∧ sumAt t.row t.col (insT t xs) = t.sum := by
  have hk : (insT t xs)[(xs.filter fun z => decide (TileLt z t)).length]? = some t := by
    unfold insT
    rw [List.getElem?_append_right (Nat.le_refl _)]
    simp
  have hno : NoTo t.row t.col (insT t xs) (xs.filter fun z => decide (TileLt z t)).length := fun j z hj hz ha => by
    have := pw_get (insT_pw (scn_pw h.1)) hj hz hk
    unfold TileLt at this
    unfold AtP at ha
    omega
  obtain ⟨h1, h2⟩ := at_found hk ⟨rfl, rfl⟩ hno
  exact ⟨by omega, h2⟩
/-- what the law asks of a scan into which a tile was put -/
theorem put_facts {rows cols : Int} {xs : List Tile} {t : Tile} (h : PutOk rows cols xs t) :
    Scn rows cols (insT t xs) ∧ SumOk rows cols (insT t xs) t.row t.col ∧ sumAt t.row t.col (insT t xs) = t.sum
    ∧ ((gridS (missP (insT t xs)) rows cols).length : Int) + ((insT t xs).length : Int) = rows * cols
    ∧ (Whole rows cols (insT t xs) ↔ (gridS (missP (insT t xs)) rows cols).length = 0)
    ∧ ∀ x ∈ gridS (missP (insT t xs)) rows cols, x ≠ [t.row, t.col] := by
  have hs := insT_scn h
  obtain ⟨h1, h2⟩ := insT_at h
  have h3 := miss_len hs
  refine ⟨hs, ⟨hs, h1⟩, h2, h3, ⟨fun q => ?_, fun q => ⟨hs, ?_⟩⟩, fun x hx e => ?_⟩
  · have := q.2
    omega
  · omega
  · obtain ⟨a, b, e1, e2⟩ := grid_mem _ _ hx
    rw [e1] at e
    simp at e
    obtain ⟨rfl, rfl⟩ := e
    unfold missP at e2
    have := h.2.2.2.2.2.1
    omega
end Go.Proofs.Ytjacadkbkkkgfaa
