/- PutTile: the words. -/
import Derived.Test.YtjacadkbkkkgfaaPutDT
namespace Go.Proofs.Ytjacadkbkkkgfaa
open Go.RowKit
set_option linter.unusedVariables false
set_option linter.unusedSimpArgs false

theorem bd_len : ∀ (l : List Nat) (lo hi : Nat), l.Pairwise (· < ·) → (∀ x ∈ l, lo ≤ x ∧ x < hi) → l.length ≤ hi - lo
  | [], _, _, _, _ => by simp
  | x :: r, lo, hi, hp, hb => by
    obtain ⟨h1, h2⟩ := List.pairwise_cons.1 hp
    have hx := hb x List.mem_cons_self
    have ih := bd_len r (x + 1) hi h2 (fun y hy => ⟨h1 y hy, (hb y (List.mem_cons_of_mem _ hy)).2⟩)
    rw [List.length_cons]
    omega
theorem scn_pw {rows cols : Int} {xs : List Tile} (h : Scn rows cols xs) : xs.Pairwise TileLt := pw_of_adj tileLt_trans xs h.1.2
theorem scn_mem {rows cols : Int} {xs : List Tile} (h : Scn rows cols xs) {t : Tile} (ht : t ∈ xs) : TileOk rows cols t := by
  obtain ⟨i, hi⟩ := List.getElem?_of_mem ht
  exact h.1.1 i t hi
theorem scn_len {rows cols : Int} {xs : List Tile} (h : Scn rows cols xs) : xs.length ≤ 36 := by
  have hs := h.2
  unfold Side at hs
  have hl := bd_len (xs.map fun t => t.row.toNat * 6 + t.col.toNat) 0 36 ?_ ?_
  · simpa using hl
  · rw [List.pairwise_map]
    refine (scn_pw h).imp_of_mem fun {a b} ha hb hab => ?_
    have h1 := scn_mem h ha
    have h2 := scn_mem h hb
    unfold TileOk at h1 h2
    unfold TileLt at hab
    omega
  · intro x hx
    obtain ⟨t, ht, rfl⟩ := List.mem_map.1 hx
    have h1 := scn_mem h ht
    unfold TileOk at h1
    omega
def PutOk (rows cols : Int) (xs : List Tile) (t : Tile) : Prop := Scn rows cols xs ∧ TileOk rows cols t
theorem insT_sel {rows cols : Int} {xs : List Tile} {t : Tile} : (sel (PutOk rows cols xs t) (insT t xs)).length ≤ 1048576 := by
  by_cases h : PutOk rows cols xs t
  · rw [sel_t h]
    have h1 := insT_len t xs
    have h2 := scn_len h.1
    omega
  · rw [sel_f h]; simp
end Go.Proofs.Ytjacadkbkkkgfaa
