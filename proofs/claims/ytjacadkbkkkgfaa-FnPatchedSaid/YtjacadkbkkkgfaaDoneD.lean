/- RowsDone: the words. -/
import Derived.Test.YtjacadkbkkkgfaaScanV
import Derived.Test.YtjacadkbkkkgfaaFamInt
namespace Go.Proofs.Ytjacadkbkkkgfaa
open Go.RowKit
set_option linter.unusedVariables false
set_option linter.unusedSimpArgs false

def rowCnt (r : Int) (xs : List Tile) : Nat := (xs.filter fun t => decide (t.row = r)).length
theorem rowCnt_len (r : Int) (xs : List Tile) : rowCnt r xs ≤ xs.length := List.length_filter_le _ _
theorem rowCnt_t {r : Int} {xs : List Tile} {x : Tile} (h : x.row = r) : rowCnt r (xs ++ [x]) = rowCnt r xs + 1 := by simp [rowCnt, h]
theorem rowCnt_f {r : Int} {xs : List Tile} {x : Tile} (h : ¬ x.row = r) : rowCnt r (xs ++ [x]) = rowCnt r xs := by
  unfold rowCnt
  rw [List.filter_append, List.filter_cons_of_neg (by simpa using h)]
  simp
def colCnt (r : Int) (xs : List Tile) : Nat → Nat
  | 0 => 0
  | c + 1 => colCnt r xs c + (if 0 ≤ atI r (c : Int) xs then 1 else 0)
theorem colCnt_le (r : Int) (xs : List Tile) : ∀ c, colCnt r xs c ≤ c
  | 0 => Nat.le_refl _
  | c + 1 => by
    have := colCnt_le r xs c
    rw [colCnt]
    split <;> omega
theorem colCnt_nil (r : Int) : ∀ c, colCnt r [] c = 0
  | 0 => rfl
  | c + 1 => by rw [colCnt, colCnt_nil r c]; rfl
theorem pw_of_adj {α : Type} {R : α → α → Prop} (tr : ∀ a b c, R a b → R b c → R a c) : ∀ xs : List α, (∀ (i : Nat) (x y : α), xs[i]? = some x → xs[i + 1]? = some y → R x y) → xs.Pairwise R
  | [], _ => List.Pairwise.nil
  | [x], _ => by simp
  | x :: y :: r, h => by
    have ih := pw_of_adj tr (y :: r) (fun i a b ha hb => h (i + 1) a b ha hb)
    have hxy := h 0 x y rfl rfl
    refine List.Pairwise.cons (fun z hz => ?_) ih
    rcases List.mem_cons.1 hz with rfl | hz
    · exact hxy
    · exact tr _ _ _ hxy ((List.pairwise_cons.1 ih).1 z hz)
theorem tileLt_trans (a b c : Tile) (h : TileLt a b) (k : TileLt b c) : TileLt a c := by unfold TileLt at *; omega
theorem atI_none {row col : Int} {xs : List Tile} (h : ∀ t ∈ xs, ¬ AtP row col t) : atI row col xs = -1 :=
  (at_none (fun j t _ ht => h t (List.mem_of_getElem? ht))).1
theorem colCnt_cons {r : Int} {x : Tile} {xs : List Tile} (hn : ∀ t ∈ xs, ¬ AtP x.row x.col t) : ∀ c : Nat, colCnt r (x :: xs) c = colCnt r xs c + (if x.row = r ∧ 0 ≤ x.col ∧ x.col < (c : Int) then 1 else 0)
  | 0 => by
    rw [colCnt, colCnt, if_neg (by omega)]
  | c + 1 => by
    have ih := colCnt_cons (r := r) hn c
    rw [colCnt, colCnt, ih]
    by_cases hp : AtP r (c : Int) x
    · obtain ⟨p1, p2⟩ := hp
      have h0 : atI r (c : Int) xs = -1 := atI_none (fun t ht => by rw [← p1, ← p2]; exact hn t ht)
      have h1 : atI r (c : Int) (x :: xs) = 0 := by rw [atI, if_pos ⟨p1, p2⟩]
      rw [h0, h1, if_neg (by omega), if_pos (by omega), if_neg (by omega), if_pos (by omega)]
    · have h1 : (0 ≤ atI r (c : Int) (x :: xs)) ↔ 0 ≤ atI r (c : Int) xs := by
        rw [atI, if_neg hp]
        split <;> omega
      have h2 : (x.row = r ∧ 0 ≤ x.col ∧ x.col < (c : Int)) ↔ (x.row = r ∧ 0 ≤ x.col ∧ x.col < ((c + 1 : Nat) : Int)) := by
        unfold AtP at hp
        constructor
        · rintro ⟨a, b, d⟩; exact ⟨a, b, by omega⟩
        · rintro ⟨a, b, d⟩; exact ⟨a, b, by
            by_cases e : x.col = (c : Int)
            · exact absurd ⟨a, e⟩ hp
            · omega⟩
      simp only [h1, h2]
      omega
theorem cnt_eq {C : Nat} (r : Int) : ∀ xs : List Tile, xs.Pairwise TileLt → (∀ t ∈ xs, 0 ≤ t.col ∧ t.col < (C : Int)) → colCnt r xs C = rowCnt r xs
  | [], _, _ => by rw [colCnt_nil]; rfl
  | x :: xs, hp, hc => by
    obtain ⟨h1, h2⟩ := List.pairwise_cons.1 hp
    rw [colCnt_cons (fun t ht h => by have := h1 t ht; unfold TileLt at this; unfold AtP at h; omega), cnt_eq r xs h2 (fun t ht => hc t (List.mem_cons_of_mem _ ht))]
    have hx := hc x List.mem_cons_self
    unfold rowCnt
    by_cases e : x.row = r
    · rw [if_pos ⟨e, hx⟩, List.filter_cons_of_pos (by simpa using e), List.length_cons]
    · rw [if_neg (fun q => e q.1), List.filter_cons_of_neg (by simpa using e)]
      rfl
theorem scn_cnt {rows cols : Int} {xs : List Tile} (h : Scn rows cols xs) (r : Int) : colCnt r xs cols.toNat = rowCnt r xs :=
  cnt_eq r xs (pw_of_adj tileLt_trans xs h.1.2) (fun t ht => by
    obtain ⟨i, hi⟩ := List.getElem?_of_mem ht
    have h1 := h.1.1 i t hi
    have h2 := h.2
    unfold TileOk at h1
    unfold Side at h2
    omega)
def doneTo (xs : List Tile) (cols : Int) (k : Nat) : List Int := ((List.range k).filter fun r : Nat => decide ((rowCnt (r : Int) xs : Int) = cols)).map fun r : Nat => (r : Int)
theorem doneTo_len (xs : List Tile) (cols : Int) (k : Nat) : (doneTo xs cols k).length ≤ k := by
  unfold doneTo
  rw [List.length_map]
  exact Nat.le_trans (List.length_filter_le _ _) (by simp)
theorem doneTo_t {xs : List Tile} {cols : Int} {k : Nat} (h : (rowCnt (k : Int) xs : Int) = cols) : doneTo xs cols (k + 1) = doneTo xs cols k ++ [(k : Int)] := by simp [doneTo, List.range_succ, h]
theorem doneTo_f {xs : List Tile} {cols : Int} {k : Nat} (h : ¬ (rowCnt (k : Int) xs : Int) = cols) : doneTo xs cols (k + 1) = doneTo xs cols k := by
  unfold doneTo
  rw [List.range_succ, List.filter_append, List.filter_cons_of_neg (by simpa using h)]
  simp
theorem done_len (rows cols : Int) (xs : List Tile) (P : Prop) (h : P → Side rows cols) : (sel P (doneTo xs cols rows.toNat)).length ≤ 1048576 := by
  by_cases hP : P
  · rw [sel_t hP]
    have := doneTo_len xs cols rows.toNat
    have h2 := h hP
    unfold Side at h2
    omega
  · rw [sel_f hP]; simp
/-- the counts so far -/
structure Cnt (cb R : Nat) (xs : List Tile) (k : Nat) (w : World) : Prop where
  lt : cb < w.heap.size
  fz : ∀ j, w.frozen? ⟨cb, j, none⟩ = false
  at_ : ∀ r : Nat, r < R → w.cell? ⟨cb, r, none⟩ = some (.int .i64 (rowCnt (r : Int) (xs.take k) : Int))
theorem Cnt.ext {cb R k : Nat} {xs : List Tile} {w w' : World} (h : Cnt cb R xs k w) (hb : Below w.heap.size w w') : Cnt cb R xs k w' :=
  ⟨Nat.lt_of_lt_of_le h.lt hb.size, fun j => (hb.frozen (p := ⟨cb, j, none⟩) h.lt).trans (h.fz j), fun r hr => (hb.cell (p := ⟨cb, r, none⟩) h.lt).trans (h.at_ r hr)⟩
theorem Cnt.start {cb R : Nat} {xs : List Tile} (w : World) (t : TypeId) (h : cb = w.heap.size) : Cnt cb R xs 0 (w.alloc (.cells (madeCells #[.int .i64 0] R) t)) := by
  subst h
  refine ⟨by simp, fun j => by simp only [World.frozen?, heap_alloc_new]; simp, fun r hr => ?_⟩
  rw [World.cell?_alloc_new]
  simp [madeCells, hr, Nat.mod_one, rowCnt]
theorem Cnt.step {cb R k : Nat} {xs : List Tile} {w : World} {x : Tile} {q : Nat} {n : Int} (h : Cnt cb R xs k w) (hx : xs.take (k + 1) = xs.take k ++ [x]) (hq : x.row = (q : Int)) (hqr : q < R) (hn : n = (rowCnt (q : Int) (xs.take k) : Int) + 1) : Cnt cb R xs (k + 1) (w.setCell ⟨cb, q, none⟩ (.int .i64 n)) := by
  refine ⟨by rw [setCell_size]; exact h.lt, fun j => by rw [frozen_setCell]; exact h.fz j, fun r hr => ?_⟩
  rw [hx]
  by_cases e : r = q
  · subst e
    rw [rowCnt_t hq, World.cell?_setCell_same w _ _ (h.at_ r hr), hn]
    congr 1
  · rw [rowCnt_f (by omega), World.cell?_setCell_other w _ _ _ (fun e' => by injection e' with e1 e2; omega)]
    exact h.at_ r hr
end Go.Proofs.Ytjacadkbkkkgfaa
