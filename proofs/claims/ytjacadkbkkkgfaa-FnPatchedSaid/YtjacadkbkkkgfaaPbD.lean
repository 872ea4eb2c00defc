/- PatchScan and BesideScan: the words. -/
import Derived.Test.YtjacadkbkkkgfaaPtD
import Derived.Test.YtjacadkbkkkgfaaBoxLaw
import Derived.Deep.DeepCutAuto
import Derived.Deep.RegionLaw
namespace Go.Proofs.Ytjacadkbkkkgfaa
open Go.RowKit
set_option linter.unusedVariables false
set_option linter.unusedSimpArgs false

theorem var3_of {w : World} {g : Nat} {a b c : Value} {t : TypeId} (h : w.heap[g]? = some (.cells #[a, b, c] t (0, 0))) : Var3 w g a b c :=
  ⟨(Array.getElem?_eq_some_iff.1 h).1, by simp [World.cell?, h], by simp [World.cell?, h], by simp [World.cell?, h], fun j => by simp [World.frozen?, h]⟩
/-- a slice of tiles that reads as xs, in a block from lo on that is not g and may be written -/
def FlX (g lo : Nat) (w : World) (A : Option Addr) (xs : List Tile) : Prop :=
  xs ≠ [] → ∃ b o, A = some ⟨b, o, none⟩ ∧ b < w.heap.size ∧ lo ≤ b ∧ b ≠ g ∧ (∀ j, w.frozen? ⟨b, j, none⟩ = false) ∧ ∀ i x, xs[i]? = some x → ∀ j v, (Tile.ints x)[j]? = some v → w.cell? ⟨b, o + i * 3 + j, none⟩ = some (.int .i64 v)
theorem FlX.flo {g lo : Nat} {w : World} {A : Option Addr} {xs : List Tile} (h : FlX g lo w A xs) : FlO Tile.ints 3 lo w.heap.size w A xs := fun hn => by
  obtain ⟨b, o, h1, h2, h3, _, h4, h5⟩ := h hn
  exact ⟨b, o, h1, h2, h3, h2, h4, h5⟩
theorem FlX.of {g lo l h : Nat} {w : World} {A : Option Addr} {xs : List Tile} (hF : FlO Tile.ints 3 l h w A xs) (hl : lo ≤ l) (hg : g < l ∨ h ≤ g) : FlX g lo w A xs := fun hn => by
  obtain ⟨b, o, h1, h2, h3, h3', h4, h5⟩ := hF hn
  exact ⟨b, o, h1, h2, by omega, by omega, h4, h5⟩
theorem FlX.ofOwn {g lo : Nat} {e t : TypeId} {cs : Array Value} {w : World} {A : Option Addr} {n d : Nat} {xs : List Tile} (h : OwnF Tile.ints 3 lo e w (.slice A n d) xs) (hg : w.heap[g]? = some (.cells cs t (0, 0))) (hte : e ≠ t) : FlX g lo w A xs := fun hn => by
  obtain ⟨A9, c9, hv, hF⟩ := h.form Tile.ints_length
  injection hv with e1 _ _
  subst e1
  obtain ⟨g9, cap, cur, hv9, _, hh, _⟩ := h.blk hn
  injection hv9 with e2 _ _
  obtain ⟨b, o, h1, h2, h3, h3', h4, h5⟩ := hF hn
  refine ⟨b, o, h1, h2, h3, fun e => ?_, h4, h5⟩
  rw [h1] at e2
  injection e2 with e2
  injection e2 with e3 _ _
  rw [← e3, e, hg] at hh
  injection hh with hh
  injection hh with _ e4 _
  exact hte e4.symm
theorem FlX.set {g lo : Nat} {w : World} {A : Option Addr} {xs : List Tile} (h : FlX g lo w A xs) (x y z : Value) : FlX g lo (((w.setCell ⟨g, 0, none⟩ x).setCell ⟨g, 1, none⟩ y).setCell ⟨g, 2, none⟩ z) A xs := fun hn => by
  obtain ⟨b, o, h1, h2, h3, h3', h4, h5⟩ := h hn
  have ht := set3_touch w g x y z
  exact ⟨b, o, h1, Nat.lt_of_lt_of_le h2 ht.size, h3, h3', fun j => (ht.frozen h2 (by omega)).trans (h4 j), fun i q hq j v hv => (ht.cell h2 (by omega)).trans (h5 i q hq j v hv)⟩
theorem FlX.ext {g lo : Nat} {w w' : World} {A : Option Addr} {xs : List Tile} (h : FlX g lo w A xs) (hb : Below w.heap.size w w') : FlX g lo w' A xs := fun hn => by
  obtain ⟨b, o, h1, h2, h3, h3', h4, h5⟩ := h hn
  exact ⟨b, o, h1, Nat.lt_of_lt_of_le h2 hb.size, h3, h3', fun j => (hb.frozen (p := ⟨b, j, none⟩) h2).trans (h4 j), fun i q hq j v hv => (hb.cell (p := ⟨b, _, none⟩) h2).trans (h5 i q hq j v hv)⟩
theorem FlX.mono {g lo lo' : Nat} {w : World} {A : Option Addr} {xs : List Tile} (h : FlX g lo w A xs) (hl : lo' ≤ lo) : FlX g lo' w A xs := fun hn => by
  obtain ⟨b, o, h1, h2, h3, h4⟩ := h hn
  exact ⟨b, o, h1, h2, by omega, h4⟩
def besT (c : Int) (t : Tile) : Tile := ⟨t.row, t.col + c, t.sum⟩
def patchL (f : Tile → Tile) (xs ys : List Tile) : List Tile := ys.foldl (fun o t => insT (f t) o) xs
theorem patchL_snoc (f : Tile → Tile) (xs ys : List Tile) (t : Tile) : patchL f xs (ys ++ [t]) = insT (f t) (patchL f xs ys) := by simp [patchL]
theorem insT_pw {t : Tile} {xs : List Tile} (h : xs.Pairwise TileLt) : (insT t xs).Pairwise TileLt := by
  unfold insT
  rw [List.pairwise_append]
  refine ⟨h.filter _, List.pairwise_cons.2 ⟨fun z hz => by simpa using (List.mem_filter.1 hz).2, h.filter _⟩, fun a ha b hb => ?_⟩
  have h1 : TileLt a t := by simpa using (List.mem_filter.1 ha).2
  rcases List.mem_cons.1 hb with rfl | hb
  · exact h1
  · have h2 : TileLt t b := by simpa using (List.mem_filter.1 hb).2
    exact tileLt_trans _ _ _ h1 h2
theorem two_filters {α : Type} {p q : α → Bool} (h : ∀ x, ¬ (p x = true ∧ q x = true)) : ∀ xs : List α, (xs.filter p).length + (xs.filter q).length ≤ xs.length
  | [] => by simp
  | x :: r => by
    have ih := two_filters h r
    have hx := h x
    simp only [List.filter_cons]
    split <;> split <;> simp_all <;> omega
theorem insT_len1 (t : Tile) (xs : List Tile) : (insT t xs).length ≤ xs.length + 1 := by
  unfold insT
  have := two_filters (p := fun z => decide (TileLt z t)) (q := fun z => decide (TileLt t z)) (fun x h => by
    simp only [decide_eq_true_eq] at h
    unfold TileLt at h
    omega) xs
  rw [List.length_append, List.length_cons]
  omega
theorem patchL_pw (f : Tile → Tile) {xs : List Tile} (h : xs.Pairwise TileLt) : ∀ ys : List Tile, (patchL f xs ys).Pairwise TileLt := fun ys => by
  unfold patchL
  induction ys generalizing xs with
  | nil => exact h
  | cons y r ih => exact ih (insT_pw h)
theorem patchL_len (f : Tile → Tile) : ∀ (ys xs : List Tile), (patchL f xs ys).length ≤ xs.length + ys.length
  | [], xs => by simp [patchL]
  | y :: r, xs => by
    have h1 := patchL_len f r (insT (f y) xs)
    have h2 := insT_len1 (f y) xs
    show (patchL f (insT (f y) xs) r).length ≤ _
    rw [List.length_cons]
    omega
def BesOk (ra ca : Int) (xs : List Tile) (rb cb : Int) (ys : List Tile) : Prop := Scn ra ca xs ∧ Scn rb cb ys ∧ ra = rb ∧ ca + cb ≤ 6
theorem patch_sel {P : Prop} {f : Tile → Tile} {ra ca rb cb : Int} {xs ys : List Tile} (h : P → Scn ra ca xs ∧ Scn rb cb ys) : (sel P (patchL f xs ys)).length ≤ 1048576 := by
  by_cases hP : P
  · rw [sel_t hP]
    have h1 := patchL_len f ys xs
    have h2 := scn_len (h hP).1
    have h3 := scn_len (h hP).2
    omega
  · rw [sel_f hP]; simp
theorem empty_second (w : World) (V : Obj) (e : TypeId) : OwnF Tile.ints 3 w.heap.size e ((w.alloc V).alloc (.cells #[] e)).drew (.slice (some ⟨w.heap.size + 1, 0, none⟩) 0 0) [] := by
  have h : OwnF Tile.ints 3 w.heap.size e ((w.alloc V).alloc (.cells #[] e)) (.slice (some ⟨(w.alloc V).heap.size, 0, none⟩) 0 0) [] := OwnF.empty (by simp)
  rw [show (w.alloc V).heap.size = w.heap.size + 1 by simp] at h
  exact h.ext (ext_drew _)
theorem blk_first {w5 w6 : World} {V E : Obj} (hg : ((w5.alloc V).alloc E).drew.grownBy w6 (some (w5.heap.size + 1))) : w6.heap[w5.heap.size]? = some V := by
  rw [hg.block w5.heap.size (by simp; omega) (by simp)]
  show ((w5.heap.push V).push E)[w5.heap.size]? = some V
  simp [Array.getElem?_push]
theorem blk_second {w5 w6 : World} {V E : Obj} (hg : ((w5.alloc E).alloc V).drew.grownBy w6 (some w5.heap.size)) : w6.heap[w5.heap.size + 1]? = some V := by
  rw [hg.block (w5.heap.size + 1) (by simp) (by simp)]
  show ((w5.heap.push E).push V)[w5.heap.size + 1]? = some V
  rw [Array.getElem?_push, if_pos (by simp)]
end Go.Proofs.Ytjacadkbkkkgfaa
