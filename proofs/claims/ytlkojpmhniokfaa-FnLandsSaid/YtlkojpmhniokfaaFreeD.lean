/- The squares that no bar covers: the words. -/
import Derived.Test.YtlkojpmhniokfaaAreaW
import Derived.Test.YtlkojpmhniokfaaAreaLaw
import Derived.Test.YtlkojpmhniokfaaLandOk
import Derived.Test.YtlkojpmhniokfaaFamZone
namespace Go.Proofs.Ytlkojpmhniokfaa
open Go.RowKit
set_option linter.unusedVariables false
set_option linter.unusedSimpArgs false

theorem adj_bd {f : Int → Int → Int} {M : Int} (hM : 0 ≤ M) : ∀ (l : List Int), Strict l → (∀ a b, a ∈ l → b ∈ l → a < b → 0 ≤ f a b ∧ f a b ≤ M) → 0 ≤ adjSum f l ∧ adjSum f l ≤ M * (l.length : Int)
  | [], _, _ => by simp [adjSum]
  | [a], _, _ => by simp [adjSum]; omega
  | a :: b :: r, h, hf => by
    have ih := adj_bd hM (b :: r) (List.pairwise_cons.1 h).2 (fun x y hx hy => hf x y (List.mem_cons_of_mem _ hx) (List.mem_cons_of_mem _ hy))
    have h1 := hf a b List.mem_cons_self (List.mem_cons_of_mem _ List.mem_cons_self) ((List.pairwise_cons.1 h).1 b List.mem_cons_self)
    have e : M * ((a :: b :: r).length : Int) = M * ((b :: r).length : Int) + M := by
      rw [List.length_cons, Int.natCast_add, Int.mul_add]
      simp
    rw [adjSum]
    omega
theorem areaZ_bd {zs : List Zone} (hz : ∀ z ∈ zs, ZB z) (hn : zs.length ≤ 10) : 0 ≤ areaZ zs ∧ areaZ zs ≤ 100000000000 := by
  have hX := Nat.le_trans (putAll_len (linesX zs)) (Nat.le_of_eq (linesX_len zs))
  have hY := Nat.le_trans (putAll_len (linesY zs)) (Nat.le_of_eq (linesY_len zs))
  have h := adj_bd (M := 2000000000) (f := rowA (cntZ zs) (putAll (linesY zs))) (by decide) (putAll (linesX zs)) (putAll_strict _) (fun a b ha hb hab => by
    have h1 := linesX_bd hz a ((putAll_mem _ _).1 ha)
    have h2 := linesX_bd hz b ((putAll_mem _ _).1 hb)
    have h3 := adj_bd (M := 100000000) (f := fun y y' => cellA (cntZ zs) a b y y') (by decide) (putAll (linesY zs)) (putAll_strict _) (fun y y' hy hy' hyy => by
      have h4 := linesY_bd hz y ((putAll_mem _ _).1 hy)
      have h5 := linesY_bd hz y' ((putAll_mem _ _).1 hy')
      exact cellA_bd _ h1.1 (by omega) h2.2 h4.1 (by omega) h5.2)
    unfold rowA
    omega)
  unfold areaZ areaL
  omega
def barZ (i : Int) (b : Four) : Zone := ⟨i, b.a, b.b, b.c + 1, b.d + 1⟩
def specZ : Nat → List Four → List Zone
  | _, [] => []
  | i, b :: r => barZ ((i : Int) + 1) b :: specZ (i + 1) r
theorem specZ_snoc : ∀ (l : List Four) (i : Nat) (b : Four), specZ i (l ++ [b]) = specZ i l ++ [barZ (((i + l.length : Nat) : Int) + 1) b]
  | [], i, b => rfl
  | y :: r, i, b => by
    have ih := specZ_snoc r (i + 1) b
    rw [List.cons_append, specZ, ih, specZ, List.cons_append, List.length_cons]
    congr 5
    omega
theorem specZ_len : ∀ (l : List Four) (i : Nat), (specZ i l).length = l.length
  | [], i => rfl
  | y :: r, i => by rw [specZ, List.length_cons, specZ_len r (i + 1), List.length_cons]
theorem specZ_mem : ∀ (l : List Four) (i : Nat) (z : Zone), z ∈ specZ i l → ∃ j b, b ∈ l ∧ z = barZ j b
  | [], i, z, h => by simp [specZ] at h
  | y :: r, i, z, h => by
    rw [specZ] at h
    rcases List.mem_cons.1 h with e | e
    · exact ⟨_, y, List.mem_cons_self, e⟩
    · obtain ⟨j, b, h1, h2⟩ := specZ_mem r (i + 1) z e
      exact ⟨j, b, List.mem_cons_of_mem _ h1, h2⟩
def implZ (l : List Four) : List Zone := l.map (barZ 0)
theorem implZ_snoc (l : List Four) (b : Four) : implZ (l ++ [b]) = implZ l ++ [barZ 0 b] := by simp [implZ]
theorem implZ_len (l : List Four) : (implZ l).length = l.length := by simp [implZ]
theorem specZ_X : ∀ (l : List Four) (i : Nat), linesX (specZ i l) = linesX (implZ l)
  | [], i => rfl
  | y :: r, i => by
    have ih := specZ_X r (i + 1)
    simp only [linesX, implZ, specZ, List.map_cons, List.flatMap_cons] at ih ⊢
    rw [ih]
    rfl
theorem specZ_Y : ∀ (l : List Four) (i : Nat), linesY (specZ i l) = linesY (implZ l)
  | [], i => rfl
  | y :: r, i => by
    have ih := specZ_Y r (i + 1)
    simp only [linesY, implZ, specZ, List.map_cons, List.flatMap_cons] at ih ⊢
    rw [ih]
    rfl
theorem specZ_C (x y : Int) : ∀ (l : List Four) (i : Nat), ((specZ i l).filter (zHas x y)).length = ((implZ l).filter (zHas x y)).length
  | [], i => rfl
  | b :: r, i => by
    have ih := specZ_C x y r (i + 1)
    have e : zHas x y (barZ ((i : Int) + 1) b) = zHas x y (barZ 0 b) := rfl
    simp only [implZ, specZ, List.map_cons, List.filter_cons] at ih ⊢
    rw [e]
    split
    · simp only [List.length_cons]; rw [ih]
    · exact ih
theorem specZ_area (l : List Four) : areaZ (specZ 0 l) = areaZ (implZ l) := by
  have h : cntZ (specZ 0 l) = cntZ (implZ l) := by
    funext x y
    unfold cntZ
    rw [specZ_C]
  unfold areaZ
  rw [h, specZ_X, specZ_Y]
theorem zb_bar {wide high steep : Int} {bars : List Four} (h : Lnd wide high steep bars) {b : Four} (hb : b ∈ bars) (i : Int) : ZB (barZ i b) := by
  obtain ⟨k, hk⟩ := List.mem_iff_getElem?.1 hb
  have h1 := h.1.1 k b hk
  obtain ⟨_, _, h2, _, h3, _⟩ := h
  unfold BarOk at h1
  unfold ZB barZ
  simp only
  omega
theorem zb_impl {wide high steep : Int} {bars : List Four} (h : Lnd wide high steep bars) : ∀ z ∈ implZ bars, ZB z := fun z hz => by
  obtain ⟨b, hb, rfl⟩ := List.mem_map.1 hz
  exact zb_bar h hb 0
theorem zb_spec {wide high steep : Int} {bars : List Four} (h : Lnd wide high steep bars) : ∀ z ∈ specZ 0 bars, ZB z := fun z hz => by
  obtain ⟨j, b, hb, rfl⟩ := specZ_mem bars 0 z hz
  exact zb_bar h hb j
theorem wh_bd {wide high : Int} (h1 : 1 ≤ wide) (h2 : wide ≤ 2000) (h3 : 1 ≤ high) (h4 : high ≤ 2000) : 0 ≤ wide * high ∧ wide * high ≤ 4000000 := by
  refine ⟨Int.mul_nonneg (by omega) (by omega), ?_⟩
  have : wide * high ≤ 2000 * 2000 := Int.mul_le_mul h2 h4 (by omega) (by decide)
  omega
end Go.Proofs.Ytlkojpmhniokfaa
