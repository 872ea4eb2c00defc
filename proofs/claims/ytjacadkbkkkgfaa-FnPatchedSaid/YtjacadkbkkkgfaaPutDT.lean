/- A tile laid into its place: the words. -/
import Derived.Test.YtjacadkbkkkgfaaFamTile
import Derived.Test.YtjacadkbkkkgfaaScanV
import Derived.Test.YtjacadkbkkkgfaaSrch
import Derived.Test.YtjacadkbkkkgfaaDoneD
namespace Go.Proofs.Ytjacadkbkkkgfaa
open Go.RowKit
set_option linter.unusedVariables false
set_option linter.unusedSimpArgs false

instance (x y : Tile) : Decidable (TileLt x y) := inferInstanceAs (Decidable (_ ∨ _ ∧ _))
def insT (t : Tile) (xs : List Tile) : List Tile := (xs.filter fun z => decide (TileLt z t)) ++ t :: xs.filter fun z => decide (TileLt t z)
theorem insT_len (t : Tile) (xs : List Tile) : (insT t xs).length ≤ 2 * xs.length + 1 := by
  unfold insT
  have h1 := List.length_filter_le (fun z => decide (TileLt z t)) xs
  have h2 := List.length_filter_le (fun z => decide (TileLt t z)) xs
  rw [List.length_append, List.length_cons]
  omega
theorem cmpTile_z (x y : Tile) : cmpTile x y = 0 ↔ x.row = y.row ∧ x.col = y.col := by
  unfold cmpTile orI cmpI
  repeat' split
  all_goals omega
theorem filter_take {α : Type} {p : α → Bool} {xs : List α} {k : Nat} (h1 : ∀ m z, m < k → xs[m]? = some z → p z = true) (h2 : ∀ m z, k ≤ m → xs[m]? = some z → p z = false) : xs.filter p = xs.take k := by
  conv => lhs; rw [← List.take_append_drop k xs, List.filter_append]
  rw [List.filter_eq_self.2, List.filter_eq_nil_iff.2, List.append_nil]
  · intro a ha
    obtain ⟨i, hi⟩ := List.getElem?_of_mem ha
    rw [List.getElem?_drop] at hi
    simp [h2 (k + i) a (by omega) hi]
  · intro a ha
    obtain ⟨i, hi⟩ := List.getElem?_of_mem ha
    rw [List.getElem?_take] at hi
    split at hi
    · exact h1 i a (by assumption) hi
    · cases hi
theorem filter_drop {α : Type} {p : α → Bool} {xs : List α} {k : Nat} (h1 : ∀ m z, m < k → xs[m]? = some z → p z = false) (h2 : ∀ m z, k ≤ m → xs[m]? = some z → p z = true) : xs.filter p = xs.drop k := by
  conv => lhs; rw [← List.take_append_drop k xs, List.filter_append]
  rw [List.filter_eq_nil_iff.2, List.filter_eq_self.2, List.nil_append]
  · intro a ha
    obtain ⟨i, hi⟩ := List.getElem?_of_mem ha
    rw [List.getElem?_drop] at hi
    exact h2 (k + i) a (by omega) hi
  · intro a ha
    obtain ⟨i, hi⟩ := List.getElem?_of_mem ha
    rw [List.getElem?_take] at hi
    split at hi
    · simp [h1 i a (by assumption) hi]
    · cases hi
section
variable {xs : List Tile} {t : Tile} {k : Nat}
theorem pw_get (hs : xs.Pairwise TileLt) {i j : Nat} {x y : Tile} (hij : i < j) (hx : xs[i]? = some x) (hy : xs[j]? = some y) : TileLt x y := by
  obtain ⟨h1, h2⟩ := List.getElem?_eq_some_iff.1 hx
  obtain ⟨h3, h4⟩ := List.getElem?_eq_some_iff.1 hy
  subst h2 h4
  exact List.pairwise_iff_getElem.1 hs i j h1 h3 hij
theorem insT_not (hs : xs.Pairwise TileLt) (h1 : ∀ m z, m < k → xs[m]? = some z → TileLt z t) (h2 : ∀ m z, k ≤ m → xs[m]? = some z → ¬ TileLt z t) (h3 : ¬ ∃ z, xs[k]? = some z ∧ cmpTile z t = 0) : insT t xs = xs.take k ++ t :: xs.drop k := by
  unfold insT
  rw [filter_take (k := k) (fun m z hm hz => by simpa using h1 m z hm hz) (fun m z hm hz => by simpa using h2 m z hm hz), filter_drop (k := k) (fun m z hm hz => ?_) (fun m z hm hz => ?_)]
  · have := h1 m z hm hz
    simp only [decide_eq_false_iff_not]
    unfold TileLt at *
    omega
  · simp only [decide_eq_true_eq]
    have hm2 := h2 m z hm hz
    by_cases e : m = k
    · subst e
      have : ¬ cmpTile z t = 0 := fun q => h3 ⟨z, hz, q⟩
      rw [cmpTile_z] at this
      unfold TileLt at *
      omega
    · obtain ⟨y, hy⟩ : ∃ y, xs[k]? = some y := ⟨_, List.getElem?_eq_getElem (by have := lt_of_get hz; omega)⟩
      have hlt := pw_get hs (show k < m by omega) hy hz
      have hk2 := h2 k y (Nat.le_refl _) hy
      unfold TileLt at *
      omega
theorem insT_yes (hs : xs.Pairwise TileLt) (h1 : ∀ m z, m < k → xs[m]? = some z → TileLt z t) (h2 : ∀ m z, k ≤ m → xs[m]? = some z → ¬ TileLt z t) (h3 : ∃ z, xs[k]? = some z ∧ cmpTile z t = 0) : insT t xs = xs.set k t := by
  obtain ⟨z0, hz0, hc⟩ := h3
  rw [cmpTile_z] at hc
  have hk := lt_of_get hz0
  rw [List.set_eq_take_append_cons_drop, if_pos hk]
  unfold insT
  rw [filter_take (k := k) (fun m z hm hz => by simpa using h1 m z hm hz) (fun m z hm hz => by simpa using h2 m z hm hz), filter_drop (k := k + 1) (fun m z hm hz => ?_) (fun m z hm hz => ?_)]
  · simp only [decide_eq_false_iff_not]
    by_cases e : m = k
    · subst e
      rw [hz0] at hz
      cases hz
      unfold TileLt
      omega
    · have := h1 m z (by omega) hz
      unfold TileLt at *
      omega
  · simp only [decide_eq_true_eq]
    have hlt := pw_get hs (show k < m by omega) hz0 hz
    unfold TileLt at *
    omega
end
theorem FlO.setT {lo hi g k : Nat} {w : World} {xs : List Tile} {t : Tile} (h : FlO Tile.ints 3 lo hi w (some ⟨g, 0, none⟩) xs) (hk : k < xs.length) : FlO Tile.ints 3 lo hi (setRow w g (k * 3) (t.ints.map (Value.int .i64))) (some ⟨g, 0, none⟩) (xs.set k t) := fun _ => by
  obtain ⟨b, o, h1, h2, h3, h3', h4, h5⟩ := h (fun e => by rw [e] at hk; simp at hk)
  injection h1 with h1
  injection h1 with e1 e2 _
  subst e1 e2
  refine ⟨g, 0, rfl, by rw [setRow_size]; exact h2, h3, h3', fun j => by rw [setRow_frozen]; exact h4 j, fun i x hx j v hv => ?_⟩
  have hj : j < 3 := lt_of_get hv
  rw [Nat.zero_add]
  by_cases e : i = k
  · subst e
    rw [List.getElem?_set_self hk] at hx
    cases hx
    refine setRow_same g _ w (i * 3) (fun q hq => ?_) j _ (by simp [hv])
    obtain ⟨y, hy⟩ : ∃ y, xs[i]? = some y := ⟨_, List.getElem?_eq_getElem hk⟩
    have hq3 : q < y.ints.length := hq
    have := h5 i y hy q _ (List.getElem?_eq_getElem hq3)
    rw [Nat.zero_add] at this
    exact ⟨_, this⟩
  · rw [List.getElem?_set_ne (fun q => e q.symm)] at hx
    rw [setRow_other g g (i * 3 + j) _ w (k * 3) (by
      have hl : (t.ints.map (Value.int .i64)).length = 3 := rfl
      rw [hl]
      right
      omega)]
    have := h5 i x hx j v hv
    rw [Nat.zero_add] at this
    exact this
theorem step_append_runK {P : Program} {ops : Array Oper} {o : Oper} {a : Act} {w : World} {K : Act → World → Prop} {Q : Exit → Act → World → Prop} {E : Prop} (hgd : o.guard = none) (s x : Operand) (t : TypeId)
    (ho : o.op = .call { callee := .builtin .append, args := #[s, x], argTypes := #[t, t] }) (v u : Value) (hs : a.eval s = v) (hx : a.eval x = u) {v' : Value} {w' : World}
    (hr : (Builtin.append_ #[t, t] o.type #[v, u]).run P w = .ok v' w') (h : K (a.put o.dst v') w') : if Region.wanted o (yielded ops a.tmps) = true then Oper.wp P o a w K Q else E := by
  have hw : Region.wanted o (yielded ops a.tmps) = true := by simp [Region.wanted, hgd]
  rw [if_pos hw]
  unfold Oper.wp execOp
  simp only [ho, resolve, invoke, builtin, Sem.run_bind, Sem.run_pure, Result.andThen_ok, List.map_toArray, List.map_cons, List.map_nil, hs, hx, hr]
  exact h
theorem appendT_run (lo : Nat) (v : Value) (ys : List Tile) (y : Tile) (w : World) (hown : OwnF Tile.ints 3 lo 39 w v ys) (hlen : ys.length ≤ 16777216) (hlo : lo ≤ w.heap.size) :
    ∃ B' d' m w', (Builtin.append_ #[24, 24] 24 #[v, .slice (some ⟨w.heap.size, 0, none⟩) 1 1]).run Try.prog (w.alloc (.cells #[Value.int .i64 y.row, .int .i64 y.col, .int .i64 y.sum] 39)).drew = .ok (.slice B' m d') w' ∧
      Hid (m = (ys ++ [y]).length) ∧ OwnF Tile.ints 3 lo 39 w' (.slice B' m d') (ys ++ [y]) ∧ Below lo w w' := by
  obtain ⟨i0, hi, hz0, hz1, hz2⟩ := info_parts infoTile
  have hown2 := hown.ext (ext_trans (ext_alloc w (.cells #[Value.int .i64 y.row, .int .i64 y.col, .int .i64 y.sum] 39)) (ext_drew _))
  obtain ⟨v', w', hr, h1, h2, _⟩ := run_append_own (P := Try.prog) (w.alloc (.cells #[Value.int .i64 y.row, .int .i64 y.col, .int .i64 y.sum] 39)).drew lo 24 24 39 i0 _ 3 24 Try.underlying24 hi hz0 hz1 hz2 rfl (by decide) v ys.length (row Tile.ints ys) hown2 ⟨w.heap.size, 0, none⟩ 1 1 ((y.ints).map (Value.int .i64)) rfl (fun j u hu => by
    rw [show (⟨w.heap.size, 0, none⟩ : Addr).add j = ⟨w.heap.size, j, none⟩ from by unfold Addr.add; split <;> simp_all]
    refine (World.cell?_alloc_new w _ _ j).trans ?_
    rw [show (y.ints).map (Value.int .i64) = [Value.int .i64 y.row, .int .i64 y.col, .int .i64 y.sum] from rfl] at hu
    simpa using hu) (fun u hu => by obtain ⟨q, _, rfl⟩ := List.mem_map.1 hu; rfl) (by simp only [maxLen]; omega) (by omega) (by simp; omega)
  have hown' : OwnF Tile.ints 3 lo 39 w' v' (ys ++ [y]) := by
    unfold OwnF
    rw [row_snoc, List.length_append]
    exact h1
  obtain ⟨B', d', rfl, _⟩ := hown'.form Tile.ints_length
  refine ⟨B', d', (ys ++ [y]).length, w', hr, rfl, hown', ?_⟩
  have hb : Below lo w (w.alloc (.cells #[Value.int .i64 y.row, .int .i64 y.col, .int .i64 y.sum] 39)).drew := (ext_trans (ext_alloc w _) (ext_drew _)).mono hlo
  exact hb.grown h2 (by simp; omega) (fun k hk => (hown.ownBlock k hk).1)
/-- a call that hands back a scan -/
def RetT (w : World) (rr cc : Int) (ys : List Tile) (e : Ending) (w' : World) : Prop :=
  ∃ B d, e = .returned (.agg #[.int .i64 rr, .int .i64 cc, .slice B ys.length d]) ∧ FlO Tile.ints 3 w.heap.size w'.heap.size w' B ys ∧ Below w.heap.size w w'
end Go.Proofs.Ytjacadkbkkkgfaa
