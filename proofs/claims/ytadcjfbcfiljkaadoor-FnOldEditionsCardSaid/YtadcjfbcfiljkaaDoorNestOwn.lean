/- A slice of structs with an inner slice that the call itself has made and appends to: the structs' cells are owned, their inner slices are shared. -/
import Derived.Test.YtadcjfbcfiljkaaDoorBase
import Derived.Test.YtadcjfbcfiljkaaDoorBase2
import Derived.Test.YtadcjfbcfiljkaaDoorNest
namespace Go.Proofs.YtadcjfbcfiljkaaDoor
open Go.RowKit
set_option linter.unusedVariables false
set_option linter.unusedSimpArgs false

structure NV where
  x : Nest
  A : Option Addr
  d : Nat
def NV.cells (y : NV) : List Value := [.int .i64 y.x.a, .int .i64 y.x.b, .int .i64 y.x.c, .slice y.A y.x.l.length y.d]
theorem NV.cells_length (y : NV) : y.cells.length = 4 := rfl
def rowV (ys : List NV) : List Value := ys.flatMap NV.cells
def OwnV (lo : Nat) (e : TypeId) (w : World) (v : Value) (ys : List NV) : Prop := w.ownsRow lo e 4 v ys.length (rowV ys)
section
variable {lo : Nat} {e : TypeId} {w w' : World} {v : Value} {ys : List NV}
theorem rowV_snoc (y : NV) : rowV (ys ++ [y]) = rowV ys ++ y.cells := by simp [rowV]
theorem rowV_get : ∀ (ys : List NV) (i : Nat) (y : NV), ys[i]? = some y → ∀ j q, y.cells[j]? = some q → (rowV ys)[i * 4 + j]? = some q
  | [], i, y, h, _, _, _ => by simp at h
  | z :: ys, 0, y, h, j, q, hj => by
    simp only [List.getElem?_cons_zero, Option.some.injEq] at h
    subst h
    have hl : j < z.cells.length := by
      rcases Nat.lt_or_ge j z.cells.length with hh | hh
      · exact hh
      · rw [List.getElem?_eq_none hh] at hj; cases hj
    simp only [rowV, List.flatMap_cons, Nat.zero_mul, Nat.zero_add]
    rw [List.getElem?_append_left hl]
    exact hj
  | z :: ys, i + 1, y, h, j, q, hj => by
    simp only [List.getElem?_cons_succ] at h
    have ih := rowV_get ys i y h j q hj
    simp only [rowV, List.flatMap_cons] at ih ⊢
    rw [List.getElem?_append_right (by rw [NV.cells_length]; omega), ← ih, NV.cells_length]
    congr 1
    omega
theorem OwnV.none_ : OwnV lo e w (.slice none 0 0) [] := ⟨by simp [rowV], .inl ⟨rfl, rfl⟩⟩
theorem OwnV.empty (hlo : lo ≤ w.heap.size) : OwnV lo e (w.alloc (.cells #[] e)) (.slice (some ⟨w.heap.size, 0, none⟩) 0 0) [] :=
  ⟨by simp [rowV], .inr ⟨w.heap.size, 0, #[], rfl, hlo, heap_alloc_new w _, Nat.le_refl _, by simp [maxLen], by simp, by simp [rowV]⟩⟩
theorem OwnV.ext (h : OwnV lo e w v ys) (hb : Below w.heap.size w w') : OwnV lo e w' v ys :=
  World.ownsRow.kept (row := none) h ⟨hb.os, hb.tape, hb.output, hb.size, fun k hk _ => hb.block k hk⟩ (by
    rcases hv : v.ownBlock with _ | k
    · exact Or.inl rfl
    · exact Or.inr (by simp))
theorem OwnV.form (h : OwnV lo e w v ys) : ∃ A c, v = .slice A ys.length c ∧ (ys ≠ [] → ∃ g, A = some ⟨g, 0, none⟩ ∧ lo ≤ g ∧ g < w.heap.size ∧ (∀ j, w.frozen? ⟨g, j, none⟩ = false) ∧ ∀ i y, ys[i]? = some y → NAt w g (i * 4) y.x y.A y.d) := by
  obtain ⟨h1, h2⟩ := h
  rcases h2 with ⟨rfl, hn⟩ | ⟨g, cap, cur, rfl, hg, hh, hnc, hcm, hcs, htk⟩
  · refine ⟨none, 0, by rw [hn], fun hne => absurd (List.length_eq_zero_iff.1 hn) hne⟩
  · refine ⟨_, _, rfl, fun _ => ?_⟩
    have hlt : g < w.heap.size := by
      rcases Nat.lt_or_ge g w.heap.size with hlt | hge
      · exact hlt
      · rw [Array.getElem?_eq_none hge] at hh; cases hh
    refine ⟨g, rfl, hg, hlt, fun j => by simp [World.frozen?, hh], fun i y hy => ?_⟩
    have hc : ∀ j q, y.cells[j]? = some q → w.cell? ⟨g, i * 4 + j, none⟩ = some q := fun j q hq => by
      have hr := rowV_get ys i y hy j q hq
      rw [cell_of_row w g _ cur e (0, 0) hh]
      rw [← htk, List.getElem?_take] at hr
      split at hr
      · simpa using hr
      · cases hr
    exact ⟨hc 0 _ rfl, hc 1 _ rfl, hc 2 _ rfl, hc 3 _ rfl⟩
theorem OwnV.ownBlock (h : OwnV lo e w v ys) : ∀ k, v.ownBlock = some k → lo ≤ k ∧ k < w.heap.size := World.ownsRow.lt h
/-- what is owned can be read -/
theorem OwnV.nl (h : OwnV lo e w v ys) (hf : ∀ y ∈ ys, Fl one 1 w y.A y.x.l) : ∃ A c, v = .slice A (ys.map NV.x).length c ∧ Nl w A (ys.map NV.x) := by
  obtain ⟨A, c, rfl, hc⟩ := h.form
  refine ⟨A, c, by rw [List.length_map], fun hn => ?_⟩
  obtain ⟨g, rfl, _, h2, _, h4⟩ := hc (fun e => hn (by rw [e]; rfl))
  refine ⟨g, 0, rfl, h2, fun i x hx => ?_⟩
  rw [List.getElem?_map] at hx
  rcases hy : ys[i]? with _ | y
  · rw [hy] at hx; cases hx
  · rw [hy] at hx
    cases hx
    exact ⟨y.A, y.d, by rw [Nat.zero_add]; exact h4 i y hy, hf y (List.mem_of_getElem? hy)⟩
end
/-- append of one element, which has just been laid in a block of its own -/
theorem wpList_append_nv {P : Program} {ops : Array Oper} {rest : List Oper} {o : Oper} {a : Act} {Q : Exit → Act → World → Prop} {e : TypeId} {W : World} {y : NV} (hgd : o.guard = none) (s x : Operand) (t : TypeId)
    (ho : o.op = .call { callee := .builtin .append, args := #[s, x], argTypes := #[t, t] })
    (lo : Nat) (i : TypeInfo) (z : Value) (bytes : Nat) (ht : P.underlying t = some (.slice e)) (hi : P.info? e = some i) (hz : i.zero = some z)
    (hsize : i.size = 4) (hby : i.bytes = bytes) (hzs : z.cells.size = 4)
    (v : Value) (ys : List NV) (hs : a.eval s = v) (hx : a.eval x = .slice (some ⟨W.heap.size, 0, none⟩) 1 1) (hown : OwnV lo e W v ys)
    (hlen : ys.length ≤ 16777216) (hbl : bytes ≤ 4096) (hlo : lo ≤ W.heap.size)
    (h : ∀ v' w', OwnV lo e w' v' (ys ++ [y]) → (W.alloc (.cells y.cells.toArray e)).grownBy w' v.ownBlock → Below lo W w' → wpList P ops Q rest (a.put o.dst v') w') :
    wpList P ops Q (o :: rest) a (W.alloc (.cells y.cells.toArray e)) := by
  refine wpList_append_own _ hgd s x t ho lo e i z 4 bytes ht hi hz hsize hby hzs (by decide) v ys.length (rowV ys) hs (World.ownsRow.alloc hown _) ⟨W.heap.size, 0, none⟩ 1 1 y.cells hx (by rw [NV.cells_length]) ?_ ?_ ?_ ?_ (by simp; omega) ?_
  · intro j u hu
    rw [show (⟨W.heap.size, 0, none⟩ : Addr).add j = ⟨W.heap.size, j, none⟩ from by unfold Addr.add; split <;> simp_all]
    rw [World.cell?_alloc_new]
    simpa using hu
  · intro u hu
    simp only [NV.cells, List.mem_cons, List.not_mem_nil, or_false] at hu
    rcases hu with rfl | rfl | rfl | rfl <;> rfl
  · simp only [maxLen]; omega
  · calc (ys.length + 1) * bytes ≤ 16777217 * 4096 := Nat.mul_le_mul (by omega) hbl
      _ ≤ 140737488355328 := by decide
  · intro v' w' h1 h2 _
    refine h v' w' ?_ h2 ?_
    · unfold OwnV
      rw [rowV_snoc, List.length_append]
      exact h1
    · have hb : Below lo W (W.alloc (.cells y.cells.toArray e)) := (Below.refl _ _).alloc hlo _
      exact hb.grown h2 (by simp; omega) (fun k hk => (hown.ownBlock k hk).1)
end Go.Proofs.YtadcjfbcfiljkaaDoor
