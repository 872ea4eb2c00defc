/- A law's arguments opened: slices of structs of integers read as lists. -/
import Derived.Test.YtlagfeccdcjimaaDoorBase
import Derived.Test.YtlagfeccdcjimaaDoorTypes
import Derived.ProofKit
import Derived.Deep.Slices
import Derived.Deep.Fields
import Derived.ChangeSame
namespace Go.Proofs.YtlagfeccdcjimaaDoor
open Go.ChangeShapes Go.WideShapes Go.Deep Go.RowKit
set_option linter.unusedVariables false
set_option linter.unusedSimpArgs false

section
variable {H : Type} {enc : TypeId × Value → H} {P : Program} {w : World} {base : Nat} {spare : Nat → Bool} {held : Bool}
theorem list_of_all {α : Type} {n : Nat} {Q : Nat → α → Prop} (h : ∀ i, i < n → ∃ x, Q i x) : ∃ xs : List α, xs.length = n ∧ ∀ (i : Nat) (x : α), xs[i]? = some x → Q i x := by
  induction n with
  | zero => exact ⟨[], rfl, fun i x hx => by simp at hx⟩
  | succ n ih =>
    obtain ⟨xs, hl, hq⟩ := ih fun i hi => h i (by omega)
    obtain ⟨x, hx⟩ := h n (by omega)
    refine ⟨xs ++ [x], by simp [hl], fun i y hy => ?_⟩
    by_cases hi : i < xs.length
    · rw [List.getElem?_append_left hi] at hy
      exact hq i y hy
    · rw [List.getElem?_append_right (by omega)] at hy
      have h0 : i - xs.length = 0 := by
        rcases Nat.eq_zero_or_pos (i - xs.length) with e | e
        · exact e
        · rw [List.getElem?_eq_none (by simp; omega)] at hy; cases hy
      rw [h0] at hy
      simp only [List.getElem?_cons_zero, Option.some.injEq] at hy
      subst hy
      rw [show i = n from by omega]
      exact hx

theorem addr_of_cell {a : Addr} {u : Value} (h : w.cell? (a.add 0) = some u) : a = ⟨a.block, a.off, none⟩ := by
  have h0 : a.add 0 = a := by simp [Addr.add]
  rw [h0] at h
  have := World.cell?_spot h
  cases a
  simp at this ⊢
  exact this

theorem add_none (b o n : Nat) : (⟨b, o, none⟩ : Addr).add n = ⟨b, o + n, none⟩ := by
  unfold Addr.add
  split
  · rename_i h; subst h; rfl
  · rfl

theorem intfields_of {P : Program} {fs : Array Field} (h : fs.all (fun g => match P.underlying g.type with | some (.int .i64) => true | _ => false) = true) : ∀ (j : Nat) (g : Field), fs[j]? = some g → P.underlying g.type = some (.int .i64) := by
  intro j g hg
  have hm : g ∈ fs := Array.mem_of_getElem? hg
  have := Array.all_eq_true'.1 h g hm
  split at this
  · assumption
  · cases this

/-- an element's cells are integers, whatever the reading -/
def IntElem (enc : TypeId × Value → H) (P : Program) (w : World) (base : Nat) (held : Bool) (e : TypeId) (sz : Nat) : Prop :=
  ∀ (fuel : Nat) (cs : List Value) (y : DataW H × List MemPlace), DataW.trod enc P w base (fun _ => true) held fuel e cs = some y → cs.length = sz → ∀ j, j < sz → ∃ q : Int, cs[j]? = some (.int .i64 q)

theorem intElem_struct {e : TypeId} {fs : Array Field} {sz : Nat} (he : P.underlying e = some (.struct fs)) (hone : oneCellFields P fs = true) (hsz : fs.size = sz)
    (hint : ∀ (j : Nat) (g : Field), fs[j]? = some g → P.underlying g.type = some (.int .i64)) : IntElem enc P w base held e sz := by
  intro fuel cs y h hl j hj
  obtain ⟨xs, n, _, _, _, hxl, hg⟩ := DataW.trod_struct he h
  have hjs : j < fs.size := by omega
  obtain ⟨ho, hk⟩ := hone_of hone j fs[j] (Array.getElem?_eq_getElem hjs)
  have h1 := hg j fs[j] (Array.getElem?_eq_getElem hjs)
  rw [ho, hk] at h1
  have hone' : (cs.drop j).take 1 = [cs[j]'(by omega)] := by
    rw [List.drop_eq_getElem_cons (by omega)]
    rfl
  rw [hone'] at h1
  have hxs : xs[j]? = some (xs[j]'(by omega)) := List.getElem?_eq_getElem (by omega)
  rw [hxs] at h1
  obtain ⟨q, e1, _, _⟩ := DataW.trod_int (hint j _ (Array.getElem?_eq_getElem hjs)) h1
  simp at e1
  exact ⟨q, by rw [List.getElem?_eq_getElem (by omega), e1]⟩

theorem intElem_array {e i : TypeId} {sz : Nat} (he : P.underlying e = some (.array sz i)) (hi : P.underlying i = some (.int .i64)) (hc : P.cellsOf i = 1) : IntElem enc P w base held e sz := by
  intro fuel cs y h hl j hj
  obtain ⟨xs, m, _, _, _, hxl, hg⟩ := DataW.trod_array he h
  have h1 := hg j hj
  rw [hc, Nat.mul_one] at h1
  have hone' : (cs.drop j).take 1 = [cs[j]'(by omega)] := by
    rw [List.drop_eq_getElem_cons (by omega)]
    rfl
  have hxs : xs[j]? = some (xs[j]'(by omega)) := List.getElem?_eq_getElem (by omega)
  rw [hone', hxs] at h1
  obtain ⟨q, e1, _, _⟩ := DataW.trod_int hi h1
  simp at e1
  exact ⟨q, by rw [List.getElem?_eq_getElem (by omega), e1]⟩

theorem intElem_int {e : TypeId} (he : P.underlying e = some (.int .i64)) : IntElem enc P w base held e 1 := by
  intro fuel cs y h hl j hj
  obtain ⟨q, e1, _, _⟩ := DataW.trod_int he h
  obtain rfl : j = 0 := by omega
  exact ⟨q, by rw [e1]; rfl⟩

theorem open_core {α : Type} {f : α → List Int} {sz : Nat} {t e : TypeId} {v : Value} {fuel : Nat} {x : DataW H × List MemPlace}
    (ht : P.underlying t = some (.slice e)) (hC : P.cellsOf e = sz) (hpos : 0 < sz) (hel : IntElem enc P w base held e sz) (hmk : ∀ l : List Int, l.length = sz → ∃ x, f x = l)
    (h : DataW.trod enc P w base (fun _ => true) held fuel t [v] = some x) :
    ∃ A c xs, v = .slice A (List.length xs) c ∧ xs.length ≤ 9223372036854775807 ∧ Fl f sz w A xs := by
  rcases open_slice ht h with ⟨hcs, _⟩ | ⟨a, len, cap, m, nf, D, Pl, hcs, hb, hl, hm, hmm, hx, hi⟩
  · have hv0 : v = .slice none 0 0 := by simpa using hcs
    exact ⟨none, 0, [], by rw [hv0]; rfl, by simp, Fl.nil⟩
  · have hv0 : v = .slice (some a) len cap := by simpa using hcs
    rw [hv0]
    simp only [if_true] at hmm
    subst hmm
    have hnum : ∀ i, i < len → ∀ j, j < sz → ∃ q : Int, w.cell? (a.add (i * sz + j)) = some (.int .i64 q) := by
      intro i hil j hj
      obtain ⟨cs', hc, htr⟩ := hi i (by omega)
      rw [hC] at hc
      obtain ⟨_, hcl, hat⟩ := World.cells?_some hc
      obtain ⟨q, hq⟩ := hel nf cs' _ htr hcl j hj
      exact ⟨q, by rw [← Go.Deep.add_add, hat j hj, hq]⟩
    have hcell : ∀ i, i < len → ∃ x : α, ∀ j v, (f x)[j]? = some v → w.cell? (a.add (i * sz + j)) = some (.int .i64 v) := by
      intro i hil
      obtain ⟨l, hl1, hl2⟩ := list_of_all (hnum i hil)
      obtain ⟨x, hx⟩ := hmk l hl1
      exact ⟨x, fun j q hq => hl2 j q (by rw [← hx]; exact hq)⟩
    obtain ⟨xs, hxl, hxs⟩ := list_of_all hcell
    refine ⟨some a, _, xs, by rw [hxl], by rw [hxl]; simp only [maxLen] at hm; omega, fun hne => ?_⟩
    have hpos' : 0 < len := by rw [← hxl]; exact List.length_pos_iff.2 hne
    obtain ⟨q, hq⟩ := hnum 0 hpos' 0 hpos
    rw [Nat.zero_mul] at hq
    have ha := addr_of_cell hq
    have hlt := World.block_lt_of_cell? w _ hq
    rw [ha, add_none] at hlt
    refine ⟨a.block, a.off, by rw [← ha], hlt, fun i x hx j v hv => ?_⟩
    have h1 := hxs i x hx j v hv
    rw [ha, add_none] at h1
    rw [Nat.add_assoc]
    exact h1

theorem open_flat {α : Type} {f : α → List Int} {sz : Nat} {t e : TypeId} {v : Value} {d : DataW H} {ps : List MemPlace} {r : Reach} {b0 : Nat}
    (ht : P.underlying t = some (.slice e)) (hC : P.cellsOf e = sz) (hpos : 0 < sz) (hel : IntElem enc P w base held e sz) (hmk : ∀ l : List Int, l.length = sz → ∃ x, f x = l)
    (hv : Value.okWide P w r b0 t v) (h : DataW.Trod enc P w base (fun _ => true) held t v d ps) :
    ∃ A c xs, v = .slice A (List.length xs) c ∧ xs.length ≤ 9223372036854775807 ∧ Fl f sz w A xs := by
  obtain ⟨A0, len0, cap0, rfl⟩ := okWide_slice ht hv
  obtain ⟨fuel, hf⟩ := h
  exact open_core ht hC hpos hel hmk hf
end
end Go.Proofs.YtlagfeccdcjimaaDoor
