/- A law's argument opened: a slice of structs of three integers and one []int, read as a list. -/
import Derived.Test.YtaojamioongahaaOpen
import Derived.Test.YtaojamioongahaaNest
namespace Go.Proofs.Ytaojamioongahaa
open Go.ChangeShapes Go.WideShapes Go.Deep Go.RowKit
set_option linter.unusedVariables false
set_option linter.unusedSimpArgs false
section
variable {H : Type} {enc : TypeId × Value → H} {P : Program} {w : World} {base : Nat} {held : Bool}
theorem nest_elem {e ti tint : TypeId} {fs : Array Field} (he : P.underlying e = some (.struct fs)) (hone : oneCellFields P fs = true) (hsz : fs.size = 4)
    (h0 : ∀ (j : Nat) (g : Field), fs[j]? = some g → j < 3 → P.underlying g.type = some (.int .i64)) (h3 : ∀ g : Field, fs[3]? = some g → P.underlying g.type = some (.slice tint)) (hti : P.underlying tint = some (.int .i64)) (hc : P.cellsOf tint = 1)
    {fuel : Nat} {cs : List Value} {y : DataW H × List MemPlace} (h : DataW.trod enc P w base (fun _ => true) held fuel e cs = some y) (hl : cs.length = 4) :
    ∃ (x : Nest) (A : Option Addr) (d : Nat), cs = [.int .i64 x.a, .int .i64 x.b, .int .i64 x.c, .slice A x.l.length d] ∧ x.l.length ≤ 9223372036854775807 ∧ Fl one 1 w A x.l := by
  obtain ⟨c0, c1, c2, c3, rfl⟩ : ∃ c0 c1 c2 c3, cs = [c0, c1, c2, c3] := by
    match cs, hl with
    | [a, b, c, d], _ => exact ⟨a, b, c, d, rfl⟩
  obtain ⟨xs, n, _, _, _, hxl, hg⟩ := DataW.trod_struct he h
  have hfield : ∀ j, (hj : j < 4) → ∃ z, DataW.trod enc P w base (fun _ => true) held n (fs[j]'(by omega)).type [([c0, c1, c2, c3] : List Value)[j]'(by simp; omega)] = some z := by
    intro j hj
    have hjs : j < fs.size := by omega
    obtain ⟨ho, hk⟩ := hone_of hone j fs[j] (Array.getElem?_eq_getElem hjs)
    have h1 := hg j fs[j] (Array.getElem?_eq_getElem hjs)
    rw [ho, hk] at h1
    have hone' : (([c0, c1, c2, c3] : List Value).drop j).take 1 = [([c0, c1, c2, c3] : List Value)[j]'(by simp; omega)] := by
      rw [List.drop_eq_getElem_cons (by simp; omega)]
      rfl
    rw [hone'] at h1
    have hxs : xs[j]? = some (xs[j]'(by omega)) := List.getElem?_eq_getElem (by omega)
    rw [hxs] at h1
    exact ⟨_, h1⟩
  obtain ⟨z0, e0⟩ := hfield 0 (by omega)
  obtain ⟨z1, e1⟩ := hfield 1 (by omega)
  obtain ⟨z2, e2⟩ := hfield 2 (by omega)
  obtain ⟨z3, e3⟩ := hfield 3 (by omega)
  obtain ⟨a, q0, _, _⟩ := DataW.trod_int (h0 0 _ (Array.getElem?_eq_getElem (by omega)) (by omega)) e0
  obtain ⟨b, q1, _, _⟩ := DataW.trod_int (h0 1 _ (Array.getElem?_eq_getElem (by omega)) (by omega)) e1
  obtain ⟨c, q2, _, _⟩ := DataW.trod_int (h0 2 _ (Array.getElem?_eq_getElem (by omega)) (by omega)) e2
  obtain ⟨A, d, l, q3, hll, hF⟩ := open_core (f := one) (h3 _ (Array.getElem?_eq_getElem (by omega))) hc (by decide) (intElem_int hti) one_mk e3
  simp at q0 q1 q2
  refine ⟨⟨a, b, c, l⟩, A, d, ?_, hll, hF⟩
  simp at q3
  rw [q0, q1, q2, q3]

theorem open_nest_core {t e ti tint : TypeId} {fs : Array Field} {v : Value} {fuel : Nat} {z : DataW H × List MemPlace}
    (ht : P.underlying t = some (.slice e)) (hC : P.cellsOf e = 4) (he : P.underlying e = some (.struct fs)) (hone : oneCellFields P fs = true) (hsz : fs.size = 4)
    (h0 : ∀ (j : Nat) (g : Field), fs[j]? = some g → j < 3 → P.underlying g.type = some (.int .i64)) (h3 : ∀ g : Field, fs[3]? = some g → P.underlying g.type = some (.slice tint)) (hti : P.underlying tint = some (.int .i64)) (hc : P.cellsOf tint = 1)
    (h : DataW.trod enc P w base (fun _ => true) held fuel t [v] = some z) :
    ∃ A c xs, v = .slice A (List.length xs) c ∧ xs.length ≤ 9223372036854775807 ∧ (∀ x ∈ xs, x.l.length ≤ 9223372036854775807) ∧ Nl w A xs := by
  rcases open_slice ht h with ⟨hcs, _⟩ | ⟨a, len, cap, m, nf, D, Pl, hcs, hb, hl, hm, hmm, hx, hi⟩
  · have hv0 : v = .slice none 0 0 := by simpa using hcs
    exact ⟨none, 0, [], by rw [hv0]; rfl, by simp, fun x h => by simp at h, Nl.nil⟩
  · have hv0 : v = .slice (some a) len cap := by simpa using hcs
    rw [hv0]
    simp only [if_true] at hmm
    subst hmm
    have hcell : ∀ i, i < len → ∃ x : Nest, x.l.length ≤ 9223372036854775807 ∧ ∃ A' d', (∀ j u, ([.int .i64 x.a, .int .i64 x.b, .int .i64 x.c, .slice A' x.l.length d'] : List Value)[j]? = some u → w.cell? (a.add (i * 4 + j)) = some u) ∧ Fl one 1 w A' x.l := by
      intro i hil
      obtain ⟨cs', hc', htr⟩ := hi i (by omega)
      rw [hC] at hc'
      obtain ⟨_, hcl, hat⟩ := World.cells?_some hc'
      obtain ⟨x, A', d', hcs', hxl, hF⟩ := nest_elem (ti := ti) he hone hsz h0 h3 hti hc htr hcl
      refine ⟨x, hxl, A', d', fun j u hu => ?_, hF⟩
      have hj : j < 4 := by
        rcases Nat.lt_or_ge j 4 with hh | hh
        · exact hh
        · rw [List.getElem?_eq_none (by simp; omega)] at hu; cases hu
      rw [← Go.Deep.add_add, hat j hj, hcs', hu]
    obtain ⟨xs, hxl, hxs⟩ := list_of_all hcell
    refine ⟨some a, _, xs, by rw [hxl], by rw [hxl]; simp only [maxLen] at hm; omega, fun x hx => ?_, fun hne => ?_⟩
    · obtain ⟨i, hi'⟩ := List.mem_iff_getElem?.1 hx
      exact (hxs i x hi').1
    · have hpos' : 0 < len := by rw [← hxl]; exact List.length_pos_iff.2 hne
      obtain ⟨x0, _, A', d', hq, _⟩ := hcell 0 hpos'
      have hq0 := hq 0 _ rfl
      rw [Nat.zero_mul] at hq0
      have ha := addr_of_cell hq0
      have hlt := World.block_lt_of_cell? w _ hq0
      rw [ha, add_none] at hlt
      refine ⟨a.block, a.off, by rw [← ha], hlt, fun i x hx => ?_⟩
      obtain ⟨_, A', d', hq, hF⟩ := hxs i x hx
      have hh : ∀ j u, ([.int .i64 x.a, .int .i64 x.b, .int .i64 x.c, .slice A' x.l.length d'] : List Value)[j]? = some u → w.cell? ⟨a.block, a.off + i * 4 + j, none⟩ = some u := fun j u hu => by
        have := hq j u hu
        rw [ha, add_none] at this
        rw [Nat.add_assoc]
        exact this
      exact ⟨A', d', ⟨hh 0 _ rfl, hh 1 _ rfl, hh 2 _ rfl, hh 3 _ rfl⟩, hF⟩
theorem open_nest {t e ti tint : TypeId} {fs : Array Field} {v : Value} {d : DataW H} {ps : List MemPlace} {r : Reach} {b0 : Nat}
    (ht : P.underlying t = some (.slice e)) (hC : P.cellsOf e = 4) (he : P.underlying e = some (.struct fs)) (hone : oneCellFields P fs = true) (hsz : fs.size = 4)
    (h0 : ∀ (j : Nat) (g : Field), fs[j]? = some g → j < 3 → P.underlying g.type = some (.int .i64)) (h3 : ∀ g : Field, fs[3]? = some g → P.underlying g.type = some (.slice tint)) (hti : P.underlying tint = some (.int .i64)) (hc : P.cellsOf tint = 1)
    (hv : Value.okWide P w r b0 t v) (h : DataW.Trod enc P w base (fun _ => true) held t v d ps) :
    ∃ A c xs, v = .slice A (List.length xs) c ∧ xs.length ≤ 9223372036854775807 ∧ (∀ x ∈ xs, x.l.length ≤ 9223372036854775807) ∧ Nl w A xs := by
  obtain ⟨A0, len0, cap0, rfl⟩ := okWide_slice ht hv
  obtain ⟨fuel, hf⟩ := h
  exact open_nest_core (ti := ti) ht hC he hone hsz h0 h3 hti hc hf
end
end Go.Proofs.Ytaojamioongahaa
