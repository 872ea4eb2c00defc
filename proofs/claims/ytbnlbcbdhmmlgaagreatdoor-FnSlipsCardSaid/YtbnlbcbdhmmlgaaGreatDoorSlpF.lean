/- Copies into which a slip was put, and from which one was taken. No condition. -/
import Derived.Test.YtbnlbcbdhmmlgaaGreatDoorPsI
import Derived.Test.YtbnlbcbdhmmlgaaGreatDoorForW
import Derived.Test.YtbnlbcbdhmmlgaaGreatDoorWdI
import Derived.Test.YtbnlbcbdhmmlgaaGreatDoorMgC
import Derived.Test.YtbnlbcbdhmmlgaaGreatDoorPut
namespace Go.Proofs.YtbnlbcbdhmmlgaaGreatDoor
open Go.RowKit
set_option linter.unusedVariables false
set_option linter.unusedSimpArgs false

theorem adj_pw {α : Type} {R : α → α → Prop} (tr : ∀ a b c, R a b → R b c → R a c) : ∀ xs : List α, (∀ (i : Nat) (x y : α), xs[i]? = some x → xs[i + 1]? = some y → R x y) → xs.Pairwise R
  | [], _ => List.Pairwise.nil
  | [x], _ => by simp
  | x :: y :: r, h => by
    have ih := adj_pw tr (y :: r) fun i a b ha hb => h (i + 1) a b (by simpa using ha) (by simpa using hb)
    have hxy : R x y := h 0 x y rfl rfl
    refine List.Pairwise.cons (fun z hz => ?_) ih
    rcases List.mem_cons.1 hz with rfl | hz
    · exact hxy
    · exact tr _ _ _ hxy ((List.pairwise_cons.1 ih).1 z hz)
theorem pw_of_adjX {α : Type} {R : α → α → Prop} (tr : ∀ a b c, R a b → R b c → R a c) {l : List α} (h : ∀ (i : Nat) (x y : α), l[i]? = some x → l[i + 1]? = some y → R x y) : l.Pairwise R := adj_pw tr l h
theorem Strict.rising {l : List Int} (h : Strict l) : Rising l := fun i x y hx hy => by
  obtain ⟨hi, ex⟩ := List.getElem?_eq_some_iff.1 hx
  obtain ⟨hj, ey⟩ := List.getElem?_eq_some_iff.1 hy
  have := List.pairwise_iff_getElem.1 h i (i + 1) hi hj (Nat.lt_succ_self i)
  rw [ex, ey] at this
  exact this
theorem pw_uniq {α : Type} {f : α → Int} {xs : List α} (h : xs.Pairwise fun a b => f a < f b) {i j : Nat} {x y : α} (hx : xs[i]? = some x) (hy : xs[j]? = some y) (he : f x = f y) : i = j := by
  obtain ⟨hi, ex⟩ := List.getElem?_eq_some_iff.1 hx
  obtain ⟨hj, ey⟩ := List.getElem?_eq_some_iff.1 hy
  rcases Nat.lt_trichotomy i j with q | q | q
  · have := List.pairwise_iff_getElem.1 h i j hi hj q
    rw [ex, ey] at this; omega
  · exact q
  · have := List.pairwise_iff_getElem.1 h j i hj hi q
    rw [ex, ey] at this; omega
theorem idx_of {α : Type} {f : α → Int} {xs : List α} (h : xs.Pairwise fun a b => f a < f b) {j : Nat} {x : α} (hx : xs[j]? = some x) : idxB (fun y => decide (f y = f x)) 0 xs = (j : Int) := by
  rcases idxB_p (fun y : α => decide (f y = f x)) xs 0 with ⟨_, h2⟩ | ⟨k, y, h1, h2, h3⟩
  · have := h2 x (List.mem_of_getElem? hx)
    simp at this
  · have : k = j := pw_uniq h h2 hx (by simpa using h3)
    rw [h1, this]; simp
theorem errs_pw {xs : List Erratum} (h : Errs xs) : xs.Pairwise fun a b => a.id < b.id := pw_of_adjX (R := fun a b : Erratum => a.id < b.id) (fun a b c h k => Int.lt_trans h k) h.1.2
theorem held_pw {xs : List Erratum} {hs : List Nest} (h : HeldOk xs hs) : hs.Pairwise fun a b => a.a < b.a := pw_of_adjX (R := fun a b : Nest => a.a < b.a) (fun a b c h k => Int.lt_trans h k) (fun i x y hx hy => (h.2.1 (i + 1) y hy).2.2.2.2.1 i x rfl hx)
theorem atH_at {xs : List Erratum} {hs : List Nest} (h : HeldOk xs hs) {k : Nat} {x : Nest} (hx : hs[k]? = some x) : atH hs x.a = (k : Int) := idx_of (f := fun y : Nest => y.a) (held_pw h) hx
theorem Rising.strict' {l : List Int} (h : Rising l) : Strict l := pw_of_adjX (R := fun a b : Int => a < b) (fun a b c h k => Int.lt_trans h k) h
theorem set_filter {α : Type} (p : α → Bool) : ∀ (l : List α) (j : Nat) (x y : α), l[j]? = some x → p x = true → p y = false → ((l.set j y).filter p).length + 1 = (l.filter p).length
  | [], j, x, y, h, _, _ => by simp at h
  | a :: r, 0, x, y, h, hx, hy => by
    simp only [List.getElem?_cons_zero, Option.some.injEq] at h
    subst h
    rw [List.set_cons_zero, List.filter_cons_of_neg (by simp [hy]), List.filter_cons_of_pos hx, List.length_cons]
  | a :: r, j + 1, x, y, h, hx, hy => by
    have ih := set_filter p r j x y (by simpa using h) hx hy
    rw [List.set_cons_succ]
    by_cases ha : p a = true
    · rw [List.filter_cons_of_pos ha, List.filter_cons_of_pos ha, List.length_cons, List.length_cons]; omega
    · rw [List.filter_cons_of_neg ha, List.filter_cons_of_neg ha]; exact ih
/-- what the law asks of copies into one of which a slip was put -/
theorem slip_facts {xs : List Erratum} {hs : List Nest} {number id : Int} (h : PsOk xs hs (atH hs number) (atE xs id) id) :
    FoOk xs hs (atE xs id) ∧ FoOk xs (psRes hs (atH hs number) id) (atE xs id)
    ∧ number ∈ cw (needAt xs (atE xs id) id) hs ∧ number ∉ cw (needAt xs (atE xs id) id) (psRes hs (atH hs number) id)
    ∧ (cw (needAt xs (atE xs id) id) (psRes hs (atH hs number) id)).length + 1 = (cw (needAt xs (atE xs id) id) hs).length := by
  obtain ⟨h1, h2, h3, h4⟩ := h
  have hxj : ∃ (j : Nat) (x : Nest), atH hs number = (j : Int) ∧ hs[j]? = some x ∧ x.a = number := by
    rcases idxB_p (fun x : Nest => decide (x.a = number)) hs 0 with ⟨q, _⟩ | ⟨j, y, q1, q2, q3⟩
    · unfold atH at h2; omega
    · exact ⟨j, y, by unfold atH; omega, q2, by simpa using q3⟩
  obtain ⟨j, x, hj, hx, hxa⟩ := hxj
  have hie : ∃ (i : Nat) (e : Erratum), atE xs id = (i : Int) ∧ xs[i]? = some e ∧ e.id = id := by
    rcases idxB_p (fun x : Erratum => decide (x.id = id)) xs 0 with ⟨q, _⟩ | ⟨i, e, q1, q2, q3⟩
    · unfold atE at h3; omega
    · exact ⟨i, e, by unfold atE; omega, q2, by simpa using q3⟩
  obtain ⟨i, e, hi, he, hei⟩ := hie
  rw [hj, hi] at h4
  obtain ⟨hcon, hnot⟩ := (pairOk_ji he hx).1 h4
  rw [hj, hi]
  rw [needAt_j he, psRes_j hx]
  obtain ⟨x', hx'⟩ : ∃ z : Nest, z = { x with l := putI x.l id } := ⟨_, rfl⟩
  rw [← hx']
  have xa : x'.a = x.a := by rw [hx']
  have xb : x'.b = x.b := by rw [hx']
  have xc : x'.c = x.c := by rw [hx']
  have xl : x'.l = putI x.l id := by rw [hx']
  have hjl : j < hs.length := lt_of_get hx
  have hget : ∀ (k : Nat) (y : Nest), (hs.set j x')[k]? = some y → (k = j ∧ y = x') ∨ (k ≠ j ∧ hs[k]? = some y) := fun k y hy => by
    by_cases q : k = j
    · subst q
      rw [List.getElem?_set_self hjl] at hy
      injection hy with hy
      exact .inl ⟨rfl, hy.symm⟩
    · rw [List.getElem?_set_ne (Ne.symm q)] at hy
      exact .inr ⟨q, hy⟩
  have hself : (hs.set j x')[j]? = some x' := by rw [List.getElem?_set_self hjl]
  have hmem : ∀ a, a ∈ x'.l ↔ a = id ∨ a ∈ x.l := fun a => by rw [xl]; exact putI_mem x.l id a
  obtain ⟨i1, i2, i3, i4, i5, i6⟩ := h1.2.1 j x hx
  have hprev : ∀ (m : Nat) (p : Nest), (hs.set j x')[m]? = some p → ∃ p0, hs[m]? = some p0 ∧ p0.a = p.a := fun m p hp => by
    rcases hget m p hp with ⟨q1, q2⟩ | ⟨_, q2⟩
    · subst q1 q2; exact ⟨x, hx, xa.symm⟩
    · exact ⟨p, q2, rfl⟩
  have hok : HeldOk xs (hs.set j x') := by
    refine ⟨h1.1, fun k y hy => ?_, by rw [List.length_set]; exact h1.2.2⟩
    rcases hget k y hy with ⟨q1, q2⟩ | ⟨q1, q2⟩
    · subst q1 q2
      refine ⟨by rw [xa]; exact i1, by rw [xb]; exact i2, by rw [xc]; exact i3, by rw [xl]; exact Strict.rising (putI_strict i4.strict'), fun m p hm hp => ?_, fun m a ha => ?_⟩
      · obtain ⟨p0, hp0, hpa⟩ := hprev m p hp
        have := i5 m p0 hm hp0
        rw [xa]; omega
      · have hcx : ∀ e : Erratum, Con e x → Con e y := fun e hc => by unfold Con at hc ⊢; rw [xb, xc]; exact hc
        rcases (hmem a).1 (List.mem_of_getElem? ha) with q | q
        · subst q; exact ⟨i, e, hi, he, hcx e hcon⟩
        · obtain ⟨m', hm'⟩ := List.getElem?_of_mem q
          obtain ⟨j2, e2, z1, z2, z3⟩ := i6 m' a hm'
          exact ⟨j2, e2, z1, z2, hcx e2 z3⟩
    · obtain ⟨k1, k2, k3, k4, k5, k6⟩ := h1.2.1 k y q2
      refine ⟨k1, k2, k3, k4, fun m p hm hp => ?_, k6⟩
      obtain ⟨p0, hp0, hpa⟩ := hprev m p hp
      have := k5 m p0 hm hp0
      omega
  have hneed : ¬ Need e id x' := fun hn => hn.2 ((hmem id).2 (.inl rfl))
  refine ⟨⟨h1, by omega⟩, ⟨hok, by omega⟩, ?_, ?_, ?_⟩
  · unfold cw
    exact List.mem_map.2 ⟨x, List.mem_filter.2 ⟨List.mem_of_getElem? hx, tb_t ⟨hcon, hnot⟩⟩, hxa⟩
  · unfold cw
    intro hm
    obtain ⟨y, hy, hya⟩ := List.mem_map.1 hm
    obtain ⟨hy1, hy2⟩ := List.mem_filter.1 hy
    obtain ⟨k, hk⟩ := List.getElem?_of_mem hy1
    have hkj : k = j := pw_uniq (f := fun y : Nest => y.a) (held_pw hok) hk hself (by show y.a = x'.a; rw [xa, hya, hxa])
    subst hkj
    rw [hself] at hk
    injection hk with hk
    subst hk
    exact hneed (tb_true hy2)
  · unfold cw
    rw [List.length_map, List.length_map]
    exact set_filter _ hs j x x' hx (tb_t ⟨hcon, hnot⟩) (tb_f hneed)
/-- no slip of a withdrawn erratum is left -/
theorem wd_none (P : Prop) (hs : List Nest) (id : Int) : ∀ y ∈ sel P (hs.map (delH id)), id ∉ y.l := fun y hy => by
  by_cases h : P
  · rw [sel_t h] at hy
    obtain ⟨x, _, rfl⟩ := List.mem_map.1 hy
    show id ∉ noV id x.l
    simp [noV]
  · rw [sel_f h] at hy
    simp at hy
end Go.Proofs.YtbnlbcbdhmmlgaaGreatDoor
