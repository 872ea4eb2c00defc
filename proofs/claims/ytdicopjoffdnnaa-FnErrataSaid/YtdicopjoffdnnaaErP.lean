/- Copies into which all slips were put. No condition. -/
import Derived.Test.YtdicopjoffdnnaaPutD
import Derived.Test.YtdicopjoffdnnaaMsW
import Derived.Test.YtdicopjoffdnnaaWorst
import Derived.Test.YtdicopjoffdnnaaRight
namespace Go.Proofs.Ytdicopjoffdnnaa
open Go.RowKit
set_option linter.unusedVariables false
set_option linter.unusedSimpArgs false

theorem Strict.rising {l : List Int} (h : Strict l) : Rising l := fun i x y hx hy => by
  obtain ⟨hi, ex⟩ := List.getElem?_eq_some_iff.1 hx
  obtain ⟨hj, ey⟩ := List.getElem?_eq_some_iff.1 hy
  have := List.pairwise_iff_getElem.1 h i (i + 1) hi hj (Nat.lt_succ_self i)
  rw [ex, ey] at this
  exact this
theorem pw_uniq {α : Type} {f : α → Int} {xs : List α} (h : xs.Pairwise fun a b => f a < f b) {i j : Nat} {x y : α} (hx : xs[i]? = some x) (hy : xs[j]? = some y) (he : f x = f y) : i = j := by
  obtain ⟨hi, ex⟩ := List.getElem?_eq_some_iff.1 hx
  obtain ⟨hj, ey⟩ := List.getElem?_eq_some_iff.1 hy
  rcases Nat.lt_trichotomy i j with q | q | q
  · have := List.pairwise_iff_getElem.1 h i j hi hj q
    rw [ex, ey] at this; omega
  · exact q
  · have := List.pairwise_iff_getElem.1 h j i hj hi q
    rw [ex, ey] at this; omega
theorem idx_of {α : Type} {f : α → Int} {xs : List α} (h : xs.Pairwise fun a b => f a < f b) {j : Nat} {x : α} (hx : xs[j]? = some x) : idxB (fun y => decide (f y = f x)) 0 xs = (j : Int) := by
  rcases idxB_p (fun y : α => decide (f y = f x)) xs 0 with ⟨_, h2⟩ | ⟨k, y, h1, h2, h3⟩
  · have := h2 x (List.mem_of_getElem? hx)
    simp at this
  · have : k = j := pw_uniq h h2 hx (by simpa using h3)
    rw [h1, this]; simp
theorem errs_pw {xs : List Erratum} (h : Errs xs) : xs.Pairwise fun a b => a.id < b.id := pw_of_adj (R := fun a b : Erratum => a.id < b.id) (fun a b c h k => Int.lt_trans h k) h.1.2
theorem held_pw {xs : List Erratum} {hs : List Nest} (h : HeldOk xs hs) : hs.Pairwise fun a b => a.a < b.a := pw_of_adj (R := fun a b : Nest => a.a < b.a) (fun a b c h k => Int.lt_trans h k) (fun i x y hx hy => (h.2.1 (i + 1) y hy).2.2.2.2.1 i x rfl hx)
theorem atH_at {xs : List Erratum} {hs : List Nest} (h : HeldOk xs hs) {k : Nat} {x : Nest} (hx : hs[k]? = some x) : atH hs x.a = (k : Int) := idx_of (f := fun y : Nest => y.a) (held_pw h) hx
theorem put_miss (xs : List Erratum) (day : Int) (x : Nest) : miss (addH xs day x) day xs = [] := by
  unfold miss
  rw [List.map_eq_nil_iff, List.filter_eq_nil_iff]
  intro e he h
  obtain ⟨h1, h2, h3⟩ := tb_true h
  apply h3
  show e.id ∈ putL x.l (miss x day xs)
  rw [putL, foldPut_mem]
  by_cases hn : e.id ∈ x.l
  · exact .inl hn
  · right
    unfold miss
    exact List.mem_map.2 ⟨e, List.mem_filter.2 ⟨he, tb_t ⟨h1, h2, hn⟩⟩, rfl⟩
theorem slip_of {xs : List Erratum} (hE : Errs xs) {x : Nest} {e : Erratum} (he : e ∈ xs) (hc : Con e x) : SlipOk xs x e.id := by
  obtain ⟨j, hj⟩ := List.getElem?_of_mem he
  exact ⟨j, e, idx_of (f := fun y : Erratum => y.id) (errs_pw hE) hj, hj, hc⟩
theorem put_HI {xs : List Erratum} {hs : List Nest} {day : Int} (hE : Errs xs) {k : Nat} {h : Nest} (hi : HI xs hs k h) : HI xs (hs.map (addH xs day)) k (addH xs day h) := by
  obtain ⟨h1, h2, h3, h4, h5, h6⟩ := hi
  refine ⟨h1, h2, h3, Strict.rising (foldPut_strict _ _ h4.strict), fun m p hm hp => ?_, fun m id hid => ?_⟩
  · rw [List.getElem?_map] at hp
    obtain ⟨q, hq, rfl⟩ := Option.map_eq_some_iff.1 hp
    exact h5 m q hm hq
  · have hmem := List.mem_of_getElem? hid
    have hmem2 : id ∈ putL h.l (miss h day xs) := hmem
    rw [putL, foldPut_mem] at hmem2
    rcases hmem2 with q | q
    · obtain ⟨i, hi⟩ := List.getElem?_of_mem q
      exact h6 i id hi
    · unfold miss at q
      obtain ⟨e, he, rfl⟩ := List.mem_map.1 q
      obtain ⟨he1, he2⟩ := List.mem_filter.1 he
      exact slip_of (x := addH xs day h) hE he1 (tb_true he2).1
theorem put_held {xs : List Erratum} {hs : List Nest} {day : Int} (h : HeldOk xs hs) : HeldOk xs (hs.map (addH xs day)) := by
  refine ⟨h.1, fun k x hx => ?_, by rw [List.length_map]; exact h.2.2⟩
  rw [List.getElem?_map] at hx
  obtain ⟨y, hy, rfl⟩ := Option.map_eq_some_iff.1 hx
  exact put_HI h.1 (h.2.1 k y hy)
/-- what the law asks of copies into which all slips were put -/
theorem put_facts {xs : List Erratum} {hs : List Nest} {day : Int} (h : PaOk xs hs day) :
    (∀ (k : Nat) (x : Nest), hs[k]? = some x → (MsOk xs hs (atH hs x.a) day ∧ missAt xs hs (atH hs x.a) day = miss x day xs) ∧ MsOk xs (hs.map (addH xs day)) (atH (hs.map (addH xs day)) x.a) day ∧ missAt xs (hs.map (addH xs day)) (atH (hs.map (addH xs day)) x.a) day = [])
    ∧ RcOk xs (hs.map (addH xs day)) day ∧ (cw (NoMiss xs day) (hs.map (addH xs day))).length = hs.length := by
  obtain ⟨h1, h2⟩ := h
  have hp := put_held (day := day) h1
  refine ⟨fun k x hx => ?_, ⟨hp, h2⟩, ?_⟩
  · have e1 := atH_at h1 hx
    have hy : (hs.map (addH xs day))[k]? = some (addH xs day x) := by rw [List.getElem?_map, hx]; rfl
    have e2' := atH_at hp hy
    have e2 : atH (hs.map (addH xs day)) x.a = (k : Int) := e2'
    refine ⟨⟨⟨h1, by omega, h2⟩, by rw [e1, missAt_j hx]⟩, ⟨hp, by omega, h2⟩, ?_⟩
    rw [e2, missAt_j hy, put_miss]
  · unfold cw
    rw [List.length_map, List.filter_eq_self.2 (fun y hy => ?_), List.length_map]
    obtain ⟨x, _, rfl⟩ := List.mem_map.1 hy
    exact tb_t (put_miss xs day x)
theorem wcL_p (xs : List Erratum) (day : Int) : ∀ (hs : List Nest) (s : Int × Int), s.2 ≤ (wcL xs day hs s).2 ∧ (∀ x ∈ hs, ((miss x day xs).length : Int) ≤ (wcL xs day hs s).2) ∧ ((wcL xs day hs s).2 = s.2 ∨ ∃ x ∈ hs, (wcL xs day hs s).2 = ((miss x day xs).length : Int))
  | [], s => ⟨Int.le_refl _, fun x h => by simp at h, .inl rfl⟩
  | y :: r, s => by
    rw [wcL]
    by_cases q : s.2 < ((miss y day xs).length : Int)
    · rw [if_pos q]
      obtain ⟨h1, h2, h3⟩ := wcL_p xs day r (y.a, ((miss y day xs).length : Int))
      simp only at h1 h3
      refine ⟨by omega, fun x hx => ?_, ?_⟩
      · rcases List.mem_cons.1 hx with rfl | hx
        · exact h1
        · exact h2 x hx
      · rcases h3 with h3 | ⟨x, hx, h3⟩
        · exact .inr ⟨y, List.mem_cons_self, h3⟩
        · exact .inr ⟨x, List.mem_cons_of_mem _ hx, h3⟩
    · rw [if_neg q]
      obtain ⟨h1, h2, h3⟩ := wcL_p xs day r s
      refine ⟨h1, fun x hx => ?_, ?_⟩
      · rcases List.mem_cons.1 hx with rfl | hx
        · omega
        · exact h2 x hx
      · rcases h3 with h3 | ⟨x, hx, h3⟩
        · exact .inl h3
        · exact .inr ⟨x, List.mem_cons_of_mem _ hx, h3⟩
/-- no slip is missing from the worst copy if and only if all copies are right -/
theorem worst_right {xs : List Erratum} {hs : List Nest} {day : Int} (h : WcOk xs hs day) : (worst xs hs day).2 = 0 ↔ (cw (NoMiss xs day) hs).length = hs.length := by
  obtain ⟨h1, h2, h3⟩ := wcL_p xs day hs (0, -1)
  unfold cw worst
  rw [List.length_map, List.length_filter_eq_length_iff]
  constructor
  · intro e x hx
    have := h2 x hx
    refine tb_t ?_
    unfold NoMiss
    exact List.eq_nil_of_length_eq_zero (by omega)
  · intro q
    obtain ⟨x, hx⟩ : ∃ x, x ∈ hs := List.exists_mem_of_length_pos h.2.2
    have hz : ∀ y ∈ hs, (miss y day xs).length = 0 := fun y hy => by
      have := tb_true (q y hy)
      unfold NoMiss at this
      rw [this]; rfl
    have := h2 x hx
    have := hz x hx
    rcases h3 with h3 | ⟨y, hy, h3⟩
    · simp only at h3; omega
    · have := hz y hy; omega
end Go.Proofs.Ytdicopjoffdnnaa
