/- Structs with one []int each that the call itself has made: one of them gets another inner slice, or its inner slice is turned in place. No Go text is spoken of here. -/
import Derived.Test.YtlagfeccdcjimaaDoorOwn2
import Derived.Test.YtlagfeccdcjimaaDoorLst
import Derived.Laws.OwnMore
namespace Go.Proofs.YtlagfeccdcjimaaDoor
open Go.RowKit
set_option linter.unusedVariables false
set_option linter.unusedSimpArgs false

/-- no two of them share a block -/
def InjA (ys : List (GV Nest)) : Prop := ∀ (i j : Nat) (y z : GV Nest), ys[i]? = some y → ys[j]? = some z → y.A ≠ none → y.A = z.A → i = j
def GV.put (y : GV Nest) (l : List Int) (B : Option Addr) (d : Nat) : GV Nest := ⟨{ y.x with l := l }, B, d⟩
theorem InjA.nil : InjA [] := fun i j y z h => by simp at h
section
variable {lo : Nat} {e et : TypeId} {w W : World} {v : Value} {ys : List (GV Nest)} {k : Nat} {y : GV Nest} {l : List Int} {B : Option Addr} {d : Nat}
theorem OwnF.base {n : Nat} {lo : Nat} {w : World} {A : Option Addr} (h : OwnF one 1 lo et w (.slice A n d) l) : A = none ∨ ∃ g, A = some ⟨g, 0, none⟩ ∧ lo ≤ g ∧ g < w.heap.size := by
  rcases h.2 with ⟨hv, _⟩ | ⟨g, cap, cur, hv, hg, hh, _⟩
  · injection hv with h1 _ _; exact .inl h1
  · injection hv with h1 _ _
    exact .inr ⟨g, h1, hg, (Array.getElem?_eq_some_iff.1 hh).1⟩
theorem InjA.snoc {lo' n : Nat} {w3 : World} (h : InjA ys) (hown : OwnG hdN Nest.l 3 lo e et w v ys) (hC : OwnF one 1 lo' et w3 (.slice B n d) l) (hlo : w.heap.size ≤ lo') (x : Nest) (d' : Nat) : InjA (ys ++ [⟨x, B, d'⟩]) := by
  have hne : ∀ (i : Nat) (z : GV Nest), ys[i]? = some z → z.A ≠ none → z.A ≠ B := fun i z hz hA hAB => by
    rcases (hown.inn i z hz).base with h0 | ⟨g, h1, _, h2⟩
    · exact hA h0
    · rcases hC.base with h3 | ⟨g', h3, h4, _⟩
      · exact hA (hAB.trans h3)
      · rw [h1, h3] at hAB
        injection hAB with hAB
        injection hAB with hAB
        omega
  intro i j a b ha hb hA hAB
  rcases Nat.lt_or_ge i ys.length with hi | hi
  · rw [List.getElem?_append_left hi] at ha
    rcases Nat.lt_or_ge j ys.length with hj | hj
    · rw [List.getElem?_append_left hj] at hb
      exact h i j a b ha hb hA hAB
    · rw [List.getElem?_append_right hj] at hb
      have hl := lt_of_get hb
      simp at hl
      rw [hl] at hb
      simp at hb
      subst hb
      exact absurd hAB (hne i a ha hA)
  · rw [List.getElem?_append_right hi] at ha
    have hl := lt_of_get ha
    simp at hl
    rw [hl] at ha
    simp at ha
    subst ha
    rcases Nat.lt_or_ge j ys.length with hj | hj
    · rw [List.getElem?_append_left hj] at hb
      exact absurd hAB.symm (hne j b hb (fun e => hA (hAB.trans e)))
    · have := lt_of_get hb
      simp at this
      omega
theorem OwnF.ne_none {n : Nat} {A : Option Addr} (h : OwnF one 1 lo et w (.slice A n d) l) (hl : l ≠ []) : A ≠ none := fun e => by
  obtain ⟨g, cap, cur, hv, _⟩ := h.blk hl
  injection hv with h1
  rw [e] at h1
  cases h1
theorem inj_of_A (hi : InjA ys) (hin : ∀ (i : Nat) (y : GV Nest), ys[i]? = some y → OwnF one 1 lo et w (.slice y.A (Nest.l y.x).length y.d) (Nest.l y.x)) :
    ∀ (i j : Nat) (y z : GV Nest), ys[i]? = some y → ys[j]? = some z → Nest.l y.x ≠ [] → Nest.l z.x ≠ [] → y.A = z.A → i = j :=
  fun i j a b ha hb hl _ hA => hi i j a b ha hb ((hin i a ha).ne_none hl) hA
theorem rowG_set : ∀ (ys : List (GV Nest)) (k : Nat) (y : GV Nest), ys[k]? = some y → rowG hdN Nest.l (ys.set k (y.put l B d)) = (rowG hdN Nest.l ys).set (k * 4 + 3) (.slice B l.length d)
  | [], k, y, h => by simp at h
  | z :: ys, 0, y, h => by
    simp at h
    subst h
    simp [rowG, GV.cells, GV.put, hdN]
  | z :: ys, k + 1, y, h => by
    have ih := rowG_set ys k y (by simpa using h)
    simp only [rowG, List.set_cons_succ, List.flatMap_cons] at ih ⊢
    have hl : (GV.cells hdN Nest.l z).length = 4 := GV.cells_length (p := 3) (fun _ => rfl) z
    rw [List.set_append_right _ _ (by omega), hl, ih, show (k + 1) * 4 + 3 - 4 = k * 4 + 3 from by omega]
theorem set_same {α : Type} {l : List α} {i : Nat} {a : α} (h : l[i]? = some a) : l.set i a = l := by
  apply List.ext_getElem?
  intro j
  rw [List.getElem?_set]
  split
  · rename_i e
    subst e
    rw [h]
    simp [lt_of_get h]
  · rfl
/-- the others, and the row, where the block of one of them has turned -/
theorem OwnG.others {n m : Nat} (h : OwnG hdN Nest.l 3 lo e et w v ys) (hi : InjA ys) (hy : ys[k]? = some y) (hg : w.grownBy W (Value.slice y.A n m).ownBlock) :
    ∀ (i : Nat) (z : GV Nest), ys[i]? = some z → i ≠ k → OwnF one 1 lo et W (.slice z.A z.x.l.length z.d) z.x.l := fun i z hz hik => by
  refine World.ownsRow.kept (row := _) (h.inn i z hz) hg ?_
  rcases (h.inn i z hz).base with h0 | ⟨g, h1, _, _⟩
  · left; rw [h0]; rfl
  · right
    rcases (h.inn k y hy).base with h2 | ⟨g', h3, _, _⟩
    · rw [h1, h2]; simp [Value.ownBlock]
    · intro he
      have hgg : g = g' := by rw [h1, h3] at he; simpa [Value.ownBlock] using he
      exact hik (hi i k z y hz hy (by rw [h1]; simp) (by rw [h1, h3, hgg]))
theorem OwnG.rowKept {n m : Nat} (h : OwnG hdN Nest.l 3 lo e et w v ys) (hy : ys[k]? = some y) (hee : e ≠ et) (hg : w.grownBy W (Value.slice y.A n m).ownBlock) : W.ownsRow lo e (3 + 1) v ys.length (rowG hdN Nest.l ys) := by
  refine World.ownsRow.kept (row := _) h.out hg ?_
  have h1 := (h.inn k y hy).blk_ne h.out hee
  have h2 : (Value.slice y.A n m).ownBlock = (Value.slice y.A (Nest.l y.x).length y.d).ownBlock := by cases y.A <;> rfl
  rw [h2]
  rcases h1 with h1 | h1
  · rw [h1]
    rcases hv : v.ownBlock with _ | q
    · exact .inl rfl
    · exact .inr (by simp)
  · exact .inr (fun e => h1 e.symm)
/-- one gets an inner slice that was made anew, or in place of its own -/
theorem OwnG.setTail {n m g c : Nat} (h : OwnG hdN Nest.l 3 lo e et w v ys) (hi : InjA ys) (hy : ys[k]? = some y) (hee : e ≠ et) (hv : v = .slice (some ⟨g, 0, none⟩) ys.length c) (hg : w.grownBy W (Value.slice y.A n m).ownBlock)
    (hF : OwnF one 1 lo et W (.slice B l.length d) l) (hB : B = y.A ∨ ∀ q, B = some ⟨q, 0, none⟩ → w.heap.size ≤ q) :
    OwnG hdN Nest.l 3 lo e et (W.setCell ⟨g, k * 4 + 3, none⟩ (.slice B l.length d)) v (ys.set k (y.put l B d)) ∧ InjA (ys.set k (y.put l B d)) ∧ W.grownBy (W.setCell ⟨g, k * 4 + 3, none⟩ (.slice B l.length d)) (some g) := by
  have hrow := h.rowKept hy hee hg
  have hoth := h.others hi hy hg
  have hkl := lt_of_get hy
  have hst := World.ownsRow.stored (hv ▸ hrow) (k * 4 + 3) (.slice B l.length d)
  have hout : (W.setCell ⟨g, k * 4 + 3, none⟩ (.slice B l.length d)).ownsRow lo e (3 + 1) v (ys.set k (y.put l B d)).length (rowG hdN Nest.l (ys.set k (y.put l B d))) := by
    rw [rowG_set ys k y hy, List.length_set, hv]
    exact hst.1
  have hgv : v.ownBlock = some g := by rw [hv]; rfl
  have hin : ∀ (i : Nat) (z : GV Nest), (ys.set k (y.put l B d))[i]? = some z → OwnF one 1 lo et (W.setCell ⟨g, k * 4 + 3, none⟩ (.slice B l.length d)) (.slice z.A (Nest.l z.x).length z.d) (Nest.l z.x) := fun i z hz => by
    have h1 : OwnF one 1 lo et W (.slice z.A (Nest.l z.x).length z.d) (Nest.l z.x) := by
      rw [List.getElem?_set] at hz
      split at hz
      · rename_i e'
        subst e'
        simp [hkl] at hz
        subst hz
        exact hF
      · rename_i e'
        exact hoth i z hz (fun e2 => e' e2.symm)
    refine World.ownsRow.kept (row := some g) h1 hst.2 ?_
    have := h1.blk_ne hrow hee
    rwa [hgv] at this
  have hinj : InjA (ys.set k (y.put l B d)) := by
    have hne : ∀ (i : Nat) (z : GV Nest), ys[i]? = some z → i ≠ k → B ≠ none → B ≠ z.A := fun i z hz hik hBn hBz => by
      rcases hB with hB | hB
      · exact hik (hi k i y z hy hz (by rw [← hB]; exact hBn) (by rw [← hB]; exact hBz)).symm
      · rcases (h.inn i z hz).base with h0 | ⟨q, h1, _, h2⟩
        · exact hBn (hBz.trans h0)
        · have := hB q (hBz.trans h1)
          omega
    intro i j a b ha hb hA hAB
    rw [List.getElem?_set] at ha hb
    by_cases hik : k = i
    · by_cases hjk : k = j
      · omega
      · rw [if_neg hjk] at hb
        subst hik
        simp [hkl] at ha
        subst ha
        exact absurd hAB (hne j b hb (fun e => hjk e.symm) hA)
    · rw [if_neg hik] at ha
      by_cases hjk : k = j
      · subst hjk
        simp [hkl] at hb
        subst hb
        exact absurd hAB.symm (hne i a ha (fun e => hik e.symm) (fun e => hA (hAB.trans e)))
      · rw [if_neg hjk] at hb
        exact hi i j a b ha hb hA hAB
  exact ⟨⟨hout, hin, inj_of_A hinj hin⟩, hinj, hst.2⟩
/-- the inner slice of one is turned in place -/
theorem OwnG.turned (h : OwnG hdN Nest.l 3 lo e et w v ys) (hi : InjA ys) (hy : ys[k]? = some y) (hee : e ≠ et) {n m : Nat} (hg : w.grownBy W (Value.slice y.A n m).ownBlock)
    (hF : OwnF one 1 lo et W (.slice y.A l.length y.d) l) (hl : l.length = y.x.l.length) :
    OwnG hdN Nest.l 3 lo e et W v (ys.set k (y.put l y.A y.d)) ∧ InjA (ys.set k (y.put l y.A y.d)) := by
  have hrow := h.rowKept hy hee hg
  have hoth := h.others hi hy hg
  have hkl := lt_of_get hy
  have hcell : (rowG hdN Nest.l ys)[k * 4 + 3]? = some (.slice y.A l.length y.d) := by
    rw [hl]
    exact rowG_get (hd := hdN) (tl := Nest.l) (p := 3) (fun _ => rfl) ys k y hy 3 _ rfl
  have hin : ∀ (i : Nat) (z : GV Nest), (ys.set k (y.put l y.A y.d))[i]? = some z → OwnF one 1 lo et W (.slice z.A (Nest.l z.x).length z.d) (Nest.l z.x) := fun i z hz => by
    rw [List.getElem?_set] at hz
    split at hz
    · rename_i e'
      subst e'
      simp [hkl] at hz
      subst hz
      exact hF
    · rename_i e'
      exact hoth i z hz (fun e2 => e' e2.symm)
  have hinj : InjA (ys.set k (y.put l y.A y.d)) := by
    intro i j a b ha hb hA hAB
    have hget : ∀ (i : Nat) (a : GV Nest), (ys.set k (y.put l y.A y.d))[i]? = some a → ∃ a', ys[i]? = some a' ∧ a'.A = a.A := fun i a ha => by
      rw [List.getElem?_set] at ha
      split at ha
      · rename_i e'
        subst e'
        simp [hkl] at ha
        subst ha
        exact ⟨y, hy, rfl⟩
      · exact ⟨a, ha, rfl⟩
    obtain ⟨a', ha', ea⟩ := hget i a ha
    obtain ⟨b', hb', eb⟩ := hget j b hb
    exact hi i j a' b' ha' hb' (by rw [ea]; exact hA) (by rw [ea, eb]; exact hAB)
  refine ⟨⟨?_, hin, inj_of_A hinj hin⟩, hinj⟩
  rw [rowG_set ys k y hy, set_same hcell, List.length_set]
  exact hrow
theorem rowG_set4 : ∀ (ys : List (GV Nest)) (k : Nat) (y : GV Nest), ys[k]? = some y → ((((rowG hdN Nest.l ys).set (k * 4) (.int .i64 y.x.a)).set (k * 4 + 1) (.int .i64 y.x.b)).set (k * 4 + 2) (.int .i64 y.x.c)) = rowG hdN Nest.l ys := fun ys k y hy => by
  have h0 : (rowG hdN Nest.l ys)[k * 4]? = some (.int .i64 y.x.a) := rowG_get (hd := hdN) (tl := Nest.l) (p := 3) (fun _ => rfl) ys k y hy 0 _ rfl
  have h1 : (rowG hdN Nest.l ys)[k * 4 + 1]? = some (.int .i64 y.x.b) := rowG_get (hd := hdN) (tl := Nest.l) (p := 3) (fun _ => rfl) ys k y hy 1 _ rfl
  have h2 : (rowG hdN Nest.l ys)[k * 4 + 2]? = some (.int .i64 y.x.c) := rowG_get (hd := hdN) (tl := Nest.l) (p := 3) (fun _ => rfl) ys k y hy 2 _ rfl
  rw [set_same h0, set_same h1, set_same h2]
/-- one is laid anew whole: its inner slice lies in a new block -/
theorem OwnG.setRow4 {g c : Nat} (h : OwnG hdN Nest.l 3 lo e et w v ys) (hi : InjA ys) (hy : ys[k]? = some y) (hee : e ≠ et) (hv : v = .slice (some ⟨g, 0, none⟩) ys.length c) (hb : Below w.heap.size w W)
    (hF : OwnF one 1 lo et W (.slice B l.length d) l) (hB : ∀ q, B = some ⟨q, 0, none⟩ → w.heap.size ≤ q) :
    OwnG hdN Nest.l 3 lo e et (setRow W g (k * 4) [.int .i64 y.x.a, .int .i64 y.x.b, .int .i64 y.x.c, .slice B l.length d]) v (ys.set k (y.put l B d)) ∧ InjA (ys.set k (y.put l B d)) := by
  have hW := h.ext hb
  have s0 := World.ownsRow.stored (hv ▸ hW.out) (k * 4) (.int .i64 y.x.a)
  have s1 := World.ownsRow.stored s0.1 (k * 4 + 1) (.int .i64 y.x.b)
  have s2 := World.ownsRow.stored s1.1 (k * 4 + 2) (.int .i64 y.x.c)
  rw [rowG_set4 ys k y hy] at s2
  obtain ⟨W3, hW3⟩ : ∃ W3, ((W.setCell ⟨g, k * 4, none⟩ (.int .i64 y.x.a)).setCell ⟨g, k * 4 + 1, none⟩ (.int .i64 y.x.b)).setCell ⟨g, k * 4 + 2, none⟩ (.int .i64 y.x.c) = W3 := ⟨_, rfl⟩
  have hgv : v.ownBlock = some g := by rw [hv]; rfl
  have hT : Touch g (g + 1) W W3 := hW3 ▸ ((Touch.of_set W ⟨g, k * 4, none⟩ (.int .i64 y.x.a) (Nat.le_refl _) (Nat.lt_succ_self _)).set (p := ⟨g, k * 4 + 1, none⟩) (Nat.le_refl _) (Nat.lt_succ_self _) (.int .i64 y.x.b)).set (p := ⟨g, k * 4 + 2, none⟩) (Nat.le_refl _) (Nat.lt_succ_self _) (.int .i64 y.x.c)
  have hgr : W.grownBy W3 (some g) := ⟨hT.os, hT.tape, hT.output, hT.size, fun q hq hne => hT.block q hq (by have : q ≠ g := fun e => hne (by rw [e]); omega)⟩
  have hout : W3.ownsRow lo e (3 + 1) v ys.length (rowG hdN Nest.l ys) := by rw [← hW3, hv]; exact s2.1
  have hin : ∀ (z : GV Nest), OwnF one 1 lo et W (.slice z.A (Nest.l z.x).length z.d) (Nest.l z.x) → OwnF one 1 lo et W3 (.slice z.A (Nest.l z.x).length z.d) (Nest.l z.x) := fun z h1 => by
    refine World.ownsRow.kept (row := some g) h1 hgr ?_
    have := h1.blk_ne hW.out hee
    rwa [hgv] at this
  have h3 : OwnG hdN Nest.l 3 lo e et W3 v ys := ⟨hout, fun i z hz => hin z (hW.inn i z hz), h.inj⟩
  have hs : setRow W g (k * 4) [.int .i64 y.x.a, .int .i64 y.x.b, .int .i64 y.x.c, .slice B l.length d] = W3.setCell ⟨g, k * 4 + 3, none⟩ (.slice B l.length d) := by rw [← hW3]; rfl
  have hF3 := hin (y.put l B d) hF
  -- the store of the fourth cell, the world before it taken as the one that is known
  have hrow := h3.out
  have hst := World.ownsRow.stored (hv ▸ hrow) (k * 4 + 3) (.slice B l.length d)
  have hkl := lt_of_get hy
  have hin' : ∀ (i : Nat) (z : GV Nest), (ys.set k (y.put l B d))[i]? = some z → OwnF one 1 lo et (W3.setCell ⟨g, k * 4 + 3, none⟩ (.slice B l.length d)) (.slice z.A (Nest.l z.x).length z.d) (Nest.l z.x) := fun i z hz => by
    have h1 : OwnF one 1 lo et W3 (.slice z.A (Nest.l z.x).length z.d) (Nest.l z.x) := by
      rw [List.getElem?_set] at hz
      split at hz
      · rename_i e'
        subst e'
        simp [hkl] at hz
        subst hz
        exact hF3
      · exact h3.inn i z hz
    refine World.ownsRow.kept (row := some g) h1 hst.2 ?_
    have := h1.blk_ne hrow hee
    rwa [hgv] at this
  have hinj : InjA (ys.set k (y.put l B d)) := by
    have hne : ∀ (i : Nat) (z : GV Nest), ys[i]? = some z → i ≠ k → B ≠ none → B ≠ z.A := fun i z hz hik hBn hBz => by
      rcases (h.inn i z hz).base with h0 | ⟨q, h1, _, h2⟩
      · exact hBn (hBz.trans h0)
      · have := hB q (hBz.trans h1)
        omega
    intro i j a b ha hb hA hAB
    rw [List.getElem?_set] at ha hb
    by_cases hik : k = i
    · by_cases hjk : k = j
      · omega
      · rw [if_neg hjk] at hb
        subst hik
        simp [hkl] at ha
        subst ha
        exact absurd hAB (hne j b hb (fun e => hjk e.symm) hA)
    · rw [if_neg hik] at ha
      by_cases hjk : k = j
      · subst hjk
        simp [hkl] at hb
        subst hb
        exact absurd hAB.symm (hne i a ha (fun e => hik e.symm) (fun e => hA (hAB.trans e)))
      · rw [if_neg hjk] at hb
        exact hi i j a b ha hb hA hAB
  rw [hs]
  refine ⟨⟨?_, hin', inj_of_A hinj hin'⟩, hinj⟩
  rw [rowG_set ys k y hy, List.length_set, hv]
  exact hst.1
theorem map_put (hy : ys[k]? = some y) : (ys.set k (y.put l B d)).map GV.x = (ys.map GV.x).set k { y.x with l := l } := by
  rw [List.map_set]; rfl
end
end Go.Proofs.YtlagfeccdcjimaaDoor
