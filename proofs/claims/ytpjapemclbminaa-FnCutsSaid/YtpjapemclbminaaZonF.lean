/- What the law of zones asks. No condition. -/
import Derived.Test.YtpjapemclbminaaAreaU
import Derived.Test.YtpjapemclbminaaRedW
import Derived.Test.YtpjapemclbminaaDeepW
import Derived.Test.YtpjapemclbminaaZonesAt
namespace Go.Proofs.Ytpjapemclbminaa
open Go.RowKit
set_option linter.unusedVariables false
set_option linter.unusedSimpArgs false

theorem pw_of_adjZ {α : Type} {R : α → α → Prop} (tr : ∀ a b c, R a b → R b c → R a c) {l : List α} (h : ∀ (i : Nat) (x y : α), l[i]? = some x → l[i + 1]? = some y → R x y) : l.Pairwise R := by
  rw [List.pairwise_iff_getElem]
  intro i j hi hj hij
  have hstep : ∀ n, ∀ i, i + n < l.length → ∀ a b, l[i]? = some a → l[i + n]? = some b → 0 < n → R a b := by
    intro n
    induction n with
    | zero => intro i _ a b _ _ h0; omega
    | succ n ih =>
      intro i hl a b ha hb _
      obtain ⟨c, hc⟩ : ∃ c, l[i + n]? = some c := ⟨_, List.getElem?_eq_getElem (by omega)⟩
      have h1 : R c b := h (i + n) c b hc hb
      rcases Nat.eq_zero_or_pos n with hn | hn
      · subst hn
        rw [Nat.add_zero] at hc
        rw [ha] at hc
        cases hc
        exact h1
      · exact tr _ _ _ (ih i (by omega) a c ha hc hn) h1
  exact hstep (j - i) i (by omega) _ _ (List.getElem?_eq_getElem hi) (by rw [show i + (j - i) = j from by omega]; exact List.getElem?_eq_getElem hj) (by omega)
theorem pw_uniqZ {zs : List Zone} (h : zs.Pairwise fun a b => a.id < b.id) {i j : Nat} {x y : Zone} (hx : zs[i]? = some x) (hy : zs[j]? = some y) (he : x.id = y.id) : i = j := by
  obtain ⟨hi, ex⟩ := List.getElem?_eq_some_iff.1 hx
  obtain ⟨hj, ey⟩ := List.getElem?_eq_some_iff.1 hy
  rcases Nat.lt_trichotomy i j with q | q | q
  · have := List.pairwise_iff_getElem.1 h i j hi hj q
    rw [ex, ey] at this; omega
  · exact q
  · have := List.pairwise_iff_getElem.1 h j i hj hi q
    rw [ex, ey] at this; omega
theorem atZ_at {zs : List Zone} (h : Zons zs) {k : Nat} {z : Zone} (hk : zs[k]? = some z) : atZ zs z.id = (k : Int) := by
  have hp : zs.Pairwise fun a b => a.id < b.id := pw_of_adjZ (R := fun a b : Zone => a.id < b.id) (fun a b c h k => Int.lt_trans h k) h.1.2
  rcases idxB_p (fun y : Zone => decide (y.id = z.id)) zs 0 with ⟨_, h2⟩ | ⟨i, y, h1, h2, h3⟩
  · have := h2 z (List.mem_of_getElem? hk)
    simp at this
  · have e : i = k := pw_uniqZ hp h2 hk (by simpa using h3)
    unfold atZ
    rw [h1, e]; simp
theorem redTo_mem (zs : List Zone) (id : Int) : ∀ m, id ∈ redTo zs m ↔ ∃ (k : Nat) (z : Zone), k < m ∧ zs[k]? = some z ∧ areaZ (wZ zs k) = areaZ zs ∧ z.id = id
  | 0 => by simp [redTo]
  | m + 1 => by
    have ih := redTo_mem zs id m
    have hs : (∃ (k : Nat) (z : Zone), k < m + 1 ∧ zs[k]? = some z ∧ areaZ (wZ zs k) = areaZ zs ∧ z.id = id) ↔ (id ∈ redTo zs m) ∨ ∃ z, zs[m]? = some z ∧ areaZ (wZ zs m) = areaZ zs ∧ z.id = id := by
      rw [ih]
      constructor
      · rintro ⟨k, z, h1, h2⟩
        by_cases e : k = m
        · subst e; exact .inr ⟨z, h2⟩
        · exact .inl ⟨k, z, by omega, h2⟩
      · rintro (⟨k, z, h1, h2⟩ | ⟨z, h2⟩)
        · exact ⟨k, z, by omega, h2⟩
        · exact ⟨m, z, by omega, h2⟩
    rw [hs, redTo]
    rcases hx : zs[m]? with _ | z
    · simp
    · simp only
      by_cases h : areaZ (zs.take m ++ zs.drop (m + 1)) = areaZ zs
      · rw [if_pos h]
        have h' : areaZ (wZ zs m) = areaZ zs := h
        simp [h', eq_comm]
      · rw [if_neg h]
        have h' : ¬ areaZ (wZ zs m) = areaZ zs := h
        simp [h']
/-- a zone's id is among the redundant ones if and only if nothing is in that zone alone -/
theorem red_iff {zs : List Zone} (h : Zons zs) {k : Nat} {z : Zone} (hk : zs[k]? = some z) : (z.id ∈ redTo zs zs.length) ↔ areaZ zs - areaZ (wZ zs k) = 0 := by
  rw [redTo_mem]
  constructor
  · rintro ⟨i, y, h1, h2, h3, h4⟩
    have hp : zs.Pairwise fun a b => a.id < b.id := pw_of_adjZ (R := fun a b : Zone => a.id < b.id) (fun a b c h k => Int.lt_trans h k) h.1.2
    have e : i = k := pw_uniqZ hp h2 hk h4
    subst e; omega
  · intro h0
    exact ⟨k, z, lt_of_get hk, hk, by omega, rfl⟩
theorem deep_mem (d : Int → Int → Int) (ys : List Int) (P : Int → Prop) (Q : Int → Prop) (hQ : ∀ y ∈ ys, Q y) : ∀ (xs : List Int) (s : Int × Int × Int), (∀ x ∈ xs, P x) →
    let r := xs.foldl (rowD d ys) s; (r = s) ∨ (P r.1 ∧ Q r.2.1 ∧ d r.1 r.2.1 = r.2.2)
  | [], s, _ => .inl rfl
  | x :: t, s, hP => by
    have hrow : ∀ (ys : List Int) (s : Int × Int × Int), (∀ y ∈ ys, Q y) → rowD d ys s x = s ∨ (P (rowD d ys s x).1 ∧ Q (rowD d ys s x).2.1 ∧ d (rowD d ys s x).1 (rowD d ys s x).2.1 = (rowD d ys s x).2.2) := by
      intro ys
      induction ys with
      | nil => intro s _; exact .inl rfl
      | cons y r ih =>
        intro s hq
        have e : rowD d (y :: r) s x = rowD d r (updD d x s y) x := rfl
        rw [e]
        rcases ih (updD d x s y) (fun z hz => hq z (List.mem_cons_of_mem _ hz)) with h | h
        · rw [h]
          unfold updD
          by_cases c : s.2.2 < d x y
          · rw [if_pos c]
            exact .inr ⟨hP x List.mem_cons_self, hq y List.mem_cons_self, rfl⟩
          · rw [if_neg c]; exact .inl rfl
        · exact .inr h
    have ih := deep_mem d ys P Q hQ t (rowD d ys s x) (fun z hz => hP z (List.mem_cons_of_mem _ hz))
    simp only [List.foldl_cons]
    rcases ih with h | h
    · rw [h]; exact hrow ys s hQ
    · exact .inr h
theorem deep_ge (d : Int → Int → Int) (ys : List Int) : ∀ (xs : List Int) (s : Int × Int × Int), s.2.2 ≤ (xs.foldl (rowD d ys) s).2.2 ∧ ∀ x ∈ xs, ∀ y ∈ ys, d x y ≤ (xs.foldl (rowD d ys) s).2.2
  | [], s => ⟨Int.le_refl _, fun x h => by simp at h⟩
  | x :: t, s => by
    obtain ⟨h1, h2⟩ := deep_ge d ys t (rowD d ys s x)
    obtain ⟨h3, h4⟩ := rowD_ge d x ys s
    rw [List.foldl_cons]
    refine ⟨Int.le_trans h3 h1, fun a ha b hb => ?_⟩
    rcases List.mem_cons.1 ha with rfl | ha
    · exact Int.le_trans (h4 b hb) h1
    · exact h2 a ha b hb
/-- the deepest square is a square, and is in as many zones -/
theorem deep_facts {zs : List Zone} (h : MdOk zs) : ZonesAtOk (deepZ zs).1 (deepZ zs).2.1 zs ∧ ((zonesAt (deepZ zs).1 (deepZ zs).2.1 zs).length : Int) = (deepZ zs).2.2 := by
  have hz := h.1.zb
  obtain ⟨z, hzz⟩ : ∃ z, z ∈ zs := List.exists_mem_of_length_pos h.2
  have hb := hz z hzz
  unfold ZB at hb
  obtain ⟨_, g2⟩ := deep_ge (cntZ zs) (putAll (linesY zs)) (putAll (linesX zs)) (0, 0, 0)
  have g := g2 _ (lineX_mem hzz).1 _ (lineY_mem hzz).1
  have hc : 1 ≤ cntZ zs z.west z.south := by
    unfold cntZ
    have : 0 < (zs.filter (zHas z.west z.south)).length := List.length_pos_of_mem (List.mem_filter.2 ⟨hzz, zHas_iff.2 (by omega)⟩)
    omega
  have hm := deep_mem (cntZ zs) (putAll (linesY zs)) (fun _ => True) (fun _ => True) (fun _ _ => trivial) (putAll (linesX zs)) (0, 0, 0) (fun _ _ => trivial)
  have e : (putAll (linesX zs)).foldl (rowD (cntZ zs) (putAll (linesY zs))) (0, 0, 0) = deepZ zs := rfl
  rw [e] at g
  simp only [e] at hm
  rcases hm with q | ⟨_, _, q⟩
  · rw [q] at g
    simp only at g
    omega
  · have hpos : 0 < (zs.filter (zHas (deepZ zs).1 (deepZ zs).2.1)).length := by
      unfold cntZ at q
      omega
    obtain ⟨y, hy⟩ := List.exists_mem_of_length_pos hpos
    obtain ⟨hy1, hy2⟩ := List.mem_filter.1 hy
    have hyb := hz y hy1
    unfold ZB at hyb
    rw [zHas_iff] at hy2
    refine ⟨⟨h.1, by omega, by omega, by omega, by omega⟩, ?_⟩
    unfold zonesAt
    rw [List.length_map]
    exact q
end Go.Proofs.Ytpjapemclbminaa
