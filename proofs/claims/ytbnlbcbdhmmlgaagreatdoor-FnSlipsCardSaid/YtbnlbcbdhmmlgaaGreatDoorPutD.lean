/- Slips that are put: the words. -/
import Derived.Test.YtbnlbcbdhmmlgaaGreatDoorMiss
import Derived.Test.YtbnlbcbdhmmlgaaGreatDoorHeldI
import Derived.Test.YtbnlbcbdhmmlgaaGreatDoorHeldS
import Derived.Test.YtbnlbcbdhmmlgaaGreatDoorMgE
import Derived.Test.YtbnlbcbdhmmlgaaGreatDoorAppAt
import Derived.Test.YtbnlbcbdhmmlgaaGreatDoorSortI
import Derived.Test.YtbnlbcbdhmmlgaaGreatDoorPut
namespace Go.Proofs.YtbnlbcbdhmmlgaaGreatDoor
open Go.RowKit
set_option linter.unusedVariables false
set_option linter.unusedSimpArgs false

def putL (l ids : List Int) : List Int := ids.foldl putI l
noncomputable def addH (xs : List Erratum) (day : Int) (x : Nest) : Nest := { x with l := putL x.l (miss x day xs) }
theorem putL_len (l ids : List Int) : (putL l ids).length ≤ l.length + ids.length := foldPut_len ids l
theorem addH_len (xs : List Erratum) (day : Int) (x : Nest) : (addH xs day x).l.length ≤ x.l.length + xs.length := by
  have h1 := putL_len x.l (miss x day xs)
  have h2 := miss_len x day xs
  unfold addH
  simp only
  omega
noncomputable def cntTo (xs : List Erratum) (day : Int) (hs : List Nest) (k : Nat) : Nat := ((hs.take k).map fun x => (miss x day xs).length).sum
theorem cntTo_step {xs : List Erratum} {day : Int} {hs : List Nest} {k : Nat} {x : Nest} (hx : hs[k]? = some x) : cntTo xs day hs (k + 1) = cntTo xs day hs k + (miss x day xs).length := by
  unfold cntTo
  rw [take_get hx, List.map_append, List.sum_append]
  simp
theorem cntTo_le (xs : List Erratum) (day : Int) (hs : List Nest) : ∀ k, cntTo xs day hs k ≤ k * xs.length
  | 0 => by simp [cntTo]
  | k + 1 => by
    have ih := cntTo_le xs day hs k
    rcases hx : hs[k]? with _ | x
    · have h1 : hs.length ≤ k := by
        rcases Nat.lt_or_ge k hs.length with h | h
        · rw [List.getElem?_eq_getElem h] at hx; cases hx
        · exact h
      have h2 : cntTo xs day hs (k + 1) = cntTo xs day hs k := by unfold cntTo; rw [take_all h1, take_all (by omega : hs.length ≤ k + 1)]
      rw [h2, Nat.add_mul]
      omega
    · rw [cntTo_step hx, Nat.add_mul]
      have := miss_len x day xs
      omega
theorem pw_of_adj {α : Type} {R : α → α → Prop} (tr : ∀ a b c, R a b → R b c → R a c) {l : List α} (h : ∀ (i : Nat) (x y : α), l[i]? = some x → l[i + 1]? = some y → R x y) : l.Pairwise R := by
  rw [List.pairwise_iff_getElem]
  intro i j hi hj hij
  have hstep : ∀ n, ∀ i, i + n < l.length → ∀ a b, l[i]? = some a → l[i + n]? = some b → 0 < n → R a b := by
    intro n
    induction n with
    | zero => intro i _ a b _ _ h0; omega
    | succ n ih =>
      intro i hl a b ha hb _
      obtain ⟨c, hc⟩ : ∃ c, l[i + n]? = some c := ⟨_, List.getElem?_eq_getElem (by omega)⟩
      have h1 : R c b := h (i + n) c b hc hb
      rcases Nat.eq_zero_or_pos n with hn | hn
      · subst hn
        rw [Nat.add_zero] at hc
        rw [ha] at hc
        cases hc
        exact h1
      · exact tr _ _ _ (ih i (by omega) a c ha hc hn) h1
  exact hstep (j - i) i (by omega) _ _ (List.getElem?_eq_getElem hi) (by rw [show i + (j - i) = j from by omega]; exact List.getElem?_eq_getElem hj) (by omega)
theorem Rising.strict {l : List Int} (h : Rising l) : Strict l := pw_of_adj (R := fun a b : Int => a < b) (fun a b c h k => Int.lt_trans h k) h
theorem miss_strict {xs : List Erratum} (h : Errs xs) (x : Nest) (day : Int) : Strict (miss x day xs) := by
  have h1 : xs.Pairwise fun a b => a.id < b.id := pw_of_adj (R := fun a b : Erratum => a.id < b.id) (fun a b c h k => Int.lt_trans h k) h.1.2
  unfold Strict miss
  rw [List.pairwise_map]
  exact h1.filter _
theorem miss_new {xs : List Erratum} {x : Nest} {day : Int} : ∀ a ∈ miss x day xs, a ∉ x.l := fun a ha => by
  unfold miss at ha
  obtain ⟨e, he, rfl⟩ := List.mem_map.1 ha
  exact (tb_true (List.mem_filter.1 he).2).2.2
theorem sort_put {l ids : List Int} (hl : Strict l) (hi : Strict ids) (hd : ∀ a ∈ ids, a ∉ l) : (l ++ ids).mergeSort leI = putL l ids := by
  have hn : (l ++ ids).Nodup := by
    rw [List.nodup_append]
    refine ⟨hl.imp (fun h => by omega), hi.imp (fun h => by omega), fun a ha b hb => ?_⟩
    intro e
    subst e
    exact hd a hb ha
  have hs := sort_sorted (l ++ ids)
  have hn2 : ((l ++ ids).mergeSort leI).Nodup := (sort_perm _).nodup_iff.2 hn
  refine strict_unique ?_ (foldPut_strict ids l hl) fun a => ?_
  · unfold Strict
    rw [List.pairwise_iff_getElem] at hs ⊢
    unfold List.Nodup at hn2
    rw [List.pairwise_iff_getElem] at hn2
    intro i j hi hj hij
    have h1 := hs i j hi hj hij
    have h2 := hn2 i j hi hj hij
    omega
  · rw [(sort_perm _).mem_iff]
    unfold putL
    rw [foldPut_mem, List.mem_append]
theorem held_put {xs : List Erratum} {hs : List Nest} (h : HeldOk xs hs) (day : Int) {k : Nat} {x : Nest} (hx : hs[k]? = some x) : (x.l ++ miss x day xs).mergeSort leI = putL x.l (miss x day xs) :=
  sort_put ((h.2.1 k x hx).2.2.2.1).strict (miss_strict h.1 x day) miss_new
theorem pa_wt (xs : List Erratum) (hs : List Nest) (day : Int) (k : Nat) (hx : xs.length ≤ 10) (hl : hs.length ≤ 10) (hn : wt hs ≤ 1048576) : wt (updTo (addH xs day) hs k) ≤ 1048576 + 100 := by
  have h1 := updTo_wt (f := addH xs day) (hs := hs) xs.length k (fun y _ => addH_len xs day y)
  have h2 : hs.length * xs.length ≤ 10 * 10 := Nat.mul_le_mul hl hx
  omega
theorem held_wt {xs : List Erratum} {hs : List Nest} (h : HeldOk xs hs) : wt hs ≤ 1100 := by
  have h1 := lsum_bound 99 hs fun x hx => by
    obtain ⟨i, hi⟩ := List.mem_iff_getElem?.1 hx
    have hI := h.2.1 i x hi
    have hr := hI.range h.1
    have hst := (hI.2.2.2.1).strict
    -- strictly rising within 1 .. 99
    have : ∀ (l : List Int) (lo : Int), l.Pairwise (fun a b => a < b) → (∀ a ∈ l, lo < a ∧ a ≤ 99) → lo ≤ 99 → (l.length : Int) ≤ 99 - lo := by
      intro l
      induction l with
      | nil => intro lo _ _ h; simp; omega
      | cons a r ih =>
        intro lo hp hb _
        obtain ⟨h1, h2⟩ := List.pairwise_cons.1 hp
        have ha := hb a List.mem_cons_self
        have := ih a h2 (fun b hb' => ⟨h1 b hb', (hb b (List.mem_cons_of_mem _ hb')).2⟩) ha.2
        rw [List.length_cons]
        omega
    have h2 := this x.l 0 hst (fun a ha => by
      obtain ⟨j, hj⟩ := List.mem_iff_getElem?.1 ha
      have := hr j a hj
      unfold InR at this
      omega) (by omega)
    omega
  have h2 := h.2.2
  unfold wt
  omega
def PaOk (xs : List Erratum) (hs : List Nest) (day : Int) : Prop := HeldOk xs hs ∧ (0 ≤ day ∧ day ≤ 4000)
theorem pa_lens (xs : List Erratum) (hs : List Nest) (day : Int) : wt (sel (PaOk xs hs day) (hs.map (addH xs day))) ≤ 1048576 := by
  by_cases h : PaOk xs hs day
  · rw [sel_t h]
    have h1 := updTo_wt (f := addH xs day) (hs := hs) xs.length hs.length (fun y _ => addH_len xs day y)
    rw [updTo_all (Nat.le_refl _)] at h1
    have h2 : hs.length * xs.length ≤ 10 * 10 := Nat.mul_le_mul h.1.2.2 h.1.1.2
    have h3 := held_wt h.1
    omega
  · rw [sel_f h]
    simp [wt, lsum]
def RetPa (w : World) (hs : List Nest) (q : Int) (ok : Bool) (e : Ending) (w' : World) : Prop :=
  ∃ B d, e = .returned (.tuple #[.slice B hs.length d, .int .i64 q, .bool ok]) ∧ NlO w.heap.size w'.heap.size w' B hs ∧ Below w.heap.size w w'
end Go.Proofs.YtbnlbcbdhmmlgaaGreatDoor
