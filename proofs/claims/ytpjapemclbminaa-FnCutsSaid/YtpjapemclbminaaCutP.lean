/- What is cut off from a zone, and zones that touch: the words and the law. No condition. -/
import Derived.Test.YtpjapemclbminaaZonF
import Derived.Test.YtpjapemclbminaaOvI
namespace Go.Proofs.Ytpjapemclbminaa
open Go.RowKit
set_option linter.unusedVariables false
set_option linter.unusedSimpArgs false

def someP (q : Four) : List Four := if q.a < q.c ∧ q.b < q.d then [q] else []
def lowZ (a b : Zone) : Int := min a.north (max a.south b.south)
def highZ (a b : Zone) : Int := max a.south (min a.north b.north)
/-- what is in a zone and not in another one: the program's rectangles -/
def cutZ (a b : Zone) : List Four := someP ⟨a.west, a.south, a.east, min a.north b.south⟩ ++ someP ⟨a.west, max a.south b.north, a.east, a.north⟩ ++ someP ⟨a.west, max a.south b.south, min a.east b.west, min a.north b.north⟩ ++ someP ⟨max a.west b.east, max a.south b.south, a.east, min a.north b.north⟩
def cutS (a b : Zone) : List Four := someP ⟨a.west, a.south, a.east, lowZ a b⟩ ++ someP ⟨a.west, max (lowZ a b) (highZ a b), a.east, a.north⟩ ++ someP ⟨a.west, lowZ a b, min a.east b.west, highZ a b⟩ ++ someP ⟨max a.west b.east, lowZ a b, a.east, highZ a b⟩
theorem someP_eq {a b c d a' b' c' d' : Int} (h : a < c ∧ b < d → a = a' ∧ b = b' ∧ c = c' ∧ d = d') (h2 : ¬ (a < c ∧ b < d) → ¬ (a' < c' ∧ b' < d')) : someP ⟨a, b, c, d⟩ = someP ⟨a', b', c', d'⟩ := by
  by_cases q : a < c ∧ b < d
  · obtain ⟨rfl, rfl, rfl, rfl⟩ := h q
    rfl
  · unfold someP
    rw [if_neg q, if_neg (h2 q)]
theorem cut_same {a b : Zone} (ha : ZB a) (hb : ZB b) : cutS a b = cutZ a b := by
  unfold ZB at ha hb
  unfold cutS cutZ lowZ highZ
  have e1 : someP ⟨a.west, a.south, a.east, min a.north (max a.south b.south)⟩ = someP ⟨a.west, a.south, a.east, min a.north b.south⟩ := someP_eq (by omega) (by omega)
  have e2 : someP ⟨a.west, max (min a.north (max a.south b.south)) (max a.south (min a.north b.north)), a.east, a.north⟩ = someP ⟨a.west, max a.south b.north, a.east, a.north⟩ := someP_eq (by omega) (by omega)
  have e3 : someP ⟨a.west, min a.north (max a.south b.south), min a.east b.west, max a.south (min a.north b.north)⟩ = someP ⟨a.west, max a.south b.south, min a.east b.west, min a.north b.north⟩ := someP_eq (by omega) (by omega)
  have e4 : someP ⟨max a.west b.east, min a.north (max a.south b.south), a.east, max a.south (min a.north b.north)⟩ = someP ⟨max a.west b.east, max a.south b.south, a.east, min a.north b.north⟩ := someP_eq (by omega) (by omega)
  rw [e1, e2, e3, e4]
def areaF (q : Four) : Int := (q.c - q.a) * (q.d - q.b)
def sumF : List Four → Int
  | [] => 0
  | q :: r => areaF q + sumF r
theorem sumF_app : ∀ (l r : List Four), sumF (l ++ r) = sumF l + sumF r
  | [], r => by simp [sumF]
  | q :: l, r => by rw [List.cons_append, sumF, sumF_app l r, sumF]; omega
theorem sumF_some (q : Four) : sumF (someP q) = max 0 (q.c - q.a) * max 0 (q.d - q.b) := by
  unfold someP
  by_cases h : q.a < q.c ∧ q.b < q.d
  · rw [if_pos h, show max 0 (q.c - q.a) = q.c - q.a by omega, show max 0 (q.d - q.b) = q.d - q.b by omega]
    simp [sumF, areaF]
  · rw [if_neg h]
    rcases (by omega : max 0 (q.c - q.a) = 0 ∨ max 0 (q.d - q.b) = 0) with e | e
    · rw [e]; simp [sumF]
    · rw [e]; simp [sumF]
/-- what is cut off and what is in both is all of it -/
theorem cut_area {a b : Zone} (ha : ZB a) (hb : ZB b) : sumF (cutZ a b) + bothZ a b = ownA a := by
  unfold ZB at ha hb
  unfold cutZ bothZ ownA
  rw [sumF_app, sumF_app, sumF_app, sumF_some, sumF_some, sumF_some, sumF_some]
  simp only
  obtain ⟨l, hl⟩ : ∃ z, z = max 0 (min a.east b.west - a.west) := ⟨_, rfl⟩
  obtain ⟨m, hm⟩ : ∃ z, z = max 0 (min a.east b.east - max a.west b.west) := ⟨_, rfl⟩
  obtain ⟨r, hr⟩ : ∃ z, z = max 0 (a.east - max a.west b.east) := ⟨_, rfl⟩
  obtain ⟨u, hu⟩ : ∃ z, z = max 0 (min a.north b.south - a.south) := ⟨_, rfl⟩
  obtain ⟨v, hv⟩ : ∃ z, z = max 0 (min a.north b.north - max a.south b.south) := ⟨_, rfl⟩
  obtain ⟨t, ht⟩ : ∃ z, z = max 0 (a.north - max a.south b.north) := ⟨_, rfl⟩
  have e1 : max 0 (a.east - a.west) = l + m + r := by omega
  have e2 : a.east - a.west = l + m + r := by omega
  have e3 : a.north - a.south = u + v + t := by omega
  rw [e1, e2, e3, ← hl, ← hm, ← hr, ← hu, ← hv, ← ht]
  simp only [Int.add_mul, Int.mul_add]
  omega
def FB (q : Four) : Prop := 0 ≤ q.a ∧ q.a < q.c ∧ q.c ≤ 9999 ∧ 0 ≤ q.b ∧ q.b < q.d ∧ q.d ≤ 9999
theorem some_bd {q x : Four} (hx : x ∈ someP q) (h : 0 ≤ q.a ∧ q.c ≤ 9999 ∧ 0 ≤ q.b ∧ q.d ≤ 9999) : FB x := by
  unfold someP at hx
  split at hx
  · rename_i h2
    rw [List.mem_singleton.1 hx]
    unfold FB; omega
  · simp at hx
theorem cut_bd {a b : Zone} (ha : ZB a) (hb : ZB b) : ∀ q ∈ cutZ a b, FB q := fun q hq => by
  unfold ZB at ha hb
  unfold cutZ at hq
  simp only [List.mem_append] at hq
  rcases hq with ((hq | hq) | hq) | hq <;> exact some_bd hq (by simp only; omega)
theorem some_len (q : Four) : (someP q).length ≤ 1 := by unfold someP; split <;> simp
theorem cut_len (a b : Zone) : (cutZ a b).length ≤ 4 := by
  unfold cutZ
  simp only [List.length_append]
  have h1 := some_len ⟨a.west, a.south, a.east, min a.north b.south⟩
  have h2 := some_len ⟨a.west, max a.south b.north, a.east, a.north⟩
  have h3 := some_len ⟨a.west, max a.south b.south, min a.east b.west, min a.north b.north⟩
  have h4 := some_len ⟨max a.west b.east, max a.south b.south, a.east, min a.north b.north⟩
  omega
theorem areaF_bd {q : Four} (h : FB q) : 0 ≤ areaF q ∧ areaF q ≤ 100000000 := by
  unfold FB at h
  exact area_bd (fun _ _ => 0) h.1 (by omega) h.2.2.1 h.2.2.2.1 (by omega) h.2.2.2.2.2
theorem sumF_step {qs : List Four} {k : Nat} {q : Four} (h : qs[k]? = some q) : sumF (qs.take (k + 1)) = sumF (qs.take k) + areaF q := by
  rw [take_get h, sumF_app]; simp [sumF]
theorem sumF_bd : ∀ {qs : List Four}, (∀ q ∈ qs, FB q) → 0 ≤ sumF qs ∧ sumF qs ≤ 100000000 * (qs.length : Int)
  | [], _ => by simp [sumF]
  | q :: r, h => by
    have h1 := sumF_bd (qs := r) fun x hx => h x (List.mem_cons_of_mem _ hx)
    have h2 := areaF_bd (h q List.mem_cons_self)
    rw [sumF, List.length_cons, Int.natCast_add, Int.mul_add]
    simp only [Int.natCast_one, Int.mul_one]
    omega
theorem zb_of {z : Zone} (h : IsZon z) : ZB z := by unfold IsZon at h; unfold ZB; omega
def CutOk (a b : Zone) : Prop := IsZon a ∧ IsZon b
theorem pair_zons {a b : Zone} (h : CutOk a b) (h1 : a.id = 1) (h2 : b.id = 2) : Zons [a, b] := by
  refine ⟨⟨fun i x hx => ?_, fun i x y hx hy => ?_⟩, by simp⟩
  · match i, hx with
    | 0, hx => simp at hx; subst hx; exact h.1
    | 1, hx => simp at hx; subst hx; exact h.2
    | i + 2, hx => simp at hx
  · match i, hx, hy with
    | 0, hx, hy => simp at hx hy; subst hx hy; show a.id < b.id; omega
    | 1, hx, hy => simp at hy
    | i + 2, hx, hy => simp at hx
/-- what the law asks of a zone and another one -/
theorem pair_facts {a b : Zone} (h : CutOk a b) (h1 : a.id = 1) (h2 : b.id = 2) : OvOk [a, b] (atZ [a, b] a.id) (atZ [a, b] b.id) ∧ ovZ [a, b] (atZ [a, b] a.id) (atZ [a, b] b.id) = bothZ a b ∧ OvOk [a, b] (atZ [a, b] a.id) (atZ [a, b] a.id) ∧ ovZ [a, b] (atZ [a, b] a.id) (atZ [a, b] a.id) = ownA a := by
  have hz := pair_zons h h1 h2
  have e0 : atZ [a, b] a.id = ((0 : Nat) : Int) := atZ_at hz rfl
  have e1 : atZ [a, b] b.id = ((1 : Nat) : Int) := atZ_at hz rfl
  rw [e0, e1]
  refine ⟨⟨hz, by omega, by omega⟩, rfl, ⟨hz, by omega, by omega⟩, ?_⟩
  exact bothZ_self (zb_of h.1)
def wideZ (a b : Zone) : Int := min a.east b.east - max a.west b.west
def highZZ (a b : Zone) : Int := min a.north b.north - max a.south b.south
def Tch (a b : Zone) : Prop := (wideZ a b = 0 ∧ 0 < highZZ a b) ∨ (0 < wideZ a b ∧ highZZ a b = 0)
noncomputable def rowT (a : Zone) (bs : List Zone) : List Two := (bs.filter fun b => tb (Tch a b)).map fun b => ⟨a.id, b.id⟩
noncomputable def tchTo (zs : List Zone) : Nat → List Two
  | 0 => []
  | k + 1 => tchTo zs k ++ (match zs[k]? with | some z => rowT z (zs.drop (k + 1)) | none => [])
theorem tchTo_step {zs : List Zone} {k : Nat} {z : Zone} (h : zs[k]? = some z) : tchTo zs (k + 1) = tchTo zs k ++ rowT z (zs.drop (k + 1)) := by rw [tchTo, h]
theorem rowT_t {a b : Zone} {bs : List Zone} {j : Nat} (h : bs[j]? = some b) (q : Tch a b) : rowT a (bs.take (j + 1)) = rowT a (bs.take j) ++ [⟨a.id, b.id⟩] := by
  unfold rowT
  rw [take_get h, List.filter_append]
  simp [List.filter_cons, tb_t q]
theorem rowT_f {a b : Zone} {bs : List Zone} {j : Nat} (h : bs[j]? = some b) (q : ¬ Tch a b) : rowT a (bs.take (j + 1)) = rowT a (bs.take j) := by
  unfold rowT
  rw [take_get h, List.filter_append]
  simp [List.filter_cons, tb_f q]
theorem rowT_len (a : Zone) (bs : List Zone) : (rowT a bs).length ≤ bs.length := by
  unfold rowT; rw [List.length_map]; exact List.length_filter_le _ _
theorem tchTo_len (zs : List Zone) : ∀ k, (tchTo zs k).length ≤ k * zs.length
  | 0 => by simp [tchTo]
  | k + 1 => by
    have ih := tchTo_len zs k
    rw [tchTo, List.length_append, Nat.succ_mul]
    rcases h : zs[k]? with _ | z
    · simp; omega
    · have h2 := rowT_len z (zs.drop (k + 1))
      rw [List.length_drop] at h2
      simp only
      omega
theorem tch_mem (zs : List Zone) (p : Two) : ∀ n, p ∈ tchTo zs n → ∃ (i j : Nat) (x y : Zone), i < j ∧ zs[i]? = some x ∧ zs[j]? = some y ∧ p = ⟨x.id, y.id⟩ ∧ Tch x y
  | 0, h => by simp [tchTo] at h
  | n + 1, h => by
    rw [tchTo, List.mem_append] at h
    rcases h with h | h
    · exact tch_mem zs p n h
    · rcases hz : zs[n]? with _ | z
      · rw [hz] at h; simp at h
      · rw [hz] at h
        simp only at h
        unfold rowT at h
        obtain ⟨y, hy, rfl⟩ := List.mem_map.1 h
        obtain ⟨hy1, hy2⟩ := List.mem_filter.1 hy
        obtain ⟨j, hj⟩ := List.getElem?_of_mem hy1
        rw [List.getElem?_drop] at hj
        exact ⟨n, n + 1 + j, z, y, by omega, hz, hj, rfl, tb_true hy2⟩
/-- what the law asks of two zones that touch -/
theorem tch_facts {zs : List Zone} (h : Zons zs) {p : Two} (hp : p ∈ tchTo zs zs.length) : OvOk zs (atZ zs p.a) (atZ zs p.b) ∧ ovZ zs (atZ zs p.a) (atZ zs p.b) = 0 ∧ p.a < p.b := by
  obtain ⟨i, j, x, y, hij, hx, hy, rfl, ht⟩ := tch_mem zs p _ hp
  have e1 := atZ_at h hx
  have e2 := atZ_at h hy
  simp only
  rw [e1, e2]
  refine ⟨⟨h, by omega, by omega⟩, ?_, ?_⟩
  · unfold ovZ
    rw [show ((i : Int)).toNat = i from rfl, show ((j : Int)).toNat = j from rfl, hx, hy]
    unfold Tch wideZ highZZ at ht
    show bothZ x y = 0
    unfold bothZ
    rcases ht with ⟨q, _⟩ | ⟨_, q⟩
    · rw [q]; simp
    · rw [q]; simp
  · have hq : zs.Pairwise fun a b => a.id < b.id := pw_of_adjZ (R := fun a b : Zone => a.id < b.id) (fun a b c h k => Int.lt_trans h k) h.1.2
    obtain ⟨hi, ex⟩ := List.getElem?_eq_some_iff.1 hx
    obtain ⟨hj, ey⟩ := List.getElem?_eq_some_iff.1 hy
    have := List.pairwise_iff_getElem.1 hq i j hi hj hij
    rw [ex, ey] at this
    exact this
end Go.Proofs.Ytpjapemclbminaa
