/- Texts of routes: the words. No condition. -/
import Derived.Test.YtlagfeccdcjimaaDoorTxtD
import Derived.Test.YtlagfeccdcjimaaDoorErrOne
import Derived.Lib.Join
namespace Go.Proofs.YtlagfeccdcjimaaDoor
open Go.RowKit
set_option linter.unusedVariables false
set_option linter.unusedSimpArgs false

/-- texts joined by a blank -/
def joinS (ts : List ByteArray) : ByteArray := ⟨(Lib.join (ts.map (·.data.toList)) [32]).toArray⟩
theorem joinS_nil : joinS [] = ⟨#[]⟩ := rfl
theorem joinS_one (y : ByteArray) : joinS [y] = y := by
  unfold joinS
  rw [List.map_cons, List.map_nil, Lib.join_one]
theorem joinS_snoc (ts : List ByteArray) (y : ByteArray) (h : ts ≠ []) : joinS (ts ++ [y]) = joinS ts ++ ⟨#[32]⟩ ++ y := by
  obtain ⟨x, r, rfl⟩ : ∃ x r, ts = x :: r := by
    match ts, h with
    | x :: r, _ => exact ⟨x, r, rfl⟩
  unfold joinS
  apply ByteArray.ext
  rw [List.cons_append, List.map_cons, Lib.join_cons, List.map_cons, Lib.join_cons]
  simp [Lib.joinTail]
theorem joinS_size : ∀ (n : Nat) (ts : List ByteArray), ts.length = n → (∀ t ∈ ts, t.size ≤ 2100) → (joinS ts).size ≤ 2101 * n
  | 0, ts, hn, _ => by rw [List.length_eq_zero_iff.1 hn, joinS_nil]; exact Nat.zero_le _
  | n + 1, ts, hn, h => by
    have hne : ts ≠ [] := fun e => by rw [e] at hn; simp at hn
    obtain ⟨r, y, rfl⟩ : ∃ r y, ts = r ++ [y] := ⟨ts.dropLast, ts.getLast hne, (List.dropLast_concat_getLast hne).symm⟩
    have hy := h y (by simp)
    have hr : r.length = n := by simpa using hn
    by_cases e : r = []
    · subst e
      rw [List.nil_append, joinS_one]
      omega
    · have ih := joinS_size n r hr fun t ht => h t (by simp [ht])
      rw [joinS_snoc r y e, ByteArray.size_append, ByteArray.size_append]
      have e1 : ByteArray.size ⟨#[32]⟩ = 1 := rfl
      omega
def txts (xs : List Leg) : List ByteArray := xs.map legT
theorem txts_snoc (l : List Leg) (x : Leg) : txts (l ++ [x]) = txts l ++ [legT x] := by simp [txts]
theorem txts_len (l : List Leg) : (txts l).length = l.length := by simp [txts]
theorem txts_bd {l : List Leg} (h : ∀ x ∈ l, IsLeg x) : (joinS (txts l)).size ≤ 2101 * l.length := joinS_size l.length (txts l) (txts_len l) fun t ht => by
  obtain ⟨x, hx, rfl⟩ := List.mem_map.1 ht
  exact legT_size (h x hx)
def rtT (xs : List Leg) : ByteArray := if xs = [] then ⟨#[45]⟩ else joinS (txts xs)
theorem rtT_nil : rtT [] = ⟨#[45]⟩ := rfl
theorem rtT_cons {xs : List Leg} (h : xs ≠ []) : rtT xs = joinS (txts xs) := if_neg h
theorem rt_legsT {xs : List Leg} (h : Rt xs) : ∀ x ∈ xs, IsLeg x := fun x hx => by
  obtain ⟨i, hi⟩ := List.mem_iff_getElem?.1 hx
  exact h.1 i x hi
end Go.Proofs.YtlagfeccdcjimaaDoor
