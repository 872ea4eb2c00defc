/- slices.Compact over integers that the call itself has made and sorted. -/
import Derived.Test.YtadcjfbcfiljkaaSortI
import Derived.Test.YtadcjfbcfiljkaaPut
import Derived.Lib.SlicesCompact
import Derived.Lib.RowBridge
namespace Go.Proofs.Ytadcjfbcfiljkaa
open Go.RowKit
set_option linter.unusedVariables false
set_option linter.unusedSimpArgs false

theorem compUp (zs : List Int) (hs : zs.Pairwise fun x y => x ≤ y) : ∀ m, m ≤ zs.length → (∀ a, a ∈ Lib.compactUpTo zs.toArray m ↔ a ∈ zs.take m) ∧ Strict (Lib.compactUpTo zs.toArray m)
  | 0, _ => by
    have h : Lib.compactUpTo zs.toArray 0 = [] := rfl
    rw [h]
    exact ⟨fun a => by simp, List.Pairwise.nil⟩
  | m + 1, hm => by
    obtain ⟨h1, h2⟩ := compUp zs hs m (by omega)
    have hlt : m < zs.length := by omega
    have hx : zs[m]? = some zs[m] := List.getElem?_eq_getElem hlt
    have hd : zs.toArray[m]! = zs[m] := by simp [hlt]
    rw [Lib.compactUpTo_succ, hd, take_get hx]
    rw [List.pairwise_iff_getElem] at hs
    rcases Nat.eq_zero_or_pos m with h0 | hp
    · subst h0
      have h : Lib.compactUpTo zs.toArray 0 = [] := rfl
      rw [if_pos (Lib.keeps_lt_one _ 0 (by omega)), h]
      exact ⟨fun a => by simp, by simp [Strict]⟩
    · have hd1 : zs.toArray[m - 1]! = zs[m - 1] := by simp [show m - 1 < zs.length by omega]
      by_cases he : zs[m] = zs[m - 1]
      · rw [Lib.keeps_neg hp (by rw [hd, hd1]; exact he)]
        simp only [Bool.false_eq_true, if_false, List.append_nil]
        refine ⟨fun a => ?_, h2⟩
        rw [h1, List.mem_append, List.mem_singleton]
        constructor
        · exact .inl
        · rintro (h | h)
          · exact h
          · rw [h, he]
            exact List.mem_take_iff_getElem.2 ⟨m - 1, by omega, rfl⟩
      · rw [Lib.keeps_pos (by rw [hd, hd1]; exact he)]
        simp only [if_true]
        refine ⟨fun a => by rw [List.mem_append, List.mem_append, h1], ?_⟩
        unfold Strict at h2 ⊢
        rw [List.pairwise_append]
        refine ⟨h2, by simp, fun a ha b hb => ?_⟩
        rw [List.mem_singleton] at hb
        subst hb
        obtain ⟨i, hi, rfl⟩ := List.mem_take_iff_getElem.1 ((h1 a).1 ha)
        have h3 := hs (m - 1) m (by omega) hlt (by omega)
        have h4 : zs[i] ≤ zs[m - 1] := by
          by_cases e : i = m - 1
          · subst e; exact Int.le_refl _
          · exact hs i (m - 1) (by omega) (by omega) (by omega)
        omega
theorem compact_put (l : List Int) : Lib.compact (l.mergeSort leI) = putAll l := by
  have h := compUp (l.mergeSort leI) (sort_sorted l) _ (Nat.le_refl _)
  rw [take_all (Nat.le_refl _)] at h
  refine (putAll_of_strict h.2 fun a => ?_).symm
  rw [← (sort_perm l).mem_iff]
  exact h.1 a
theorem ownF_prefix {lo g n cap : Nat} {e : TypeId} {w : World} {xs ys : List Int} (h : OwnF one 1 lo e w (.slice (some ⟨g, 0, none⟩) n cap) (xs ++ ys)) : OwnF one 1 lo e w (.slice (some ⟨g, 0, none⟩) xs.length cap) xs := by
  rcases h.2 with ⟨hv, _⟩ | ⟨g', cap', cur, hv, hg, hh, hnc, hcm, hcs, htk⟩
  · cases hv
  · simp only [Value.slice.injEq, Option.some.injEq, Addr.mk.injEq, and_true] at hv
    obtain ⟨rfl, _, rfl⟩ := hv
    unfold OwnF
    rw [row_one] at htk ⊢
    refine ⟨by simp, .inr ⟨g, cap, cur, rfl, hg, hh, ?_, hcm, hcs, ?_⟩⟩
    · rw [List.length_append] at hnc; omega
    · have h1 := congrArg (List.take xs.length) htk
      rw [List.take_take, List.map_append, List.take_left' (by simp)] at h1
      rw [← h1]
      congr 1
      rw [List.length_append]
      omega
theorem compactOwn_any (lo : Nat) (v : Value) (zs : List Int) (w : World) (hn : zs.length ≤ 16777216) (hlo : lo ≤ w.heap.size) (h : OwnF one 1 lo 3 w v zs) :
    Calls Try.prog 41 #[v] w fun e w' => ∃ v', e = .returned v' ∧ OwnF one 1 lo 3 w' v' (Lib.compact zs) ∧ Below lo w w' := by
  rcases h.2 with ⟨rfl, h0⟩ | ⟨g, cap, cur, rfl, hg, hh, hnc, hcm, hcs, htk⟩
  · have hx : zs = [] := List.length_eq_zero_iff.1 h0
    subst hx
    refine (Try.slices_Compact_int_empty none 0 w).mono ?_
    rintro e w' ⟨rfl, rfl⟩
    exact ⟨_, rfl, OwnF.none_, Below.refl _ _⟩
  · have hgw : g < w.heap.size := (Array.getElem?_eq_some_iff.1 hh).1
    rw [row_one, Nat.mul_one] at htk
    refine (Try.slices_Compact_int g 0 cap zs w (holds_of_blockI hh htk) (by omega) hnc).mono ?_
    rintro e w' ⟨rfl, q, rfl⟩
    have hle := Lib.compact_length_le zs
    have hl : (Lib.compact zs ++ List.replicate (zs.length - (Lib.compact zs).length) 0).length = zs.length := by rw [List.length_append, List.length_replicate]; omega
    have ho := ownsRow_sortedI (w := w) (base := lo) (n := q) (os := #[]) hl hg hh hnc hcm (by omega)
    have hgr := grownBy_sortedI (w := w) (n := q) (os := #[]) (Lib.compact zs ++ List.replicate (zs.length - (Lib.compact zs).length) 0).toArray (g := g)
    rw [Sort.grow_empty] at ho hgr
    refine ⟨_, rfl, ?_, (Below.refl _ _).grown hgr hlo (fun k hk => by injection hk with hk; omega)⟩
    refine ownF_prefix (n := zs.length) (ys := List.replicate (zs.length - (Lib.compact zs).length) 0) ?_
    unfold OwnF
    rw [row_one, hl]
    exact ho
end Go.Proofs.Ytadcjfbcfiljkaa
