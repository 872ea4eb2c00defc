/- Appending a whole slice of structs with an inner slice, the inner slices shared. -/
import Derived.Test.YtadcjfbcfiljkaaDoorNestOwn
namespace Go.Proofs.YtadcjfbcfiljkaaDoor
open Go.RowKit
set_option linter.unusedVariables false
set_option linter.unusedSimpArgs false

/-- what can be read, with its inner slices named -/
theorem Nl.nvs {w : World} {b o : Nat} {xs : List Nest} (h : Nl w (some ⟨b, o, none⟩) xs) : ∃ zs : List NV, zs.map NV.x = xs ∧ (∀ (i : Nat) (y : NV), zs[i]? = some y → NAt w b (o + i * 4) y.x y.A y.d) ∧ ∀ y ∈ zs, Fl one 1 w y.A y.x.l := by
  have hget : ∀ (i : Nat) (x : Nest), xs[i]? = some x → ∃ A d, NAt w b (o + i * 4) x A d ∧ Fl one 1 w A x.l := fun i x hx => h.get hx
  clear h
  induction xs generalizing o with
  | nil => exact ⟨[], rfl, fun i y hy => by simp at hy, fun y hy => by simp at hy⟩
  | cons x r ih =>
    obtain ⟨A, d, h1, h2⟩ := hget 0 x rfl
    obtain ⟨zs, h3, h4, h5⟩ := ih (o := o + 4) fun i y hy => by
      obtain ⟨A', d', h6, h7⟩ := hget (i + 1) y (by simpa using hy)
      exact ⟨A', d', by rw [show o + 4 + i * 4 = o + (i + 1) * 4 from by omega]; exact h6, h7⟩
    refine ⟨⟨x, A, d⟩ :: zs, by rw [List.map_cons, h3], fun i y hy => ?_, fun y hy => ?_⟩
    · rcases i with _ | i
      · simp only [List.getElem?_cons_zero, Option.some.injEq] at hy
        subst hy
        simpa using h1
      · simp only [List.getElem?_cons_succ] at hy
        have := h4 i y hy
        rwa [show o + 4 + i * 4 = o + (i + 1) * 4 from by omega] at this
    · rcases List.mem_cons.1 hy with rfl | hy
      · exact h2
      · exact h5 y hy
theorem rowV_len (ys : List NV) : (rowV ys).length = ys.length * 4 := by
  induction ys with
  | nil => rfl
  | cons y r ih => simp only [rowV, List.flatMap_cons, List.length_append, List.length_cons] at ih ⊢; rw [ih, NV.cells_length]; omega
theorem wp_append_nvs {P : Program} {o : Oper} {a : Act} {K : Act → World → Prop} {Q : Exit → Act → World → Prop} {e : TypeId} {w : World} (s x : Operand) (t : TypeId)
    (ho : o.op = .call { callee := .builtin .append, args := #[s, x], argTypes := #[t, t] })
    (lo : Nat) (i : TypeInfo) (z : Value) (bytes : Nat) (ht : P.underlying t = some (.slice e)) (hi : P.info? e = some i) (hz : i.zero = some z)
    (hsize : i.size = 4) (hby : i.bytes = bytes) (hzs : z.cells.size = 4)
    (v : Value) (ys : List NV) (hs : a.eval s = v) (hown : OwnV lo e w v ys) (b o' c : Nat) (zs : List NV) (hx : a.eval x = .slice (some ⟨b, o', none⟩) zs.length c)
    (hA : ∀ (j : Nat) (y : NV), zs[j]? = some y → NAt w b (o' + j * 4) y.x y.A y.d)
    (hlen : ys.length + zs.length ≤ 16777216) (hbl : bytes ≤ 4096) (hlo : lo ≤ w.heap.size)
    (h : ∀ v' w', OwnV lo e w' v' (ys ++ zs) → w.grownBy w' v.ownBlock → Below lo w w' → K (a.put o.dst v') w') : o.wp P a w K Q := by
  refine wp_append_own w s x t ho lo e i z 4 bytes ht hi hz hsize hby hzs (by decide) v ys.length (rowV ys) hs hown ⟨b, o', none⟩ zs.length c (rowV zs) hx (rowV_len zs) ?_ ?_ ?_ ?_ hlo ?_
  · intro j u hu
    have hj := lt_of_get hu
    rw [rowV_len] at hj
    have hd : j / 4 < zs.length := by omega
    have hy : zs[j / 4]? = some zs[j / 4] := List.getElem?_eq_getElem hd
    have hm : j % 4 < (zs[j / 4].cells).length := by rw [NV.cells_length]; omega
    have hr := rowV_get zs (j / 4) _ hy (j % 4) _ (List.getElem?_eq_getElem hm)
    rw [show j / 4 * 4 + j % 4 = j from by omega, hu] at hr
    injection hr with hr
    subst hr
    have hN := hA (j / 4) _ hy
    have hcs : ∀ q (hq : q < (zs[j / 4].cells).length), w.cell? ⟨b, o' + j / 4 * 4 + q, none⟩ = some ((zs[j / 4].cells)[q]) := fun q hq => by
      rw [NV.cells_length] at hq
      match q, hq with
      | 0, _ => exact hN.ca
      | 1, _ => exact hN.cb
      | 2, _ => exact hN.cc
      | 3, _ => exact hN.cl
    have := hcs _ hm
    rw [show (⟨b, o', none⟩ : Addr).add j = ⟨b, o' + j, none⟩ from by unfold Addr.add; split <;> simp_all]
    rwa [show o' + j / 4 * 4 + j % 4 = o' + j from by omega] at this
  · intro u hu
    obtain ⟨y, _, hy⟩ := List.mem_flatMap.1 hu
    simp only [NV.cells, List.mem_cons, List.not_mem_nil, or_false] at hy
    rcases hy with rfl | rfl | rfl | rfl <;> rfl
  · simp only [maxLen]; omega
  · calc (ys.length + zs.length) * bytes ≤ 16777216 * 4096 := Nat.mul_le_mul hlen hbl
      _ ≤ 140737488355328 := by decide
  · intro v' w' h1 h2 _
    refine h v' w' ?_ h2 ((Below.refl _ _).grown h2 hlo (fun k hk => (hown.ownBlock k hk).1))
    unfold OwnV
    rw [show rowV (ys ++ zs) = rowV ys ++ rowV zs from by simp [rowV], List.length_append]
    exact h1
theorem step_append_nvs {P : Program} {ops : Array Oper} {o : Oper} {a : Act} {K : Act → World → Prop} {Q : Exit → Act → World → Prop} {E : Prop} {e : TypeId} {w : World} (hgd : o.guard = none) (s x : Operand) (t : TypeId)
    (ho : o.op = .call { callee := .builtin .append, args := #[s, x], argTypes := #[t, t] })
    (lo : Nat) (i : TypeInfo) (z : Value) (bytes : Nat) (ht : P.underlying t = some (.slice e)) (hi : P.info? e = some i) (hz : i.zero = some z)
    (hsize : i.size = 4) (hby : i.bytes = bytes) (hzs : z.cells.size = 4)
    (v : Value) (ys : List NV) (hs : a.eval s = v) (hown : OwnV lo e w v ys) (b o' c : Nat) (zs : List NV) (hx : a.eval x = .slice (some ⟨b, o', none⟩) zs.length c)
    (hA : ∀ (j : Nat) (y : NV), zs[j]? = some y → NAt w b (o' + j * 4) y.x y.A y.d)
    (hlen : ys.length + zs.length ≤ 16777216) (hbl : bytes ≤ 4096) (hlo : lo ≤ w.heap.size)
    (h : ∀ v' w', OwnV lo e w' v' (ys ++ zs) → w.grownBy w' v.ownBlock → Below lo w w' → K (a.put o.dst v') w') : if Region.wanted o (yielded ops a.tmps) = true then Oper.wp P o a w K Q else E := by
  have hw : Region.wanted o (yielded ops a.tmps) = true := by simp [Region.wanted, hgd]
  rw [if_pos hw]
  exact wp_append_nvs s x t ho lo i z bytes ht hi hz hsize hby hzs v ys hs hown b o' c zs hx hA hlen hbl hlo h
end Go.Proofs.YtadcjfbcfiljkaaDoor
