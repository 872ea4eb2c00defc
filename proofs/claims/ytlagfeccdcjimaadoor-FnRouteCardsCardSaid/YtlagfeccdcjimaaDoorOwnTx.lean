/- A slice of texts of the call's own. No condition. -/
import Derived.Test.YtlagfeccdcjimaaDoorBase
import Derived.Test.YtlagfeccdcjimaaDoorRtxD
import Derived.Test.YtlagfeccdcjimaaDoorBase2
namespace Go.Proofs.YtlagfeccdcjimaaDoor
open Go.RowKit
set_option linter.unusedVariables false
set_option linter.unusedSimpArgs false

/-- a slice of texts that the call itself has made -/
def OwnT (lo : Nat) (e : TypeId) (w : World) (v : Value) (ts : List ByteArray) : Prop := w.ownsRow lo e 1 v ts.length (ts.map Value.string)
theorem ownsRow_extT {w w' : World} {base : Nat} {e : TypeId} {size : Nat} {v : Value} {n : Nat} {xs : List Value} (h : w.ownsRow base e size v n xs) (hb : Below w.heap.size w w') : w'.ownsRow base e size v n xs :=
  World.ownsRow.kept (row := none) h ⟨hb.os, hb.tape, hb.output, hb.size, fun k hk _ => hb.block k hk⟩ (by
    rcases hv : v.ownBlock with _ | k
    · exact Or.inl rfl
    · exact Or.inr (by simp))
section
variable {lo : Nat} {e : TypeId} {w w' : World} {v : Value} {ts : List ByteArray}
theorem OwnT.none_ : OwnT lo e w (.slice none 0 0) [] := ⟨by simp, .inl ⟨rfl, rfl⟩⟩
theorem OwnT.ext (h : OwnT lo e w v ts) (hb : Below w.heap.size w w') : OwnT lo e w' v ts := ownsRow_extT h hb
theorem OwnT.form (h : OwnT lo e w v ts) (hne : ts ≠ []) : ∃ g cap, v = .slice (some ⟨g, 0, none⟩) ts.length cap ∧ g < w.heap.size ∧ ts.length ≤ cap ∧ ∀ (j : Nat) x, ts[j]? = some x → w.cell? ⟨g, 0 + j, none⟩ = some (.string x) := by
  obtain ⟨h1, h2⟩ := h
  rcases h2 with ⟨_, hn⟩ | ⟨b, cap, cur, rfl, hb, hh, hnc, hcm, hcs, htk⟩
  · exact absurd (List.length_eq_zero_iff.1 hn) hne
  · have hlt : b < w.heap.size := by
      rcases Nat.lt_or_ge b w.heap.size with hlt | hge
      · exact hlt
      · rw [Array.getElem?_eq_none hge] at hh; cases hh
    refine ⟨b, cap, rfl, hlt, hnc, fun j x hx => ?_⟩
    have hr : (ts.map Value.string)[j]? = some (.string x) := by rw [List.getElem?_map, hx]; rfl
    rw [cell_of_row w b _ cur e (0, 0) hh, Nat.zero_add]
    rw [← htk, List.getElem?_take] at hr
    split at hr
    · simpa using hr
    · cases hr
end
theorem infoStr : (Tryd.prog.info? 9).map (fun i => (i.zero, i.size, i.bytes)) = some (some (.string ⟨#[]⟩), 1, 16) := by kernel_rfl
/-- append of one text, which has just been laid in a block of its own -/
theorem wpList_append_str {P : Program} {ops : Array Oper} {rest : List Oper} {o : Oper} {a : Act} {Q : Exit → Act → World → Prop} {e : TypeId} {W : World} {y : ByteArray} (hgd : o.guard = none) (s x : Operand) (t : TypeId)
    (ho : o.op = .call { callee := .builtin .append, args := #[s, x], argTypes := #[t, t] })
    (lo : Nat) (i : TypeInfo) (z : Value) (bytes : Nat) (ht : P.underlying t = some (.slice e)) (hi : P.info? e = some i) (hz : i.zero = some z)
    (hsize : i.size = 1) (hby : i.bytes = bytes) (hzs : z.cells.size = 1)
    (v : Value) (ts : List ByteArray) (hs : a.eval s = v) (hx : a.eval x = .slice (some ⟨W.heap.size, 0, none⟩) 1 1) (hown : OwnT lo e W v ts)
    (hlen : ts.length ≤ 16777216) (hbl : bytes ≤ 4096) (hlo : lo ≤ W.heap.size)
    (h : ∀ v' w', OwnT lo e w' v' (ts ++ [y]) → Below lo W w' → wpList P ops Q rest (a.put o.dst v') w') :
    wpList P ops Q (o :: rest) a (W.alloc (.cells #[.string y] e)) := by
  refine wpList_append_own _ hgd s x t ho lo e i z 1 bytes ht hi hz hsize hby hzs (by decide) v ts.length (ts.map Value.string) hs (World.ownsRow.alloc hown _) ⟨W.heap.size, 0, none⟩ 1 1 [.string y] hx (by simp) ?_ ?_ ?_ ?_ (by simp; omega) ?_
  · intro j u hu
    rw [show (⟨W.heap.size, 0, none⟩ : Addr).add j = ⟨W.heap.size, j, none⟩ from by unfold Addr.add; split <;> simp_all]
    rw [World.cell?_alloc_new]
    simpa using hu
  · intro u hu
    rw [List.mem_singleton.1 hu]
    rfl
  · simp only [maxLen]; omega
  · calc (ts.length + 1) * bytes ≤ 16777217 * 4096 := Nat.mul_le_mul (by omega) hbl
      _ ≤ 140737488355328 := by decide
  · intro v' w' h1 h2 _
    refine h v' w' ?_ ?_
    · unfold OwnT
      rw [List.length_append, List.map_append]
      exact h1
    · have hb : Below lo W (W.alloc (.cells #[.string y] e)) := (Below.refl _ _).alloc hlo _
      exact hb.grown h2 (by simp; omega) (fun k hk => (World.ownsRow.lt hown k hk).1)
end Go.Proofs.YtlagfeccdcjimaaDoor
