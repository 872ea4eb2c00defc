/- append onto a slice that the call owns: where the new slice lies. No Go text is spoken of here. -/
import Derived.Test.YtnpnggnoaodobaaOwnSet
import Derived.Maps.AppendAt
namespace Go.Proofs.Ytnpnggnoaodobaa
open Go.RowKit
set_option linter.unusedVariables false
set_option linter.unusedSimpArgs false
theorem wpList_append_all_at {P : Program} {α : Type} {f : α → List Int} {ops : Array Oper} {rest : List Oper} {o : Oper} {a : Act} {Q : Exit → Act → World → Prop} {e : TypeId} {w : World} (hgd : o.guard = none) (s x : Operand) (t : TypeId)
    (ho : o.op = .call { callee := .builtin .append, args := #[s, x], argTypes := #[t, t] })
    (lo : Nat) (i : TypeInfo) (z : Value) (sz bytes : Nat) (ht : P.underlying t = some (.slice e)) (hi : P.info? e = some i) (hz : i.zero = some z)
    (hsize : i.size = sz) (hby : i.bytes = bytes) (hzs : z.cells.size = sz) (hsz : 0 < sz)
    (v : Value) (ys : List α) (hs : a.eval s = v) (hown : OwnF f sz lo e w v ys) (A : Option Addr) (c : Nat) (xs : List α) (hx : a.eval x = .slice A xs.length c) (hA : Fl f sz w A xs)
    (hls : ∀ y, (f y).length = sz) (hlen : ys.length + xs.length ≤ 16777216) (hbl : bytes ≤ 4096) (hlo : lo ≤ w.heap.size)
    (h : ∀ v' w', OwnF f sz lo e w' v' (ys ++ xs) → w.grownBy w' v.ownBlock → Below lo w w' → (v'.ownBlock = v.ownBlock ∨ v'.ownBlock = some w.heap.size) → wpList P ops Q rest (a.put o.dst v') w') : wpList P ops Q (o :: rest) a w := by
  have hrow : row f ys ++ row f xs = row f (ys ++ xs) := by simp [row]
  rcases A with _ | ad
  · have hn : xs = [] := by
      by_cases hne : xs = []
      · exact hne
      · obtain ⟨b, o', h1, _⟩ := hA hne
        cases h1
    subst hn
    have hrun := run_append_of_nil (P := P) lo t o.type e i sz ht hi v ys.length (row f ys) hown c
    refine wpList_plain hgd fun K hK => ?_
    unfold Oper.wp execOp
    simp only [List.length_nil] at hx
    simp only [ho, resolve, invoke, builtin, Sem.run_bind, Sem.run_pure, Result.andThen_ok, List.map_toArray, List.map_cons, List.map_nil, hs, hx, hrun]
    exact hK _ _ (h v w (by rw [List.append_nil]; exact hown) (World.grownBy.refl w _) (Below.refl _ _) (.inl rfl))
  · refine wpList_append_own_at w hgd s x t ho lo e i z sz bytes ht hi hz hsize hby hzs hsz v ys.length (row f ys) hs hown ad xs.length c (row f xs) hx (row_length hls xs) ?_ ?_ ?_ ?_ hlo ?_
    · intro j u hu
      have hne : xs ≠ [] := by rintro rfl; simp [row] at hu
      obtain ⟨b, o', h1, _⟩ := id (hA hne)
      injection h1 with h1
      subst h1
      exact hA.row hls j u hu
    · intro u hu
      obtain ⟨y, _, hy⟩ := List.mem_flatMap.1 hu
      obtain ⟨q, _, rfl⟩ := List.mem_map.1 hy
      rfl
    · simp only [maxLen]; omega
    · calc (ys.length + xs.length) * bytes ≤ 16777216 * 4096 := Nat.mul_le_mul hlen hbl
        _ ≤ 140737488355328 := by decide
    · intro v' w' h1 h2 _ h4
      refine h v' w' ?_ h2 ((Below.refl _ _).grown h2 hlo (fun k hk => (hown.ownBlock k hk).1)) h4
      unfold OwnF
      rw [← hrow, List.length_append]
      exact h1
/-- from the blocks to the addresses -/
theorem base_at {lo lo2 : Nat} {et et2 : TypeId} {w w' : World} {A B : Option Addr} {n d n' d' n1 d1 z : Nat} {l l' : List Int} (hB : OwnF one 1 lo et w' (.slice B n d) l) (hA : OwnF one 1 lo2 et2 w (.slice A n' d') l')
    (h : (Value.slice B n d).ownBlock = (Value.slice A n1 d1).ownBlock ∨ (Value.slice B n d).ownBlock = some z) : B = A ∨ ∀ q, B = some ⟨q, 0, none⟩ → z ≤ q := by
  rcases h with h | h
  · left
    rcases hB.base with h1 | ⟨g, h1, _, _⟩
    · rcases hA.base with h2 | ⟨g', h2, _, _⟩
      · rw [h1, h2]
      · rw [h1, h2] at h; simp [Value.ownBlock] at h
    · rcases hA.base with h2 | ⟨g', h2, _, _⟩
      · rw [h1, h2] at h; simp [Value.ownBlock] at h
      · rw [h1, h2] at h
        simp [Value.ownBlock] at h
        rw [h1, h2, h]
  · right
    intro q hq
    rw [hq] at h
    simp [Value.ownBlock] at h
    omega
/-- growth by new blocks, then by a row: as one growth -/
theorem grown_of_below {a b c : World} {r : Option Nat} (h : Below a.heap.size a b) (k : b.grownBy c r) : a.grownBy c r :=
  ⟨k.os.trans h.os, k.tape.trans h.tape, k.output.trans h.output, Nat.le_trans h.size k.size, fun i hi hn => (k.block i (Nat.lt_of_lt_of_le hi h.size) hn).trans (h.block i hi)⟩
end Go.Proofs.Ytnpnggnoaodobaa
