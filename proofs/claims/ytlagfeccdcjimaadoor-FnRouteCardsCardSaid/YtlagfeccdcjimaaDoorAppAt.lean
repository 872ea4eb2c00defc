/- append onto a slice that the call owns: where the new slice lies. No Go text is spoken of here. -/
import Derived.Test.YtlagfeccdcjimaaDoorOwnSet
import Derived.Maps.AppendAt
namespace Go.Proofs.YtlagfeccdcjimaaDoor
open Go.RowKit
set_option linter.unusedVariables false
set_option linter.unusedSimpArgs false
theorem wp_append_all_at {P : Program} {α : Type} {f : α → List Int} {o : Oper} {a : Act} {K : Act → World → Prop} {Q : Exit → Act → World → Prop} {e : TypeId} {w : World} (s x : Operand) (t : TypeId)
    (ho : o.op = .call { callee := .builtin .append, args := #[s, x], argTypes := #[t, t] })
    (lo : Nat) (i : TypeInfo) (z : Value) (sz bytes : Nat) (ht : P.underlying t = some (.slice e)) (hi : P.info? e = some i) (hz : i.zero = some z)
    (hsize : i.size = sz) (hby : i.bytes = bytes) (hzs : z.cells.size = sz) (hsz : 0 < sz)
    (v : Value) (ys : List α) (hs : a.eval s = v) (hown : OwnF f sz lo e w v ys) (A : Option Addr) (c : Nat) (xs : List α) (hx : a.eval x = .slice A xs.length c) (hA : Fl f sz w A xs)
    (hls : ∀ y, (f y).length = sz) (hlen : ys.length + xs.length ≤ 16777216) (hbl : bytes ≤ 4096) (hlo : lo ≤ w.heap.size)
    (h : ∀ v' w', OwnF f sz lo e w' v' (ys ++ xs) → w.grownBy w' v.ownBlock → Below lo w w' → (v'.ownBlock = v.ownBlock ∨ v'.ownBlock = some w.heap.size) → K (a.put o.dst v') w') : o.wp P a w K Q := by
  have hrow : row f ys ++ row f xs = row f (ys ++ xs) := by simp [row]
  rcases A with _ | ad
  · have hn : xs = [] := by
      by_cases hne : xs = []
      · exact hne
      · obtain ⟨b, o', h1, _⟩ := hA hne
        cases h1
    subst hn
    have hrun := run_append_of_nil (P := P) lo t o.type e i sz ht hi v ys.length (row f ys) hown c
    unfold Oper.wp execOp
    simp only [List.length_nil] at hx
    simp only [ho, resolve, invoke, builtin, Sem.run_bind, Sem.run_pure, Result.andThen_ok, List.map_toArray, List.map_cons, List.map_nil, hs, hx, hrun]
    exact h v w (by rw [List.append_nil]; exact hown) (World.grownBy.refl w _) (Below.refl _ _) (.inl rfl)
  · obtain ⟨v', w', hr, h1, h2, h3, h4⟩ := run_append_own_at (P := P) w lo t o.type e i z sz bytes ht hi hz hsize hby hzs hsz v ys.length (row f ys) hown ad xs.length c (row f xs) (row_length hls xs) (fun j u hu => by
      have hne : xs ≠ [] := by rintro rfl; simp [row] at hu
      obtain ⟨b, o', h1, _⟩ := id (hA hne)
      injection h1 with h1
      subst h1
      exact hA.row hls j u hu) (fun u hu => by
      obtain ⟨y, _, hy⟩ := List.mem_flatMap.1 hu
      obtain ⟨q, _, rfl⟩ := List.mem_map.1 hy
      rfl) (by simp only [maxLen]; omega) (by
      calc (ys.length + xs.length) * bytes ≤ 16777216 * 4096 := Nat.mul_le_mul hlen hbl
        _ ≤ 140737488355328 := by decide) hlo
    unfold Oper.wp execOp
    simp only [ho, resolve, invoke, builtin, Sem.run_bind, Sem.run_pure, Result.andThen_ok, List.map_toArray, List.map_cons, List.map_nil, hs, hx, hr]
    refine h v' w' ?_ h2 ((Below.refl _ _).grown h2 hlo (fun k hk => (hown.ownBlock k hk).1)) h4
    unfold OwnF
    rw [← hrow, List.length_append]
    exact h1
theorem wpList_append_all_at {P : Program} {α : Type} {f : α → List Int} {ops : Array Oper} {rest : List Oper} {o : Oper} {a : Act} {Q : Exit → Act → World → Prop} {e : TypeId} {w : World} (hgd : o.guard = none) (s x : Operand) (t : TypeId)
    (ho : o.op = .call { callee := .builtin .append, args := #[s, x], argTypes := #[t, t] })
    (lo : Nat) (i : TypeInfo) (z : Value) (sz bytes : Nat) (ht : P.underlying t = some (.slice e)) (hi : P.info? e = some i) (hz : i.zero = some z)
    (hsize : i.size = sz) (hby : i.bytes = bytes) (hzs : z.cells.size = sz) (hsz : 0 < sz)
    (v : Value) (ys : List α) (hs : a.eval s = v) (hown : OwnF f sz lo e w v ys) (A : Option Addr) (c : Nat) (xs : List α) (hx : a.eval x = .slice A xs.length c) (hA : Fl f sz w A xs)
    (hls : ∀ y, (f y).length = sz) (hlen : ys.length + xs.length ≤ 16777216) (hbl : bytes ≤ 4096) (hlo : lo ≤ w.heap.size)
    (h : ∀ v' w', OwnF f sz lo e w' v' (ys ++ xs) → w.grownBy w' v.ownBlock → Below lo w w' → (v'.ownBlock = v.ownBlock ∨ v'.ownBlock = some w.heap.size) → wpList P ops Q rest (a.put o.dst v') w') : wpList P ops Q (o :: rest) a w :=
  wpList_plain hgd fun K hK => wp_append_all_at s x t ho lo i z sz bytes ht hi hz hsize hby hzs hsz v ys hs hown A c xs hx hA hls hlen hbl hlo fun v' w' h1 h2 h3 h4 => hK _ _ (h v' w' h1 h2 h3 h4)
theorem step_append_all_at {P : Program} {α : Type} {f : α → List Int} {ops : Array Oper} {o : Oper} {a : Act} {K : Act → World → Prop} {Q : Exit → Act → World → Prop} {E : Prop} {e : TypeId} {w : World} (hgd : o.guard = none) (s x : Operand) (t : TypeId)
    (ho : o.op = .call { callee := .builtin .append, args := #[s, x], argTypes := #[t, t] })
    (lo : Nat) (i : TypeInfo) (z : Value) (sz bytes : Nat) (ht : P.underlying t = some (.slice e)) (hi : P.info? e = some i) (hz : i.zero = some z)
    (hsize : i.size = sz) (hby : i.bytes = bytes) (hzs : z.cells.size = sz) (hsz : 0 < sz)
    (v : Value) (ys : List α) (hs : a.eval s = v) (hown : OwnF f sz lo e w v ys) (A : Option Addr) (c : Nat) (xs : List α) (hx : a.eval x = .slice A xs.length c) (hA : Fl f sz w A xs)
    (hls : ∀ y, (f y).length = sz) (hlen : ys.length + xs.length ≤ 16777216) (hbl : bytes ≤ 4096) (hlo : lo ≤ w.heap.size)
    (h : ∀ v' w', OwnF f sz lo e w' v' (ys ++ xs) → w.grownBy w' v.ownBlock → Below lo w w' → (v'.ownBlock = v.ownBlock ∨ v'.ownBlock = some w.heap.size) → K (a.put o.dst v') w') : if Region.wanted o (yielded ops a.tmps) = true then Oper.wp P o a w K Q else E := by
  have hw : Region.wanted o (yielded ops a.tmps) = true := by simp [Region.wanted, hgd]
  rw [if_pos hw]
  exact wp_append_all_at s x t ho lo i z sz bytes ht hi hz hsize hby hzs hsz v ys hs hown A c xs hx hA hls hlen hbl hlo h
/-- from the blocks to the addresses -/
theorem base_at {lo lo2 : Nat} {et et2 : TypeId} {w w' : World} {A B : Option Addr} {n d n' d' n1 d1 z : Nat} {l l' : List Int} (hB : OwnF one 1 lo et w' (.slice B n d) l) (hA : OwnF one 1 lo2 et2 w (.slice A n' d') l')
    (h : (Value.slice B n d).ownBlock = (Value.slice A n1 d1).ownBlock ∨ (Value.slice B n d).ownBlock = some z) : B = A ∨ ∀ q, B = some ⟨q, 0, none⟩ → z ≤ q := by
  rcases h with h | h
  · left
    rcases hB.base with h1 | ⟨g, h1, _, _⟩
    · rcases hA.base with h2 | ⟨g', h2, _, _⟩
      · rw [h1, h2]
      · rw [h1, h2] at h; simp [Value.ownBlock] at h
    · rcases hA.base with h2 | ⟨g', h2, _, _⟩
      · rw [h1, h2] at h; simp [Value.ownBlock] at h
      · rw [h1, h2] at h
        simp [Value.ownBlock] at h
        rw [h1, h2, h]
  · right
    intro q hq
    rw [hq] at h
    simp [Value.ownBlock] at h
    omega
/-- growth by new blocks, then by a row: as one growth -/
theorem grown_of_below {a b c : World} {r : Option Nat} (h : Below a.heap.size a b) (k : b.grownBy c r) : a.grownBy c r :=
  ⟨k.os.trans h.os, k.tape.trans h.tape, k.output.trans h.output, Nat.le_trans h.size k.size, fun i hi hn => (k.block i (Nat.lt_of_lt_of_le hi h.size) hn).trans (h.block i hi)⟩
/-- a literal of some integers, in a block of its own -/
theorem Fl.lit {e : TypeId} (w : World) (l : List Int) : Fl one 1 (w.alloc (.cells (l.map (Value.int .i64)).toArray e)) (some ⟨w.heap.size, 0, none⟩) l := fun _ => by
  refine ⟨w.heap.size, 0, rfl, by simp, fun i x hx j q hq => ?_⟩
  have hj : j = 0 := by have := lt_of_get hq; simp [one] at this; exact this
  subst hj
  simp only [one, List.getElem?_cons_zero, Option.some.injEq] at hq
  subst hq
  rw [World.cell?_alloc_new]
  simp [hx]
theorem Fl.lit_at {e : TypeId} {w : World} {m : Nat} (hm : w.heap.size = m) (l : List Int) : Fl one 1 (w.alloc (.cells (l.map (Value.int .i64)).toArray e)) (some ⟨m, 0, none⟩) l := hm ▸ Fl.lit w l
theorem Fl.kept {α : Type} {f : α → List Int} {sz N : Nat} {W w3 : World} {ob : Option Nat} {l : List α} (h : Fl f sz W (some ⟨N, 0, none⟩) l) (hg : W.grownBy w3 ob) (hne : some N ≠ ob) : Fl f sz w3 (some ⟨N, 0, none⟩) l := fun hn => by
  obtain ⟨b', o', h1, h2, h3⟩ := h hn
  injection h1 with h1
  injection h1 with e1 e2 _
  subst e1 e2
  exact ⟨N, 0, rfl, Nat.lt_of_lt_of_le h2 hg.size, fun i x hx j v hv => (World.cell?_of_block (w := W) (hg.block N h2 hne)).trans (h3 i x hx j v hv)⟩
theorem OwnF.kept {α : Type} {f : α → List Int} {sz lo : Nat} {e : TypeId} {W w3 : World} {ob : Option Nat} {v : Value} {l : List α} (h : OwnF f sz lo e W v l) (hg : W.grownBy w3 ob) (hne : v.ownBlock = none ∨ v.ownBlock ≠ ob) : OwnF f sz lo e w3 v l := World.ownsRow.kept (row := ob) h hg hne
theorem OwnF.ne_new {α : Type} {f : α → List Int} {sz lo N : Nat} {e : TypeId} {W : World} {v : Value} {l : List α} (h : OwnF f sz lo e W v l) (hN : W.heap.size ≤ N) : some N ≠ v.ownBlock := fun e' => by
  have := h.ownBlock N e'.symm
  omega
/-- two slices of the call's own in two blocks -/
def Apart (v u : Value) : Prop := v.ownBlock = none ∨ u.ownBlock = none ∨ v.ownBlock ≠ u.ownBlock
theorem Apart.symm {v u : Value} (h : Apart v u) : Apart u v := by
  rcases h with h | h | h
  · exact .inr (.inl h)
  · exact .inl h
  · exact .inr (.inr fun e => h e.symm)
theorem Apart.ne {v u : Value} (h : Apart v u) : v.ownBlock = none ∨ v.ownBlock ≠ u.ownBlock := by
  rcases h with h | h | h
  · exact .inl h
  · rcases hv : v.ownBlock with _ | q
    · exact .inl rfl
    · exact .inr (by rw [h]; simp)
  · exact .inr h
theorem Apart.new {v u v' : Value} {z lo sz : Nat} {α : Type} {f : α → List Int} {e : TypeId} {W : World} {l : List α} (h : Apart v u) (hat : v'.ownBlock = v.ownBlock ∨ v'.ownBlock = some z) (hu : OwnF f sz lo e W u l) (hz : W.heap.size ≤ z) : Apart v' u := by
  rcases hat with h1 | h1
  · unfold Apart
    rw [h1]
    exact h
  · exact .inr (.inr (by rw [h1]; exact hu.ne_new hz))
theorem Apart.none_ (u : Value) : Apart (.slice none 0 0) u := .inl rfl
end Go.Proofs.YtlagfeccdcjimaaDoor
