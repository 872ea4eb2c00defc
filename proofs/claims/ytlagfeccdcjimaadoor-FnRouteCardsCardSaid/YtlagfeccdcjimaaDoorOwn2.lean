/- A slice of elements with p integers and one []int each that the call itself has made, inner slices too, and appends to. No Go text is spoken of here. -/
import Derived.Test.YtlagfeccdcjimaaDoorGen
namespace Go.Proofs.YtlagfeccdcjimaaDoor
open Go.RowKit
set_option linter.unusedVariables false
set_option linter.unusedSimpArgs false

structure GV (α : Type) where
  x : α
  A : Option Addr
  d : Nat
def GV.cells {α : Type} (hd tl : α → List Int) (y : GV α) : List Value := (hd y.x).map (Value.int .i64) ++ [.slice y.A (tl y.x).length y.d]
def rowG {α : Type} (hd tl : α → List Int) (ys : List (GV α)) : List Value := ys.flatMap (GV.cells hd tl)
structure OwnG {α : Type} (hd tl : α → List Int) (p lo : Nat) (e et : TypeId) (w : World) (v : Value) (ys : List (GV α)) : Prop where
  out : w.ownsRow lo e (p + 1) v ys.length (rowG hd tl ys)
  inn : ∀ (i : Nat) (y : GV α), ys[i]? = some y → OwnF one 1 lo et w (.slice y.A (tl y.x).length y.d) (tl y.x)
  inj : ∀ (i j : Nat) (y z : GV α), ys[i]? = some y → ys[j]? = some z → tl y.x ≠ [] → tl z.x ≠ [] → y.A = z.A → i = j
section
variable {α : Type} {hd tl : α → List Int} {p lo : Nat} {e et : TypeId} {w w' : World} {v : Value} {ys : List (GV α)}
theorem GV.cells_length (hp : ∀ x, (hd x).length = p) (y : GV α) : (y.cells hd tl).length = p + 1 := by simp [GV.cells, hp]
theorem rowG_snoc (y : GV α) : rowG hd tl (ys ++ [y]) = rowG hd tl ys ++ y.cells hd tl := by simp [rowG]
theorem rowG_get (hp : ∀ x, (hd x).length = p) : ∀ (ys : List (GV α)) (i : Nat) (y : GV α), ys[i]? = some y → ∀ j q, (y.cells hd tl)[j]? = some q → (rowG hd tl ys)[i * (p + 1) + j]? = some q
  | [], i, y, h, _, _, _ => by simp at h
  | z :: ys, 0, y, h, j, q, hj => by
    simp only [List.getElem?_cons_zero, Option.some.injEq] at h
    subst h
    have hl := lt_of_get hj
    simp only [rowG, List.flatMap_cons, Nat.zero_mul, Nat.zero_add]
    rw [List.getElem?_append_left hl]
    exact hj
  | z :: ys, i + 1, y, h, j, q, hj => by
    simp only [List.getElem?_cons_succ] at h
    have ih := rowG_get hp ys i y h j q hj
    simp only [rowG, List.flatMap_cons] at ih ⊢
    rw [List.getElem?_append_right (by rw [GV.cells_length hp, Nat.add_mul]; omega), ← ih, GV.cells_length hp]
    congr 1
    rw [Nat.add_mul]
    omega
theorem OwnG.none_ : OwnG hd tl p lo e et w (.slice none 0 0) ([] : List (GV α)) :=
  ⟨⟨by simp [rowG], .inl ⟨rfl, rfl⟩⟩, fun i y h => by simp at h, fun i j y z h => by simp at h⟩
theorem OwnG.empty (hlo : lo ≤ w.heap.size) : OwnG hd tl p lo e et (w.alloc (.cells #[] e)) (.slice (some ⟨w.heap.size, 0, none⟩) 0 0) ([] : List (GV α)) :=
  ⟨⟨by simp [rowG], .inr ⟨w.heap.size, 0, #[], rfl, hlo, heap_alloc_new w _, Nat.le_refl _, by simp [maxLen], by simp, by simp [rowG]⟩⟩, fun i y h => by simp at h, fun i j y z h => by simp at h⟩
theorem ownsRow_ext {base : Nat} {e : TypeId} {size : Nat} {v : Value} {n : Nat} {xs : List Value} (h : w.ownsRow base e size v n xs) (hb : Below w.heap.size w w') : w'.ownsRow base e size v n xs :=
  World.ownsRow.kept (row := none) h ⟨hb.os, hb.tape, hb.output, hb.size, fun k hk _ => hb.block k hk⟩ (by
    rcases hv : v.ownBlock with _ | k
    · exact Or.inl rfl
    · exact Or.inr (by simp))
theorem OwnG.ext (h : OwnG hd tl p lo e et w v ys) (hb : Below w.heap.size w w') : OwnG hd tl p lo e et w' v ys :=
  ⟨ownsRow_ext h.out hb, fun i y hy => (h.inn i y hy).ext hb, h.inj⟩
/-- the block of an owned slice, and its type -/
theorem OwnF.blk {β : Type} {f : β → List Int} {sz : Nat} {l : List β} (h : OwnF f sz lo e w v l) (hn : l ≠ []) : ∃ g cap cur, v = .slice (some ⟨g, 0, none⟩) l.length cap ∧ lo ≤ g ∧ w.heap[g]? = some (.cells cur e (0, 0)) ∧ g < w.heap.size := by
  rcases h.2 with ⟨_, h0⟩ | ⟨g, cap, cur, hv, hg, hh, _⟩
  · exact absurd (List.length_eq_zero_iff.1 h0) hn
  · refine ⟨g, cap, cur, hv, hg, hh, ?_⟩
    rcases Nat.lt_or_ge g w.heap.size with hlt | hge
    · exact hlt
    · rw [Array.getElem?_eq_none hge] at hh; cases hh
theorem OwnF.blk_ne {β : Type} {f : β → List Int} {sz : Nat} {l : List β} {v' : Value} {n size : Nat} {xs : List Value} (h : OwnF f sz lo et w v' l) (ho : w.ownsRow lo e size v n xs) (hee : e ≠ et) : v'.ownBlock = none ∨ v'.ownBlock ≠ v.ownBlock := by
  rcases h.2 with ⟨hv, _⟩ | ⟨g, cap, cur, hv, hg, hh, _⟩
  · left; rw [hv]; rfl
  · right
    rw [hv]
    rcases ho.2 with ⟨hv', _⟩ | ⟨g', cap', cur', hv', hg', hh', _⟩
    · rw [hv']; simp [Value.ownBlock]
    · rw [hv']
      intro he
      simp only [Value.ownBlock, Option.some.injEq] at he
      rw [← he, hh] at hh'
      injection hh' with hh'
      injection hh' with _ h2
      exact hee h2.symm
theorem OwnG.form (h : OwnG hd tl p lo e et w v ys) (hp : ∀ x, (hd x).length = p) (hee : e ≠ et) : ∃ A c, v = .slice A (ys.map GV.x).length c ∧ GlO hd tl p lo w.heap.size w A (ys.map GV.x) := by
  obtain ⟨h1, h2⟩ := h.out
  rw [List.length_map]
  rcases h2 with ⟨rfl, hn⟩ | ⟨b, cap, cur, rfl, hb, hh, hnc, hcm, hcs, htk⟩
  · refine ⟨none, 0, by rw [hn], fun hne => absurd (by rw [List.length_eq_zero_iff.1 hn]; rfl) hne⟩
  · refine ⟨_, _, rfl, fun _ => ?_⟩
    have hlt : b < w.heap.size := by
      rcases Nat.lt_or_ge b w.heap.size with hlt | hge
      · exact hlt
      · rw [Array.getElem?_eq_none hge] at hh; cases hh
    have hmap : ∀ {i : Nat} {x : α}, (ys.map GV.x)[i]? = some x → ∃ y, ys[i]? = some y ∧ y.x = x := fun {i x} hx => by
      rw [List.getElem?_map] at hx
      rcases hy : ys[i]? with _ | y
      · rw [hy] at hx; cases hx
      · rw [hy] at hx; cases hx; exact ⟨y, rfl, rfl⟩
    let g : Nat → Nat := fun i => match ys[i]? with | none => 0 | some y => match y.A with | none => 0 | some a => a.block
    let S : Nat → Option Addr := fun i => match ys[i]? with | none => none | some y => y.A
    let D : Nat → Nat := fun i => match ys[i]? with | none => 0 | some y => y.d
    have hS : ∀ {i : Nat} {y : GV α}, ys[i]? = some y → S i = y.A ∧ D i = y.d := fun hy => by simp [S, D, hy]
    have hG : ∀ {i : Nat} {y : GV α}, ys[i]? = some y → tl y.x ≠ [] → y.A = some ⟨g i, 0, none⟩ ∧ lo ≤ g i ∧ g i < w.heap.size ∧ g i ≠ b := fun {i y} hy hl => by
      obtain ⟨q, cap', cur', hv', hq1, hq2, hq3⟩ := (h.inn i y hy).blk hl
      injection hv' with hA _ _
      have hgi : g i = q := by simp only [g, hy, hA]
      rw [hgi]
      refine ⟨hA, hq1, hq3, fun e' => ?_⟩
      rw [e', hh] at hq2
      injection hq2 with hq2
      injection hq2 with _ h2
      exact hee h2
    refine ⟨b, 0, g, S, D, rfl, hlt, hb, hlt, fun j => by simp [World.frozen?, hh], fun i x hx => ?_, fun i x hx => ?_, fun i x hx hl => ?_, fun i j x z hx hz hl hl' hg => ?_⟩
    · obtain ⟨y, hy, rfl⟩ := hmap hx
      have hc : ∀ j q, (y.cells hd tl)[j]? = some q → w.cell? ⟨b, i * (p + 1) + j, none⟩ = some q := fun j q hq => by
        have hr := rowG_get hp ys i y hy j q hq
        rw [cell_of_row w b _ cur e (0, 0) hh]
        rw [← htk, List.getElem?_take] at hr
        split at hr
        · simpa using hr
        · cases hr
      rw [Nat.zero_add, (hS hy).1, (hS hy).2]
      refine ⟨fun j q hq => hc j _ ?_, hc p _ ?_⟩
      · rw [GV.cells, List.getElem?_append_left (by rw [List.length_map]; exact lt_of_get hq), List.getElem?_map, hq]; rfl
      · rw [GV.cells, List.getElem?_append_right (by simp [hp])]; simp [hp]
    · obtain ⟨y, hy, rfl⟩ := hmap hx
      rw [(hS hy).1]
      intro hl
      obtain ⟨hA, _⟩ := hG hy hl
      obtain ⟨B, c', hv', hF⟩ := (h.inn i y hy).form one_length
      injection hv' with hAB _ _
      rw [← hAB, hA] at hF
      rw [hA]
      exact hF.one_block.1 hl
    · obtain ⟨y, hy, rfl⟩ := hmap hx
      have := hG hy hl
      exact ⟨this.2.1, this.2.2.1, this.2.2.2⟩
    · obtain ⟨y, hy, rfl⟩ := hmap hx
      obtain ⟨y', hy', rfl⟩ := hmap hz
      refine h.inj i j y y' hy hy' hl hl' ?_
      rw [(hG hy hl).1, (hG hy' hl').1, hg]
theorem OwnG.from_ {lo' : Nat} (h : OwnG hd tl p lo e et w v ys) (hl : lo' ≤ lo) : OwnG hd tl p lo' e et w v ys := by
  refine ⟨⟨h.out.1, ?_⟩, fun i y hy => (h.inn i y hy).from_ hl, h.inj⟩
  rcases h.out.2 with h2 | ⟨g, cap, cur, hv, hg, r⟩
  · exact .inl h2
  · exact .inr ⟨g, cap, cur, hv, Nat.le_trans hl hg, r⟩
theorem OwnG.caps (h : OwnG hd tl p lo e et w v ys) : ∃ A c, v = .slice A ys.length c ∧ ys.length ≤ c ∧ c ≤ 9223372036854775807 := by
  rcases h.out.2 with ⟨rfl, hn⟩ | ⟨g, cap, cur, rfl, _, _, hnc, hcm, _⟩
  · exact ⟨none, 0, by rw [hn], by omega, by omega⟩
  · exact ⟨_, cap, rfl, hnc, by simp only [maxLen] at hcm; omega⟩
theorem OwnG.full (h : OwnG hd tl p lo e et w v ys) (hp : ∀ x, (hd x).length = p) (hee : e ≠ et) : ∃ A c, v = .slice A (ys.map GV.x).length c ∧ (ys.map GV.x).length ≤ c ∧ c ≤ 9223372036854775807 ∧ GlO hd tl p lo w.heap.size w A (ys.map GV.x) := by
  obtain ⟨A, c, h1, h2⟩ := h.form hp hee
  obtain ⟨A', c', h3, h4, h5⟩ := h.caps
  rw [h1] at h3
  injection h3 with e1 e2 e3
  subst e3
  exact ⟨A, c, h1, by rw [List.length_map]; exact h4, h5, h2⟩
theorem OwnG.fresh3 {lo' n d : Nat} {B : Option Addr} {l : List Int} {w3 : World} (h : OwnG hd tl p lo e et w v ys) (hF : OwnF one 1 lo' et w3 (.slice B n d) l) (hB : w3.heap.size ≤ lo) : l ≠ [] → ∀ z ∈ ys, tl z.x ≠ [] → z.A ≠ B := fun hl z hz hzl hA => by
  obtain ⟨i, hi⟩ := List.mem_iff_getElem?.1 hz
  obtain ⟨q, cap, cur, hv, hq, _, _⟩ := (h.inn i z hi).blk hzl
  obtain ⟨g, cap', cur', hv', _, _, hg⟩ := hF.blk hl
  injection hv with hv _ _
  injection hv' with hv' _ _
  rw [hA, hv'] at hv
  injection hv with hv
  injection hv with hv _ _
  omega
theorem OwnG.ownBlock (h : OwnG hd tl p lo e et w v ys) : ∀ k, v.ownBlock = some k → lo ≤ k ∧ k < w.heap.size := World.ownsRow.lt h.out
/-- one element more, by whatever way the outer slice has grown -/
theorem OwnG.push {y : GV α} {v' : Value} {W : World} (h : OwnG hd tl p lo e et W v ys) (hee : e ≠ et) (hy : OwnF one 1 lo et W (.slice y.A (tl y.x).length y.d) (tl y.x))
    (hf : tl y.x ≠ [] → ∀ z ∈ ys, tl z.x ≠ [] → z.A ≠ y.A) (ho : w'.ownsRow lo e (p + 1) v' (ys ++ [y]).length (rowG hd tl (ys ++ [y]))) (hg : W.grownBy w' v.ownBlock) : OwnG hd tl p lo e et w' v' (ys ++ [y]) := by
  have hin : ∀ (i : Nat) (z : GV α), (ys ++ [y])[i]? = some z → OwnF one 1 lo et W (.slice z.A (tl z.x).length z.d) (tl z.x) := fun i z hz => by
    rcases Nat.lt_or_ge i ys.length with hi | hi
    · rw [List.getElem?_append_left hi] at hz
      exact h.inn i z hz
    · rw [List.getElem?_append_right hi] at hz
      have h0 := lt_of_get hz
      simp at h0
      rw [h0] at hz
      simp at hz
      subst hz
      exact hy
  refine ⟨ho, fun i z hz => ?_, fun i j z z' hz hz' hl hl' hA => ?_⟩
  · have h1 := hin i z hz
    exact World.ownsRow.kept (row := v.ownBlock) h1 hg (h1.blk_ne h.out hee)
  · rcases Nat.lt_or_ge i ys.length with hi | hi
    · rw [List.getElem?_append_left hi] at hz
      rcases Nat.lt_or_ge j ys.length with hj | hj
      · rw [List.getElem?_append_left hj] at hz'
        exact h.inj i j z z' hz hz' hl hl' hA
      · rw [List.getElem?_append_right hj] at hz'
        have h0 := lt_of_get hz'
        simp at h0
        rw [h0] at hz'
        simp at hz'
        subst hz'
        exact absurd hA (hf hl' z (List.mem_of_getElem? hz) hl)
    · rw [List.getElem?_append_right hi] at hz
      have h0 := lt_of_get hz
      simp at h0
      rw [h0] at hz
      simp at hz
      subst hz
      rcases Nat.lt_or_ge j ys.length with hj | hj
      · rw [List.getElem?_append_left hj] at hz'
        exact absurd hA.symm (hf hl z' (List.mem_of_getElem? hz') hl')
      · have h1 := lt_of_get hz'
        simp at h1
        omega
/-- what is new lies apart from what stood -/
theorem OwnG.fresh {B : Nat} (h : OwnG hd tl p lo e et w v ys) (hB : w.heap.size ≤ B) : ∀ z ∈ ys, tl z.x ≠ [] → z.A ≠ some ⟨B, 0, none⟩ := fun z hz hl hA => by
  obtain ⟨i, hi⟩ := List.mem_iff_getElem?.1 hz
  obtain ⟨q, cap, cur, hv, _, _, hq⟩ := (h.inn i z hi).blk hl
  injection hv with hv _ _
  rw [hA] at hv
  injection hv with hv
  injection hv with hv _ _
  omega
theorem OwnG.fresh2 {lo' n d : Nat} {B : Option Addr} {l : List Int} (h : OwnG hd tl p lo e et w v ys) (hF : OwnF one 1 lo' et w' (.slice B n d) l) (hB : w.heap.size ≤ lo') : l ≠ [] → ∀ z ∈ ys, tl z.x ≠ [] → z.A ≠ B := fun hl z hz hzl hA => by
  obtain ⟨i, hi⟩ := List.mem_iff_getElem?.1 hz
  obtain ⟨q, cap, cur, hv, _, _, hq⟩ := (h.inn i z hi).blk hzl
  obtain ⟨g, cap', cur', hv', hg, _, _⟩ := hF.blk hl
  injection hv with hv _ _
  injection hv' with hv' _ _
  rw [hA, hv'] at hv
  injection hv with hv
  injection hv with hv _ _
  omega
end
/-- append of one element, which has just been laid in a block of its own -/
theorem wpList_append_g {P : Program} {α : Type} {hd tl : α → List Int} {ops : Array Oper} {rest : List Oper} {o : Oper} {a : Act} {Q : Exit → Act → World → Prop} {e et : TypeId} {W : World} {y : GV α} (hgd : o.guard = none) (s x : Operand) (t : TypeId)
    (ho : o.op = .call { callee := .builtin .append, args := #[s, x], argTypes := #[t, t] })
    (lo p : Nat) (i : TypeInfo) (z : Value) (bytes : Nat) (ht : P.underlying t = some (.slice e)) (hi : P.info? e = some i) (hz : i.zero = some z)
    (hsize : i.size = p + 1) (hby : i.bytes = bytes) (hzs : z.cells.size = p + 1) (hp : ∀ x, (hd x).length = p)
    (v : Value) (ys : List (GV α)) (hs : a.eval s = v) (hx : a.eval x = .slice (some ⟨W.heap.size, 0, none⟩) 1 1) (hown : OwnG hd tl p lo e et W v ys) (hee : e ≠ et)
    (hy : OwnF one 1 lo et W (.slice y.A (tl y.x).length y.d) (tl y.x)) (hf : tl y.x ≠ [] → ∀ z ∈ ys, tl z.x ≠ [] → z.A ≠ y.A)
    (hlen : ys.length ≤ 16777216) (hbl : bytes ≤ 4096) (hlo : lo ≤ W.heap.size)
    (h : ∀ v' w', OwnG hd tl p lo e et w' v' (ys ++ [y]) → (W.alloc (.cells (y.cells hd tl).toArray e)).grownBy w' v.ownBlock → Below lo W w' → wpList P ops Q rest (a.put o.dst v') w') :
    wpList P ops Q (o :: rest) a (W.alloc (.cells (y.cells hd tl).toArray e)) := by
  refine wpList_append_own _ hgd s x t ho lo e i z (p + 1) bytes ht hi hz hsize hby hzs (by omega) v ys.length (rowG hd tl ys) hs (World.ownsRow.alloc hown.out _) ⟨W.heap.size, 0, none⟩ 1 1 (y.cells hd tl) hx (by rw [GV.cells_length hp, Nat.one_mul]) ?_ ?_ ?_ ?_ (by simp; omega) ?_
  · intro j u hu
    rw [show (⟨W.heap.size, 0, none⟩ : Addr).add j = ⟨W.heap.size, j, none⟩ from by unfold Addr.add; split <;> simp_all]
    rw [World.cell?_alloc_new]
    simpa using hu
  · intro u hu
    simp only [GV.cells, List.mem_append, List.mem_map, List.mem_cons, List.not_mem_nil, or_false] at hu
    rcases hu with ⟨q, _, rfl⟩ | rfl <;> rfl
  · simp only [maxLen]; omega
  · calc (ys.length + 1) * bytes ≤ 16777217 * 4096 := Nat.mul_le_mul (by omega) hbl
      _ ≤ 140737488355328 := by decide
  · intro v' w' h1 h2 _
    have hb : Below lo W (W.alloc (.cells (y.cells hd tl).toArray e)) := (Below.refl _ _).alloc hlo _
    refine h v' w' ?_ h2 (hb.grown h2 (by simp; omega) (fun k hk => (hown.ownBlock k hk).1))
    refine (hown.ext (ext_alloc W _)).push hee (hy.ext (ext_alloc W _)) hf ?_ h2
    rw [rowG_snoc, List.length_append]
    exact h1
theorem cls_alloc {W w : World} {R : Prop} (h : Below W.heap.size W w ∧ R) (o : Obj) : Below W.heap.size W (w.alloc o) ∧ ∀ b j, b < W.heap.size → (w.alloc o).cell? ⟨b, j, none⟩ = W.cell? ⟨b, j, none⟩ := cls_grow h (below_new h.1.size o)
/-- append of one element, whose cells lie somewhere: a step of a region -/
theorem wp_append_g {P : Program} {α : Type} {hd tl : α → List Int} {o : Oper} {a : Act} {K : Act → World → Prop} {Q : Exit → Act → World → Prop} {e et : TypeId} {W : World} {y : GV α} (s x : Operand) (t : TypeId)
    (ho : o.op = .call { callee := .builtin .append, args := #[s, x], argTypes := #[t, t] })
    (lo p : Nat) (i : TypeInfo) (z : Value) (bytes : Nat) (ht : P.underlying t = some (.slice e)) (hi : P.info? e = some i) (hz : i.zero = some z)
    (hsize : i.size = p + 1) (hby : i.bytes = bytes) (hzs : z.cells.size = p + 1) (hp : ∀ x, (hd x).length = p)
    (v : Value) (ys : List (GV α)) (bb : Nat) (hs : a.eval s = v) (hx : a.eval x = .slice (some ⟨bb, 0, none⟩) 1 1) (hc : ∀ j u, (y.cells hd tl)[j]? = some u → W.cell? ⟨bb, j, none⟩ = some u) (hown : OwnG hd tl p lo e et W v ys) (hee : e ≠ et)
    (hy : OwnF one 1 lo et W (.slice y.A (tl y.x).length y.d) (tl y.x)) (hf : tl y.x ≠ [] → ∀ z ∈ ys, tl z.x ≠ [] → z.A ≠ y.A)
    (hlen : ys.length ≤ 16777216) (hbl : bytes ≤ 4096) (hlo : lo ≤ W.heap.size)
    (h : ∀ v' w', OwnG hd tl p lo e et w' v' (ys ++ [y]) → W.grownBy w' v.ownBlock → Below lo W w' → K (a.put o.dst v') w') : o.wp P a W K Q := by
  refine wp_append_own W s x t ho lo e i z (p + 1) bytes ht hi hz hsize hby hzs (by omega) v ys.length (rowG hd tl ys) hs hown.out ⟨bb, 0, none⟩ 1 1 (y.cells hd tl) hx (by rw [GV.cells_length hp, Nat.one_mul]) ?_ ?_ ?_ ?_ hlo ?_
  · intro j u hu
    rw [show (⟨bb, 0, none⟩ : Addr).add j = ⟨bb, j, none⟩ from by unfold Addr.add; split <;> simp_all]
    exact hc j u hu
  · intro u hu
    simp only [GV.cells, List.mem_append, List.mem_map, List.mem_cons, List.not_mem_nil, or_false] at hu
    rcases hu with ⟨q, _, rfl⟩ | rfl <;> rfl
  · simp only [maxLen]; omega
  · calc (ys.length + 1) * bytes ≤ 16777217 * 4096 := Nat.mul_le_mul (by omega) hbl
      _ ≤ 140737488355328 := by decide
  · intro v' w' h1 h2 _
    refine h v' w' ?_ h2 ((Below.refl _ _).grown h2 hlo (fun k hk => (hown.ownBlock k hk).1))
    refine hown.push hee hy hf ?_ h2
    rw [rowG_snoc, List.length_append]
    exact h1
theorem step_append_g {P : Program} {α : Type} {hd tl : α → List Int} {ops : Array Oper} {o : Oper} {a : Act} {K : Act → World → Prop} {Q : Exit → Act → World → Prop} {E : Prop} {e et : TypeId} {W : World} {y : GV α} (hgd : o.guard = none) (s x : Operand) (t : TypeId)
    (ho : o.op = .call { callee := .builtin .append, args := #[s, x], argTypes := #[t, t] })
    (lo p : Nat) (i : TypeInfo) (z : Value) (bytes : Nat) (ht : P.underlying t = some (.slice e)) (hi : P.info? e = some i) (hz : i.zero = some z)
    (hsize : i.size = p + 1) (hby : i.bytes = bytes) (hzs : z.cells.size = p + 1) (hp : ∀ x, (hd x).length = p)
    (v : Value) (ys : List (GV α)) (bb : Nat) (hs : a.eval s = v) (hx : a.eval x = .slice (some ⟨bb, 0, none⟩) 1 1) (hc : ∀ j u, (y.cells hd tl)[j]? = some u → W.cell? ⟨bb, j, none⟩ = some u) (hown : OwnG hd tl p lo e et W v ys) (hee : e ≠ et)
    (hy : OwnF one 1 lo et W (.slice y.A (tl y.x).length y.d) (tl y.x)) (hf : tl y.x ≠ [] → ∀ z ∈ ys, tl z.x ≠ [] → z.A ≠ y.A)
    (hlen : ys.length ≤ 16777216) (hbl : bytes ≤ 4096) (hlo : lo ≤ W.heap.size)
    (h : ∀ v' w', OwnG hd tl p lo e et w' v' (ys ++ [y]) → W.grownBy w' v.ownBlock → Below lo W w' → K (a.put o.dst v') w') : if Region.wanted o (yielded ops a.tmps) = true then Oper.wp P o a W K Q else E := by
  have hw : Region.wanted o (yielded ops a.tmps) = true := by simp [Region.wanted, hgd]
  rw [if_pos hw]
  exact wp_append_g s x t ho lo p i z bytes ht hi hz hsize hby hzs hp v ys bb hs hx hc hown hee hy hf hlen hbl hlo h
/-- append of one element, whose cells lie somewhere: a step of a region -/
theorem wp_append_g3 {P : Program} {α : Type} {hd tl : α → List Int} {o : Oper} {a : Act} {K : Act → World → Prop} {Q : Exit → Act → World → Prop} {e et : TypeId} {W : World} {y : GV α} (s x : Operand) (t : TypeId)
    (ho : o.op = .call { callee := .builtin .append, args := #[s, x], argTypes := #[t, t] })
    (lo p : Nat) (i : TypeInfo) (z : Value) (bytes : Nat) (ht : P.underlying t = some (.slice e)) (hi : P.info? e = some i) (hz : i.zero = some z)
    (hsize : i.size = p + 1) (hby : i.bytes = bytes) (hzs : z.cells.size = p + 1) (hp : ∀ x, (hd x).length = p)
    (v : Value) (ys : List (GV α)) (bb : Nat) (hs : a.eval s = v) (hx : a.eval x = .slice (some ⟨bb, 0, none⟩) 1 1) (hc : ∀ j u, (y.cells hd tl)[j]? = some u → W.cell? ⟨bb, j, none⟩ = some u) (hown : OwnG hd tl p lo e et W v ys) (hee : e ≠ et)
    (hy : OwnF one 1 lo et W (.slice y.A (tl y.x).length y.d) (tl y.x)) (hf : tl y.x ≠ [] → ∀ z ∈ ys, tl z.x ≠ [] → z.A ≠ y.A)
    (hlen : ys.length ≤ 16777216) (hbl : bytes ≤ 4096) (hlo : lo ≤ W.heap.size) (lo3 : Nat) (hlo3 : lo3 ≤ W.heap.size) (hob : ∀ k, v.ownBlock = some k → lo3 ≤ k)
    (h : ∀ v' w', OwnG hd tl p lo e et w' v' (ys ++ [y]) → W.grownBy w' v.ownBlock → Below lo3 W w' → K (a.put o.dst v') w') : o.wp P a W K Q := by
  refine wp_append_own W s x t ho lo e i z (p + 1) bytes ht hi hz hsize hby hzs (by omega) v ys.length (rowG hd tl ys) hs hown.out ⟨bb, 0, none⟩ 1 1 (y.cells hd tl) hx (by rw [GV.cells_length hp, Nat.one_mul]) ?_ ?_ ?_ ?_ hlo ?_
  · intro j u hu
    rw [show (⟨bb, 0, none⟩ : Addr).add j = ⟨bb, j, none⟩ from by unfold Addr.add; split <;> simp_all]
    exact hc j u hu
  · intro u hu
    simp only [GV.cells, List.mem_append, List.mem_map, List.mem_cons, List.not_mem_nil, or_false] at hu
    rcases hu with ⟨q, _, rfl⟩ | rfl <;> rfl
  · simp only [maxLen]; omega
  · calc (ys.length + 1) * bytes ≤ 16777217 * 4096 := Nat.mul_le_mul (by omega) hbl
      _ ≤ 140737488355328 := by decide
  · intro v' w' h1 h2 _
    refine h v' w' ?_ h2 ((Below.refl _ _).grown h2 hlo3 hob)
    refine hown.push hee hy hf ?_ h2
    rw [rowG_snoc, List.length_append]
    exact h1
theorem step_append_g3 {P : Program} {α : Type} {hd tl : α → List Int} {ops : Array Oper} {o : Oper} {a : Act} {K : Act → World → Prop} {Q : Exit → Act → World → Prop} {E : Prop} {e et : TypeId} {W : World} {y : GV α} (hgd : o.guard = none) (s x : Operand) (t : TypeId)
    (ho : o.op = .call { callee := .builtin .append, args := #[s, x], argTypes := #[t, t] })
    (lo p : Nat) (i : TypeInfo) (z : Value) (bytes : Nat) (ht : P.underlying t = some (.slice e)) (hi : P.info? e = some i) (hz : i.zero = some z)
    (hsize : i.size = p + 1) (hby : i.bytes = bytes) (hzs : z.cells.size = p + 1) (hp : ∀ x, (hd x).length = p)
    (v : Value) (ys : List (GV α)) (bb : Nat) (hs : a.eval s = v) (hx : a.eval x = .slice (some ⟨bb, 0, none⟩) 1 1) (hc : ∀ j u, (y.cells hd tl)[j]? = some u → W.cell? ⟨bb, j, none⟩ = some u) (hown : OwnG hd tl p lo e et W v ys) (hee : e ≠ et)
    (hy : OwnF one 1 lo et W (.slice y.A (tl y.x).length y.d) (tl y.x)) (hf : tl y.x ≠ [] → ∀ z ∈ ys, tl z.x ≠ [] → z.A ≠ y.A)
    (hlen : ys.length ≤ 16777216) (hbl : bytes ≤ 4096) (hlo : lo ≤ W.heap.size) (lo3 : Nat) (hlo3 : lo3 ≤ W.heap.size) (hob : ∀ k, v.ownBlock = some k → lo3 ≤ k)
    (h : ∀ v' w', OwnG hd tl p lo e et w' v' (ys ++ [y]) → W.grownBy w' v.ownBlock → Below lo3 W w' → K (a.put o.dst v') w') : if Region.wanted o (yielded ops a.tmps) = true then Oper.wp P o a W K Q else E := by
  have hw : Region.wanted o (yielded ops a.tmps) = true := by simp [Region.wanted, hgd]
  rw [if_pos hw]
  exact wp_append_g3 s x t ho lo p i z bytes ht hi hz hsize hby hzs hp v ys bb hs hx hc hown hee hy hf hlen hbl hlo lo3 hlo3 hob h
/-- a literal of integers, just laid -/
theorem OwnF.lit {lo : Nat} {et : TypeId} {W : World} (hlo : lo ≤ W.heap.size) (l : List Int) (hl : l.length ≤ maxLen) : OwnF one 1 lo et (W.alloc (.cells (l.map (Value.int .i64)).toArray et)) (.slice (some ⟨W.heap.size, 0, none⟩) l.length l.length) l := by
  have hr : row one l = l.map (Value.int .i64) := by
    unfold row one
    induction l with
    | nil => rfl
    | cons x r ih =>
      simp only [List.length_cons] at hl
      rw [List.flatMap_cons, ih (by omega)]
      rfl
  refine ⟨by rw [hr]; simp, .inr ⟨W.heap.size, l.length, _, rfl, hlo, heap_alloc_new W _, Nat.le_refl _, hl, by simp, ?_⟩⟩
  rw [hr]
  simp only [Nat.mul_one]
  exact List.take_of_length_le (by simp)
/-- a literal of integers, a box for it, a draw -/
theorem lit_box {lo : Nat} {et e : TypeId} (w : World) (hlo : lo ≤ w.heap.size) (l : List Int) (hl : l.length ≤ maxLen) :
    OwnF one 1 lo et (((w.alloc (.cells (l.map (Value.int .i64)).toArray et)).alloc (.cells #[.slice (some ⟨w.heap.size, 0, none⟩) l.length l.length] e)).drew) (.slice (some ⟨w.heap.size, 0, none⟩) l.length l.length) l ∧
    (∀ (j : Nat) (u : Value), ([.slice (some ⟨w.heap.size, 0, none⟩) l.length l.length] : List Value)[j]? = some u → (((w.alloc (.cells (l.map (Value.int .i64)).toArray et)).alloc (.cells #[.slice (some ⟨w.heap.size, 0, none⟩) l.length l.length] e)).drew).cell? ⟨w.heap.size + 1, j, none⟩ = some u) ∧
    Below w.heap.size w (((w.alloc (.cells (l.map (Value.int .i64)).toArray et)).alloc (.cells #[.slice (some ⟨w.heap.size, 0, none⟩) l.length l.length] e)).drew) := by
  have h1 := OwnF.lit (et := et) hlo l hl
  have hs : (w.alloc (.cells (l.map (Value.int .i64)).toArray et)).heap.size = w.heap.size + 1 := by simp
  refine ⟨(h1.ext (ext_alloc _ _)).ext (ext_drew _), fun j u hu => ?_, ext_trans (ext_trans (ext_alloc _ _) (ext_alloc _ _)) (ext_drew _)⟩
  have h2 := World.cell?_alloc_new (w.alloc (.cells (l.map (Value.int .i64)).toArray et)) #[.slice (some ⟨w.heap.size, 0, none⟩) l.length l.length] e j
  rw [hs] at h2
  refine Eq.trans (show _ from h2) ?_
  simpa using hu
end Go.Proofs.YtlagfeccdcjimaaDoor
