/- Editions while they are drawn. No condition. -/
import Derived.Test.YtadcjfbcfiljkaaDoorErD
import Derived.Test.YtadcjfbcfiljkaaDoorNestOwn2
import Derived.Test.YtadcjfbcfiljkaaDoorOwn2
import Derived.Test.YtadcjfbcfiljkaaDoorEds
namespace Go.Proofs.YtadcjfbcfiljkaaDoor
open Go.RowKit
set_option linter.unusedVariables false
set_option linter.unusedSimpArgs false

theorem ownsRow_touch {base : Nat} {e : TypeId} {size n l u : Nat} {v : Value} {xs : List Value} {w w' : World} (h : w.ownsRow base e size v n xs) (ht : Touch l u w w') (hu : u ≤ base) : w'.ownsRow base e size v n xs := by
  obtain ⟨h1, h2⟩ := h
  refine ⟨h1, ?_⟩
  rcases h2 with h2 | ⟨g, cap, cur, hv, hg, hh, r⟩
  · exact Or.inl h2
  · have hlt : g < w.heap.size := by
      rcases Nat.lt_or_ge g w.heap.size with hlt | hge
      · exact hlt
      · rw [Array.getElem?_eq_none hge] at hh; cases hh
    exact Or.inr ⟨g, cap, cur, hv, hg, by rw [ht.block g hlt (Or.inr (by omega))]; exact hh, r⟩
theorem VarL.set3' {w : World} {B : Nat} {a b c d : Value} (h : VarL w B [a, b, c, d]) (v : Value) : VarL (w.setCell ⟨B, 3, none⟩ v) B [a, b, c, v] := h.set 3 v (by simp)
theorem VarL.set1' {w : World} {B : Nat} {a b c d : Value} (h : VarL w B [a, b, c, d]) (v : Value) : VarL (w.setCell ⟨B, 1, none⟩ v) B [a, v, c, d] := h.set 1 v (by simp)
theorem Touch.of_below' {M : Nat} {w w' : World} (h : Below M w w') : Touch M w.heap.size w w' := ⟨h.os, h.tape, h.output, h.size, fun i hi ho => h.block i (by omega)⟩
theorem wt_bd : ∀ (hs : List Nest) (B : Nat), (∀ x ∈ hs, x.l.length ≤ B) → wt hs ≤ hs.length * (B + 1)
  | [], B, _ => by simp [wt, lsum]
  | x :: r, B, h => by
    have ih := wt_bd r B (fun y hy => h y (List.mem_cons_of_mem _ hy))
    have hx := h x List.mem_cons_self
    unfold wt at *
    simp only [lsum, List.length_cons, Nat.succ_mul]
    omega
/-- elements with an inner slice each, all of it at lo or behind -/
def NlA (lo : Nat) (w : World) (A : Option Addr) (xs : List Nest) : Prop :=
  xs ≠ [] → ∃ b o, A = some ⟨b, o, none⟩ ∧ lo ≤ b ∧ b < w.heap.size ∧ ∀ i x, xs[i]? = some x → ∃ A' d, NAt w b (o + i * 4) x A' d ∧ FlO one 1 lo w.heap.size w A' x.l
theorem NlA.nl {lo : Nat} {w : World} {A : Option Addr} {xs : List Nest} (h : NlA lo w A xs) : Nl w A xs := fun hn => by
  obtain ⟨b, o, h1, _, h2, h3⟩ := h hn
  exact ⟨b, o, h1, h2, fun i x hx => by obtain ⟨A', d, h4, h5⟩ := h3 i x hx; exact ⟨A', d, h4, h5.fl⟩⟩
theorem FlO.up {α : Type} {f : α → List Int} {sz lo hi hi' : Nat} {w : World} {A : Option Addr} {xs : List α} (h : FlO f sz lo hi w A xs) (hh : hi ≤ hi') : FlO f sz lo hi' w A xs := h.mono (Nat.le_refl _) hh
theorem NlA.touch {lo l u : Nat} {w w' : World} {A : Option Addr} {xs : List Nest} (h : NlA lo w A xs) (ht : Touch l u w w') (hu : u ≤ lo) : NlA lo w' A xs := fun hn => by
  obtain ⟨b, o, h1, hb, h2, h3⟩ := h hn
  exact ⟨b, o, h1, hb, Nat.lt_of_lt_of_le h2 ht.size, fun i x hx => by
    obtain ⟨A', d, h4, h5⟩ := h3 i x hx
    exact ⟨A', d, h4.cells fun j => ht.cell h2 (by omega), (h5.touch ht (.inr hu)).up ht.size⟩⟩
theorem NlA.ext {lo : Nat} {w w' : World} {A : Option Addr} {xs : List Nest} (h : NlA lo w A xs) (hb : Below w.heap.size w w') : NlA lo w' A xs := fun hn => by
  obtain ⟨b, o, h1, h0, h2, h3⟩ := h hn
  exact ⟨b, o, h1, h0, Nat.lt_of_lt_of_le h2 hb.size, fun i x hx => by
    obtain ⟨A', d, h4, h5⟩ := h3 i x hx
    exact ⟨A', d, h4.cells fun j => hb.cell (p := ⟨b, j, none⟩) h2, (h5.ext hb).up hb.size⟩⟩
theorem NlA.from_ {lo lo' : Nat} {w : World} {A : Option Addr} {xs : List Nest} (h : NlA lo w A xs) (hl : lo' ≤ lo) : NlA lo' w A xs := fun hn => by
  obtain ⟨b, o, h1, h0, h2, h3⟩ := h hn
  exact ⟨b, o, h1, Nat.le_trans hl h0, h2, fun i x hx => by
    obtain ⟨A', d, h4, h5⟩ := h3 i x hx
    exact ⟨A', d, h4, h5.mono hl (Nat.le_refl _)⟩⟩
/-- a slice of such elements while it is drawn -/
structure EdSt (lo : Nat) (e et : TypeId) (w : World) (v : Value) (ys : List NV) : Prop where
  own : OwnV lo e w v ys
  adr : ∃ g c, v = .slice (some ⟨g, 0, none⟩) ys.length c
  inn : ∀ y ∈ ys, OwnF one 1 lo et w (.slice y.A y.x.l.length y.d) y.x.l ∧ y.x.l.length ≤ 12
section
variable {lo : Nat} {e et : TypeId} {w w' : World} {v : Value} {ys : List NV}
theorem OwnV.touch {l u : Nat} (h : OwnV lo e w v ys) (ht : Touch l u w w') (hu : u ≤ lo) : OwnV lo e w' v ys := ownsRow_touch h ht hu
theorem EdSt.touch {l u : Nat} (h : EdSt lo e et w v ys) (ht : Touch l u w w') (hu : u ≤ lo) : EdSt lo e et w' v ys :=
  ⟨h.own.touch ht hu, h.adr, fun y hy => ⟨(h.inn y hy).1.touch ht hu, (h.inn y hy).2⟩⟩
theorem EdSt.ext (h : EdSt lo e et w v ys) (hb : Below w.heap.size w w') : EdSt lo e et w' v ys :=
  ⟨h.own.ext hb, h.adr, fun y hy => ⟨(h.inn y hy).1.ext hb, (h.inn y hy).2⟩⟩
theorem EdSt.start (hlo : lo ≤ w.heap.size) : EdSt lo e et (w.alloc (.cells #[] e)) (.slice (some ⟨w.heap.size, 0, none⟩) 0 0) [] :=
  ⟨OwnV.empty hlo, ⟨_, _, rfl⟩, fun y hy => by simp at hy⟩
theorem ownsRow_off {base : Nat} {e : TypeId} {size n l u : Nat} {v : Value} {xs : List Value} {w w' : World} (h : w.ownsRow base e size v n xs) (ht : Touch l u w w') (ho : ∀ q, v.ownBlock = some q → q < l ∨ u ≤ q) : w'.ownsRow base e size v n xs := by
  obtain ⟨h1, h2⟩ := h
  refine ⟨h1, ?_⟩
  rcases h2 with h2 | ⟨g, cap, cur, hv, hg, hh, r⟩
  · exact Or.inl h2
  · have hlt : g < w.heap.size := by
      rcases Nat.lt_or_ge g w.heap.size with hlt | hge
      · exact hlt
      · rw [Array.getElem?_eq_none hge] at hh; cases hh
    exact Or.inr ⟨g, cap, cur, hv, hg, by rw [ht.block g hlt (ho g (by rw [hv]; rfl))]; exact hh, r⟩
theorem OwnF.off {lo l u : Nat} {et : TypeId} {w w' : World} {v : Value} {xs : List Int} (h : OwnF one 1 lo et w v xs) (ht : Touch l u w w') (ho : ∀ q, v.ownBlock = some q → q < l ∨ u ≤ q) : OwnF one 1 lo et w' v xs := ownsRow_off h ht ho
theorem OwnF.flo {l : List Int} {A : Option Addr} {n d : Nat} (h : OwnF one 1 lo et w (.slice A n d) l) : FlO one 1 lo w.heap.size w A l := by
  obtain ⟨B, c, hv, hF⟩ := h.form one_length
  injection hv with h1 _ _
  rw [h1]
  exact hF
theorem EdSt.read (h : EdSt lo e et w v ys) : ∃ b c, v = .slice (some ⟨b, 0, none⟩) ys.length c ∧ ys.length ≤ c ∧ c ≤ 9223372036854775807 ∧ lo ≤ b ∧ b < w.heap.size ∧ (∀ j, w.frozen? ⟨b, j, none⟩ = false) ∧ (∀ i y, ys[i]? = some y → NAt w b (0 + i * 4) y.x y.A y.d) ∧ NlA lo w (some ⟨b, 0, none⟩) (ys.map NV.x) := by
  obtain ⟨g0, c0, hv0⟩ := h.adr
  rcases h.own.2 with ⟨hv, _⟩ | ⟨g, cap, cur, hv, hg, hh, hnc, hcm, hcs, htk⟩
  · rw [hv0] at hv; cases hv
  · obtain ⟨A, c, hv', hF⟩ := h.own.form
    have hlt : g < w.heap.size := by
      rcases Nat.lt_or_ge g w.heap.size with hlt | hge
      · exact hlt
      · rw [Array.getElem?_eq_none hge] at hh; cases hh
    have hN : ∀ i y, ys[i]? = some y → NAt w g (0 + i * 4) y.x y.A y.d := fun i y hy => by
      obtain ⟨g', hA, _, _, _, hc⟩ := hF (fun e0 => by rw [e0] at hy; simp at hy)
      rw [hv, hA] at hv'
      injection hv' with e1 _ _
      injection e1 with e1
      injection e1 with e1 _ _
      subst e1
      rw [Nat.zero_add]
      exact hc i y hy
    refine ⟨g, cap, hv, hnc, by simp only [maxLen] at hcm; omega, hg, hlt, fun j => by simp [World.frozen?, hh], hN, fun _ => ⟨g, 0, rfl, hg, hlt, fun i x hx => ?_⟩⟩
    rw [List.getElem?_map] at hx
    rcases hy : ys[i]? with _ | y
    · rw [hy] at hx; cases hx
    · rw [hy] at hx
      cases hx
      exact ⟨y.A, y.d, hN i y hy, (h.inn y (List.mem_of_getElem? hy)).1.flo⟩
/-- an inner slice stays when an outer one grows -/
theorem OwnF.keptV {v2 : Value} {l : List Int} (h : OwnF one 1 lo et w v2 l) (ho : OwnV lo e w v ys) (hee : e ≠ et) (hg : w.grownBy w' v.ownBlock) : OwnF one 1 lo et w' v2 l := World.ownsRow.kept (row := v.ownBlock) h hg (h.blk_ne ho hee)
theorem EdSt.of {v' : Value} {zs : List NV} (ho : OwnV lo e w v ys) (hee : e ≠ et) (h : OwnV lo e w' v' zs) (hne : zs ≠ []) (hg : w.grownBy w' v.ownBlock) (hi : ∀ y ∈ zs, OwnF one 1 lo et w (.slice y.A y.x.l.length y.d) y.x.l ∧ y.x.l.length ≤ 12) : EdSt lo e et w' v' zs := by
  obtain ⟨A, c, hv, hF⟩ := h.form
  obtain ⟨g, hA, _⟩ := hF hne
  exact ⟨h, ⟨g, c, by rw [hv, hA]⟩, fun y hy => ⟨(hi y hy).1.keptV ho hee hg, (hi y hy).2⟩⟩
theorem inn_kept {zs : List NV} (ho : OwnV lo e w v ys) (hee : e ≠ et) (hg : w.grownBy w' v.ownBlock) (hi : ∀ y ∈ zs, OwnF one 1 lo et w (.slice y.A y.x.l.length y.d) y.x.l ∧ y.x.l.length ≤ 12) : ∀ y ∈ zs, OwnF one 1 lo et w' (.slice y.A y.x.l.length y.d) y.x.l ∧ y.x.l.length ≤ 12 := fun y hy => ⟨(hi y hy).1.keptV ho hee hg, (hi y hy).2⟩
theorem inn_ext {zs : List NV} (hb : Below w.heap.size w w') (hi : ∀ y ∈ zs, OwnF one 1 lo et w (.slice y.A y.x.l.length y.d) y.x.l ∧ y.x.l.length ≤ 12) : ∀ y ∈ zs, OwnF one 1 lo et w' (.slice y.A y.x.l.length y.d) y.x.l ∧ y.x.l.length ≤ 12 := fun y hy => ⟨(hi y hy).1.ext hb, (hi y hy).2⟩
theorem inn_snoc {zs : List NV} {y : NV} (hi : ∀ y ∈ zs, OwnF one 1 lo et w (.slice y.A y.x.l.length y.d) y.x.l ∧ y.x.l.length ≤ 12) (h : OwnF one 1 lo et w (.slice y.A y.x.l.length y.d) y.x.l) (hl : y.x.l.length ≤ 12) : ∀ z ∈ zs ++ [y], OwnF one 1 lo et w (.slice z.A z.x.l.length z.d) z.x.l ∧ z.x.l.length ≤ 12 := fun z hz => by
  rcases List.mem_append.1 hz with hz | hz
  · exact hi z hz
  · rw [List.mem_singleton] at hz
    rw [hz]
    exact ⟨h, hl⟩
theorem OwnV.from_ {lo' : Nat} (h : OwnV lo e w v ys) (hl : lo' ≤ lo) : OwnV lo' e w v ys := by
  refine ⟨h.1, ?_⟩
  rcases h.2 with h2 | ⟨g, cap, cur, hv, hg, r⟩
  · exact .inl h2
  · exact .inr ⟨g, cap, cur, hv, Nat.le_trans hl hg, r⟩
theorem lit_nat (W : World) (a b c : Int) (SA : Option Addr) (sn sd : Nat) (sl : List Int) (h : sn = sl.length) (E : TypeId) : NAt (W.alloc (Obj.cells #[Value.int .i64 a, .int .i64 b, .int .i64 c, .slice SA sn sd] E)) W.heap.size 0 ⟨a, b, c, sl⟩ SA sd := by
  subst h
  exact ⟨World.cell?_alloc_new W _ E 0, World.cell?_alloc_new W _ E 1, World.cell?_alloc_new W _ E 2, World.cell?_alloc_new W _ E 3⟩
theorem NAt.ext {b o : Nat} {x : Nest} {A : Option Addr} {d M : Nat} (h : NAt w b o x A d) (hb : Below M w w') (hm : b < M) : NAt w' b o x A d := h.cells fun j => hb.cell (p := ⟨b, j, none⟩) hm
theorem NAt.grown {b o : Nat} {x : Nest} {A : Option Addr} {d : Nat} {k : Option Nat} (h : NAt w b o x A d) (hg : w.grownBy w' k) (hk : some b ≠ k) (hb : b < w.heap.size) : NAt w' b o x A d := h.cells fun j => by
  have := hg.block b hb hk
  unfold World.cell?
  simp only []
  rw [this]
theorem ownV_two (W : World) (o : Obj) (E : TypeId) : OwnV W.heap.size E (((W.alloc o).alloc (Obj.cells #[] E)).drew) (.slice (some ⟨W.heap.size + 1, 0, none⟩) 0 0) [] := by
  have h := (OwnV.empty (e := E) (lo := W.heap.size) (w := W.alloc o) (by simp)).ext (ext_drew _)
  simpa using h
theorem lit_two (W : World) (o : Obj) (a b c : Int) (SA : Option Addr) (sn sd : Nat) (sl : List Int) (h : sn = sl.length) (E : TypeId) : NAt (((W.alloc o).alloc (Obj.cells #[Value.int .i64 a, .int .i64 b, .int .i64 c, .slice SA sn sd] E)).drew) (W.heap.size + 1) 0 ⟨a, b, c, sl⟩ SA sd := by
  have h := (lit_nat (W.alloc o) a b c SA sn sd sl h E).ext (ext_drew _) (by simp)
  simpa using h
theorem lit_one (W : World) (o : Obj) (a b c : Int) (SA : Option Addr) (sn sd : Nat) (sl : List Int) (h : sn = sl.length) (E : TypeId) : NAt (((W.alloc (Obj.cells #[Value.int .i64 a, .int .i64 b, .int .i64 c, .slice SA sn sd] E)).alloc o).drew) W.heap.size 0 ⟨a, b, c, sl⟩ SA sd :=
  ((lit_nat W a b c SA sn sd sl h E).ext (ext_alloc _ o) (by simp)).ext (ext_drew _) (by simp; omega)
theorem one_nat {W : World} {b : Nat} {y0 : NV} (h : NAt W b 0 y0.x y0.A y0.d) : ∀ (j : Nat) (y : NV), [y0][j]? = some y → NAt W b (0 + j * 4) y.x y.A y.d := fun j y hy => by
  have hj := lt_of_get hy
  simp at hj
  subst hj
  simp at hy
  subst hy
  exact h
/-- one more edition, laid behind a copy -/
theorem ed_next {W w4 : World} {v4 : Value} {y0 : NV} {p b c : Nat} (hW : lo ≤ W.heap.size) (h1 : OwnV W.heap.size e w4 v4 (ys ++ [y0])) (hO : EdSt lo e et W (.slice (some ⟨b, 0, none⟩) p c) ys) (hS : OwnF one 1 lo et W (.slice y0.A y0.x.l.length y0.d) y0.x.l) (hl : y0.x.l.length ≤ 12) (hp : p = ys.length) (hb : Below W.heap.size W w4) :
    ∃ bn cn, v4 = .slice (some ⟨bn, 0, none⟩) (p + 1) cn ∧ EdSt lo e et w4 (.slice (some ⟨bn, 0, none⟩) (p + 1) cn) (ys ++ [y0]) := by
  obtain ⟨A, cn, hv, hF⟩ := h1.form
  obtain ⟨bn, hA, _⟩ := hF (by simp)
  rw [List.length_append, ← hp] at hv
  rw [hA] at hv
  refine ⟨bn, cn, hv, ?_⟩
  rw [hv] at h1
  exact ⟨h1.from_ hW, ⟨bn, cn, by rw [List.length_append, ← hp]; rfl⟩, inn_ext hb (inn_snoc hO.inn hS hl)⟩
theorem EdSt.lens (h : EdSt lo e et w v ys) : wt (ys.map NV.x) ≤ ys.length * 13 := by
  have := wt_bd (ys.map NV.x) 12 (fun x hx => by
    obtain ⟨y, hy, rfl⟩ := List.mem_map.1 hx
    exact (h.inn y hy).2)
  rwa [List.length_map] at this
end
end Go.Proofs.YtadcjfbcfiljkaaDoor
