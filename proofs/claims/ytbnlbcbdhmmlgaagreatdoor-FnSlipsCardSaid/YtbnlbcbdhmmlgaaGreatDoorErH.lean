/- Held copies drawn, their capacities with them. No condition. -/
import Derived.Test.YtbnlbcbdhmmlgaaGreatDoorErA
import Derived.Test.YtbnlbcbdhmmlgaaGreatDoorMgC
import Derived.Test.YtbnlbcbdhmmlgaaGreatDoorFamHeld
import Derived.Test.YtbnlbcbdhmmlgaaGreatDoorMgD
import Derived.Test.YtbnlbcbdhmmlgaaGreatDoorCloneInt
import Derived.Test.YtbnlbcbdhmmlgaaGreatDoorHeldCap
namespace Go.Proofs.YtbnlbcbdhmmlgaaGreatDoor
open Go.RowKit
set_option linter.unusedVariables false
set_option linter.unusedSimpArgs false

theorem ownsRow_touch {base : Nat} {e : TypeId} {size n l u : Nat} {v : Value} {xs : List Value} {w w' : World} (h : w.ownsRow base e size v n xs) (ht : Touch l u w w') (hu : u ≤ base) : w'.ownsRow base e size v n xs := by
  obtain ⟨h1, h2⟩ := h
  refine ⟨h1, ?_⟩
  rcases h2 with h2 | ⟨g, cap, cur, hv, hg, hh, r⟩
  · exact Or.inl h2
  · have hlt : g < w.heap.size := by
      rcases Nat.lt_or_ge g w.heap.size with hlt | hge
      · exact hlt
      · rw [Array.getElem?_eq_none hge] at hh; cases hh
    exact Or.inr ⟨g, cap, cur, hv, hg, by rw [ht.block g hlt (Or.inr (by omega))]; exact hh, r⟩
theorem OwnG.touch {α : Type} {hd tl : α → List Int} {p lo l u : Nat} {e et : TypeId} {w w' : World} {v : Value} {ys : List (GV α)} (h : OwnG hd tl p lo e et w v ys) (ht : Touch l u w w') (hu : u ≤ lo) : OwnG hd tl p lo e et w' v ys :=
  ⟨ownsRow_touch h.out ht hu, fun i y hy => (h.inn i y hy).touch ht hu, h.inj⟩
theorem VarL.set3' {w : World} {B : Nat} {a b c d : Value} (h : VarL w B [a, b, c, d]) (v : Value) : VarL (w.setCell ⟨B, 3, none⟩ v) B [a, b, c, v] := h.set 3 v (by simp)
theorem Touch.cellsT {g : Nat} {w w' : World} (h : Touch g (g + 1) w w') : ∀ b o, b < w.heap.size → b ≠ g → w'.cell? ⟨b, o, none⟩ = w.cell? ⟨b, o, none⟩ := fun b o hb hg => h.cell hb (by omega)
theorem VarL.quad {w : World} {B : Nat} {a b c d : Value} (h : VarL w B [a, b, c, d]) : w.cell? ⟨B, 0, none⟩ = some a ∧ w.cell? ⟨B, 1, none⟩ = some b ∧ w.cell? ⟨B, 2, none⟩ = some c ∧ w.cell? ⟨B, 3, none⟩ = some d := ⟨h.cell 0 _ rfl, h.cell 1 _ rfl, h.cell 2 _ rfl, h.cell 3 _ rfl⟩
theorem FlO.off {lo' : Nat} {b : Nat} {vs : List Value} {w : World} {S : Option Addr} {l : List Int} {off : Nat} (h : FlO one 1 lo' (lo' + 1) w S l) (hne : l ≠ [] → lo' ≠ b) : FlO one 1 lo' (lo' + 1) (setRow w b off vs) S l := by
  by_cases hl : l = []
  · subst hl; exact FlO.nil
  · exact h.touch (setRow_touch b (Nat.le_refl b) (Nat.lt_succ_self b) vs w off) (by have := hne hl; omega)
theorem NOwn.setH {lo hi hi' b o k g' D' : Nat} {g : Nat → Nat} {S : Nat → Option Addr} {D : Nat → Nat} {xs : List Nest} {w : World} {x' : Nest} {S' : Option Addr} (h : NOwn lo hi b o g S D xs w) (hk : k < xs.length) (hhi : hi ≤ hi')
    (hF : FlO one 1 g' (g' + 1) w S' x'.l) (hr : x'.l ≠ [] → lo ≤ g' ∧ g' < hi' ∧ g' ≠ b) (hd : ∀ i y, i ≠ k → xs[i]? = some y → y.l ≠ [] → x'.l ≠ [] → g i ≠ g') :
    NOwn lo hi' b o (fun i => if i = k then g' else g i) (fun i => if i = k then S' else S i) (fun i => if i = k then D' else D i) (xs.set k x') (setRow w b (o + k * 4) [.int .i64 x'.a, .int .i64 x'.b, .int .i64 x'.c, .slice S' x'.l.length D']) := by
  have hx : xs[k]? = some (xs[k]) := List.getElem?_eq_getElem hk
  have hc := h.cell k _ hx
  have hth : ∀ j, j < 4 → ∃ u, w.cell? ⟨b, o + k * 4 + j, none⟩ = some u := fun j hj => by
    have : j = 0 ∨ j = 1 ∨ j = 2 ∨ j = 3 := by omega
    rcases this with rfl | rfl | rfl | rfl
    · exact ⟨_, hc.ca⟩
    · exact ⟨_, hc.cb⟩
    · exact ⟨_, hc.cc⟩
    · exact ⟨_, hc.cl⟩
  have hs := setRow_same b [.int .i64 x'.a, .int .i64 x'.b, .int .i64 x'.c, .slice S' x'.l.length D'] w (o + k * 4) hth
  refine ⟨by rw [setRow_size]; exact h.size, h.hlo, Nat.lt_of_lt_of_le h.hhi hhi, fun j => by rw [setRow_frozen]; exact h.frozen j, fun i y hy => ?_, fun i y hy => ?_, fun i y hy hl => ?_, fun i j y z hy hz hly hlz he => ?_⟩
  · by_cases e : i = k
    · subst e
      rw [List.getElem?_set_self hk] at hy
      injection hy with hy
      subst hy
      simp only [if_true]
      exact ⟨hs 0 _ rfl, hs 1 _ rfl, hs 2 _ rfl, hs 3 _ rfl⟩
    · rw [List.getElem?_set_ne (Ne.symm e)] at hy
      simp only [if_neg e]
      have hn := h.cell i y hy
      have ho : ∀ j, j < 4 → (setRow w b (o + k * 4) [.int .i64 x'.a, .int .i64 x'.b, .int .i64 x'.c, .slice S' x'.l.length D']).cell? ⟨b, o + i * 4 + j, none⟩ = w.cell? ⟨b, o + i * 4 + j, none⟩ := fun j hj => setRow_other b b (o + i * 4 + j) _ w _ (by simp; omega)
      exact ⟨(ho 0 (by omega)).trans hn.ca, (ho 1 (by omega)).trans hn.cb, (ho 2 (by omega)).trans hn.cc, (ho 3 (by omega)).trans hn.cl⟩
  · by_cases e : i = k
    · subst e
      rw [List.getElem?_set_self hk] at hy
      injection hy with hy
      subst hy
      simp only [if_true]
      exact hF.off (fun hl => (hr hl).2.2)
    · rw [List.getElem?_set_ne (Ne.symm e)] at hy
      simp only [if_neg e]
      exact (h.own i y hy).off (fun hl => (h.rng i y hy hl).2.2)
  · by_cases e : i = k
    · subst e
      rw [List.getElem?_set_self hk] at hy
      injection hy with hy
      subst hy
      simp only [if_true]
      exact hr hl
    · rw [List.getElem?_set_ne (Ne.symm e)] at hy
      simp only [if_neg e]
      have := h.rng i y hy hl
      omega
  · by_cases e : i = k
    · by_cases f : j = k
      · omega
      · subst e
        rw [List.getElem?_set_self hk] at hy
        injection hy with hy
        subst hy
        rw [List.getElem?_set_ne (Ne.symm f)] at hz
        simp only [if_true, if_neg f] at he
        exact absurd he.symm (hd j z f hz hlz hly)
    · by_cases f : j = k
      · subst f
        rw [List.getElem?_set_self hk] at hz
        injection hz with hz
        subst hz
        rw [List.getElem?_set_ne (Ne.symm e)] at hy
        simp only [if_true, if_neg e] at he
        exact absurd he (hd i y e hy hly hlz)
      · rw [List.getElem?_set_ne (Ne.symm e)] at hy
        rw [List.getElem?_set_ne (Ne.symm f)] at hz
        simp only [if_neg e, if_neg f] at he
        exact h.inj i j y z hy hz hly hlz he
theorem NOwn.touch {lo hi b o l u : Nat} {g : Nat → Nat} {S : Nat → Option Addr} {D : Nat → Nat} {xs : List Nest} {w w' : World} (h : NOwn lo hi b o g S D xs w) (ht : Touch l u w w') (ho : hi ≤ l ∨ u ≤ lo) : NOwn lo hi b o g S D xs w' := by
  have hb := h.hlo
  have hb' := h.hhi
  refine ⟨Nat.lt_of_lt_of_le h.size ht.size, h.hlo, h.hhi, fun j => (ht.frozen h.size (by omega)).trans (h.frozen j), fun i x hx => (h.cell i x hx).cells fun j => ht.cell h.size (by omega), fun i x hx => ?_, h.rng, h.inj⟩
  by_cases hl : x.l = []
  · rw [hl]; exact FlO.nil
  · have := h.rng i x hx hl
    exact (h.own i x hx).touch ht (by omega)
/-- an element of the list turned in its place -/
theorem NOwn.turn {lo hi hi' b o k g' D' : Nat} {g : Nat → Nat} {S : Nat → Option Addr} {D : Nat → Nat} {xs : List Nest} {w : World} {x' : Nest} {S' : Option Addr} (h : NOwn lo hi b o g S D xs w) (hk : k < xs.length) (hhi : hi ≤ hi') (hs : hi' ≤ w.heap.size)
    (hF : FlO one 1 g' (g' + 1) w S' x'.l) (hr : x'.l ≠ [] → lo ≤ g' ∧ g' < hi' ∧ g' ≠ b) (hd : ∀ i y, i ≠ k → xs[i]? = some y → y.l ≠ [] → x'.l ≠ [] → g i ≠ g') :
    NlO lo (((((w.setCell ⟨b, o + k * 4, none⟩ (.int .i64 x'.a)).setCell ⟨b, o + k * 4 + 1, none⟩ (.int .i64 x'.b)).setCell ⟨b, o + k * 4 + 2, none⟩ (.int .i64 x'.c)).setCell ⟨b, o + k * 4 + 3, none⟩ (.slice S' x'.l.length D')).heap.size) ((((w.setCell ⟨b, o + k * 4, none⟩ (.int .i64 x'.a)).setCell ⟨b, o + k * 4 + 1, none⟩ (.int .i64 x'.b)).setCell ⟨b, o + k * 4 + 2, none⟩ (.int .i64 x'.c)).setCell ⟨b, o + k * 4 + 3, none⟩ (.slice S' x'.l.length D')) (some ⟨b, o, none⟩) (xs.set k x') := fun _ =>
  ⟨b, o, _, _, _, rfl, by
    have h1 := h.setH (D' := D') hk hhi hF hr hd
    exact ⟨h1.size, h1.hlo, by have := h1.hhi; simp only [setCell_size]; omega, h1.frozen, h1.cell, h1.own, fun i x hx hl => by have := h1.rng i x hx hl; simp only [setCell_size]; omega, h1.inj⟩⟩
theorem set4_touch (w : World) (b q : Nat) (x y z v : Value) : Touch b (b + 1) w ((((w.setCell ⟨b, q, none⟩ x).setCell ⟨b, q + 1, none⟩ y).setCell ⟨b, q + 2, none⟩ z).setCell ⟨b, q + 3, none⟩ v) :=
  (((Touch.of_set w ⟨b, q, none⟩ x (Nat.le_refl _) (Nat.lt_succ_self _)).set (p := ⟨b, q + 1, none⟩) (Nat.le_refl _) (Nat.lt_succ_self _) y).set (p := ⟨b, q + 2, none⟩) (Nat.le_refl _) (Nat.lt_succ_self _) z).set (p := ⟨b, q + 3, none⟩) (Nat.le_refl _) (Nat.lt_succ_self _) v
theorem wt_bd : ∀ (hs : List Nest) (B : Nat), (∀ x ∈ hs, x.l.length ≤ B) → wt hs ≤ hs.length * (B + 1)
  | [], B, _ => by simp [wt, lsum]
  | x :: r, B, h => by
    have ih := wt_bd r B (fun y hy => h y (List.mem_cons_of_mem _ hy))
    have hx := h x List.mem_cons_self
    unfold wt at *
    simp only [lsum, List.length_cons, Nat.succ_mul]
    omega
theorem Touch.of_below' {M : Nat} {w w' : World} (h : Below M w w') : Touch M w.heap.size w w' := ⟨h.os, h.tape, h.output, h.size, fun i hi ho => h.block i (by omega)⟩
structure NOwnQ (lo hi b o : Nat) (g : Nat → Nat) (S : Nat → Option Addr) (D : Nat → Nat) (xs : List Nest) (w : World) : Prop extends NOwn lo hi b o g S D xs w where
  cap : ∀ (i : Nat) (x : Nest), xs[i]? = some x → Cap (S i) x.l.length (D i)
/-- elements in memory of their own, whose capacities are what they say -/
def NlQ (lo hi : Nat) (w : World) (A : Option Addr) (xs : List Nest) : Prop :=
  xs ≠ [] → ∃ b o g S D, A = some ⟨b, o, none⟩ ∧ NOwnQ lo hi b o g S D xs w
theorem NlQ.nlo {lo hi : Nat} {w : World} {A : Option Addr} {xs : List Nest} (h : NlQ lo hi w A xs) : NlO lo hi w A xs := fun hn => by
  obtain ⟨b, o, g, S, D, h1, h2⟩ := h hn
  exact ⟨b, o, g, S, D, h1, h2.toNOwn⟩
theorem NlQ.nl {lo hi : Nat} {w : World} {A : Option Addr} {xs : List Nest} (h : NlQ lo hi w A xs) : Nl w A xs := h.nlo.nl
theorem NlQ.nlc {lo hi : Nat} {w : World} {A : Option Addr} {xs : List Nest} (h : NlQ lo hi w A xs) : NlC w A xs := fun hn => by
  obtain ⟨b, o, g, S, D, h1, h2⟩ := h hn
  exact ⟨b, o, h1, h2.size, fun i x hx => ⟨S i, D i, h2.cell i x hx, (h2.own i x hx).fl, h2.cap i x hx⟩⟩
theorem NOwnQ.touch {lo hi b o l u : Nat} {g : Nat → Nat} {S : Nat → Option Addr} {D : Nat → Nat} {xs : List Nest} {w w' : World} (h : NOwnQ lo hi b o g S D xs w) (ht : Touch l u w w') (ho : hi ≤ l ∨ u ≤ lo) : NOwnQ lo hi b o g S D xs w' := ⟨h.toNOwn.touch ht ho, h.cap⟩
theorem NlQ.touch {lo hi l u : Nat} {w w' : World} {A : Option Addr} {xs : List Nest} (h : NlQ lo hi w A xs) (ht : Touch l u w w') (ho : hi ≤ l ∨ u ≤ lo) : NlQ lo hi w' A xs := fun hn => by
  obtain ⟨b, o, g, S, D, h1, h2⟩ := h hn
  exact ⟨b, o, g, S, D, h1, h2.touch ht ho⟩
theorem NlQ.mono {lo hi lo' hi' : Nat} {w : World} {A : Option Addr} {xs : List Nest} (h : NlQ lo hi w A xs) (hl : lo' ≤ lo) (hh : hi ≤ hi') : NlQ lo' hi' w A xs := fun hn => by
  obtain ⟨b, o, g, S, D, h1, h2⟩ := h hn
  exact ⟨b, o, g, S, D, h1, ⟨⟨h2.size, Nat.le_trans hl h2.hlo, Nat.lt_of_lt_of_le h2.hhi hh, h2.frozen, h2.cell, h2.own, fun i x hx hl' => by have := h2.rng i x hx hl'; omega, h2.inj⟩, h2.cap⟩⟩
theorem NlQ.ext {lo hi : Nat} {w w' : World} {A : Option Addr} {xs : List Nest} (h : NlQ lo hi w A xs) (hb : Below w.heap.size w w') : NlQ lo hi w' A xs := fun hn => by
  obtain ⟨b, o, g, S, D, h1, h2⟩ := h hn
  exact ⟨b, o, g, S, D, h1, ⟨⟨Nat.lt_of_lt_of_le h2.size hb.size, h2.hlo, h2.hhi, fun j => (hb.frozen (p := ⟨b, j, none⟩) h2.size).trans (h2.frozen j), fun i x hx => (h2.cell i x hx).cells fun j => hb.cell (p := ⟨b, j, none⟩) h2.size, fun i x hx => (h2.own i x hx).ext hb, h2.rng, h2.inj⟩, h2.cap⟩⟩
theorem OwnF.capQ {lo n d : Nat} {et : TypeId} {w : World} {A : Option Addr} {l : List Int} (h : OwnF one 1 lo et w (.slice A n d) l) : Cap A l.length d := by
  rcases h.2 with ⟨hv, h0⟩ | ⟨g, cap, cur, hv, _, _, hnc, hcm, _⟩
  · injection hv with e1 e2 e3
    subst e1 e3
    exact ⟨by omega, by omega, .inl ⟨rfl, rfl⟩⟩
  · injection hv with e1 e2 e3
    subst e1 e3
    exact ⟨hnc, by simp only [maxLen] at hcm; omega, .inr ⟨g, 0, rfl⟩⟩
theorem OwnG.formK {α : Type} {hd tl : α → List Int} {p lo : Nat} {e et : TypeId} {w : World} {v : Value} {ys : List (GV α)} (h : OwnG hd tl p lo e et w v ys) (hp : ∀ x, (hd x).length = p) (hee : e ≠ et) : ∃ A c, v = .slice A (ys.map GV.x).length c ∧ (ys.map GV.x ≠ [] → ∃ b o g S D, A = some ⟨b, o, none⟩ ∧ GOwn hd tl p lo w.heap.size b o g S D (ys.map GV.x) w ∧ ∀ i x, (ys.map GV.x)[i]? = some x → ∃ y, ys[i]? = some y ∧ y.x = x ∧ S i = y.A ∧ D i = y.d) := by
  obtain ⟨h1, h2⟩ := h.out
  rw [List.length_map]
  rcases h2 with ⟨rfl, hn⟩ | ⟨b, cap, cur, rfl, hb, hh, hnc, hcm, hcs, htk⟩
  · refine ⟨none, 0, by rw [hn], fun hne => absurd (by rw [List.length_eq_zero_iff.1 hn]; rfl) hne⟩
  · refine ⟨_, _, rfl, fun _ => ?_⟩
    have hlt : b < w.heap.size := by
      rcases Nat.lt_or_ge b w.heap.size with hlt | hge
      · exact hlt
      · rw [Array.getElem?_eq_none hge] at hh; cases hh
    have hmap : ∀ {i : Nat} {x : α}, (ys.map GV.x)[i]? = some x → ∃ y, ys[i]? = some y ∧ y.x = x := fun {i x} hx => by
      rw [List.getElem?_map] at hx
      rcases hy : ys[i]? with _ | y
      · rw [hy] at hx; cases hx
      · rw [hy] at hx; cases hx; exact ⟨y, rfl, rfl⟩
    let g : Nat → Nat := fun i => match ys[i]? with | none => 0 | some y => match y.A with | none => 0 | some a => a.block
    let S : Nat → Option Addr := fun i => match ys[i]? with | none => none | some y => y.A
    let D : Nat → Nat := fun i => match ys[i]? with | none => 0 | some y => y.d
    have hS : ∀ {i : Nat} {y : GV α}, ys[i]? = some y → S i = y.A ∧ D i = y.d := fun hy => by simp [S, D, hy]
    have hG : ∀ {i : Nat} {y : GV α}, ys[i]? = some y → tl y.x ≠ [] → y.A = some ⟨g i, 0, none⟩ ∧ lo ≤ g i ∧ g i < w.heap.size ∧ g i ≠ b := fun {i y} hy hl => by
      obtain ⟨q, cap', cur', hv', hq1, hq2, hq3⟩ := (h.inn i y hy).blk hl
      injection hv' with hA _ _
      have hgi : g i = q := by simp only [g, hy, hA]
      rw [hgi]
      refine ⟨hA, hq1, hq3, fun e' => ?_⟩
      rw [e', hh] at hq2
      injection hq2 with hq2
      injection hq2 with _ h2
      exact hee h2
    refine ⟨b, 0, g, S, D, rfl, ⟨hlt, hb, hlt, fun j => by simp [World.frozen?, hh], fun i x hx => ?_, fun i x hx => ?_, fun i x hx hl => ?_, fun i j x z hx hz hl hl' hg => ?_⟩, fun i x hx => ?_⟩
    · obtain ⟨y, hy, rfl⟩ := hmap hx
      have hc : ∀ j q, (y.cells hd tl)[j]? = some q → w.cell? ⟨b, i * (p + 1) + j, none⟩ = some q := fun j q hq => by
        have hr := rowG_get hp ys i y hy j q hq
        rw [cell_of_row w b _ cur e (0, 0) hh]
        rw [← htk, List.getElem?_take] at hr
        split at hr
        · simpa using hr
        · cases hr
      rw [Nat.zero_add, (hS hy).1, (hS hy).2]
      refine ⟨fun j q hq => hc j _ ?_, hc p _ ?_⟩
      · rw [GV.cells, List.getElem?_append_left (by rw [List.length_map]; exact lt_of_get hq), List.getElem?_map, hq]; rfl
      · rw [GV.cells, List.getElem?_append_right (by simp [hp])]; simp [hp]
    · obtain ⟨y, hy, rfl⟩ := hmap hx
      rw [(hS hy).1]
      intro hl
      obtain ⟨hA, _⟩ := hG hy hl
      obtain ⟨B, c', hv', hF⟩ := (h.inn i y hy).form one_length
      injection hv' with hAB _ _
      rw [← hAB, hA] at hF
      rw [hA]
      exact hF.one_block.1 hl
    · obtain ⟨y, hy, rfl⟩ := hmap hx
      have := hG hy hl
      exact ⟨this.2.1, this.2.2.1, this.2.2.2⟩
    · obtain ⟨y, hy, rfl⟩ := hmap hx
      obtain ⟨y', hy', rfl⟩ := hmap hz
      refine h.inj i j y y' hy hy' hl hl' ?_
      rw [(hG hy hl).1, (hG hy' hl').1, hg]
    · obtain ⟨y, hy, rfl⟩ := hmap hx
      exact ⟨y, hy, rfl, hS hy⟩
theorem OwnG.formQ {lo : Nat} {e et : TypeId} {w : World} {v : Value} {ys : List (GV Nest)} (h : OwnG hdN Nest.l 3 lo e et w v ys) (hee : e ≠ et) : ∃ A c, v = .slice A (ys.map GV.x).length c ∧ NlQ lo w.heap.size w A (ys.map GV.x) := by
  obtain ⟨A, c, h1, h2⟩ := h.formK (fun _ => rfl) hee
  refine ⟨A, c, h1, fun hn => ?_⟩
  obtain ⟨b, o, g, S, D, h3, h4, h5⟩ := h2 hn
  refine ⟨b, o, g, S, D, h3, ⟨⟨h4.size, h4.hlo, h4.hhi, h4.frozen, fun i x hx => (h4.cell i x hx).n, h4.own, h4.rng, h4.inj⟩, fun i x hx => ?_⟩⟩
  obtain ⟨y, hy, rfl, e1, e2⟩ := h5 i x hx
  rw [e1, e2]
  exact (h.inn i y hy).capQ
/-- an element of the list turned in its place -/
theorem NOwnQ.turn {lo hi hi' b o k g' D' : Nat} {g : Nat → Nat} {S : Nat → Option Addr} {D : Nat → Nat} {xs : List Nest} {w : World} {x' : Nest} {S' : Option Addr} (h : NOwnQ lo hi b o g S D xs w) (hk : k < xs.length) (hhi : hi ≤ hi') (hs : hi' ≤ w.heap.size)
    (hF : FlO one 1 g' (g' + 1) w S' x'.l) (hr : x'.l ≠ [] → lo ≤ g' ∧ g' < hi' ∧ g' ≠ b) (hd : ∀ i y, i ≠ k → xs[i]? = some y → y.l ≠ [] → x'.l ≠ [] → g i ≠ g') (hcp : Cap S' x'.l.length D') :
    NlQ lo (((((w.setCell ⟨b, o + k * 4, none⟩ (.int .i64 x'.a)).setCell ⟨b, o + k * 4 + 1, none⟩ (.int .i64 x'.b)).setCell ⟨b, o + k * 4 + 2, none⟩ (.int .i64 x'.c)).setCell ⟨b, o + k * 4 + 3, none⟩ (.slice S' x'.l.length D')).heap.size) ((((w.setCell ⟨b, o + k * 4, none⟩ (.int .i64 x'.a)).setCell ⟨b, o + k * 4 + 1, none⟩ (.int .i64 x'.b)).setCell ⟨b, o + k * 4 + 2, none⟩ (.int .i64 x'.c)).setCell ⟨b, o + k * 4 + 3, none⟩ (.slice S' x'.l.length D')) (some ⟨b, o, none⟩) (xs.set k x') := fun _ =>
  ⟨b, o, (fun i => if i = k then g' else g i), (fun i => if i = k then S' else S i), (fun i => if i = k then D' else D i), rfl, ⟨by
    have h1 := h.toNOwn.setH (D' := D') hk hhi hF hr hd
    exact ⟨h1.size, h1.hlo, by have := h1.hhi; simp only [setCell_size]; omega, h1.frozen, h1.cell, h1.own, fun i x hx hl => by have := h1.rng i x hx hl; simp only [setCell_size]; omega, h1.inj⟩, fun i x hx => by
    by_cases e : i = k
    · subst e
      rw [List.getElem?_set_self hk] at hx
      injection hx with hx
      subst hx
      simpa using hcp
    · rw [List.getElem?_set_ne (Ne.symm e)] at hx
      simpa [e] using h.cap i x hx⟩⟩
set_option maxHeartbeats 16000000 in
set_option maxRecDepth 100000 in
theorem heldsQ_any (EA : Option Addr) (ed lo hi : Nat) (es : List Erratum) (hel : es.length ≤ 12) (g : Nat) (C : Option Addr) (n cap k : Nat) (w : World) (hC : CurAt g C n cap k w) (hE : FlO Erratum.ints 5 lo hi w EA es) (hgl : g + 1 ≤ lo) (hk : k ≤ 274877906944) (hn : n ≤ 1099511627776) :
    Calls Tryz.prog 25 #[.pointer (some ⟨g, 0, none⟩), .slice EA es.length ed] w (fun r w' => ∃ (A : Option Addr) (d : Nat) (hs : List Nest), r = .returned (.slice A hs.length d) ∧ wt hs ≤ 400 ∧ NlQ w.heap.size w'.heap.size w' A hs ∧ CurAt g C n cap (k + 2000) w' ∧ Touch g (g + 1) w w') := by
  have hgw : g < w.heap.size := hC.lt
  have hT := Touch.refl g (g + 1) w
  obtain ⟨i0, hi0, hz0e, hz1e, hz2e⟩ := info_parts infoHeld
  obtain ⟨j0, hji9, hy0e, hy1e, hy2e⟩ := info_parts infoInt
  obtain ⟨q, hq⟩ : ∃ q, q = es.length := ⟨_, rfl⟩
  rw [← hq] at hel ⊢
  have HQ := Lib.hid hq
  have HOE := Lib.hid (OwnG.empty (hd := hdN) (tl := Nest.l) (p := 3) (e := 41) (et := 3) (Nat.le_refl w.heap.size))
  have hx0 := ext_alloc w (.cells #[] 41)
  have HP := Lib.hid (pick_any 6 g C n cap _ _ (hC.ext hx0) (by omega) hn)
  have HX0 := Lib.hid hx0
  have HE := Lib.hid hE
  clear hC hT hx0 hq hE
  go_enter Tryz.func25, Tryz.ntmps25
  go_wp2_with fail
  ((with_reducible refine (HP.out).mono ?_); rintro e w1 ⟨_, rfl, ⟨z, rfl, hz0, hz1⟩, hC, hU⟩)
  obtain ⟨N, rfl⟩ : ∃ N : Nat, z = N := ⟨z.toNat, by omega⟩
  have hO := HOE.out.touch hU (Nat.succ_le_of_lt hgw)
  have hT := (Touch.of_ext (lo := g) (hi := g + 1) HX0.out).trans hU
  have hs1 : w.heap.size ≤ w1.heap.size := hT.size
  have HC1 := Lib.hid hC
  have HO1 := Lib.hid hO
  have HT1 := Lib.hid hT
  clear hC hO hT hU
  go_wp2
  go_loopw [5, 6, 7, 8, 9] (fun out iv nv _ _ wr => ∃ (v : Value) (xs : List (GV Nest)) (i : Int) (m : Nat), out = v ∧ iv = .int .i64 i ∧ nv = .int .i64 (m : Int) ∧ m ≤ 5 ∧ xs.length + m ≤ 5 ∧ (∀ y ∈ xs, y.x.l.length ≤ 12) ∧ OwnG hdN Nest.l 3 w.heap.size 41 3 wr v xs ∧ w.heap.size ≤ wr.heap.size ∧ CurAt g C n cap (k + 2 + (5 - m) * 80) wr ∧ Touch g (g + 1) w wr) (fun _ _ nv _ _ _ => (intOf nv).toNat)
  case atStart => exact ⟨_, [], 0, N, rfl, rfl, rfl, by omega, by simp; omega, by simp, HO1.out, hs1, HC1.out.mono (by omega), HT1.out⟩
  case round =>
    obtain ⟨v, xs, i, m, rfl, rfl, rfl, hm6, hxm, hxl, hO, hsr, hC, hT⟩ := hrel
    by_cases hm : 0 < m
    · have hmi : (0 : Int) < (m : Int) := by omega
      have HO := Lib.hid hO
      have HT := Lib.hid hT
      have HXL := Lib.hid hxl
      have HN1 := Lib.hid (pick_any 3 g C n cap _ wr hC (by omega) hn)
      clear hC hO hT hxl
      go_wp2_with fail
      ((with_reducible refine (HN1.out).mono ?_); rintro e w2 ⟨_, rfl, ⟨y1, rfl, _, _⟩, hC, hU2⟩)
      have HN2 := Lib.hid (pick_any 150 g C n cap _ w2 hC (by omega) hn)
      have HU2 := Lib.hid hU2
      clear hC hU2
      go_wp2_with fail
      ((with_reducible refine (HN2.out).mono ?_); rintro e w3 ⟨_, rfl, ⟨y2, rfl, _, _⟩, hC, hU3⟩)
      obtain ⟨num, hnum⟩ : ∃ u, u = wrap64 (wrap64 (wrap64 (i + 1) + y1) - y2 / 149) := ⟨_, rfl⟩
      have hlt3 : g < w3.heap.size := hC.lt
      have HN3 := Lib.hid (among_any (some ⟨w3.heap.size, 0, none⟩) 5 5 [1, 1, 1, 2, 999] rfl w3.heap.size (w3.heap.size + 1) g C n cap _ (w3.alloc (.cells #[Value.int .i64 1, Value.int .i64 1, Value.int .i64 1, Value.int .i64 2, Value.int .i64 999] 3)) (hC.ext (ext_alloc _ _)) (by omega) hn (lit_flo w3 [1, 1, 1, 2, 999] _ _ rfl) (by simp) (by simp) (.inl hlt3))
      have HU3 := Lib.hid (HU2.out.trans hU3)
      clear hC hU3
      go_wp2_with fail
      rw [← hnum]
      clear hnum
      ((with_reducible refine (HN3.out).mono ?_); rintro e w4 ⟨_, rfl, ⟨q1, _, rfl⟩, hC, hU4⟩)
      have hlt4 : g < w4.heap.size := hC.lt
      have HN4 := Lib.hid (among_any (some ⟨w4.heap.size, 0, none⟩) 5 5 [1, 2, 2, 3, 9] rfl w4.heap.size (w4.heap.size + 1) g C n cap _ (w4.alloc (.cells #[Value.int .i64 1, Value.int .i64 2, Value.int .i64 2, Value.int .i64 3, Value.int .i64 9] 3)) (hC.ext (ext_alloc _ _)) (by omega) hn (lit_flo w4 [1, 2, 2, 3, 9] _ _ rfl) (by simp) (by simp) (.inl hlt4))
      have HU4 := Lib.hid (HU3.out.trans ((Touch.of_ext (ext_alloc w3 (.cells #[Value.int .i64 1, Value.int .i64 1, Value.int .i64 1, Value.int .i64 2, Value.int .i64 999] 3))).trans hU4))
      clear hC hU4
      go_wp2_with fail
      ((with_reducible refine (HN4.out).mono ?_); rintro e w5 ⟨_, rfl, ⟨q2, _, rfl⟩, hC, hU5⟩)
      have hU := HU4.out.trans ((Touch.of_ext (ext_alloc w4 (.cells #[Value.int .i64 1, Value.int .i64 2, Value.int .i64 2, Value.int .i64 3, Value.int .i64 9] 3))).trans hU5)
      have hO5 := HO.out.touch hU (Nat.succ_le_of_lt hgw)
      have hT5 := HT.out.trans hU
      have hs5 : w.heap.size ≤ w5.heap.size := Nat.le_trans hsr hU.size
      go_upto_region 8 with fail
      obtain ⟨V6, hV6, hB6, hz6, hu6, hf6⟩ := box_world w5 #[Value.int .i64 num, .int .i64 q1, .int .i64 q2, .slice none 0 0] 41
      have vh : VarL V6 w5.heap.size [Value.int .i64 num, .int .i64 q1, .int .i64 q2, .slice none 0 0] := hV6 ▸ VarL.box w5 _ _
      have HVH := Lib.hid vh
      have HO6 := Lib.hid (hO5.ext hB6)
      have HC6 := Lib.hid (hC.ext hB6)
      have HT6 := Lib.hid (hT5.trans (Touch.of_ext hB6))
      have HT6A := Lib.hid hT5
      have HO5 := Lib.hid hO5
      have HB6 := Lib.hid hB6
      have hs6 : w.heap.size ≤ V6.heap.size := Nat.le_trans hs5 hB6.size
      clear hC hU hU5 hO5 hT5 vh hu6 hf6 hB6
      rw [hV6]
      clear hV6
      go_wp2_with fail
      obtain ⟨K5, hK5⟩ : ∃ K, K = k + 2 + (5 - m) * 80 + 8 := ⟨_, rfl⟩
      have hKb : K5 ≤ k + 500 := by omega
      have HC7 := Lib.hid (HC6.out.mono (show _ ≤ K5 by omega))
      obtain ⟨wb, hwb⟩ : ∃ z, z = V6 := ⟨_, rfl⟩
      go_loopw [9] (fun kv wr => ∃ (j : Nat) (slv : Value) (sl : List Int), kv = .int .i64 (j : Int) ∧ j ≤ q ∧ sl.length ≤ j ∧ VarL wr w5.heap.size [Value.int .i64 num, .int .i64 q1, .int .i64 q2, slv] ∧ OwnF one 1 (w5.heap.size + 1) 3 wr slv sl ∧ w5.heap.size + 1 ≤ wr.heap.size ∧ CurAt g C n cap (K5 + j * 4) wr ∧ Touch g (g + 1) w5 wr) (fun kv _ => q - (intOf kv).toNat)
      case atStart => exact ⟨0, _, [], rfl, by omega, by simp, HVH.out, OwnF.none_, hz6, HC7.out, Touch.of_ext HB6.out⟩
      case round =>
        obtain ⟨j, slv, sl, rfl, hj, hsj, vh, hOS, hsr7, hC, hT7⟩ := hrel
        by_cases hlt : j < q
        · have hji : (j : Int) < (q : Int) := by omega
          have hj0 : (0 : Int) ≤ (j : Int) := by omega
          go_upto_region 11 with fail
          have hE7 := ((HE.out.touch (HT6A.out.trans hT7) (.inr hgl)).fl)
          obtain ⟨er, eb, eo, her, hEA, heb, hec⟩ := hE7.at_ (k := j) (by rw [← HQ.out]; exact hlt)
          have c0 : World.cell? wr ⟨eb, eo + j * 5, none⟩ = some (.int .i64 er.id) := by simpa using hec 0 er.id rfl
          have c1 : World.cell? wr ⟨eb, eo + j * 5 + 1, none⟩ = some (.int .i64 er.sheet) := by simpa using hec 1 er.sheet rfl
          have c2 : World.cell? wr ⟨eb, eo + j * 5 + 2, none⟩ = some (.int .i64 er.frm) := by simpa using hec 2 er.frm rfl
          have c3 : World.cell? wr ⟨eb, eo + j * 5 + 3, none⟩ = some (.int .i64 er.til) := by simpa using hec 3 er.til rfl
          have c4 : World.cell? wr ⟨eb, eo + j * 5 + 4, none⟩ = some (.int .i64 er.day) := by simpa using hec 4 er.day rfl
          obtain ⟨SA, sd, hslv, hSF⟩ := hOS.form one_length
          subst hslv
          subst hEA
          have v0 := vh.cell 0 _ rfl
          have v1 := vh.cell 1 _ rfl
          have v2 := vh.cell 2 _ rfl
          have v3 := vh.cell 3 _ rfl
          have vl := vh.lt
          have HVH7 := Lib.hid vh
          have HC7b := Lib.hid hC
          have HSL := Lib.hid hsj
          have HOS := Lib.hid hOS
          have HT7 := Lib.hid hT7
          obtain ⟨sn, hsn⟩ : ∃ z, z = sl.length := ⟨_, rfl⟩
          have HSN := Lib.hid hsn
          rw [← hsn] at v3
          clear hE7 her hec vh hC hsj hOS hT7 hSF hsn
          have hn1 : eb ≠ g := by
            obtain ⟨b', o', hA', _, hlo', _⟩ := HE.out (fun e0 => by have h9 := HQ.out; rw [e0] at h9; simp at h9; omega)
            injection hA' with hA'
            injection hA' with hb' _ _
            omega
          have hn2 : w5.heap.size ≠ g := by omega
          go_cut [56] (fun v wx => ∃ b : Bool, v = .bool b ∧ CurAt g C n cap (K5 + j * 4 + 4) wx ∧ Touch g (g + 1) wr wx)
          case first =>
            have HON := Lib.hid (fun (mm : Int) (K : Nat) (W : World) (h : CurAt g C n cap K W) (hk : K ≤ 549755813888) => one_any mm g C n cap K W h hk hn)
            by_cases hcon : Con er ⟨num, q1, q2, sl⟩
            · have HCN := Lib.hid (fun W => l19Concerns_t er ⟨num, q1, q2, sl⟩ SA sd W hcon)
              rw [← HSN.out] at HCN
              clear hcon
              first
                | go_region_with (first | (go_at_call 39; (with_reducible refine (HCN.out _).mono ?_); rintro e w8 ⟨rfl, hb8q⟩; have HU8 := Lib.hid ((Touch.of_ext (lo := g) (hi := g + 1) (ext_drew wr)).trans (Touch.of_ext hb8q)); have HC8 := Lib.hid ((HC7b.out.ext (ext_drew _)).ext hb8q); clear hb8q) | (go_at_call 58; (with_reducible refine (HON.out _ (K5 + j * 4 + 2) _ HC9.out ?_).mono ?_); omega; rintro e w10 ⟨_, rfl, ⟨bw10, rfl⟩, hCq, hUq⟩; have HC10 := Lib.hid hCq; have HU10 := Lib.hid (HU9.out.trans hUq); clear hCq hUq) | (go_at_call 58; (with_reducible refine (HON.out _ (K5 + j * 4) _ HC8.out ?_).mono ?_); omega; rintro e w9 ⟨_, rfl, ⟨bw9, rfl⟩, hCq, hUq⟩; have HC9 := Lib.hid hCq; have HU9 := Lib.hid (HU8.out.trans hUq); clear hCq hUq; cases bw9; rotate_left; (try dsimp only); rename_i hKx; (refine hKx _ _ ?_); (refine wpAny_take (i := 9) (v := ?_) rfl (by kernel_rfl) (by kernel_rfl) (by kernel_rfl) (fun _ _ _ h => h) (Or.inl ⟨by rfl, ?_⟩) ?_); rotate_left 1; (intro w; go_simp); (try with_reducible rfl); (refine wpAny_take (i := 10) (v := ?_) rfl (by kernel_rfl) (by kernel_rfl) (by kernel_rfl) (fun _ _ _ h => h) (Or.inl ⟨by rfl, ?_⟩) ?_); rotate_left 1; (intro w; go_simp); (try with_reducible rfl); (refine wpAny_ready (rs := [11]) (by kernel_rfl) (by simp) ?_); (refine AllReady.cons rfl (fun K hK => ?_) AllReady.nil); go_simp; (refine hK _ _ ?_); clear hK; (refine wpAny_ready (rs := [12]) (by kernel_rfl) (by simp) ?_); (refine AllReady.cons rfl (fun K hK => ?_) AllReady.nil); go_simp; (refine hK _ _ ?_); clear hK; (refine wpAny_take (i := 13) (v := ?_) rfl (by kernel_rfl) (by kernel_rfl) (by kernel_rfl) (fun _ _ _ h => h) (Or.inl ⟨by rfl, ?_⟩) ?_); rotate_left 1; (intro w; go_simp); (try with_reducible rfl); (refine wpAny_done (by kernel_rfl) ?_ _); go_wp2_with fail; go_meet; exact ⟨_, rfl, HC9.out.mono (by omega), HU9.out⟩))
                | fail "held"
              all_goals (go_wp2_with fail)
              all_goals go_meet
              all_goals exact ⟨_, rfl, HC10.out.mono (by omega), HU10.out⟩
            · have HCN := Lib.hid (fun W => l19Concerns_f er ⟨num, q1, q2, sl⟩ SA sd W hcon)
              rw [← HSN.out] at HCN
              clear hcon
              first
                | go_region_with (first | (go_at_call 39; (with_reducible refine (HCN.out _).mono ?_); rintro e w8 ⟨rfl, hb8q⟩; have HU8 := Lib.hid ((Touch.of_ext (lo := g) (hi := g + 1) (ext_drew wr)).trans (Touch.of_ext hb8q)); have HC8 := Lib.hid ((HC7b.out.ext (ext_drew _)).ext hb8q); clear hb8q) | (go_at_call 58; (with_reducible refine (HON.out _ (K5 + j * 4) _ HC8.out ?_).mono ?_); omega; rintro e w9 ⟨_, rfl, ⟨bw9, rfl⟩, hCq, hUq⟩; have HC9 := Lib.hid hCq; have HU9 := Lib.hid (HU8.out.trans hUq); clear hCq hUq))
                | fail "held"
              all_goals (go_wp2_with fail)
              all_goals go_meet
              all_goals exact ⟨_, rfl, HC9.out.mono (by omega), HU9.out⟩
          case rest =>
            obtain ⟨b, rfl, hC, hU⟩ := hcut
            obtain ⟨w6, hw6⟩ : ∃ z, z = wc := ⟨_, rfl⟩
            subst hw6
            have hgw5 : g + 1 ≤ w5.heap.size := by omega
            have hs7 : (World.heap wr).size ≤ w6.heap.size := hU.size
            have vh6 := HVH7.out.touch hU (.inr hgw5)
            have HO6s := Lib.hid (HOS.out.touch hU (by omega))
            have HC6b := Lib.hid hC
            have HT6b := Lib.hid (HT7.out.trans hU)
            have d0 := (hU.cell (b := eb) (o := eo + j * 5) heb (by omega)).trans c0
            have heb6 : eb < w6.heap.size := Nat.lt_of_lt_of_le heb hs7
            clear c0 c1 c2 c3 c4 v0 v1 v2 v3 hC
            cases b
            · have HVH6 := Lib.hid vh6
              clear vh6 hU
              go_wp2
              go_roundw
              case rel => exact ⟨j + 1, _, sl, by go_num, by omega, by have := HSL.out; omega, HVH6.out, HO6s.out, by omega, HC6b.out.mono (by omega), HT6b.out⟩
              case measure => simp [intOf]; omega
            · have v3 := vh6.cell 3 _ rfl
              have vz := vh6.fz
              have vl6 := vh6.lt
              have HVH6 := Lib.hid vh6
              rw [← HSN.out] at v3
              have hsl12 : sn ≤ 12 := by rw [HSN.out]; have := HSL.out; omega
              have HLIT := Lib.hid ((lit_flo w6 [er.id] 3 #[.int .i64 er.id] rfl).ext (ext_drew _)).fl
              clear vh6 hU
              go_upto_region 12 with fail
              have HO6x : Hid (OwnF one 1 (w5.heap.size + 1) 3 w6 (.slice SA sn sd) sl) := by rw [HSN.out]; exact HO6s.out
              have SK := Lib.hid (fun (W : World) (hb : Below w6.heap.size w6 W) => (show World.cell? W ⟨w5.heap.size, 3, none⟩ = some (.slice SA sn sd) ∧ World.cell? W ⟨eb, eo + j * 5, none⟩ = some (.int .i64 er.id) from ⟨(hb.cell (p := ⟨w5.heap.size, 3, none⟩) vl6).trans v3, (hb.cell (p := ⟨eb, eo + j * 5, none⟩) heb6).trans d0⟩))
              go_region_law (first | (refine step_append_all (f := one) rfl (.tmp 58) (.tmp 64) 31 rfl (w5.heap.size + 1) j0 _ 1 8 Tryz.underlying31 hji9 hy0e hy1e hy2e rfl (by decide) (.slice SA sn sd) sl rfl ?_ (some ⟨w6.heap.size, 0, none⟩) 1 [er.id] rfl ?_ (fun _ => rfl) ?_ (by decide) ?_ ?_; (first | with_reducible exact HO6x.out.ext (ext_trans (ext_alloc _ _) (ext_drew _)) | with_reducible exact HO6x.out.ext (ext_trans (ext_drew _) (ext_alloc _ _))); (exact HLIT.out); (have h9 := HSN.out; simp; omega); (simp; omega); intro v6 w7 hown7 hg7 hb7; (obtain ⟨A9, c9, hv9, _⟩ := hown7.form one_length); (obtain ⟨l9, hl9⟩ : ∃ z, z = sl ++ [er.id] := ⟨_, rfl⟩); rw [← hl9] at hown7 hv9; (obtain ⟨m9, hm9⟩ : ∃ z, z = l9.length := ⟨_, rfl⟩); rw [← hm9] at hv9; subst hv9; (first | with_reducible have hbz := ((ext_trans (ext_alloc w6 _) (ext_drew _)).mono (Nat.succ_le_of_lt vl6)).trans hb7 | with_reducible have hbz := ((ext_trans (ext_drew w6) (ext_alloc _ _)).mono (Nat.succ_le_of_lt vl6)).trans hb7); have vh7 := HVH6.out.below hbz (Nat.lt_succ_self _); have p3 := vh7.cell 3 _ rfl; rw [← HSN.out] at p3; have pz := vh7.fz; have pl := vh7.lt; have HVH7z := Lib.hid vh7; have HBZ := Lib.hid hbz; have HO7 := Lib.hid hown7; have HL9 := Lib.hid hl9; have HM9 := Lib.hid hm9; clear hown7 hg7 hb7 hbz vh7 hl9 hm9))
              all_goals (go_wp2_with fail)
              all_goals go_roundw
              all_goals first
                | exact ⟨j + 1, _, l9, by go_num, by omega, by rw [HL9.out]; simp; have := HSL.out; omega, HVH7z.out.set3' _, HO7.out.touch (Touch.of_set w7 ⟨w5.heap.size, 3, none⟩ _ (Nat.le_refl _) (Nat.lt_succ_self _)) (Nat.le_refl _), by rw [setCell_size]; omega, ((HC6b.out.below' HBZ.out (by omega)).touch' (l := w5.heap.size) (Touch.of_set w7 ⟨w5.heap.size, 3, none⟩ _ (Nat.le_refl _) (Nat.lt_succ_self _)) (by omega)).mono (by omega), (HT6b.out.far' HBZ.out (by omega)).over' (B := w5.heap.size) (Touch.of_set w7 ⟨w5.heap.size, 3, none⟩ _ (Nat.le_refl _) (Nat.lt_succ_self _)) (Nat.le_refl _)⟩
                | (simp [intOf]; omega)
        · have hjq : j = q := by omega
          obtain ⟨SA, sd, hslv, hSF⟩ := hOS.form one_length
          subst hslv
          have v0 := vh.cell 0 _ rfl
          have v1 := vh.cell 1 _ rfl
          have v2 := vh.cell 2 _ rfl
          have v3 := vh.cell 3 _ rfl
          have vl := vh.lt
          have hO13 := HO5.out.touch hT7 (Nat.succ_le_of_lt hgw)
          have HFR := Lib.hid (HO5.out.fresh2 hOS (Nat.le_succ _))
          have HSO := Lib.hid (hOS.from_ (show w.heap.size ≤ w5.heap.size + 1 by omega))
          have HOG := Lib.hid hO13
          have HC13 := Lib.hid hC
          have HT13 := Lib.hid (HT6A.out.trans hT7)
          have HSL := Lib.hid (show sl.length ≤ 12 by omega)
          have hs13 : w.heap.size ≤ (World.heap wr).size := by omega
          have hx5 : xs.length ≤ 16777216 := by omega
          clear vh hOS hC hT7 hO13 hSF hsj
          go_wp2_with (at_builtin; refine wpList_append_g (y := ⟨⟨num, q1, q2, sl⟩, SA, sd⟩) (hd := hdN) (tl := Nest.l) rfl _ _ _ rfl w.heap.size 3 i0 _ 48 Tryz.underlying25 hi0 hz0e hz1e hz2e rfl (fun _ => rfl) _ xs rfl rfl HOG.out (by decide) HSO.out (fun hl z hz hzl => HFR.out hl z hz hzl) hx5 (by decide) hs13 ?_; intro v6 w7 hown7 hg7 hb7; have HO7 := Lib.hid hown7; have HC7 := Lib.hid (HC13.out.below' hb7 hgw); have HT7 := Lib.hid (HT13.out.far' hb7 (Nat.le_refl _)); have hs7 : w.heap.size ≤ w7.heap.size := Nat.le_trans hs13 hb7.size; clear hown7 hg7 hb7)
          go_roundw
          case rel => exact ⟨_, xs ++ [⟨⟨num, q1, q2, sl⟩, SA, sd⟩], num, m - 1, rfl, rfl, by go_num, by omega, by simp; omega, fun y hy => by
            rcases List.mem_append.1 hy with hy | hy
            · exact HXL.out y hy
            · simp at hy; subst hy; exact HSL.out, HO7.out, hs7, HC7.out.mono (by omega), HT7.out⟩
          case measure => simp [intOf]; omega
    · have hm0 : m = 0 := by omega
      subst hm0
      obtain ⟨A, c9, hv, hN⟩ := hO.formQ (by decide)
      obtain ⟨hs, hhs⟩ : ∃ z, z = xs.map GV.x := ⟨_, rfl⟩
      rw [← hhs] at hv hN
      have hsl : ∀ x ∈ hs, x.l.length ≤ 12 := fun x hx => by
        rw [hhs] at hx
        obtain ⟨y, hy, rfl⟩ := List.mem_map.1 hx
        exact hxl y hy
      obtain ⟨kl, hkl⟩ : ∃ z, z = hs.length := ⟨_, rfl⟩
      have hkl5 : kl ≤ 5 := by rw [hkl, hhs, List.length_map]; omega
      rw [← hkl] at hv
      subst hv
      have HN := Lib.hid hN
      have HKL := Lib.hid hkl
      have HSL := Lib.hid hsl
      have HC := Lib.hid (hC.mono (show _ ≤ k + 500 by omega))
      have HT := Lib.hid hT
      clear hO hC hT hN hkl hsl hxl hhs
      go_upto_region 15 with fail
      go_cut [78] (fun v wx => ∃ b : Bool, v = .bool b ∧ (b = true → 0 < kl) ∧ CurAt g C n cap (k + 502) wx ∧ Touch g (g + 1) wr wx)
      case first =>
        by_cases h0 : kl = 0
        · subst h0
          go_wp2
          go_meet
          exact ⟨false, rfl, by simp, HC.out.mono (by omega), Touch.refl _ _ _⟩
        · have h1 : (0 : Int) < (kl : Int) := by omega
          have HN1 := Lib.hid (one_any 20 g C n cap _ wr HC.out (by omega) hn)
          go_wp2_with fail
          ((with_reducible refine (HN1.out).mono ?_); rintro e w2 ⟨_, rfl, ⟨b, rfl⟩, hC2, hU2⟩)
          have HC2 := Lib.hid hC2
          have HU2 := Lib.hid hU2
          clear hC2 hU2
          go_wp2_with fail
          go_meet
          exact ⟨b, rfl, fun _ => by omega, HC2.out, HU2.out⟩
      case rest =>
        obtain ⟨b, rfl, hbk, hC, hU⟩ := hcut
        obtain ⟨w2, hw2⟩ : ∃ z, z = wc := ⟨_, rfl⟩
        subst hw2
        have hs2 : w.heap.size ≤ w2.heap.size := Nat.le_trans hsr hU.size
        have HN2 := Lib.hid ((HN.out.touch hU (.inr (Nat.succ_le_of_lt hgw))).mono (Nat.le_refl _) hU.size)
        have HT2 := Lib.hid (HT.out.trans hU)
        have HC2 := Lib.hid hC
        clear hC hU
        go_upto_if 78 with fail
        go_cut [] (fun wx => ∃ hs' : List Nest, hs'.length = kl ∧ (∀ x ∈ hs', x.l.length ≤ 20) ∧ NlQ w.heap.size wx.heap.size wx A hs' ∧ w.heap.size ≤ wx.heap.size ∧ CurAt g C n cap (k + 600) wx ∧ Touch g (g + 1) w wx)
        case first =>
          cases b
          · go_wp2
            go_meet
            exact ⟨hs, HKL.out.symm, fun x hx => Nat.le_trans (HSL.out x hx) (by decide), HN2.out, hs2, HC2.out.mono (by omega), HT2.out⟩
          · obtain ⟨p, rfl⟩ : ∃ p, kl = p + 1 := ⟨kl - 1, by have := hbk rfl; omega⟩
            obtain ⟨b0, o0, gf, Sf, Df, hAe, hNO⟩ := HN2.out (fun e => by have h9 := HKL.out; rw [e] at h9; simp at h9)
            subst hAe
            have hpl : p < hs.length := by rw [← HKL.out]; omega
            have hx := List.getElem?_eq_getElem hpl
            obtain ⟨x, hxe⟩ : ∃ x, x = hs[p] := ⟨_, rfl⟩
            rw [← hxe] at hx
            have hc := hNO.cell p x hx
            have c0 := hc.ca
            have c1 := hc.cb
            have c2 := hc.cc
            have c3 := hc.cl
            obtain ⟨xl, hxl⟩ : ∃ z, z = x.l.length := ⟨_, rfl⟩
            rw [← hxl] at c3
            have HXLn := Lib.hid hxl
            have HX := Lib.hid hx
            have HNO := Lib.hid hNO
            have hb0 := hNO.size
            clear hc hx hxe hxl hNO hbk
            go_upto_region 17 with fail
            obtain ⟨V3, hV3, hB3, hz3, hu3, hf3⟩ := box_world w2 #[Value.int .i64 x.a, .int .i64 x.b, .int .i64 x.c, .slice (Sf p) xl (Df p)] 41
            have vh : VarL V3 w2.heap.size [Value.int .i64 x.a, .int .i64 x.b, .int .i64 x.c, .slice (Sf p) xl (Df p)] := hV3 ▸ VarL.box w2 _ _
            have HVH3 := Lib.hid vh
            have HNO3 := Lib.hid (HNO.out.touch (Touch.of_ext (lo := g) (hi := g + 1) hB3) (.inr (Nat.succ_le_of_lt hgw)))
            have HT3 := Lib.hid (HT2.out.trans (Touch.of_ext hB3))
            have HPK := Lib.hid (pick_any 4 g C n cap _ V3 (HC2.out.ext hB3) (by omega) hn)
            rw [hV3]
            clear hV3 hu3 hf3 vh c0 c1 c2 c3 hB3
            go_wp2_with fail
            ((with_reducible refine (HPK.out).mono ?_); rintro e w4 ⟨_, rfl, ⟨z4, rfl, _, _⟩, hC4, hU4⟩)
            have hs4 : V3.heap.size ≤ w4.heap.size := hU4.size
            have HC4 := Lib.hid hC4
            have HT4 := Lib.hid (HT3.out.trans hU4)
            have HVH4 := Lib.hid (HVH3.out.touch hU4 (.inr (by omega)))
            have HNO4 := Lib.hid (HNO3.out.touch hU4 (.inr (Nat.succ_le_of_lt hgw)))
            clear hC4 hU4
            by_cases h10 : z4 = 0
            · subst h10
              have hlt9 : g < w4.heap.size := HC4.out.lt
              have HAM := Lib.hid (among_any (some ⟨w4.heap.size, 0, none⟩) 3 3 [0, 999, 1000] rfl w4.heap.size (w4.heap.size + 1) g C n cap _ (w4.alloc (.cells #[Value.int .i64 0, Value.int .i64 999, Value.int .i64 1000] 3)) (HC4.out.ext (ext_alloc _ _)) (by omega) hn (lit_flo w4 [0, 999, 1000] _ _ rfl) (by simp) (by simp) (.inl hlt9))
              go_wp2_with fail
              ((with_reducible refine (HAM.out).mono ?_); rintro e w5 ⟨_, rfl, ⟨q9, _, rfl⟩, hC5, hU5⟩)
              have hU5' := (Touch.of_ext (lo := g) (hi := g + 1) (ext_alloc w4 (.cells #[Value.int .i64 0, Value.int .i64 999, Value.int .i64 1000] 3))).trans hU5
              have hs5 : w4.heap.size ≤ w5.heap.size := hU5'.size
              have HC5 := Lib.hid hC5
              have HT5 := Lib.hid (HT4.out.trans hU5')
              have HVH5 := Lib.hid (HVH4.out.touch hU5' (.inr (by omega)))
              have HNO5 := Lib.hid (HNO4.out.touch hU5' (.inr (Nat.succ_le_of_lt hgw)))
              clear hC5 hU5 hU5'
              have hN9 := HNO5.out.cell p x HX.out
              have c0 := hN9.ca
              have c1 := hN9.cb
              have c2 := hN9.cc
              have c3 := hN9.cl
              have cz := HNO5.out.frozen
              have cb := HNO5.out.size
              have e0 := HVH5.out.cell 0 _ rfl
              have e1 := HVH5.out.cell 1 _ rfl
              have e2 := HVH5.out.cell 2 _ rfl
              have e3 := HVH5.out.cell 3 _ rfl
              have ez := HVH5.out.fz
              have el := HVH5.out.lt
              clear hN9
              go_wp2_with fail
              go_meet
              rw [HXLn.out]
              exact ⟨hs.set p ⟨q9, x.b, x.c, x.l⟩, by rw [List.length_set, HKL.out], fun y hy => by
                  rcases List.mem_or_eq_of_mem_set hy with hy | rfl
                  · exact Nat.le_trans (HSL.out y hy) (by decide)
                  · exact Nat.le_trans (HSL.out x (List.mem_of_getElem? HX.out)) (by decide),
                NOwnQ.turn (x' := ⟨q9, x.b, x.c, x.l⟩) (S' := Sf p) (D' := Df p) (g' := gf p) (hi' := w2.heap.size) (HNO5.out.touch (Touch.of_set w5 ⟨w2.heap.size, 0, none⟩ (.int .i64 q9) (Nat.le_refl _) (Nat.lt_succ_self _)) (.inl (Nat.le_refl _))) hpl (Nat.le_refl _) (by simp only [setCell_size]; omega) ((HNO5.out.touch (Touch.of_set w5 ⟨w2.heap.size, 0, none⟩ (.int .i64 q9) (Nat.le_refl _) (Nat.lt_succ_self _)) (.inl (Nat.le_refl _))).own p x HX.out) (fun hl => HNO5.out.rng p x HX.out hl) (fun i y hi hy hly hlx he => hi (HNO5.out.inj i p y x hy HX.out hly hlx he)) (HNO5.out.cap p x HX.out),
                by simp only [setCell_size]; omega,
                ((HC5.out.touch' (l := w2.heap.size) (Touch.of_set w5 ⟨w2.heap.size, 0, none⟩ (.int .i64 q9) (Nat.le_refl _) (Nat.lt_succ_self _)) (by omega)).touch' (l := b0) (set4_touch _ b0 _ _ _ _ _) (by have := HNO5.out.hlo; omega)).mono (by omega),
                (HT5.out.over' (B := w2.heap.size) (Touch.of_set w5 ⟨w2.heap.size, 0, none⟩ (.int .i64 q9) (Nat.le_refl _) (Nat.lt_succ_self _)) (by omega)).over' (B := b0) (set4_touch _ b0 _ _ _ _ _) (HNO5.out.hlo)⟩
            · have zf0 : (z4 == 0) = false := by simp [h10]
              by_cases h11 : z4 = 1
              · subst h11
                have hlt9 : g < w4.heap.size := HC4.out.lt
                have HAM := Lib.hid (among_any (some ⟨w4.heap.size, 0, none⟩) 2 2 [0, 1000] rfl w4.heap.size (w4.heap.size + 1) g C n cap _ (w4.alloc (.cells #[Value.int .i64 0, Value.int .i64 1000] 3)) (HC4.out.ext (ext_alloc _ _)) (by omega) hn (lit_flo w4 [0, 1000] _ _ rfl) (by simp) (by simp) (.inl hlt9))
                go_wp2_with fail
                ((with_reducible refine (HAM.out).mono ?_); rintro e w5 ⟨_, rfl, ⟨q9, _, rfl⟩, hC5, hU5⟩)
                have hU5' := (Touch.of_ext (lo := g) (hi := g + 1) (ext_alloc w4 (.cells #[Value.int .i64 0, Value.int .i64 1000] 3))).trans hU5
                have hs5 : w4.heap.size ≤ w5.heap.size := hU5'.size
                have HC5 := Lib.hid hC5
                have HT5 := Lib.hid (HT4.out.trans hU5')
                have HVH5 := Lib.hid (HVH4.out.touch hU5' (.inr (by omega)))
                have HNO5 := Lib.hid (HNO4.out.touch hU5' (.inr (Nat.succ_le_of_lt hgw)))
                clear hC5 hU5 hU5'
                have hN9 := HNO5.out.cell p x HX.out
                have c0 := hN9.ca
                have c1 := hN9.cb
                have c2 := hN9.cc
                have c3 := hN9.cl
                have cz := HNO5.out.frozen
                have cb := HNO5.out.size
                have e0 := HVH5.out.cell 0 _ rfl
                have e1 := HVH5.out.cell 1 _ rfl
                have e2 := HVH5.out.cell 2 _ rfl
                have e3 := HVH5.out.cell 3 _ rfl
                have ez := HVH5.out.fz
                have el := HVH5.out.lt
                clear hN9
                go_wp2_with fail
                go_meet
                rw [HXLn.out]
                exact ⟨hs.set p ⟨x.a, q9, x.c, x.l⟩, by rw [List.length_set, HKL.out], fun y hy => by
                    rcases List.mem_or_eq_of_mem_set hy with hy | rfl
                    · exact Nat.le_trans (HSL.out y hy) (by decide)
                    · exact Nat.le_trans (HSL.out x (List.mem_of_getElem? HX.out)) (by decide),
                  NOwnQ.turn (x' := ⟨x.a, q9, x.c, x.l⟩) (S' := Sf p) (D' := Df p) (g' := gf p) (hi' := w2.heap.size) (HNO5.out.touch (Touch.of_set w5 ⟨w2.heap.size, 1, none⟩ (.int .i64 q9) (Nat.le_refl _) (Nat.lt_succ_self _)) (.inl (Nat.le_refl _))) hpl (Nat.le_refl _) (by simp only [setCell_size]; omega) ((HNO5.out.touch (Touch.of_set w5 ⟨w2.heap.size, 1, none⟩ (.int .i64 q9) (Nat.le_refl _) (Nat.lt_succ_self _)) (.inl (Nat.le_refl _))).own p x HX.out) (fun hl => HNO5.out.rng p x HX.out hl) (fun i y hi hy hly hlx he => hi (HNO5.out.inj i p y x hy HX.out hly hlx he)) (HNO5.out.cap p x HX.out),
                  by simp only [setCell_size]; omega,
                  ((HC5.out.touch' (l := w2.heap.size) (Touch.of_set w5 ⟨w2.heap.size, 1, none⟩ (.int .i64 q9) (Nat.le_refl _) (Nat.lt_succ_self _)) (by omega)).touch' (l := b0) (set4_touch _ b0 _ _ _ _ _) (by have := HNO5.out.hlo; omega)).mono (by omega),
                  (HT5.out.over' (B := w2.heap.size) (Touch.of_set w5 ⟨w2.heap.size, 1, none⟩ (.int .i64 q9) (Nat.le_refl _) (Nat.lt_succ_self _)) (by omega)).over' (B := b0) (set4_touch _ b0 _ _ _ _ _) (HNO5.out.hlo)⟩
              · have zf1 : (z4 == 1) = false := by simp [h11]
                by_cases h12 : z4 = 2
                · subst h12
                  have hlt9 : g < w4.heap.size := HC4.out.lt
                  have HAM := Lib.hid (among_any (some ⟨w4.heap.size, 0, none⟩) 2 2 [0, 10] rfl w4.heap.size (w4.heap.size + 1) g C n cap _ (w4.alloc (.cells #[Value.int .i64 0, Value.int .i64 10] 3)) (HC4.out.ext (ext_alloc _ _)) (by omega) hn (lit_flo w4 [0, 10] _ _ rfl) (by simp) (by simp) (.inl hlt9))
                  go_wp2_with fail
                  ((with_reducible refine (HAM.out).mono ?_); rintro e w5 ⟨_, rfl, ⟨q9, _, rfl⟩, hC5, hU5⟩)
                  have hU5' := (Touch.of_ext (lo := g) (hi := g + 1) (ext_alloc w4 (.cells #[Value.int .i64 0, Value.int .i64 10] 3))).trans hU5
                  have hs5 : w4.heap.size ≤ w5.heap.size := hU5'.size
                  have HC5 := Lib.hid hC5
                  have HT5 := Lib.hid (HT4.out.trans hU5')
                  have HVH5 := Lib.hid (HVH4.out.touch hU5' (.inr (by omega)))
                  have HNO5 := Lib.hid (HNO4.out.touch hU5' (.inr (Nat.succ_le_of_lt hgw)))
                  clear hC5 hU5 hU5'
                  have hN9 := HNO5.out.cell p x HX.out
                  have c0 := hN9.ca
                  have c1 := hN9.cb
                  have c2 := hN9.cc
                  have c3 := hN9.cl
                  have cz := HNO5.out.frozen
                  have cb := HNO5.out.size
                  have e0 := HVH5.out.cell 0 _ rfl
                  have e1 := HVH5.out.cell 1 _ rfl
                  have e2 := HVH5.out.cell 2 _ rfl
                  have e3 := HVH5.out.cell 3 _ rfl
                  have ez := HVH5.out.fz
                  have el := HVH5.out.lt
                  clear hN9
                  go_wp2_with fail
                  go_meet
                  rw [HXLn.out]
                  exact ⟨hs.set p ⟨x.a, x.b, q9, x.l⟩, by rw [List.length_set, HKL.out], fun y hy => by
                      rcases List.mem_or_eq_of_mem_set hy with hy | rfl
                      · exact Nat.le_trans (HSL.out y hy) (by decide)
                      · exact Nat.le_trans (HSL.out x (List.mem_of_getElem? HX.out)) (by decide),
                    NOwnQ.turn (x' := ⟨x.a, x.b, q9, x.l⟩) (S' := Sf p) (D' := Df p) (g' := gf p) (hi' := w2.heap.size) (HNO5.out.touch (Touch.of_set w5 ⟨w2.heap.size, 2, none⟩ (.int .i64 q9) (Nat.le_refl _) (Nat.lt_succ_self _)) (.inl (Nat.le_refl _))) hpl (Nat.le_refl _) (by simp only [setCell_size]; omega) ((HNO5.out.touch (Touch.of_set w5 ⟨w2.heap.size, 2, none⟩ (.int .i64 q9) (Nat.le_refl _) (Nat.lt_succ_self _)) (.inl (Nat.le_refl _))).own p x HX.out) (fun hl => HNO5.out.rng p x HX.out hl) (fun i y hi hy hly hlx he => hi (HNO5.out.inj i p y x hy HX.out hly hlx he)) (HNO5.out.cap p x HX.out),
                    by simp only [setCell_size]; omega,
                    ((HC5.out.touch' (l := w2.heap.size) (Touch.of_set w5 ⟨w2.heap.size, 2, none⟩ (.int .i64 q9) (Nat.le_refl _) (Nat.lt_succ_self _)) (by omega)).touch' (l := b0) (set4_touch _ b0 _ _ _ _ _) (by have := HNO5.out.hlo; omega)).mono (by omega),
                    (HT5.out.over' (B := w2.heap.size) (Touch.of_set w5 ⟨w2.heap.size, 2, none⟩ (.int .i64 q9) (Nat.le_refl _) (Nat.lt_succ_self _)) (by omega)).over' (B := b0) (set4_touch _ b0 _ _ _ _ _) (HNO5.out.hlo)⟩
                · have zf2 : (z4 == 2) = false := by simp [h12]
                  by_cases h13 : z4 = 3
                  · subst h13
                    have hl1 := l1Own_any (Sf p) (Df p) x.l w4 (Nat.le_trans (HSL.out x (List.mem_of_getElem? HX.out)) (by decide)) ((HNO4.out.own p x HX.out).fl)
                    rw [← HXLn.out] at hl1
                    have HL1 := Lib.hid hl1
                    have e0 := HVH4.out.cell 0 _ rfl
                    have e1 := HVH4.out.cell 1 _ rfl
                    have e2 := HVH4.out.cell 2 _ rfl
                    have e3 := HVH4.out.cell 3 _ rfl
                    have ez := HVH4.out.fz
                    have el := HVH4.out.lt
                    clear hl1
                    go_wp2_with fail
                    ((with_reducible refine (HL1.out).mono ?_); rintro e w5 ⟨B4, d4, rfl, hown4, hb4⟩)
                    obtain ⟨B5, d5, hv5, _⟩ := hown4.form one_length
                    injection hv5 with e5 _ e6
                    subst e5 e6
                    have HO5 := Lib.hid hown4
                    have HC5 := Lib.hid (HC4.out.ext hb4)
                    have HT5 := Lib.hid (HT4.out.trans (Touch.of_ext hb4))
                    have HVH5 := Lib.hid (HVH4.out.ext hb4)
                    have HNO5 := Lib.hid (HNO4.out.touch (Touch.of_ext (lo := g) (hi := g + 1) hb4) (.inr (Nat.succ_le_of_lt hgw)))
                    have hs5 : w4.heap.size ≤ w5.heap.size := hb4.size
                    have hlt9 : g < w5.heap.size := HC5.out.lt
                    have HAM := Lib.hid (among_any (some ⟨w5.heap.size, 0, none⟩) 2 2 [1, 77] rfl w5.heap.size (w5.heap.size + 1) g C n cap _ (w5.alloc (.cells #[Value.int .i64 1, Value.int .i64 77] 3)) (HC5.out.ext (ext_alloc _ _)) (by omega) hn (lit_flo w5 [1, 77] _ _ rfl) (by simp) (by simp) (.inl hlt9))
                    rw [← HXLn.out]
                    rw [← HXLn.out] at HO5
                    clear hown4 hb4 e0 e1 e2 e3 ez el
                    go_wp2_with fail
                    ((with_reducible refine (HAM.out).mono ?_); rintro e w6 ⟨_, rfl, ⟨q9, _, rfl⟩, hC6, hU6⟩)
                    have hU := (Touch.of_ext (lo := g) (hi := g + 1) (ext_alloc w5 (.cells #[Value.int .i64 1, Value.int .i64 77] 3))).trans hU6
                    have hs6 : w4.heap.size ≤ w6.heap.size := Nat.le_trans hs5 hU.size
                    have HC6 := Lib.hid hC6
                    have HT6 := Lib.hid (HT5.out.trans hU)
                    have HVH6 := Lib.hid (HVH5.out.touch hU (.inr (by omega)))
                    have HNO6 := Lib.hid (HNO5.out.touch hU (.inr (Nat.succ_le_of_lt hgw)))
                    have HO6 := Lib.hid (HO5.out.touch hU (by omega))
                    have hxb : x.l.length ≤ 16777216 := Nat.le_trans (HSL.out x (List.mem_of_getElem? HX.out)) (by decide)
                    have e0 := HVH6.out.cell 0 _ rfl
                    have e1 := HVH6.out.cell 1 _ rfl
                    have e2 := HVH6.out.cell 2 _ rfl
                    have e3 := HVH6.out.cell 3 _ rfl
                    have ez := HVH6.out.fz
                    have el := HVH6.out.lt
                    clear hC6 hU6 hU
                    go_upto_region 26 with (at_builtin; refine wpList_append_flat (f := one) (y := q9) rfl _ _ _ rfl w4.heap.size j0 _ 1 8 Tryz.underlying31 hji9 hy0e hy1e hy2e rfl (by decide) _ _ rfl rfl HO6.out rfl hxb (by decide) hs6 ?_; intro v7 w7 hown7 hg7 hb7; (obtain ⟨A9, c9x, hv9, hF9⟩ := hown7.form one_length); (obtain ⟨l9, hl9⟩ : ∃ z, z = x.l ++ [q9] := ⟨_, rfl⟩); rw [← hl9] at hv9 hF9; (obtain ⟨m9, hm9⟩ : ∃ z, z = l9.length := ⟨_, rfl⟩); rw [← hm9] at hv9; subst hv9; have HCP9 := Lib.hid (show Cap A9 l9.length c9x from by rw [hl9]; exact hown7.capQ); have HF9 := Lib.hid hF9; have HL9 := Lib.hid hl9; have HM9 := Lib.hid hm9; have hvh7 := HVH6.out.below hb7 (by omega); have p0 := hvh7.cell 0 _ rfl; have p1 := hvh7.cell 1 _ rfl; have p2 := hvh7.cell 2 _ rfl; have p3 := hvh7.cell 3 _ rfl; have pz := hvh7.fz; have pl := hvh7.lt; have HVH7 := Lib.hid hvh7; have HNO7 := Lib.hid (HNO6.out.touch (Touch.of_below' hb7) (.inl (by omega))); have HC7 := Lib.hid (HC6.out.below' hb7 (by omega)); have HT7 := Lib.hid (HT6.out.far' hb7 (by omega)); have hs7 := hb7.size; clear hown7 hg7 hb7 hF9 hl9 hm9 hvh7)
                    clear e0 e1 e2 e3 ez el h10 h11 h12 zf0 zf1 zf2
                    have hN9 := HNO7.out.cell p x HX.out
                    have c0 := hN9.ca
                    have c1 := hN9.cb
                    have c2 := hN9.cc
                    have c3 := hN9.cl
                    have cz := HNO7.out.frozen
                    have cb := HNO7.out.size
                    have hb0i := HNO7.out.hhi
                    have hb0l := HNO7.out.hlo
                    obtain ⟨gb, go9, hA9, g1, g2, g3, gz9, gc9⟩ := HF9.out (by rw [HL9.out]; simp)
                    have HFG := Lib.hid (show FlO one 1 gb (gb + 1) w7 A9 l9 from fun _ => ⟨gb, go9, hA9, g1, Nat.le_refl _, Nat.lt_succ_self _, gz9, gc9⟩)
                    clear hN9 hA9 gz9 gc9
                    go_wp2
                    go_meet
                    rw [HM9.out]
                    exact ⟨hs.set p ⟨x.a, x.b, x.c, l9⟩, by rw [List.length_set, HKL.out], fun y hy => by
                        rcases List.mem_or_eq_of_mem_set hy with hy | rfl
                        · exact Nat.le_trans (HSL.out y hy) (by decide)
                        · have h1 := HSL.out x (List.mem_of_getElem? HX.out)
                          show l9.length ≤ 20
                          rw [HL9.out, List.length_append]
                          simp only [List.length_cons, List.length_nil]
                          omega,
                      NOwnQ.turn (x' := ⟨x.a, x.b, x.c, l9⟩) (S' := A9) (D' := c9x) (g' := gb) (hi' := w7.heap.size) (HNO7.out.touch (Touch.of_set w7 ⟨w2.heap.size, 3, none⟩ (.slice A9 l9.length c9x) (Nat.le_refl _) (Nat.lt_succ_self _)) (.inl (Nat.le_refl _))) hpl (by omega) (by simp only [setCell_size]; omega) (HFG.out.touch (Touch.of_set w7 ⟨w2.heap.size, 3, none⟩ (.slice A9 l9.length c9x) (Nat.le_refl _) (Nat.lt_succ_self _)) (.inr (show w2.heap.size + 1 ≤ gb by omega))) (fun _ => ⟨by omega, g3, by omega⟩) (fun i y hi hy hly _ he => by have := HNO7.out.rng i y hy hly; omega) HCP9.out,
                      by simp only [setCell_size]; omega,
                      ((HC7.out.touch' (l := w2.heap.size) (Touch.of_set w7 ⟨w2.heap.size, 3, none⟩ (.slice A9 l9.length c9x) (Nat.le_refl _) (Nat.lt_succ_self _)) (by omega)).touch' (l := b0) (set4_touch _ b0 _ _ _ _ _) (by omega)).mono (by omega),
                      (HT7.out.over' (B := w2.heap.size) (Touch.of_set w7 ⟨w2.heap.size, 3, none⟩ (.slice A9 l9.length c9x) (Nat.le_refl _) (Nat.lt_succ_self _)) (by omega)).over' (B := b0) (set4_touch _ b0 _ _ _ _ _) (by omega)⟩
                  · have zf3 : (z4 == 3) = false := by simp [h13]
                    have hs5 : w4.heap.size ≤ w4.heap.size := Nat.le_refl _
                    have HC5 := HC4
                    have HT5 := HT4
                    have HVH5 := HVH4
                    have HNO5 := HNO4
                    have hN9 := HNO5.out.cell p x HX.out
                    have c0 := hN9.ca
                    have c1 := hN9.cb
                    have c2 := hN9.cc
                    have c3 := hN9.cl
                    have cz := HNO5.out.frozen
                    have cb := HNO5.out.size
                    have e0 := HVH5.out.cell 0 _ rfl
                    have e1 := HVH5.out.cell 1 _ rfl
                    have e2 := HVH5.out.cell 2 _ rfl
                    have e3 := HVH5.out.cell 3 _ rfl
                    have ez := HVH5.out.fz
                    have el := HVH5.out.lt
                    clear hN9
                    obtain ⟨xa, hxa⟩ : ∃ z, z = x.a := ⟨_, rfl⟩
                    obtain ⟨xb, hxb⟩ : ∃ z, z = x.b := ⟨_, rfl⟩
                    obtain ⟨xc, hxc⟩ : ∃ z, z = x.c := ⟨_, rfl⟩
                    rw [← hxa] at e0
                    rw [← hxb] at e1
                    rw [← hxc] at e2
                    have HXa := Lib.hid hxa
                    have HXb := Lib.hid hxb
                    have HXc := Lib.hid hxc
                    clear hxa hxb hxc
                    go_upto_region 26 with fail
                    clear zf0 zf1 zf2 zf3 h10 h11 h12 h13
                    go_wp2
                    go_meet
                    rw [HXLn.out, HXa.out, HXb.out, HXc.out]
                    exact ⟨hs.set p ⟨x.a, x.b, x.c, x.l⟩, by rw [List.length_set, HKL.out], fun y hy => by
                        rcases List.mem_or_eq_of_mem_set hy with hy | rfl
                        · exact Nat.le_trans (HSL.out y hy) (by decide)
                        · exact Nat.le_trans (HSL.out x (List.mem_of_getElem? HX.out)) (by decide),
                      NOwnQ.turn (x' := ⟨x.a, x.b, x.c, x.l⟩) (S' := Sf p) (D' := Df p) (g' := gf p) (hi' := w2.heap.size) (HNO5.out.touch (Touch.refl w2.heap.size (w2.heap.size + 1) w4) (.inl (Nat.le_refl _))) hpl (Nat.le_refl _) (by skip; omega) ((HNO5.out.touch (Touch.refl w2.heap.size (w2.heap.size + 1) w4) (.inl (Nat.le_refl _))).own p x HX.out) (fun hl => HNO5.out.rng p x HX.out hl) (fun i y hi hy hly hlx he => hi (HNO5.out.inj i p y x hy HX.out hly hlx he)) (HNO5.out.cap p x HX.out),
                      by simp only [setCell_size]; omega,
                      ((HC5.out.touch' (Touch.refl w2.heap.size (w2.heap.size + 1) w4) (by omega)).touch' (l := b0) (set4_touch _ b0 _ _ _ _ _) (by have := HNO5.out.hlo; omega)).mono (by omega),
                      (HT5.out.over' (Touch.refl w2.heap.size (w2.heap.size + 1) w4) (by omega)).over' (B := b0) (set4_touch _ b0 _ _ _ _ _) (HNO5.out.hlo)⟩
        case rest =>
          obtain ⟨h2, hl2, hle2, hN, hsz, hC, hT⟩ := hcut
          obtain ⟨w6, hw6⟩ : ∃ z, z = wc := ⟨_, rfl⟩
          subst hw6
          have HN6 := Lib.hid hN
          have HT6 := Lib.hid hT
          have HN1 := Lib.hid (one_any 24 g C n cap _ w6 hC (by omega) hn)
          have HL2 := Lib.hid hl2
          have HW2 := Lib.hid (wt_bd h2 20 hle2)
          clear hC hN hT hl2 hle2
          go_wp2_with fail
          ((with_reducible refine (HN1.out).mono ?_); rintro e w7 ⟨_, rfl, ⟨b, rfl⟩, hC7, hU7⟩)
          have HN7 := Lib.hid ((HN6.out.touch hU7 (.inr (Nat.succ_le_of_lt hgw))).mono (Nat.le_refl _) hU7.size)
          have HT7 := Lib.hid (HT6.out.trans hU7)
          have hs7 : w.heap.size ≤ w7.heap.size := Nat.le_trans hsz hU7.size
          have HC7 := Lib.hid hC7
          clear hC7 hU7
          cases b
          · go_wp2
            go_ret
            exact ⟨A, c9, h2, by rw [HL2.out]; rfl, by have h1 := HW2.out; have h3 := HL2.out; rw [h3] at h1; omega, HN7.out, HC7.out.mono (by omega), HT7.out⟩
          · go_wp2
            have HO9 := Lib.hid (OwnG.empty (hd := hdN) (tl := Nest.l) (p := 3) (e := 41) (et := 3) hs7)
            have HC9 := Lib.hid (HC7.out.ext (ext_alloc w7 (.cells #[] 41)))
            have HT9 := Lib.hid (HT7.out.trans (Touch.of_ext (ext_alloc w7 (.cells #[] 41))))
            have hs9 : w.heap.size ≤ (w7.alloc (.cells #[] 41)).heap.size := by simp; omega
            go_loopw [5, 12] (fun out iv wr => ∃ (v : Value) (ys : List (GV Nest)) (j : Nat), out = v ∧ iv = .int .i64 (j : Int) ∧ j ≤ 12 ∧ ys.length ≤ j ∧ (∀ y ∈ ys, y.x.l.length ≤ 0) ∧ OwnG hdN Nest.l 3 w.heap.size 41 3 wr v ys ∧ w.heap.size ≤ wr.heap.size ∧ CurAt g C n cap (k + 700 + j * 3) wr ∧ Touch g (g + 1) w wr) (fun _ iv _ => 12 - (intOf iv).toNat)
            case atStart => exact ⟨_, [], 0, rfl, rfl, by omega, by simp, by simp, HO9.out, hs9, HC9.out.mono (by omega), HT9.out⟩
            case round =>
              obtain ⟨v, ys, j, rfl, rfl, hj, hyj, hyz, hO, hsr2, hC, hT⟩ := hrel
              have HO := Lib.hid hO
              have HT := Lib.hid hT
              have HYZ := Lib.hid hyz
              have HN1 := Lib.hid (pick_any 2 g C n cap _ wr hC (by omega) hn)
              clear hC hO hT hyz
              go_wp2_with fail
              ((with_reducible refine (HN1.out).mono ?_); rintro e w5 ⟨_, rfl, ⟨y, rfl, hy0, hy1⟩, hC, hU5⟩)
              have hy2 : y < 2 := by omega
              have hO5 := HO.out.touch hU5 (Nat.succ_le_of_lt hgw)
              have HT5 := Lib.hid (HT.out.trans hU5)
              have hs5 : w.heap.size ≤ w5.heap.size := Nat.le_trans hsr2 hU5.size
              have HO5 := Lib.hid hO5
              have HC5 := Lib.hid hC
              have hx5 : ys.length ≤ 16777216 := by omega
              clear hC hU5 hO5
              by_cases hlt : (j : Int) < 10 + y
              · go_wp2_with (at_builtin; refine wpList_append_g (y := ⟨⟨_, _, _, []⟩, none, 0⟩) (hd := hdN) (tl := Nest.l) rfl _ _ _ rfl w.heap.size 3 i0 _ 48 Tryz.underlying25 hi0 hz0e hz1e hz2e rfl (fun _ => rfl) _ ys rfl rfl HO5.out (by decide) OwnF.none_ (fun hl => absurd rfl hl) hx5 (by decide) hs5 ?_; intro v6 w6 hown6 hg6 hb6; have HC6 := Lib.hid (HC5.out.below' hb6 hgw); have HT6 := Lib.hid (HT5.out.far' hb6 (Nat.le_refl _)); have hs6 : w.heap.size ≤ w6.heap.size := Nat.le_trans hs5 hb6.size; have HO6 := Lib.hid hown6; clear hown6 hg6 hb6)
                go_roundw
                case rel => exact ⟨_, _, j + 1, rfl, by go_num, by omega, by simp; omega, fun z hz => by
                  rcases List.mem_append.1 hz with hz | hz
                  · exact HYZ.out z hz
                  · simp at hz; subst hz; simp, HO6.out, hs6, HC6.out.mono (by omega), HT6.out⟩
                case measure => simp [intOf]; omega
              · obtain ⟨A5, d5, hv5, hG5⟩ := HO5.out.formQ (by decide)
                have HG5 := Lib.hid hG5
                obtain ⟨h5, hh5⟩ : ∃ z, z = ys.map GV.x := ⟨_, rfl⟩
                rw [← hh5] at hv5 HG5
                have HW5 := Lib.hid (wt_bd h5 0 (fun x hx => by
                  rw [hh5] at hx
                  obtain ⟨z, hz, rfl⟩ := List.mem_map.1 hx
                  exact HYZ.out z hz))
                have HLL := Lib.hid (show h5.length ≤ 12 by rw [hh5, List.length_map]; omega)
                obtain ⟨m5, hm5⟩ : ∃ z, z = h5.length := ⟨_, rfl⟩
                rw [← hm5] at hv5
                subst hv5
                have HM5 := Lib.hid hm5
                clear hG5 hh5 hm5
                go_wp2
                go_ret
                exact ⟨A5, d5, h5, by rw [← HM5.out]; rfl, by have h1 := HW5.out; have h3 := HLL.out; omega, HG5.out, HC5.out.mono (by omega), HT5.out⟩
end Go.Proofs.YtbnlbcbdhmmlgaaGreatDoor
