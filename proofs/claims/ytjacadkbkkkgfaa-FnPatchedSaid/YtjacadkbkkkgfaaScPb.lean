/- Scans: patches and neighbours. No condition. -/
import Derived.Test.YtjacadkbkkkgfaaPbD
import Derived.Test.YtjacadkbkkkgfaaScanG
namespace Go.Proofs.Ytjacadkbkkkgfaa
open Go.RowKit
set_option linter.unusedVariables false
set_option linter.unusedSimpArgs false

def SameP (x y : Tile) : Prop := x.row = y.row ∧ x.col = y.col
theorem tri_p (x y : Tile) : TileLt x y ∨ SameP x y ∨ TileLt y x := by unfold TileLt SameP; omega
theorem insT_mem {t z : Tile} {xs : List Tile} : z ∈ insT t xs ↔ z = t ∨ (z ∈ xs ∧ ¬ SameP z t) := by
  unfold insT
  rw [List.mem_append, List.mem_cons, List.mem_filter, List.mem_filter]
  simp only [decide_eq_true_eq]
  constructor
  · rintro (⟨h1, h2⟩ | rfl | ⟨h1, h2⟩)
    · exact .inr ⟨h1, by unfold TileLt at h2; unfold SameP; omega⟩
    · exact .inl rfl
    · exact .inr ⟨h1, by unfold TileLt at h2; unfold SameP; omega⟩
  · rintro (rfl | ⟨h1, h2⟩)
    · exact .inr (.inl rfl)
    · rcases tri_p z t with h | h | h
      · exact .inl ⟨h1, h⟩
      · exact absurd h h2
      · exact .inr (.inr ⟨h1, h⟩)
theorem patch_mem {f : Tile → Tile} {z : Tile} : ∀ (ys xs : List Tile), (ys.Pairwise fun a b => ¬ SameP (f a) (f b)) → (z ∈ patchL f xs ys ↔ (∃ y ∈ ys, z = f y) ∨ (z ∈ xs ∧ ∀ y ∈ ys, ¬ SameP z (f y)))
  | [], xs, _ => by simp [patchL]
  | y :: r, xs, h => by
    obtain ⟨h1, h2⟩ := List.pairwise_cons.1 h
    have ih := patch_mem (f := f) (z := z) r (insT (f y) xs) h2
    have e : patchL f xs (y :: r) = patchL f (insT (f y) xs) r := rfl
    rw [e, ih, insT_mem]
    constructor
    · rintro (⟨q, hq, rfl⟩ | ⟨rfl | ⟨k1, k2⟩, k3⟩)
      · exact .inl ⟨q, List.mem_cons_of_mem _ hq, rfl⟩
      · exact .inl ⟨y, List.mem_cons_self, rfl⟩
      · exact .inr ⟨k1, fun q hq => by
          rcases List.mem_cons.1 hq with rfl | hq
          · exact k2
          · exact k3 q hq⟩
    · rintro (⟨q, hq, rfl⟩ | ⟨k1, k2⟩)
      · rcases List.mem_cons.1 hq with rfl | hq
        · exact .inr ⟨.inl rfl, fun p hp => h1 p hp⟩
        · exact .inl ⟨q, hq, rfl⟩
      · exact .inr ⟨.inr ⟨k1, k2 y List.mem_cons_self⟩, fun q hq => k2 q (List.mem_cons_of_mem _ hq)⟩
theorem lt_irr (x : Tile) : ¬ TileLt x x := by unfold TileLt; omega
theorem pw_ext : ∀ (xs ys : List Tile), xs.Pairwise TileLt → ys.Pairwise TileLt → (∀ z, z ∈ xs ↔ z ∈ ys) → xs = ys
  | [], [], _, _, _ => rfl
  | [], y :: ys, _, _, h => absurd ((h y).2 List.mem_cons_self) (by simp)
  | x :: xs, [], _, _, h => absurd ((h x).1 List.mem_cons_self) (by simp)
  | x :: xs, y :: ys, h1, h2, h => by
    obtain ⟨a1, a2⟩ := List.pairwise_cons.1 h1
    obtain ⟨b1, b2⟩ := List.pairwise_cons.1 h2
    have exy : x = y := by
      rcases List.mem_cons.1 ((h x).1 List.mem_cons_self) with e | e
      · exact e
      · rcases List.mem_cons.1 ((h y).2 List.mem_cons_self) with e' | e'
        · exact e'.symm
        · have := tileLt_trans _ _ _ (b1 x e) (a1 y e')
          exact absurd this (lt_irr y)
    subst exy
    rw [pw_ext xs ys a2 b2 (fun z => ⟨fun hz => by
      rcases List.mem_cons.1 ((h z).1 (List.mem_cons_of_mem _ hz)) with e | e
      · exact absurd (e ▸ a1 z hz) (lt_irr _)
      · exact e, fun hz => by
      rcases List.mem_cons.1 ((h z).2 (List.mem_cons_of_mem _ hz)) with e | e
      · exact absurd (e ▸ b1 z hz) (lt_irr _)
      · exact e⟩)]
theorem pw_same {f : Tile → Tile} {ys : List Tile} (h : ys.Pairwise TileLt) (hf : ∀ a b, SameP (f a) (f b) → SameP a b) : ys.Pairwise fun a b => ¬ SameP (f a) (f b) :=
  h.imp (fun {a b} hab hs => by have := hf _ _ hs; unfold SameP at this; unfold TileLt at hab; omega)
theorem scn_of {R C : Int} {L : List Tile} (hs : Side R C) (hp : L.Pairwise TileLt) (hm : ∀ t ∈ L, TileOk R C t) : Scn R C L :=
  ⟨⟨fun i x hx => hm x (List.mem_of_getElem? hx), fun i x y hx hy => pw_get hp (Nat.lt_succ_self i) hx hy⟩, hs⟩
theorem mem_at {L : List Tile} {t : Tile} (hp : L.Pairwise TileLt) (ht : t ∈ L) : 0 ≤ atI t.row t.col L ∧ sumAt t.row t.col L = t.sum := by
  obtain ⟨k, hk⟩ := List.getElem?_of_mem ht
  have hno : NoTo t.row t.col L k := fun j z hj hz ha => by
    have := pw_get hp hj hz hk
    unfold TileLt at this
    unfold AtP at ha
    omega
  obtain ⟨h1, h2⟩ := at_found hk ⟨rfl, rfl⟩ hno
  exact ⟨by omega, h2⟩
theorem id_same : ∀ a b : Tile, SameP (id a) (id b) → SameP a b := fun a b h => h
/-- a patched scan: what the law asks of it -/
theorem patch_facts {ra ca rb cb : Int} {xs ys : List Tile} (h : AlikeS ra ca xs rb cb ys) :
    Scn ra ca (patchL id xs ys) ∧ (∀ t ∈ ys, SumOk ra ca (patchL id xs ys) t.row t.col ∧ sumAt t.row t.col (patchL id xs ys) = t.sum) ∧ patchL id (patchL id xs ys) ys = patchL id xs ys ∧ AlikeS ra ca (patchL id xs ys) rb cb ys := by
  obtain ⟨h1, h2, h3, h4⟩ := h
  subst h3 h4
  have hd := pw_same (f := id) (scn_pw h2) id_same
  have hp : (patchL id xs ys).Pairwise TileLt := patchL_pw id (scn_pw h1) ys
  have hs : Scn ra ca (patchL id xs ys) := scn_of h1.2 hp (fun t ht => by
    rcases (patch_mem ys xs hd).1 ht with ⟨y, hy, rfl⟩ | ⟨hx, _⟩
    · exact scn_mem h2 hy
    · exact scn_mem h1 hx)
  refine ⟨hs, fun t ht => ?_, ?_, hs, h2, rfl, rfl⟩
  · obtain ⟨k1, k2⟩ := mem_at hp ((patch_mem ys xs hd).2 (.inl ⟨t, ht, rfl⟩))
    exact ⟨⟨hs, k1⟩, k2⟩
  · refine pw_ext _ _ (patchL_pw id hp ys) hp (fun z => ?_)
    rw [patch_mem ys _ hd, patch_mem ys xs hd]
    constructor
    · rintro (k | ⟨k1, k2⟩)
      · exact .inl k
      · rcases k1 with k1 | k1
        · exact .inl k1
        · exact .inr k1
    · rintro (k | k)
      · exact .inl k
      · exact .inr ⟨.inr k, k.2⟩
theorem other_self {xs : List Tile} : ∀ (C m : Nat) (r : Int), gridFrom (otherP xs xs) C m r = []
  | C, 0, r => rfl
  | C, m + 1, r => by
    have hr : ∀ (k : Nat) (c : Int), rowFrom (otherP xs xs) r k c = [] := by
      intro k
      induction k with
      | zero => intro c; rfl
      | succ k ih => intro c; rw [rowFrom_f (by unfold otherP; simp), ih]
    rw [gridFrom, hr, other_self C m (r + 1)]
    rfl
theorem besT_same (c : Int) : ∀ a b : Tile, SameP (besT c a) (besT c b) → SameP a b := fun a b h => by unfold SameP besT at *; simp at h; omega
theorem crop_pw {r c rows cols : Int} {L : List Tile} (h : L.Pairwise TileLt) : (cropL r c rows cols L).Pairwise TileLt := by
  unfold cropL
  refine List.Pairwise.filter _ (List.Pairwise.map _ (fun a b hab => ?_) h)
  unfold TileLt shiftT at *
  simp
  omega
theorem crop_mem {r c rows cols : Int} {L : List Tile} {z : Tile} : z ∈ cropL r c rows cols L ↔ ∃ x ∈ L, z = shiftT r c x ∧ InS rows cols z := by
  unfold cropL
  rw [List.mem_filter, List.mem_map]
  simp only [decide_eq_true_eq]
  constructor
  · rintro ⟨⟨x, h1, rfl⟩, h2⟩; exact ⟨x, h1, rfl, h2⟩
  · rintro ⟨x, h1, rfl, h2⟩; exact ⟨⟨x, h1, rfl⟩, h2⟩
/-- two scans beside each other: what the law asks of them -/
theorem bes_facts {ra ca rb cb : Int} {xs ys : List Tile} (h : BesOk ra ca xs rb cb ys) :
    CropOk ra (ca + cb) (patchL (besT ca) xs ys) 0 0 ra ca ∧ CropOk ra (ca + cb) (patchL (besT ca) xs ys) 0 ca rb cb ∧ cropL 0 0 ra ca (patchL (besT ca) xs ys) = xs ∧ cropL 0 ca rb cb (patchL (besT ca) xs ys) = ys := by
  obtain ⟨h1, h2, h3, h4⟩ := h
  subst h3
  obtain ⟨s1, s2, s3, s4⟩ := h1.2
  obtain ⟨t1, t2, t3, t4⟩ := h2.2
  have hd := pw_same (f := besT ca) (scn_pw h2) (besT_same ca)
  have hp : (patchL (besT ca) xs ys).Pairwise TileLt := patchL_pw _ (scn_pw h1) ys
  have hs : Scn ra (ca + cb) (patchL (besT ca) xs ys) := scn_of ⟨s1, s2, by omega, h4⟩ hp (fun t ht => by
    rcases (patch_mem ys xs hd).1 ht with ⟨y, hy, rfl⟩ | ⟨hx, _⟩
    · have := scn_mem h2 hy
      unfold TileOk at *
      simp [besT]
      omega
    · have := scn_mem h1 hx
      unfold TileOk at *
      omega)
  refine ⟨⟨hs, by omega, by omega, by omega, by omega⟩, ⟨hs, by omega, by omega, by omega, by omega⟩, pw_ext _ _ (crop_pw hp) (scn_pw h1) (fun z => ?_), pw_ext _ _ (crop_pw hp) (scn_pw h2) (fun z => ?_)⟩
  · rw [crop_mem]
    constructor
    · rintro ⟨x, hx, rfl, hin⟩
      rcases (patch_mem ys xs hd).1 hx with ⟨y, hy, rfl⟩ | ⟨hx, _⟩
      · have := scn_mem h2 hy
        unfold TileOk at this
        unfold InS shiftT besT at hin
        simp at hin
        omega
      · simpa [shiftT] using hx
    · intro hz
      have hz2 := scn_mem h1 hz
      unfold TileOk at hz2
      refine ⟨z, (patch_mem ys xs hd).2 (.inr ⟨hz, fun y hy hs => ?_⟩), by simp [shiftT], by unfold InS; omega⟩
      have := scn_mem h2 hy
      unfold TileOk at this
      unfold SameP besT at hs
      simp at hs
      omega
  · rw [crop_mem]
    constructor
    · rintro ⟨x, hx, rfl, hin⟩
      rcases (patch_mem ys xs hd).1 hx with ⟨y, hy, rfl⟩ | ⟨hx, _⟩
      · have e : shiftT 0 ca (besT ca y) = y := by
          cases y
          simp [shiftT, besT]
        rw [e]; exact hy
      · have := scn_mem h1 hx
        unfold TileOk at this
        unfold InS shiftT at hin
        simp at hin
        omega
    · intro hz
      have hz2 := scn_mem h2 hz
      unfold TileOk at hz2
      refine ⟨besT ca z, (patch_mem ys xs hd).2 (.inl ⟨z, hz, rfl⟩), ?_, by unfold InS; omega⟩
      cases z
      simp [shiftT, besT]
end Go.Proofs.Ytjacadkbkkkgfaa
