/- Words for memory and small lemmas: the worlds that a world becomes by draws and new blocks alone; a region that draws its order and only reads, walked once in that class; slices of integers and of structs of integers that read as lists. No Go text is spoken of here. -/
import Derived.WalkKit
import Derived.WalkSpells
import Derived.WalkLawsBesides
import Derived.BigQuiet
import Derived.Deep.QuietTactic
import Derived.Deep.RegionHeld3
import Derived.Handy
import Derived.Lib.Hide
namespace Go.Proofs.YtlagfeccdcjimaaDoor
open Go.RowKit
set_option linter.unusedVariables false
set_option linter.unusedSimpArgs false

structure Growth where
  blocks : Array Obj
  drawn : Nat

instance : Nonempty Growth := ⟨⟨#[], 0⟩⟩

def plus (w : World) (x : Growth) : World := { w with heap := w.heap ++ x.blocks, drawn := x.drawn }

theorem plus_cell (w : World) (x : Growth) (b o : Nat) (h : b < w.heap.size) : (plus w x).cell? ⟨b, o, none⟩ = w.cell? ⟨b, o, none⟩ := by
  simp [plus, World.cell?, Array.getElem?_append_left h]
theorem plus_size (w : World) (x : Growth) : w.heap.size ≤ (plus w x).heap.size := by simp [plus]
theorem plus_below (w : World) (x : Growth) : Below w.heap.size w (plus w x) :=
  ⟨rfl, rfl, rfl, plus_size w x, fun k hk => by simp [plus, Array.getElem?_append_left hk]⟩
theorem below_plus {w w' : World} (h : Below w.heap.size w w') : ∃ x, w' = plus w x := by
  refine ⟨⟨w'.heap.extract w.heap.size w'.heap.size, w'.drawn⟩, ?_⟩
  have hh : w'.heap = w.heap ++ w'.heap.extract w.heap.size w'.heap.size := by
    apply Array.ext_getElem?
    intro i
    by_cases hi : i < w.heap.size
    · rw [Array.getElem?_append_left hi]; exact h.block i hi
    · rw [Array.getElem?_append_right (by omega), Array.getElem?_extract]
      have := h.size
      by_cases hj : i < w'.heap.size
      · rw [if_pos (by omega)]; congr 1; omega
      · rw [if_neg (by omega)]; simp; omega
  cases w' with
  | mk heap tape drawn os output =>
    have h1 := h.os; have h2 := h.tape; have h3 := h.output
    simp only at h1 h2 h3 hh
    simp only [plus]
    rw [← hh, h1, h2, h3]

theorem ext_trans {a b c : World} (h : Below a.heap.size a b) (k : Below b.heap.size b c) : Below a.heap.size a c := h.trans (k.mono h.size)
theorem below_drewN {B : Nat} {a w : World} (h : Below B a w) (n : Nat) : Below B a (w.drewN n) := ⟨h.os, h.tape, h.output, h.size, h.block⟩
theorem cls_grow {W w w' : World} {R : Prop} (h : Below W.heap.size W w ∧ R) (hb : Below W.heap.size w w') : Below W.heap.size W w' ∧ ∀ b o, b < W.heap.size → w'.cell? ⟨b, o, none⟩ = W.cell? ⟨b, o, none⟩ :=
  ⟨h.1.trans hb, fun b o hlt => (h.1.trans hb).cell (p := ⟨b, o, none⟩) hlt⟩
theorem ext_drew (w : World) : Below w.heap.size w w.drew := (Below.refl _ _).drew

/-- A callee that makes new blocks alone is quiet in the class. -/
theorem quiet_below {P : Program} {f : FuncId} {args : Array Value} {w : World} {x : Growth} {v : Value}
    (h : Calls P f args (plus w x) fun e w' => e = .returned v ∧ Below (plus w x).heap.size (plus w x) w') :
    Calls P f args (plus w x) fun e w'' => e = .returned v ∧ ∃ y, w'' = plus w y :=
  h.mono fun _ _ ⟨he, hb⟩ => ⟨he, below_plus ((plus_below w x).trans (hb.mono (plus_size w x)))⟩
theorem quiet_same {P : Program} {f : FuncId} {args : Array Value} {w : World} {x : Growth} {v : Value}
    (h : Calls P f args (plus w x) fun e w' => e = .returned v ∧ plus w x = w') :
    Calls P f args (plus w x) fun e w'' => e = .returned v ∧ ∃ y, w'' = plus w y :=
  h.mono fun _ _ ⟨he, hb⟩ => ⟨he, x, hb.symm⟩

theorem wp_region_grow {P : Program} {id : Nat} {Q : Exit → Act → World → Prop} {a : Act} {w : World} {l : List Oper} (hm : P.follows .mixedOrders = true) (hB : Region.lexB .any l.toArray = true)
    (h : wpQuiet P l.toArray (fun w' => ∃ x, w' = plus w x) (fun a' => ∀ w', Below w.heap.size w w' → Q .normal a' w') l a) : (Code.region id l.toArray true).wp P Q a w := by
  have h0 : { w with drawn := w.drawn + 1 } = plus w ⟨#[], w.drawn + 1⟩ := by simp [plus]
  refine wp_region_quiet (C := fun w' => ∃ x, w' = plus w x) hm hB ⟨_, h0⟩ ?_
  have e : (fun a' => ∀ w', (∃ x, w' = plus w x) → Q .normal a' w') = (fun a' => ∀ w', Below w.heap.size w w' → Q .normal a' w') := by
    funext a'
    apply propext
    exact ⟨fun hh w' hb => hh w' (below_plus hb), fun hh w' ⟨x, hx⟩ => hh w' (hx ▸ plus_below w x)⟩
  rw [e]
  simpa using h

/-- What was there reads as it did: the walk's rule. -/
theorem bcell {W w1 : World} (hb : Below W.heap.size W w1) : ∀ b o, b < W.heap.size → w1.cell? ⟨b, o, none⟩ = W.cell? ⟨b, o, none⟩ :=
  fun b o h => hb.cell (p := ⟨b, o, none⟩) h

theorem box_world (w : World) (cs : Array Value) (t : TypeId) : ∃ W, w.alloc (.cells cs t) = W ∧ Below w.heap.size w W ∧ w.heap.size < W.heap.size ∧ (∀ j, W.cell? ⟨w.heap.size, j, none⟩ = cs[j]?) ∧ ∀ j, W.frozen? ⟨w.heap.size, j, none⟩ = false :=
  ⟨_, rfl, (Below.refl _ _).alloc (Nat.le_refl _) _, by simp, fun j => World.cell?_alloc_new w cs t j, fun j => by simp only [World.frozen?, heap_alloc_new]; simp⟩
/-- the class of 'go_region_held3': only new blocks have come -/
theorem cls_of {w w' : World} (h : Below w.heap.size w w') : Below w.heap.size w w' ∧ ∀ b o, b < w.heap.size → w'.cell? ⟨b, o, none⟩ = w.cell? ⟨b, o, none⟩ := ⟨h, bcell h⟩

theorem ret_bool {a b : Bool} (h : a = b) : Ending.returned (.bool a) = .returned (.bool b) := by rw [h]
theorem ret_int {k : IntKind} {a b : Int} (h : a = b) : Ending.returned (.int k a) = .returned (.int k b) := by rw [h]

theorem run_make_rowN {P : Program} (t e : TypeId) (i : TypeInfo) (z : Value) (ht : P.underlying t = some (.slice e)) (hi : P.info? e = some i) (hz : i.zero = some z)
    (kl kc : IntKind) (n c : Nat) (hnc : n ≤ c) (hbytes : i.bytes * c ≤ 281474976710656) (h63 : c ≤ 9223372036854775807) (w : World) :
    (Instr.makeSlice t (.int kl (n : Int)) (.int kc (c : Int))).run P w = .ok (.slice (some ⟨w.heap.size, 0, none⟩) n c) (w.alloc (.cells (madeCells z.cells (c * i.size)) e)) := by
  have hb : (i.bytes : Int) * (c : Int) ≤ 281474976710656 := by
    have h : ((i.bytes * c : Nat) : Int) ≤ 281474976710656 := by omega
    rwa [Int.natCast_mul] at h
  have hr := run_make (P := P) w t e i z ht hi hz kl kc n c (by omega) (by omega) hb (by omega)
  simp only [Int.toNat_natCast] at hr
  exact hr

/-- Whether a statement holds, as a Bool. -/
noncomputable def tb (p : Prop) : Bool := @decide p (Classical.propDecidable p)
theorem tb_t {p : Prop} (h : p) : tb p = true := by simp [tb, h]
theorem tb_f {p : Prop} (h : ¬ p) : tb p = false := by simp [tb, h]
theorem tb_iff {p q : Prop} (h : p ↔ q) : tb p = tb q := by
  by_cases hp : p
  · rw [tb_t hp, tb_t (h.1 hp)]
  · rw [tb_f hp, tb_f (fun hq => hp (h.2 hq))]
theorem tb_dec {p q : Prop} [Decidable q] (h : p ↔ q) : decide q = tb p := by
  by_cases hp : p
  · rw [tb_t hp]; simp [h.1 hp]
  · rw [tb_f hp]; simp; exact fun hq => hp (h.2 hq)
theorem tb_true {p : Prop} (h : tb p = true) : p := by
  by_cases hp : p
  · exact hp
  · rw [tb_f hp] at h; cases h
theorem tb_false {p : Prop} (h : tb p = false) : ¬ p := fun hp => by rw [tb_t hp] at h; cases h

/-- the list where p holds, else none -/
noncomputable def sel {α : Type} (p : Prop) (l : List α) : List α := @ite _ p (Classical.propDecidable p) l []
theorem sel_t {α : Type} {p : Prop} {l : List α} (h : p) : sel p l = l := by simp [sel, h]
theorem sel_len {α : Type} (p : Prop) (l : List α) : (sel p l).length ≤ l.length := by
  by_cases h : p <;> simp [sel, h]
theorem sel_f {α : Type} {p : Prop} {l : List α} (h : ¬ p) : sel p l = [] := by simp [sel, h]

/-- a slice of elements of sz integers each, that reads as xs (f: an element's integers) -/
def Fl {α : Type} (f : α → List Int) (sz : Nat) (w : World) (A : Option Addr) (xs : List α) : Prop :=
  xs ≠ [] → ∃ b o, A = some ⟨b, o, none⟩ ∧ b < w.heap.size ∧ ∀ i x, xs[i]? = some x → ∀ j v, (f x)[j]? = some v → w.cell? ⟨b, o + i * sz + j, none⟩ = some (.int .i64 v)

/-- .. in a block from lo on and ahead of hi, whose cells may be written -/
def FlO {α : Type} (f : α → List Int) (sz lo hi : Nat) (w : World) (A : Option Addr) (xs : List α) : Prop :=
  xs ≠ [] → ∃ b o, A = some ⟨b, o, none⟩ ∧ b < w.heap.size ∧ lo ≤ b ∧ b < hi ∧ (∀ j, w.frozen? ⟨b, j, none⟩ = false) ∧ ∀ i x, xs[i]? = some x → ∀ j v, (f x)[j]? = some v → w.cell? ⟨b, o + i * sz + j, none⟩ = some (.int .i64 v)

/-- nothing but blocks from lo to ahead of hi has turned, and new blocks have come -/
structure Touch (lo hi : Nat) (w w' : World) : Prop where
  os : w'.os = w.os
  tape : w'.tape = w.tape
  output : w'.output = w.output
  size : w.heap.size ≤ w'.heap.size
  block : ∀ k, k < w.heap.size → (k < lo ∨ hi ≤ k) → w'.heap[k]? = w.heap[k]?

theorem Touch.refl (lo hi : Nat) (w : World) : Touch lo hi w w := ⟨rfl, rfl, rfl, Nat.le_refl _, fun _ _ _ => rfl⟩
theorem Touch.trans {lo hi : Nat} {a b c : World} (h : Touch lo hi a b) (k : Touch lo hi b c) : Touch lo hi a c :=
  ⟨k.os.trans h.os, k.tape.trans h.tape, k.output.trans h.output, Nat.le_trans h.size k.size, fun i hi ho => (k.block i (Nat.lt_of_lt_of_le hi h.size) ho).trans (h.block i hi ho)⟩
theorem Touch.of_ext {lo hi : Nat} {a b : World} (h : Below a.heap.size a b) : Touch lo hi a b := ⟨h.os, h.tape, h.output, h.size, fun i hi _ => h.block i hi⟩
theorem Touch.of_set {lo hi : Nat} (w : World) (p : Addr) (u : Value) (h1 : lo ≤ p.block) (h2 : p.block < hi) : Touch lo hi w (w.setCell p u) :=
  ⟨rfl, rfl, rfl, by simp [World.setCell], fun i _ ho => Below.heap_setCell w p u i (by omega)⟩
theorem Touch.set {lo hi : Nat} {a w : World} (h : Touch lo hi a w) {p : Addr} (h1 : lo ≤ p.block) (h2 : p.block < hi) (u : Value) : Touch lo hi a (w.setCell p u) := h.trans (Touch.of_set w p u h1 h2)
theorem Touch.mono {lo hi lo' hi' : Nat} {a b : World} (h : Touch lo hi a b) (h1 : lo' ≤ lo) (h2 : hi ≤ hi') : Touch lo' hi' a b :=
  ⟨h.os, h.tape, h.output, h.size, fun i hi ho => h.block i hi (by omega)⟩
/-- what stood when the world was w0 stands, where only later blocks have been touched -/
theorem Touch.below {lo hi : Nat} {w0 w w' : World} (h : Touch lo hi w w') (hb : Below w0.heap.size w0 w) (hl : w0.heap.size ≤ lo) : Below w0.heap.size w0 w' :=
  ⟨h.os.trans hb.os, h.tape.trans hb.tape, h.output.trans hb.output, Nat.le_trans hb.size h.size, fun i hi => (h.block i (Nat.lt_of_lt_of_le hi hb.size) (Or.inl (by omega))).trans (hb.block i hi)⟩
theorem Touch.cell {lo hi : Nat} {w w' : World} (h : Touch lo hi w w') {b o : Nat} (hb : b < w.heap.size) (ho : b < lo ∨ hi ≤ b) : w'.cell? ⟨b, o, none⟩ = w.cell? ⟨b, o, none⟩ :=
  World.cell?_of_block (w := w) (h.block b hb ho)
theorem Touch.frozen {lo hi : Nat} {w w' : World} (h : Touch lo hi w w') {b o : Nat} (hb : b < w.heap.size) (ho : b < lo ∨ hi ≤ b) : w'.frozen? ⟨b, o, none⟩ = w.frozen? ⟨b, o, none⟩ :=
  World.frozen?_of_block (w := w) (h.block b hb ho)

section
variable {α : Type} {f : α → List Int} {sz lo hi : Nat} {w w' : World} {A : Option Addr} {xs : List α}
theorem Fl.nil : Fl f sz w A ([] : List α) := fun h => absurd rfl h
theorem FlO.nil : FlO f sz lo hi w A ([] : List α) := fun h => absurd rfl h
theorem FlO.fl (h : FlO f sz lo hi w A xs) : Fl f sz w A xs := fun hn => by
  obtain ⟨b, o, h1, h2, _, _, _, h3⟩ := h hn
  exact ⟨b, o, h1, h2, h3⟩
theorem FlO.mono {lo' hi' : Nat} (h : FlO f sz lo hi w A xs) (hl : lo' ≤ lo) (hh : hi ≤ hi') : FlO f sz lo' hi' w A xs := fun hn => by
  obtain ⟨b, o, h1, h2, h3, h3', h4⟩ := h hn
  exact ⟨b, o, h1, h2, Nat.le_trans hl h3, Nat.lt_of_lt_of_le h3' hh, h4⟩
theorem Fl.below {B : Nat} (h : Fl f sz w A xs) (hb : Below B w w') (hB : w.heap.size ≤ B) : Fl f sz w' A xs := fun hn => by
  obtain ⟨b, o, h1, h2, h3⟩ := h hn
  exact ⟨b, o, h1, Nat.lt_of_lt_of_le h2 hb.size, fun i x hx j v hv => (hb.cell (p := ⟨b, _, none⟩) (Nat.lt_of_lt_of_le h2 hB)).trans (h3 i x hx j v hv)⟩
theorem Fl.ext (h : Fl f sz w A xs) (hb : Below w.heap.size w w') : Fl f sz w' A xs := h.below hb (Nat.le_refl _)
theorem FlO.touch {l u : Nat} (h : FlO f sz lo hi w A xs) (ht : Touch l u w w') (ho : hi ≤ l ∨ u ≤ lo) : FlO f sz lo hi w' A xs := fun hn => by
  obtain ⟨b, o, h1, h2, h3, h3', h4, h5⟩ := h hn
  exact ⟨b, o, h1, Nat.lt_of_lt_of_le h2 ht.size, h3, h3', fun j => (ht.frozen h2 (by omega)).trans (h4 j), fun i x hx j v hv => (ht.cell h2 (by omega)).trans (h5 i x hx j v hv)⟩
theorem FlO.ext (h : FlO f sz lo hi w A xs) (hb : Below w.heap.size w w') : FlO f sz lo hi w' A xs := fun hn => by
  obtain ⟨b, o, h1, h2, h3, h3', h4, h5⟩ := h hn
  exact ⟨b, o, h1, Nat.lt_of_lt_of_le h2 hb.size, h3, h3', fun j => (hb.frozen (p := ⟨b, _, none⟩) h2).trans (h4 j), fun i x hx j v hv => (hb.cell (p := ⟨b, _, none⟩) h2).trans (h5 i x hx j v hv)⟩
theorem Fl.at_ (h : Fl f sz w A xs) {k : Nat} (hk : k < xs.length) : ∃ x b o, xs[k]? = some x ∧ A = some ⟨b, o, none⟩ ∧ b < w.heap.size ∧ ∀ j v, (f x)[j]? = some v → w.cell? ⟨b, o + k * sz + j, none⟩ = some (.int .i64 v) := by
  obtain ⟨b, o, h1, h2, h3⟩ := h (fun e => by subst e; simp at hk)
  have hx : xs[k]? = some xs[k] := List.getElem?_eq_getElem hk
  exact ⟨xs[k], b, o, hx, h1, h2, h3 k _ hx⟩
/-- element k, the address being known -/
theorem Fl.get {b o : Nat} (h : Fl f sz w (some ⟨b, o, none⟩) xs) {k : Nat} {x : α} (hx : xs[k]? = some x) : ∀ j v, (f x)[j]? = some v → w.cell? ⟨b, o + k * sz + j, none⟩ = some (.int .i64 v) := by
  obtain ⟨b', o', h1, _, h3⟩ := h (fun e => by subst e; simp at hx)
  injection h1 with h1
  injection h1 with hb ho
  subst hb ho
  exact h3 k x hx
theorem lt_of_get {k : Nat} {x : α} (hx : xs[k]? = some x) : k < xs.length := by
  rcases Nat.lt_or_ge k xs.length with h | h
  · exact h
  · rw [List.getElem?_eq_none h] at hx; cases hx
theorem take_get {k : Nat} {x : α} (hx : xs[k]? = some x) : xs.take (k + 1) = xs.take k ++ [x] := by
  rw [List.take_add_one, hx]; rfl
theorem take_all {k : Nat} (hk : xs.length ≤ k) : xs.take k = xs := List.take_of_length_le hk
end


/-! ### a row of cells stored one by one -/
def setRow (w : World) (B off : Nat) : List Value → World
  | [] => w
  | v :: vs => setRow (w.setCell ⟨B, off, none⟩ v) B (off + 1) vs

theorem setCell_size (w : World) (p : Addr) (u : Value) : (w.setCell p u).heap.size = w.heap.size := by simp [World.setCell]
theorem setRow_size (B : Nat) : ∀ (vs : List Value) (w : World) (off : Nat), (setRow w B off vs).heap.size = w.heap.size
  | [], _, _ => rfl
  | v :: vs, w, off => (setRow_size B vs _ (off + 1)).trans (setCell_size _ _ _)
theorem setRow_touch (B : Nat) {lo hi : Nat} (h1 : lo ≤ B) (h2 : B < hi) : ∀ (vs : List Value) (w : World) (off : Nat), Touch lo hi w (setRow w B off vs)
  | [], w, _ => Touch.refl lo hi w
  | v :: vs, w, off => (Touch.of_set w ⟨B, off, none⟩ v h1 h2).trans (setRow_touch B h1 h2 vs _ (off + 1))
theorem frozen_setCell (w : World) (p a : Addr) (u : Value) : (w.setCell p u).frozen? a = w.frozen? a := by
  by_cases h : a.block = p.block
  · simp only [World.frozen?, World.setCell, Array.getElem?_modify, h, if_true]
    rcases w.heap[p.block]? with _ | o
    · rfl
    · cases o <;> rfl
  · exact World.frozen?_of_block (w := w) (Below.heap_setCell w p u a.block h)
theorem setRow_frozen (B : Nat) (a : Addr) : ∀ (vs : List Value) (w : World) (off : Nat), (setRow w B off vs).frozen? a = w.frozen? a
  | [], _, _ => rfl
  | v :: vs, w, off => (setRow_frozen B a vs _ (off + 1)).trans (frozen_setCell _ _ _ _)
theorem setRow_other (B : Nat) (b o : Nat) : ∀ (vs : List Value) (w : World) (off : Nat), (b ≠ B ∨ o < off ∨ off + vs.length ≤ o) → (setRow w B off vs).cell? ⟨b, o, none⟩ = w.cell? ⟨b, o, none⟩
  | [], _, _, _ => rfl
  | v :: vs, w, off, h => by
    simp only [List.length_cons] at h
    exact (setRow_other B b o vs _ (off + 1) (by omega)).trans (World.cell?_setCell_other w _ _ v (fun e => by injection e with e1 e2; omega))
theorem setRow_same (B : Nat) : ∀ (vs : List Value) (w : World) (off : Nat), (∀ j, j < vs.length → ∃ u, w.cell? ⟨B, off + j, none⟩ = some u) → ∀ (j : Nat) (v : Value), vs[j]? = some v → (setRow w B off vs).cell? ⟨B, off + j, none⟩ = some v
  | [], _, _, _, j, v, h => by simp at h
  | x :: vs, w, off, hc, 0, v, h => by
    simp only [List.getElem?_cons_zero, Option.some.injEq] at h
    subst h
    obtain ⟨u, hu⟩ := hc 0 (by simp)
    rw [setRow, setRow_other B B (off + 0) vs _ (off + 1) (by omega)]
    exact World.cell?_setCell_same w _ x (u := u) hu
  | x :: vs, w, off, hc, j + 1, v, h => by
    simp only [List.getElem?_cons_succ] at h
    have := setRow_same B vs (w.setCell ⟨B, off, none⟩ x) (off + 1) (fun i hi => by
      obtain ⟨u, hu⟩ := hc (i + 1) (by simp; omega)
      exact ⟨u, by rw [World.cell?_setCell_other w _ _ x (fun e => by injection e with e1 e2; omega)]; rw [← hu]; congr 2; omega⟩) j v h
    rw [setRow, ← this]; congr 2; omega

/-- a new block that is being filled, element by element: k of them stand -/
structure Fill {α : Type} (f : α → List Int) (sz B n : Nat) (xs : List α) (k : Nat) (wr : World) : Prop where
  size : B < wr.heap.size
  frozen : ∀ j, wr.frozen? ⟨B, j, none⟩ = false
  there : ∀ j, j < n * sz → ∃ u, wr.cell? ⟨B, j, none⟩ = some u
  done : ∀ i x, i < k → xs[i]? = some x → ∀ j v, (f x)[j]? = some v → wr.cell? ⟨B, i * sz + j, none⟩ = some (.int .i64 v)

section
variable {α : Type} {f : α → List Int} {sz B n k : Nat} {xs : List α} {w wr w1 : World}
theorem Fill.ext (h : Fill f sz B n xs k wr) (hb : Below wr.heap.size wr w1) : Fill f sz B n xs k w1 :=
  ⟨Nat.lt_of_lt_of_le h.size hb.size, fun j => (hb.frozen (p := ⟨B, j, none⟩) h.size).trans (h.frozen j), fun j hj => by
    obtain ⟨u, hu⟩ := h.there j hj
    exact ⟨u, (hb.cell (p := ⟨B, j, none⟩) h.size).trans hu⟩, fun i x hi hx j v hv => (hb.cell (p := ⟨B, _, none⟩) h.size).trans (h.done i x hi hx j v hv)⟩
theorem Fill.start (hf : w.heap.size = B) {cs : Array Value} {t : TypeId} (hc : cs.size = n * sz) : Fill f sz B n xs 0 (w.alloc (.cells cs t)) := by
  subst hf
  refine ⟨by simp, fun j => by simp only [World.frozen?, heap_alloc_new]; simp, fun j hj => ?_, fun i x hi => by omega⟩
  rw [World.cell?_alloc_new]
  exact ⟨cs[j]'(by omega), Array.getElem?_eq_getElem (by omega)⟩
theorem Fill.step (h : Fill f sz B n xs k wr) (hk : k < n) {x : α} (hx : xs[k]? = some x) (hl : (f x).length = sz) (hls : ∀ y, (f y).length = sz) : Fill f sz B n xs (k + 1) (setRow wr B (k * sz) ((f x).map (Value.int .i64))) := by
  have hm : k * sz + sz ≤ n * sz := by have := Nat.mul_le_mul_right sz (show k + 1 ≤ n from hk); rw [Nat.add_mul, Nat.one_mul] at this; exact this
  have hlen : ((f x).map (Value.int .i64)).length = sz := by simp [hl]
  have hth : ∀ j, j < ((f x).map (Value.int .i64)).length → ∃ u, wr.cell? ⟨B, k * sz + j, none⟩ = some u := fun j hj => h.there _ (by omega)
  refine ⟨by rw [setRow_size]; exact h.size, fun j => by rw [setRow_frozen]; exact h.frozen j, fun j hj => ?_, fun i y hi hy j v hv => ?_⟩
  · by_cases hin : k * sz ≤ j ∧ j < k * sz + sz
    · have := setRow_same B _ wr (k * sz) hth (j - k * sz) _ (List.getElem?_eq_getElem (by omega))
      rw [show k * sz + (j - k * sz) = j from by omega] at this
      exact ⟨_, this⟩
    · rw [setRow_other B B j _ wr (k * sz) (by omega)]
      exact h.there j hj
  · by_cases hik : i = k
    · subst hik
      rw [hy] at hx
      cases hx
      exact setRow_same B _ wr (i * sz) hth j _ (by simp [hv])
    · have hlt : i < k := by omega
      have hj : j < sz := by
        rw [← hls y]
        rcases Nat.lt_or_ge j (f y).length with hh | hh
        · exact hh
        · rw [List.getElem?_eq_none hh] at hv; cases hv
      have hm2 : i * sz + sz ≤ k * sz := by have := Nat.mul_le_mul_right sz (show i + 1 ≤ k from hlt); rw [Nat.add_mul, Nat.one_mul] at this; exact this
      rw [setRow_other B B (i * sz + j) _ wr (k * sz) (by omega)]
      exact h.done i y hlt hy j v hv
theorem Fill.flo {lo : Nat} (h : Fill f sz B n xs k wr) (hk : xs.length ≤ k) (hlo : lo ≤ B) : FlO f sz lo wr.heap.size wr (some ⟨B, 0, none⟩) xs := fun _ =>
  ⟨B, 0, rfl, h.size, hlo, h.size, h.frozen, fun i x hx j v hv => by rw [Nat.zero_add]; exact h.done i x (Nat.lt_of_lt_of_le (lt_of_get hx) hk) hx j v hv⟩
end

/-! ### cells that are numbered one by one -/
/-- N cells in a row, that read k0, k0 + 1, .. -/
def Num (lo hi : Nat) (w : World) (A : Option Addr) (N : Nat) (k0 : Int) : Prop :=
  0 < N → ∃ b o, A = some ⟨b, o, none⟩ ∧ b < w.heap.size ∧ lo ≤ b ∧ b < hi ∧ ∀ j, j < N → w.cell? ⟨b, o + j, none⟩ = some (.int .i64 (k0 + j))

structure Mark (B o lo hi N m : Nat) (k0 : Int) (w wr : World) : Prop where
  frozen : ∀ j, wr.frozen? ⟨B, j, none⟩ = false
  there : ∀ j, j < N → ∃ u, wr.cell? ⟨B, o + j, none⟩ = some u
  done : ∀ j, j < m → wr.cell? ⟨B, o + j, none⟩ = some (.int .i64 (k0 + j))
  touch : Touch lo hi w wr

section
variable {B o lo hi N m : Nat} {k0 : Int} {w wr w' : World} {A : Option Addr}
theorem Mark.step (h : Mark B o lo hi N m k0 w wr) (h1 : lo ≤ B) (h2 : B < hi) (hm : m < N) : Mark B o lo hi N (m + 1) k0 w (wr.setCell ⟨B, o + m, none⟩ (.int .i64 (k0 + m))) := by
  obtain ⟨u, hu⟩ := h.there m hm
  refine ⟨fun j => by rw [frozen_setCell]; exact h.frozen j, fun j hj => ?_, fun j hj => ?_, h.touch.trans (Touch.of_set _ _ _ h1 h2)⟩
  · by_cases e : j = m
    · subst e; exact ⟨_, World.cell?_setCell_same wr _ _ hu⟩
    · rw [World.cell?_setCell_other wr _ _ _ (fun e' => by injection e' with e1 e2; omega)]; exact h.there j hj
  · by_cases e : j = m
    · subst e; exact World.cell?_setCell_same wr _ _ hu
    · rw [World.cell?_setCell_other wr _ _ _ (fun e' => by injection e' with e1 e2; omega)]; exact h.done j (by omega)
theorem Mark.step' {m' p : Nat} {v : Int} (h : Mark B o lo hi N m k0 w wr) (h1 : lo ≤ B) (h2 : B < hi) (hm : m < N) (hp : p = o + m) (hv : v = k0 + m) (hm' : m' = m + 1) :
    Mark B o lo hi N m' k0 w (wr.setCell ⟨B, p, none⟩ (.int .i64 v)) := by
  subst hp hv hm'
  exact h.step h1 h2 hm
theorem Mark.num (h : Mark B o lo hi N m k0 w wr) (hm : N ≤ m) (hb : B < wr.heap.size) (h1 : lo ≤ B) (h2 : B < hi) : Num lo hi wr (some ⟨B, o, none⟩) N k0 := fun _ =>
  ⟨B, o, rfl, hb, h1, h2, fun j hj => h.done j (by omega)⟩
theorem Num.zero : Num lo hi w A 0 k0 := fun h => absurd h (by omega)
theorem Num.touch {l u : Nat} (h : Num lo hi w A N k0) (ht : Touch l u w w') (ho : hi ≤ l ∨ u ≤ lo) : Num lo hi w' A N k0 := fun hn => by
  obtain ⟨b, o, h1, h2, h3, h4, h5⟩ := h hn
  exact ⟨b, o, h1, Nat.lt_of_lt_of_le h2 ht.size, h3, h4, fun j hj => (ht.cell h2 (by omega)).trans (h5 j hj)⟩
theorem Num.ext (h : Num lo hi w A N k0) (hb : Below w.heap.size w w') : Num lo hi w' A N k0 := fun hn => by
  obtain ⟨b, o, h1, h2, h3, h4, h5⟩ := h hn
  exact ⟨b, o, h1, Nat.lt_of_lt_of_le h2 hb.size, h3, h4, fun j hj => (hb.cell (p := ⟨b, _, none⟩) h2).trans (h5 j hj)⟩
end
/-- what a mark begins with: a slice of n elements of sz cells that may be written -/
theorem FlO.mark {α : Type} {f : α → List Int} {sz lo hi : Nat} {w : World} {A : Option Addr} {xs : List α} (h : FlO f sz lo hi w A xs) (hls : ∀ y, (f y).length = sz) (hn : xs ≠ []) (k0 : Int) :
    ∃ b o, A = some ⟨b, o, none⟩ ∧ b < w.heap.size ∧ lo ≤ b ∧ b < hi ∧ Mark b o lo hi (xs.length * sz) 0 k0 w w := by
  obtain ⟨b, o, h1, h2, h3, h4, h5, h6⟩ := h hn
  refine ⟨b, o, h1, h2, h3, h4, h5, fun j hj => ?_, fun j hj => by omega, Touch.refl _ _ _⟩
  rcases Nat.eq_zero_or_pos sz with hz | hz
  · subst hz; omega
  · have hd : j / sz < xs.length := Nat.div_lt_of_lt_mul (by rw [Nat.mul_comm]; exact hj)
    have hmod : j % sz < (f xs[j / sz]).length := by rw [hls]; exact Nat.mod_lt _ hz
    have := h6 (j / sz) _ (List.getElem?_eq_getElem hd) (j % sz) _ (List.getElem?_eq_getElem hmod)
    rw [Nat.add_assoc, Nat.mul_comm, Nat.div_add_mod] at this
    exact ⟨_, this⟩


/-! ### a list each of whose elements is good, and each pair of neighbours -/
def Good {α : Type} (P : α → Prop) (R : α → α → Prop) (xs : List α) : Prop :=
  (∀ (i : Nat) (x : α), xs[i]? = some x → P x) ∧ ∀ (i : Nat) (x y : α), xs[i]? = some x → xs[i + 1]? = some y → R x y
def GoodTo {α : Type} (P : α → Prop) (R : α → α → Prop) (xs : List α) (k : Nat) : Prop :=
  (∀ (i : Nat) (x : α), i < k → xs[i]? = some x → P x) ∧ ∀ (i : Nat) (x y : α), i + 1 < k → xs[i]? = some x → xs[i + 1]? = some y → R x y
section
variable {α : Type} {P : α → Prop} {R : α → α → Prop} {xs : List α} {k : Nat} {x y : α}
theorem GoodTo.zero : GoodTo P R xs 0 := ⟨fun _ _ h => by omega, fun _ _ _ h => by omega⟩
theorem GoodTo.all (h : GoodTo P R xs k) (hk : xs.length ≤ k) : Good P R xs :=
  ⟨fun i x hx => h.1 i x (Nat.lt_of_lt_of_le (lt_of_get hx) hk) hx, fun i x y hx hy => h.2 i x y (Nat.lt_of_lt_of_le (lt_of_get hy) hk) hx hy⟩
theorem GoodTo.step (h : GoodTo P R xs k) (hx : xs[k]? = some x) (hp : P x) (hr : ∀ m z, k = m + 1 → xs[m]? = some z → R z x) : GoodTo P R xs (k + 1) := by
  refine ⟨fun i z hi hz => ?_, fun i z z' hi hz hz' => ?_⟩
  · by_cases e : i = k
    · subst e; rw [hx] at hz; cases hz; exact hp
    · exact h.1 i z (by omega) hz
  · by_cases e : i + 1 = k
    · subst e; rw [hx] at hz'; cases hz'; exact hr i z rfl hz
    · exact h.2 i z z' (by omega) hz hz'
theorem Good.not_elem (hx : xs[k]? = some x) (hp : ¬ P x) : ¬ Good P R xs := fun h => hp (h.1 k x hx)
theorem Good.not_pair (hx : xs[k]? = some x) (hy : xs[k + 1]? = some y) (hr : ¬ R x y) : ¬ Good P R xs := fun h => hr (h.2 k x y hx hy)
theorem Good.nil : Good P R ([] : List α) := ⟨fun _ _ h => by simp at h, fun _ _ _ h => by simp at h⟩
theorem Good.mem (h : Good P R xs) (hx : x ∈ xs) : P x := by
  obtain ⟨i, hi⟩ := List.mem_iff_getElem?.1 hx
  exact h.1 i x hi
end


/-! ### a slice that the call itself has made and appends to -/
def one (v : Int) : List Int := [v]
theorem one_length (v : Int) : (one v).length = 1 := rfl
theorem one_mk : ∀ l : List Int, l.length = 1 → ∃ x, one x = l := fun l hl => by
  match l, hl with
  | [q], _ => exact ⟨q, rfl⟩

def row {α : Type} (f : α → List Int) (ys : List α) : List Value := ys.flatMap fun y => (f y).map (Value.int .i64)
def OwnF {α : Type} (f : α → List Int) (sz lo : Nat) (e : TypeId) (w : World) (v : Value) (ys : List α) : Prop := w.ownsRow lo e sz v ys.length (row f ys)

section
variable {α : Type} {f : α → List Int} {sz lo : Nat} {e : TypeId} {w w' : World} {v : Value} {ys : List α}
theorem row_snoc (y : α) : row f (ys ++ [y]) = row f ys ++ (f y).map (Value.int .i64) := by simp [row]
theorem row_get (hls : ∀ y, (f y).length = sz) : ∀ (ys : List α) (i : Nat) (y : α), ys[i]? = some y → ∀ j q, (f y)[j]? = some q → (row f ys)[i * sz + j]? = some (.int .i64 q)
  | [], i, y, h, _, _, _ => by simp at h
  | z :: ys, 0, y, h, j, q, hj => by
    simp only [List.getElem?_cons_zero, Option.some.injEq] at h
    subst h
    have hl : j < ((f z).map (Value.int .i64)).length := by
      rcases Nat.lt_or_ge j (f z).length with hh | hh
      · simpa using hh
      · rw [List.getElem?_eq_none hh] at hj; cases hj
    simp only [row, List.flatMap_cons, Nat.zero_mul, Nat.zero_add]
    rw [List.getElem?_append_left hl]
    simp [hj]
  | z :: ys, i + 1, y, h, j, q, hj => by
    simp only [List.getElem?_cons_succ] at h
    have ih := row_get hls ys i y h j q hj
    simp only [row, List.flatMap_cons] at ih ⊢
    rw [List.getElem?_append_right (by simp [hls, Nat.add_mul]; omega)]
    rw [← ih]
    congr 1
    simp [hls, Nat.add_mul]
    omega
theorem OwnF.none_ : OwnF f sz lo e w (.slice none 0 0) [] := ⟨by simp [row], .inl ⟨rfl, rfl⟩⟩
/-- what was built empty -/
theorem OwnF.empty (hlo : lo ≤ w.heap.size) : OwnF f sz lo e (w.alloc (.cells #[] e)) (.slice (some ⟨w.heap.size, 0, none⟩) 0 0) [] :=
  ⟨by simp [row], .inr ⟨w.heap.size, 0, #[], rfl, hlo, heap_alloc_new w _, Nat.le_refl _, by simp [maxLen], by simp, by simp [row]⟩⟩
theorem OwnF.ext (h : OwnF f sz lo e w v ys) (hb : Below w.heap.size w w') : OwnF f sz lo e w' v ys :=
  World.ownsRow.kept (row := none) h ⟨hb.os, hb.tape, hb.output, hb.size, fun k hk _ => hb.block k hk⟩ (by
    rcases hv : v.ownBlock with _ | k
    · exact Or.inl rfl
    · exact Or.inr (by simp))
theorem OwnF.touch {l u : Nat} (h : OwnF f sz lo e w v ys) (ht : Touch l u w w') (hu : u ≤ lo) : OwnF f sz lo e w' v ys := by
  obtain ⟨h1, h2⟩ := h
  refine ⟨h1, ?_⟩
  rcases h2 with h2 | ⟨g, cap, cur, hv, hg, hh, r⟩
  · exact Or.inl h2
  · have hlt : g < w.heap.size := by
      rcases Nat.lt_or_ge g w.heap.size with hlt | hge
      · exact hlt
      · rw [Array.getElem?_eq_none hge] at hh; cases hh
    exact Or.inr ⟨g, cap, cur, hv, hg, by rw [ht.block g hlt (Or.inr (by omega))]; exact hh, r⟩
theorem OwnF.form (h : OwnF f sz lo e w v ys) (hls : ∀ y, (f y).length = sz) : ∃ A c, v = .slice A ys.length c ∧ FlO f sz lo w.heap.size w A ys := by
  obtain ⟨h1, h2⟩ := h
  rcases h2 with ⟨rfl, hn⟩ | ⟨g, cap, cur, rfl, hg, hh, hnc, hcm, hcs, htk⟩
  · refine ⟨none, 0, by rw [hn], fun hne => absurd (List.length_eq_zero_iff.1 hn) hne⟩
  · refine ⟨_, _, rfl, fun _ => ?_⟩
    have hlt : g < w.heap.size := by
      rcases Nat.lt_or_ge g w.heap.size with hlt | hge
      · exact hlt
      · rw [Array.getElem?_eq_none hge] at hh; cases hh
    refine ⟨g, 0, rfl, hlt, hg, hlt, fun j => by simp [World.frozen?, hh], fun i x hx j q hq => ?_⟩
    have hr := row_get hls ys i x hx j q hq
    rw [Nat.zero_add, cell_of_row w g _ cur e (0, 0) hh]
    rw [← htk, List.getElem?_take] at hr
    split at hr
    · simpa using hr
    · cases hr
theorem OwnF.from_ {lo' : Nat} (h : OwnF f sz lo e w v ys) (hl : lo' ≤ lo) : OwnF f sz lo' e w v ys := by
  obtain ⟨h1, h2⟩ := h
  refine ⟨h1, ?_⟩
  rcases h2 with h2 | ⟨g, cap, cur, hv, hg, r⟩
  · exact Or.inl h2
  · exact Or.inr ⟨g, cap, cur, hv, Nat.le_trans hl hg, r⟩
theorem OwnF.ownBlock (h : OwnF f sz lo e w v ys) : ∀ k, v.ownBlock = some k → lo ≤ k ∧ k < w.heap.size := World.ownsRow.lt h
end

/-- a call that hands back a new slice and a bool, and leaves what was there -/
def RetL {α : Type} (f : α → List Int) (sz : Nat) (w : World) (ys : List α) (ok : Bool) (e : Ending) (w' : World) : Prop :=
  ∃ B d, e = .returned (.tuple #[.slice B ys.length d, .bool ok]) ∧ FlO f sz w.heap.size w'.heap.size w' B ys ∧ Below w.heap.size w w'

def RetLI {α : Type} (f : α → List Int) (sz : Nat) (w : World) (ys : List α) (q : Int) (ok : Bool) (e : Ending) (w' : World) : Prop :=
  ∃ B d, e = .returned (.tuple #[.slice B ys.length d, .int .i64 q, .bool ok]) ∧ FlO f sz w.heap.size w'.heap.size w' B ys ∧ Below w.heap.size w w'
/-- the number where p holds, else 0 -/
noncomputable def seli (p : Prop) (q : Int) : Int := @ite _ p (Classical.propDecidable p) q 0
theorem seli_t {p : Prop} {q : Int} (h : p) : seli p q = q := by simp [seli, h]
theorem seli_f {p : Prop} {q : Int} (h : ¬ p) : seli p q = 0 := by simp [seli, h]
-- RetL3

/-- append of one element, which has just been laid in a block of its own -/
theorem wpList_append_flat {P : Program} {α : Type} {f : α → List Int} {ops : Array Oper} {rest : List Oper} {o : Oper} {a : Act} {Q : Exit → Act → World → Prop} {e : TypeId} {W : World} {y : α} (hgd : o.guard = none) (s x : Operand) (t : TypeId)
    (ho : o.op = .call { callee := .builtin .append, args := #[s, x], argTypes := #[t, t] })
    (lo : Nat) (i : TypeInfo) (z : Value) (sz bytes : Nat) (ht : P.underlying t = some (.slice e)) (hi : P.info? e = some i) (hz : i.zero = some z)
    (hsize : i.size = sz) (hby : i.bytes = bytes) (hzs : z.cells.size = sz) (hsz : 0 < sz)
    (v : Value) (ys : List α) (hs : a.eval s = v) (hx : a.eval x = .slice (some ⟨W.heap.size, 0, none⟩) 1 1) (hown : OwnF f sz lo e W v ys)
    (hls : (f y).length = sz) (hlen : ys.length ≤ 16777216) (hbl : bytes ≤ 4096) (hlo : lo ≤ W.heap.size)
    (h : ∀ v' w', OwnF f sz lo e w' v' (ys ++ [y]) → (W.alloc (.cells ((f y).map (Value.int .i64)).toArray e)).grownBy w' v.ownBlock → Below lo W w' → wpList P ops Q rest (a.put o.dst v') w') :
    wpList P ops Q (o :: rest) a (W.alloc (.cells ((f y).map (Value.int .i64)).toArray e)) := by
  refine wpList_append_own _ hgd s x t ho lo e i z sz bytes ht hi hz hsize hby hzs hsz v ys.length (row f ys) hs (World.ownsRow.alloc hown _) ⟨W.heap.size, 0, none⟩ 1 1 ((f y).map (Value.int .i64)) hx (by simp [hls]) ?_ ?_ ?_ ?_ (by simp; omega) ?_
  · intro j u hu
    rw [show (⟨W.heap.size, 0, none⟩ : Addr).add j = ⟨W.heap.size, j, none⟩ from by unfold Addr.add; split <;> simp_all]
    rw [World.cell?_alloc_new]
    simpa using hu
  · intro u hu
    obtain ⟨q, _, rfl⟩ := List.mem_map.1 hu
    rfl
  · simp only [maxLen]; omega
  · calc (ys.length + 1) * bytes ≤ 16777217 * 4096 := Nat.mul_le_mul (by omega) hbl
      _ ≤ 140737488355328 := by decide
  · intro v' w' h1 h2 _
    refine h v' w' ?_ h2 ?_
    · unfold OwnF
      rw [row_snoc, List.length_append]
      exact h1
    · have hb : Below lo W (W.alloc (.cells ((f y).map (Value.int .i64)).toArray e)) := (Below.refl _ _).alloc hlo _
      exact hb.grown h2 (by simp; omega) (fun k hk => (hown.ownBlock k hk).1)


/-! ### append of a whole slice -/
section
variable {α : Type} {f : α → List Int} {sz : Nat} {w : World} {xs : List α}
theorem row_length (hls : ∀ y, (f y).length = sz) : ∀ xs : List α, (row f xs).length = xs.length * sz
  | [] => by simp [row]
  | x :: xs => by
    have ih := row_length hls xs
    simp only [row, List.flatMap_cons, List.length_append, List.length_map, hls, List.length_cons] at ih ⊢
    rw [ih, Nat.add_mul, Nat.one_mul, Nat.add_comm]
theorem row_at (hls : ∀ y, (f y).length = sz) {j : Nat} {u : Value} (h : (row f xs)[j]? = some u) : ∃ i r x q, j = i * sz + r ∧ xs[i]? = some x ∧ (f x)[r]? = some q ∧ u = .int .i64 q := by
  have hj : j < xs.length * sz := by
    rw [← row_length hls xs]
    rcases Nat.lt_or_ge j (row f xs).length with hh | hh
    · exact hh
    · rw [List.getElem?_eq_none hh] at h; cases h
  have hpos : 0 < sz := by
    rcases Nat.eq_zero_or_pos sz with hz | hz
    · rw [hz] at hj; omega
    · exact hz
  have hd : j / sz < xs.length := Nat.div_lt_of_lt_mul (by rw [Nat.mul_comm]; exact hj)
  have hmod : j % sz < (f xs[j / sz]).length := by rw [hls]; exact Nat.mod_lt _ hpos
  have hx : xs[j / sz]? = some xs[j / sz] := List.getElem?_eq_getElem hd
  have hq : (f xs[j / sz])[j % sz]? = some ((f xs[j / sz])[j % sz]) := List.getElem?_eq_getElem hmod
  have he : j = j / sz * sz + j % sz := by rw [Nat.mul_comm]; exact (Nat.div_add_mod j sz).symm
  have hr := row_get hls xs _ _ hx _ _ hq
  rw [← he, h] at hr
  exact ⟨j / sz, j % sz, _, _, he, hx, hq, Option.some.inj hr⟩
theorem Fl.row {b o : Nat} (h : Fl f sz w (some ⟨b, o, none⟩) xs) (hls : ∀ y, (f y).length = sz) : ∀ (j : Nat) (u : Value), (Go.Proofs.YtlagfeccdcjimaaDoor.row f xs)[j]? = some u → w.cell? ((⟨b, o, none⟩ : Addr).add j) = some u := by
  intro j u hu
  obtain ⟨i, r, x, q, rfl, hx, hq, rfl⟩ := row_at hls hu
  have hc := h.get hx r q hq
  rw [show (⟨b, o, none⟩ : Addr).add (i * sz + r) = ⟨b, o + i * sz + r, none⟩ from by
    unfold Addr.add
    split
    · rename_i h0; congr 1; omega
    · rw [Nat.add_assoc]]
  exact hc
theorem run_append_of_nil {P : Program} (base : Nat) (t ty e : TypeId) (i : TypeInfo) (size : Nat) (ht : P.underlying t = some (.slice e)) (hi : P.info? e = some i)
    (v : Value) (n : Nat) (xs : List Value) (hown : w.ownsRow base e size v n xs) (c : Nat) : (Builtin.append_ #[t, t] ty #[v, .slice none 0 c]).run P w = .ok v w := by
  rcases hown.2 with ⟨rfl, rfl⟩ | ⟨g, cap, cur, rfl, _, _, hnc, _⟩
  · simp [Builtin.append_, run_underlying ht, sizeOf, typeInfo, hi, Builtin.lenOf, Builtin.firstCells]
  · simp [Builtin.append_, run_underlying ht, sizeOf, typeInfo, hi, Builtin.lenOf, Builtin.firstCells, hnc, storeCells]
end
theorem wp_append_all {P : Program} {α : Type} {f : α → List Int} {o : Oper} {a : Act} {K : Act → World → Prop} {Q : Exit → Act → World → Prop} {e : TypeId} {w : World} (s x : Operand) (t : TypeId)
    (ho : o.op = .call { callee := .builtin .append, args := #[s, x], argTypes := #[t, t] })
    (lo : Nat) (i : TypeInfo) (z : Value) (sz bytes : Nat) (ht : P.underlying t = some (.slice e)) (hi : P.info? e = some i) (hz : i.zero = some z)
    (hsize : i.size = sz) (hby : i.bytes = bytes) (hzs : z.cells.size = sz) (hsz : 0 < sz)
    (v : Value) (ys : List α) (hs : a.eval s = v) (hown : OwnF f sz lo e w v ys) (A : Option Addr) (c : Nat) (xs : List α) (hx : a.eval x = .slice A xs.length c) (hA : Fl f sz w A xs)
    (hls : ∀ y, (f y).length = sz) (hlen : ys.length + xs.length ≤ 16777216) (hbl : bytes ≤ 4096) (hlo : lo ≤ w.heap.size)
    (h : ∀ v' w', OwnF f sz lo e w' v' (ys ++ xs) → w.grownBy w' v.ownBlock → Below lo w w' → K (a.put o.dst v') w') : o.wp P a w K Q := by
  have hrow : row f ys ++ row f xs = row f (ys ++ xs) := by simp [row]
  rcases A with _ | ad
  · have hn : xs = [] := by
      by_cases hne : xs = []
      · exact hne
      · obtain ⟨b, o', h1, _⟩ := hA hne
        cases h1
    subst hn
    have hrun := run_append_of_nil (P := P) lo t o.type e i sz ht hi v ys.length (row f ys) hown c
    unfold Oper.wp execOp
    simp only [List.length_nil] at hx
    simp only [ho, resolve, invoke, builtin, Sem.run_bind, Sem.run_pure, Result.andThen_ok, List.map_toArray, List.map_cons, List.map_nil, hs, hx, hrun]
    exact h v w (by rw [List.append_nil]; exact hown) (World.grownBy.refl w _) (Below.refl _ _)
  · refine wp_append_own w s x t ho lo e i z sz bytes ht hi hz hsize hby hzs hsz v ys.length (row f ys) hs hown ad xs.length c (row f xs) hx (row_length hls xs) ?_ ?_ ?_ ?_ hlo ?_
    · intro j u hu
      have hne : xs ≠ [] := by rintro rfl; simp [row] at hu
      obtain ⟨b, o', h1, _⟩ := id (hA hne)
      injection h1 with h1
      subst h1
      exact hA.row hls j u hu
    · intro u hu
      obtain ⟨y, _, hy⟩ := List.mem_flatMap.1 hu
      obtain ⟨q, _, rfl⟩ := List.mem_map.1 hy
      rfl
    · simp only [maxLen]; omega
    · calc (ys.length + xs.length) * bytes ≤ 16777216 * 4096 := Nat.mul_le_mul hlen hbl
        _ ≤ 140737488355328 := by decide
    · intro v' w' h1 h2 _
      refine h v' w' ?_ h2 ((Below.refl _ _).grown h2 hlo (fun k hk => (hown.ownBlock k hk).1))
      unfold OwnF
      rw [← hrow, List.length_append]
      exact h1
theorem wpList_append_all {P : Program} {α : Type} {f : α → List Int} {ops : Array Oper} {rest : List Oper} {o : Oper} {a : Act} {Q : Exit → Act → World → Prop} {e : TypeId} {w : World} (hgd : o.guard = none) (s x : Operand) (t : TypeId)
    (ho : o.op = .call { callee := .builtin .append, args := #[s, x], argTypes := #[t, t] })
    (lo : Nat) (i : TypeInfo) (z : Value) (sz bytes : Nat) (ht : P.underlying t = some (.slice e)) (hi : P.info? e = some i) (hz : i.zero = some z)
    (hsize : i.size = sz) (hby : i.bytes = bytes) (hzs : z.cells.size = sz) (hsz : 0 < sz)
    (v : Value) (ys : List α) (hs : a.eval s = v) (hown : OwnF f sz lo e w v ys) (A : Option Addr) (c : Nat) (xs : List α) (hx : a.eval x = .slice A xs.length c) (hA : Fl f sz w A xs)
    (hls : ∀ y, (f y).length = sz) (hlen : ys.length + xs.length ≤ 16777216) (hbl : bytes ≤ 4096) (hlo : lo ≤ w.heap.size)
    (h : ∀ v' w', OwnF f sz lo e w' v' (ys ++ xs) → w.grownBy w' v.ownBlock → Below lo w w' → wpList P ops Q rest (a.put o.dst v') w') : wpList P ops Q (o :: rest) a w :=
  wpList_plain hgd fun K hK => wp_append_all s x t ho lo i z sz bytes ht hi hz hsize hby hzs hsz v ys hs hown A c xs hx hA hls hlen hbl hlo fun v' w' h1 h2 h3 => hK _ _ (h v' w' h1 h2 h3)
theorem step_append_all {P : Program} {α : Type} {f : α → List Int} {ops : Array Oper} {o : Oper} {a : Act} {K : Act → World → Prop} {Q : Exit → Act → World → Prop} {E : Prop} {e : TypeId} {w : World} (hgd : o.guard = none) (s x : Operand) (t : TypeId)
    (ho : o.op = .call { callee := .builtin .append, args := #[s, x], argTypes := #[t, t] })
    (lo : Nat) (i : TypeInfo) (z : Value) (sz bytes : Nat) (ht : P.underlying t = some (.slice e)) (hi : P.info? e = some i) (hz : i.zero = some z)
    (hsize : i.size = sz) (hby : i.bytes = bytes) (hzs : z.cells.size = sz) (hsz : 0 < sz)
    (v : Value) (ys : List α) (hs : a.eval s = v) (hown : OwnF f sz lo e w v ys) (A : Option Addr) (c : Nat) (xs : List α) (hx : a.eval x = .slice A xs.length c) (hA : Fl f sz w A xs)
    (hls : ∀ y, (f y).length = sz) (hlen : ys.length + xs.length ≤ 16777216) (hbl : bytes ≤ 4096) (hlo : lo ≤ w.heap.size)
    (h : ∀ v' w', OwnF f sz lo e w' v' (ys ++ xs) → w.grownBy w' v.ownBlock → Below lo w w' → K (a.put o.dst v') w') : if Region.wanted o (yielded ops a.tmps) = true then Oper.wp P o a w K Q else E := by
  have hw : Region.wanted o (yielded ops a.tmps) = true := by simp [Region.wanted, hgd]
  rw [if_pos hw]
  exact wp_append_all s x t ho lo i z sz bytes ht hi hz hsize hby hzs hsz v ys hs hown A c xs hx hA hls hlen hbl hlo h
/-- one element, laid in a block of its own -/
theorem Fl.box {α : Type} {f : α → List Int} {sz : Nat} {e : TypeId} (w : World) (y : α) : Fl f sz (w.alloc (.cells ((f y).map (Value.int .i64)).toArray e)) (some ⟨w.heap.size, 0, none⟩) [y] := fun _ => by
  refine ⟨w.heap.size, 0, rfl, by simp, fun i x hx j q hq => ?_⟩
  have hi : i = 0 := by have := lt_of_get hx; simp at this; exact this
  subst hi
  simp only [List.getElem?_cons_zero, Option.some.injEq] at hx
  subst hx
  rw [Nat.zero_mul, Nat.add_zero, Nat.zero_add, World.cell?_alloc_new]
  simp [hq]

end Go.Proofs.YtlagfeccdcjimaaDoor
