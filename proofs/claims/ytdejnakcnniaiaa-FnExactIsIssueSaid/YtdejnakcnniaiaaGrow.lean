/- The class of the worlds that a world may have become by draws and new blocks alone; a region that draws its order and only reads, walked once in that class. -/
import Derived.WalkKit
import Derived.WalkSpells
import Derived.WalkLawsBesides
import Derived.BigQuiet
import Derived.Deep.QuietTactic
import Derived.Deep.RegionHeld3
import Derived.Handy
import Derived.Lib.Hide
namespace Go.Proofs.Ytdejnakcnniaiaa
open Go.RowKit

structure Ext where
  blocks : Array Obj
  drawn : Nat

instance : Nonempty Ext := ⟨⟨#[], 0⟩⟩

def plus (w : World) (x : Ext) : World := { w with heap := w.heap ++ x.blocks, drawn := x.drawn }

theorem plus_cell (w : World) (x : Ext) (b o : Nat) (h : b < w.heap.size) : (plus w x).cell? ⟨b, o, none⟩ = w.cell? ⟨b, o, none⟩ := by
  simp [plus, World.cell?, Array.getElem?_append_left h]
theorem plus_frozen (w : World) (x : Ext) (b o : Nat) (h : b < w.heap.size) : (plus w x).frozen? ⟨b, o, none⟩ = w.frozen? ⟨b, o, none⟩ := by
  simp [plus, World.frozen?, Array.getElem?_append_left h]
theorem plus_size (w : World) (x : Ext) : w.heap.size ≤ (plus w x).heap.size := by simp [plus]
theorem plus_below (w : World) (x : Ext) : Below w.heap.size w (plus w x) :=
  ⟨rfl, rfl, rfl, plus_size w x, fun k hk => by simp [plus, Array.getElem?_append_left hk]⟩
theorem below_plus {w w' : World} (h : Below w.heap.size w w') : ∃ x, w' = plus w x := by
  refine ⟨⟨w'.heap.extract w.heap.size w'.heap.size, w'.drawn⟩, ?_⟩
  have hh : w'.heap = w.heap ++ w'.heap.extract w.heap.size w'.heap.size := by
    apply Array.ext_getElem?
    intro i
    by_cases hi : i < w.heap.size
    · rw [Array.getElem?_append_left hi]; exact h.block i hi
    · rw [Array.getElem?_append_right (by omega), Array.getElem?_extract]
      have := h.size
      by_cases hj : i < w'.heap.size
      · rw [if_pos (by omega)]; congr 1; omega
      · rw [if_neg (by omega)]; simp; omega
  cases w' with
  | mk heap tape drawn os output =>
    have h1 := h.os; have h2 := h.tape; have h3 := h.output
    simp only at h1 h2 h3 hh
    simp only [plus]
    rw [← hh, h1, h2, h3]

/-- A callee that makes new blocks alone is quiet in the class. -/
theorem quiet_below {P : Program} {f : FuncId} {args : Array Value} {w : World} {x : Ext} {v : Value}
    (h : Calls P f args (plus w x) fun e w' => e = .returned v ∧ Below (plus w x).heap.size (plus w x) w') :
    Calls P f args (plus w x) fun e w'' => e = .returned v ∧ ∃ y, w'' = plus w y :=
  h.mono fun _ _ ⟨he, hb⟩ => ⟨he, below_plus ((plus_below w x).trans (hb.mono (plus_size w x)))⟩
theorem quiet_same {P : Program} {f : FuncId} {args : Array Value} {w : World} {x : Ext} {v : Value}
    (h : Calls P f args (plus w x) fun e w' => e = .returned v ∧ plus w x = w') :
    Calls P f args (plus w x) fun e w'' => e = .returned v ∧ ∃ y, w'' = plus w y :=
  h.mono fun _ _ ⟨he, hb⟩ => ⟨he, x, hb.symm⟩

theorem wp_region_grow {P : Program} {id : Nat} {Q : Exit → Act → World → Prop} {a : Act} {w : World} {l : List Oper} (hm : P.follows .mixedOrders = true) (hB : Region.lexB .any l.toArray = true)
    (h : wpQuiet P l.toArray (fun w' => ∃ x, w' = plus w x) (fun a' => ∀ w', Below w.heap.size w w' → Q .normal a' w') l a) : (Code.region id l.toArray true).wp P Q a w := by
  have h0 : { w with drawn := w.drawn + 1 } = plus w ⟨#[], w.drawn + 1⟩ := by simp [plus]
  refine wp_region_quiet (C := fun w' => ∃ x, w' = plus w x) hm hB ⟨_, h0⟩ ?_
  have e : (fun a' => ∀ w', (∃ x, w' = plus w x) → Q .normal a' w') = (fun a' => ∀ w', Below w.heap.size w w' → Q .normal a' w') := by
    funext a'
    apply propext
    exact ⟨fun hh w' hb => hh w' (below_plus hb), fun hh w' ⟨x, hx⟩ => hh w' (hx ▸ plus_below w x)⟩
  rw [e]
  simpa using h

theorem bcell {W w1 : World} (hb : Below W.heap.size W w1) : (∀ b o, b < W.heap.size → w1.cell? ⟨b, o, none⟩ = W.cell? ⟨b, o, none⟩) ∧ (∀ b o, b < W.heap.size → w1.frozen? ⟨b, o, none⟩ = W.frozen? ⟨b, o, none⟩) :=
  ⟨fun b o h => hb.cell (p := ⟨b, o, none⟩) h, fun b o h => hb.frozen (p := ⟨b, o, none⟩) h⟩
theorem bcell' {B : Nat} {W w1 : World} (hb : Below B W w1) : (∀ b o, b < B → w1.cell? ⟨b, o, none⟩ = W.cell? ⟨b, o, none⟩) ∧ (∀ b o, b < B → w1.frozen? ⟨b, o, none⟩ = W.frozen? ⟨b, o, none⟩) :=
  ⟨fun b o h => hb.cell (p := ⟨b, o, none⟩) h, fun b o h => hb.frozen (p := ⟨b, o, none⟩) h⟩

theorem ret_bool {a b : Bool} (h : a = b) : Ending.returned (.bool a) = .returned (.bool b) := by rw [h]
theorem ret_int {k : IntKind} {a b : Int} (h : a = b) : Ending.returned (.int k a) = .returned (.int k b) := by rw [h]
theorem bt {p : Prop} [Decidable p] (h : p) : true = decide p := by simp [h]
theorem bf {p : Prop} [Decidable p] (h : ¬ p) : false = decide p := by simp [h]
end Go.Proofs.Ytdejnakcnniaiaa
