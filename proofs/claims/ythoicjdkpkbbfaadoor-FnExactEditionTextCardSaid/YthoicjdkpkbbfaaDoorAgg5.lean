/- A struct of five integers by value. No condition. -/
import Derived.Test.YthoicjdkpkbbfaaDoorProg
import Derived.Test.YthoicjdkpkbbfaaDoorBase
import Derived.Test.YthoicjdkpkbbfaaDoorTextI
import Derived.Lib.SmallJoins
import Derived.ProofKit
namespace Go.Proofs.YthoicjdkpkbbfaaDoor
open Go.RowKit
set_option linter.unusedVariables false
set_option linter.unusedSimpArgs false

open Go.ChangeShapes Go.WideShapes Go.ChangeAt Go.Joins Go.Deep
section
variable {H : Type} {enc : TypeId × Value → H} {P : Program} {w : World} {base : Nat} {spare : Nat → Bool} {held : Bool}
theorem array5 {α : Type} {cs : Array α} (h : cs.size = 5) : ∃ c0 c1 c2 c3 c4, cs = #[c0, c1, c2, c3, c4] := by
  obtain ⟨l⟩ := cs
  match l, h with
  | [c0, c1, c2, c3, c4], _ => exact ⟨c0, c1, c2, c3, c4, rfl⟩
/-- a struct of five integers, by value, opened -/
theorem open_ints5 {r : Reach} {b0 : Nat} {t e : TypeId} {k : IntKind} {f0 f1 f2 f3 f4 : Field} {v : Value} {d : DataW H} {p : List MemPlace} (hs : P.underlying t = some (.struct #[f0, f1, f2, f3, f4])) (hone : oneCellFields P #[f0, f1, f2, f3, f4] = true) (hC : P.cellsOf t = 5)
    (he : P.underlying e = some (.int k)) (hf0 : f0.type = e) (hf1 : f1.type = e) (hf2 : f2.type = e) (hf3 : f3.type = e) (hf4 : f4.type = e)
    (hv : Value.okWide P w r b0 t v) (h : DataW.Trod enc P w base spare held t v d p) :
    ∃ a0 a1 a2 a3 a4 : Int, v = .agg #[.int k a0, .int k a1, .int k a2, .int k a3, .int k a4] := by
  obtain ⟨cs, rfl, hsz⟩ := okWide_struct hs hv
  obtain ⟨c0, c1, c2, c3, c4, rfl⟩ := array5 (hsz.trans hC)
  obtain ⟨fuel, hf⟩ := h
  obtain ⟨xs, n, _, hx, hl, hlen, hg⟩ := DataW.trod_struct hs hf
  match xs, hlen with
  | [y0, y1, y2, y3, y4], _ =>
    obtain ⟨o0, k0⟩ := hone_of hone 0 f0 rfl
    obtain ⟨o1, k1⟩ := hone_of hone 1 f1 rfl
    obtain ⟨o2, k2⟩ := hone_of hone 2 f2 rfl
    obtain ⟨o3, k3⟩ := hone_of hone 3 f3 rfl
    obtain ⟨o4, k4⟩ := hone_of hone 4 f4 rfl
    have g0 : DataW.trod enc P w base spare held n f0.type [c0] = some y0 := by simpa [Value.cells, o0, k0] using hg 0 f0 rfl
    have g1 : DataW.trod enc P w base spare held n f1.type [c1] = some y1 := by simpa [Value.cells, o1, k1] using hg 1 f1 rfl
    have g2 : DataW.trod enc P w base spare held n f2.type [c2] = some y2 := by simpa [Value.cells, o2, k2] using hg 2 f2 rfl
    have g3 : DataW.trod enc P w base spare held n f3.type [c3] = some y3 := by simpa [Value.cells, o3, k3] using hg 3 f3 rfl
    have g4 : DataW.trod enc P w base spare held n f4.type [c4] = some y4 := by simpa [Value.cells, o4, k4] using hg 4 f4 rfl
    rw [hf0] at g0
    rw [hf1] at g1
    rw [hf2] at g2
    rw [hf3] at g3
    rw [hf4] at g4
    obtain ⟨a0, e0, _, _⟩ := DataW.trod_int he g0
    obtain ⟨a1, e1, _, _⟩ := DataW.trod_int he g1
    obtain ⟨a2, e2, _, _⟩ := DataW.trod_int he g2
    obtain ⟨a3, e3, _, _⟩ := DataW.trod_int he g3
    obtain ⟨a4, e4, _, _⟩ := DataW.trod_int he g4
    simp at e0 e1 e2 e3 e4
    subst e0 e1 e2 e3 e4
    exact ⟨a0, a1, a2, a3, a4, rfl⟩
end
theorem Pow.at {B : Nat} {w w1 : World} (h : Pow B w) (hb : Below B w w1) (hB : B ≤ w1.heap.size) : Pow w1.heap.size w1 := fun w' hb' => h w' (hb.trans (hb'.mono hB))
end Go.Proofs.YthoicjdkpkbbfaaDoor
