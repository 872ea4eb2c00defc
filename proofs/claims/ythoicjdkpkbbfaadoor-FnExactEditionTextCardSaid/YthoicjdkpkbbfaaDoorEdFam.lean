/- The laws' own functions over one Edition: the size, the copy, the comparison. No condition. -/
import Derived.Test.YthoicjdkpkbbfaaDoorProg
import Derived.Test.YthoicjdkpkbbfaaDoorFamInt
import Derived.Test.YthoicjdkpkbbfaaDoorNest
namespace Go.Proofs.YthoicjdkpkbbfaaDoor
open Go.RowKit
set_option linter.unusedVariables false
set_option linter.unusedSimpArgs false
theorem szEdition_no (x : Nest) (A : Option Addr) (d : Nat) (w : World) (left : Int) (h0 : 0 ≤ left) (h1 : left ≤ 1048576) (hn : x.l.length ≤ 9223372036854775807) (h : left < (x.l.length : Int)) :
    Calls Tryd.prog 8 #[.agg #[.int .i64 x.a, .int .i64 x.b, .int .i64 x.c, .slice A x.l.length d], .int .i64 left] w fun e w' => e = .returned (.int .i64 (-1)) ∧ Below w.heap.size w w' := by
  go_enter Tryd.func8, Tryd.ntmps8
  go_wp2_with fail
  refine (szIntS_no A x.l.length d _ left h0 h1 hn h).mono ?_
  rintro e w1 ⟨rfl, rfl⟩
  go_wp2
  go_ret
  exact ⟨rfl, by go_grown⟩
theorem szEdition_ok (x : Nest) (A : Option Addr) (d : Nat) (w : World) (left : Int) (h0 : 0 ≤ left) (h1 : left ≤ 1048576) (hn : x.l.length ≤ 9223372036854775807) (h : (x.l.length : Int) ≤ left) :
    Calls Tryd.prog 8 #[.agg #[.int .i64 x.a, .int .i64 x.b, .int .i64 x.c, .slice A x.l.length d], .int .i64 left] w fun e w' => e = .returned (.int .i64 (left - x.l.length)) ∧ Below w.heap.size w w' := by
  have hd : ¬ left - (x.l.length : Int) < 0 := by omega
  go_enter Tryd.func8, Tryd.ntmps8
  go_wp2_with fail
  refine (szIntS_ok A x.l.length d _ left h0 h1 hn h).mono ?_
  rintro e w1 ⟨rfl, rfl⟩
  go_wp2
  go_ret
  exact ⟨rfl, by go_grown⟩
set_option maxHeartbeats 1000000 in
theorem toEdition_any (x : Nest) (A : Option Addr) (d : Nat) (w : World) (hn : x.l.length ≤ 1048576) (hA : Fl one 1 w A x.l) :
    Calls Tryd.prog 10 #[.agg #[.int .i64 x.a, .int .i64 x.b, .int .i64 x.c, .slice A x.l.length d]] w fun e w' => ∃ B, e = .returned (.agg #[.int .i64 x.a, .int .i64 x.b, .int .i64 x.c, .slice (some ⟨B, 0, none⟩) x.l.length x.l.length]) ∧ FlO one 1 w.heap.size w'.heap.size w' (some ⟨B, 0, none⟩) x.l ∧ Below w.heap.size w w' := by
  obtain ⟨n, hnn⟩ : ∃ n, n = x.l.length := ⟨_, rfl⟩
  have hto := fun W hW => toIntS_any A d x.l W hn hW
  rw [← hnn] at hn hto ⊢
  clear hnn
  have HT := Lib.hid hto
  clear hto
  go_enter Tryd.func10, Tryd.ntmps10
  go_wp2_with fail
  refine (HT.out _ (hA.ext (by go_grown))).mono ?_
  rintro e w1 ⟨B, rfl, hF, hb1⟩
  have hx1 : Below w.heap.size w w1 := ext_trans (by go_grown) hb1
  have hz1 : w.heap.size + 3 ≤ w1.heap.size := by have := hb1.size; simp at this; omega
  have hzz : w.heap.size + 1 + 1 < w1.heap.size := by omega
  have hzy : w.heap.size + 1 < w1.heap.size := by omega
  have hzx : w.heap.size < w1.heap.size := by omega
  have hc1 := bcell hb1
  have hf1 : ∀ b o, b < w.heap.size + 1 + 1 + 1 → w1.frozen? ⟨b, o, none⟩ = World.frozen? _ ⟨b, o, none⟩ := fun b o h => hb1.frozen (p := ⟨b, o, none⟩) (by simpa using h)
  go_wp2
  have hT : Touch (w.heap.size + 1) (w.heap.size + 3) w1 w1 := Touch.refl _ _ _
  have hT2 : Touch (w.heap.size + 1) (w.heap.size + 3) w1 _ := ((((hT.set (p := ⟨w.heap.size + 1 + 1, 3, none⟩) (by simp <;> omega) (by simp <;> omega) (Value.slice (some { block := B, off := 0 }) n n)).set
    (p := ⟨w.heap.size + 1, 0, none⟩) (by simp) (by simp) (Value.int IntKind.i64 x.a)).set
    (p := ⟨w.heap.size + 1, 1, none⟩) (by simp) (by simp) (Value.int IntKind.i64 x.b)).set
    (p := ⟨w.heap.size + 1, 2, none⟩) (by simp) (by simp) (Value.int IntKind.i64 x.c)).set (p := ⟨w.heap.size + 1, 3, none⟩) (by simp) (by simp) (Value.slice (some { block := B, off := 0 }) n n)
  refine bodyPost_ret (v := .agg #[.int .i64 x.a, .int .i64 x.b, .int .i64 x.c, .slice (some ⟨B, 0, none⟩) n n]) (by simp [results, Tryd.results10, go_sem, hc1, hzx, hzy, hzz]) rfl ⟨B, rfl, ?_, ?_⟩
  · exact (hF.touch hT2 (Or.inr (by simp <;> omega))).mono (by simp <;> omega) (by simp [setCell_size])
  · exact hT2.below hx1 (by omega)
set_option maxHeartbeats 1000000 in
theorem eqEdition_same (x : Nest) (A B : Option Addr) (d e : Nat) (w : World) (hn : x.l.length ≤ 1152921504606846976) (hA : Fl one 1 w A x.l) (hB : Fl one 1 w B x.l) :
    Calls Tryd.prog 12 #[.agg #[.int .i64 x.a, .int .i64 x.b, .int .i64 x.c, .slice A x.l.length d], .agg #[.int .i64 x.a, .int .i64 x.b, .int .i64 x.c, .slice B x.l.length e]] w fun e w' => e = .returned (.bool true) ∧ Below w.heap.size w w' := by
  go_enter Tryd.func12, Tryd.ntmps12
  go_wp2_with fail
  refine (eqIntS_same A B d e x.l _ hn (hA.ext (by go_grown)) (hB.ext (by go_grown))).mono ?_
  rintro e w1 ⟨rfl, hb1⟩
  have hx1 : Below w.heap.size w w1 := ext_trans (by go_grown) hb1
  have hz1 : w.heap.size + 2 ≤ w1.heap.size := by have := hb1.size; simp at this; omega
  have hc1 := bcell hb1
  go_wp2
  go_ret
  exact ⟨rfl, hx1⟩
end Go.Proofs.YthoicjdkpkbbfaaDoor
