/- The law's bytes opened. No condition. -/
import Derived.Test.YtlagfeccdcjimaaDoorOpen
import Derived.Test.YtlagfeccdcjimaaDoorDrD
import Derived.ProofKit
import Derived.Deep.Slices
import Derived.Deep.Fields
import Derived.ChangeSame
namespace Go.Proofs.YtlagfeccdcjimaaDoor
open Go.RowKit
set_option linter.unusedVariables false
set_option linter.unusedSimpArgs false

open Go.ChangeShapes Go.WideShapes Go.Deep
section
variable {H : Type} {enc : TypeId × Value → H} {P : Program} {w : World} {base : Nat} {held : Bool}
theorem open_bytes {t e : TypeId} {v : Value} {d : DataW H} {ps : List MemPlace} {r : Reach} {b0 : Nat}
    (ht : P.underlying t = some (.slice e)) (he : P.underlying e = some (.int .u8)) (hC : P.cellsOf e = 1)
    (hv : Value.okWide P w r b0 t v) (h : DataW.Trod enc P w base (fun _ => true) held t v d ps) :
    ∃ A n c, v = .slice A n c ∧ n ≤ 9223372036854775807 ∧ Bytes w A n := by
  obtain ⟨A0, len0, cap0, rfl⟩ := okWide_slice ht hv
  obtain ⟨fuel, hf⟩ := h
  rcases open_slice ht hf with ⟨hcs, _⟩ | ⟨a, len, cap, m, nf, D, Pl, hcs, hb, hl, hm, hmm, hx, hi⟩
  · have hv0 : Value.slice A0 len0 cap0 = .slice none 0 0 := by simpa [Value.cells] using hcs
    exact ⟨none, 0, 0, hv0, by omega, fun i hi => by omega⟩
  · have hv0 : Value.slice A0 len0 cap0 = .slice (some a) len cap := by simpa [Value.cells] using hcs
    simp only [if_true] at hmm
    subst hmm
    refine ⟨some a, len, _, hv0, by simp only [maxLen] at hm; omega, fun i hil => ?_⟩
    obtain ⟨cs', hc, htr⟩ := hi i (by omega)
    rw [hC] at hc
    obtain ⟨q, e1, _, hwf⟩ := DataW.trod_int he htr
    obtain ⟨_, hcl, hat⟩ := World.cells?_some hc
    have hq := hat 0 (by omega)
    simp only [e1] at hq
    have h1 : w.cell? (a.add i) = some (.int .u8 q) := by simpa [Addr.add] using hq
    have h0 : ∃ u, w.cell? (a.add 0) = some u := by
      obtain ⟨cs0, hc0, htr0⟩ := hi 0 (by omega)
      rw [hC] at hc0
      obtain ⟨q0, e0, _, _⟩ := DataW.trod_int he htr0
      obtain ⟨_, hcl0, hat0⟩ := World.cells?_some hc0
      have h9 := hat0 0 (by omega)
      simp only [e0] at h9
      exact ⟨.int .u8 q0, by simpa [Addr.add] using h9⟩
    obtain ⟨u, hu⟩ := h0
    have ha := addr_of_cell hu
    have hlt := World.block_lt_of_cell? w _ h1
    rw [ha, add_none] at hlt h1
    have hb8 : 0 ≤ q ∧ q ≤ 255 := by
      simp [Lit.wf, IntKind.min, IntKind.max, IntKind.bits, IntKind.signed] at hwf
      omega
    exact ⟨a.block, a.off, q, by rw [← ha], hlt, hb8.1, hb8.2, h1⟩
end
set_option maxHeartbeats 400000 in
theorem rBig_any (A : Option Addr) (n c : Nat) (w : World) (p : Prop) (hp : 65536 < (n : Int) ↔ p) : Calls Tryd.prog 4 #[.slice A n c] w fun e w' => e = .returned (.bool (tb p)) ∧ w = w' := by
  have H := Lib.hid hp
  clear hp
  go_enter Tryd.func4, Tryd.ntmps4
  go_wp2
  go_ret
  exact ⟨ret_bool (tb_dec H.out.symm), rfl⟩
end Go.Proofs.YtlagfeccdcjimaaDoor
