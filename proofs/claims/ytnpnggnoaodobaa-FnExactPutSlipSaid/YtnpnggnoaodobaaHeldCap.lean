/- Copies whose capacities are known. -/
import Derived.Test.YtnpnggnoaodobaaFamHeld
import Derived.Test.YtnpnggnoaodobaaPut
namespace Go.Proofs.Ytnpnggnoaodobaa
open Go.RowKit
set_option linter.unusedVariables false
set_option linter.unusedSimpArgs false

def NlC (w : World) (A : Option Addr) (xs : List Nest) : Prop :=
  xs ≠ [] → ∃ b o, A = some ⟨b, o, none⟩ ∧ b < w.heap.size ∧ ∀ i x, xs[i]? = some x → ∃ A' d, NAt w b (o + i * 4) x A' d ∧ Fl one 1 w A' x.l ∧ Cap A' x.l.length d
theorem NlC.nl {w : World} {A : Option Addr} {xs : List Nest} (h : NlC w A xs) : Nl w A xs := fun hn => by
  obtain ⟨b, o, h1, h2, h3⟩ := h hn
  exact ⟨b, o, h1, h2, fun i x hx => by obtain ⟨A', d, h4, h5, _⟩ := h3 i x hx; exact ⟨A', d, h4, h5⟩⟩
theorem NlC.ext {w w' : World} {A : Option Addr} {xs : List Nest} (h : NlC w A xs) (hb : Below w.heap.size w w') : NlC w' A xs := fun hn => by
  obtain ⟨b, o, h1, h2, h3⟩ := h hn
  refine ⟨b, o, h1, Nat.lt_of_lt_of_le h2 hb.size, fun i x hx => ?_⟩
  obtain ⟨A', d, h4, h5, h6⟩ := h3 i x hx
  exact ⟨A', d, h4.cells fun j => hb.cell (p := ⟨b, j, none⟩) h2, h5.ext hb, h6⟩
theorem NlC.at_ {w : World} {A : Option Addr} {xs : List Nest} (h : NlC w A xs) {k : Nat} (hk : k < xs.length) : ∃ x b o A' d, xs[k]? = some x ∧ A = some ⟨b, o, none⟩ ∧ b < w.heap.size ∧ NAt w b (o + k * 4) x A' d ∧ Fl one 1 w A' x.l ∧ Cap A' x.l.length d := by
  obtain ⟨b, o, h1, h2, h3⟩ := h (fun e => by subst e; simp at hk)
  have hx : xs[k]? = some xs[k] := List.getElem?_eq_getElem hk
  obtain ⟨A', d, h4, h5, h6⟩ := h3 k _ hx
  exact ⟨xs[k], b, o, A', d, hx, h1, h2, h4, h5, h6⟩
def CapTo (S : Nat → Option Addr) (D : Nat → Nat) (xs : List Nest) (k : Nat) : Prop := ∀ (i : Nat) (x : Nest), i < k → xs[i]? = some x → D i = x.l.length ∧ ∃ b, S i = some ⟨b, 0, none⟩
theorem CapTo.step {S : Nat → Option Addr} {D : Nat → Nat} {xs : List Nest} {k B : Nat} {x : Nest} (h : CapTo S D xs k) (hx : xs[k]? = some x) : CapTo (fun i => if i = k then some ⟨B, 0, none⟩ else S i) (fun i => if i = k then x.l.length else D i) xs (k + 1) := fun i y hi hy => by
  by_cases e : i = k
  · subst e
    rw [hy] at hx
    cases hx
    simp
  · simp only [if_neg e]
    exact h i y (by omega) hy
theorem NFill.nlc {B n k : Nat} {xs : List Nest} {g : Nat → Nat} {S : Nat → Option Addr} {D : Nat → Nat} {wr : World} (h : NFill B n xs g S D k wr) (hc : CapTo S D xs k) (hk : xs.length ≤ k) (hn : wt xs ≤ 1048576) : NlC wr (some ⟨B, 0, none⟩) xs := fun _ =>
  ⟨B, 0, rfl, h.size, fun i x hx => by
    have hi : i < k := Nat.lt_of_lt_of_le (lt_of_get hx) hk
    obtain ⟨h1, b, h2⟩ := hc i x hi hx
    have := wt_in (List.mem_of_getElem? hx)
    rw [Nat.zero_add]
    exact ⟨S i, D i, h.cell i x hi hx, (h.own i x hi hx).fl, by rw [h1]; exact Nat.le_refl _, by rw [h1]; omega, .inr ⟨b, 0, h2⟩⟩⟩
set_option maxHeartbeats 1000000 in
set_option maxRecDepth 100000 in
theorem toHeldS_cap (A : Option Addr) (c : Nat) (xs : List Nest) (w : World) (hn : wt xs ≤ 1048576) (hA : Nl w A xs) :
    Calls Try.prog 21 #[.slice A xs.length c] w fun e w' => ∃ B, e = .returned (.slice (some ⟨B, 0, none⟩) xs.length xs.length) ∧ NlO w.heap.size w'.heap.size w' (some ⟨B, 0, none⟩) xs ∧ NlC w' (some ⟨B, 0, none⟩) xs ∧ Below w.heap.size w w' := by
  have hin := fun x (hx : x ∈ xs) => wt_in hx
  have hwl := wt_len xs
  obtain ⟨i0, hi, hz0, hz1, hz2⟩ := info_parts infoHeld
  obtain ⟨n, hnn⟩ : ∃ n, n = xs.length := ⟨_, rfl⟩
  rw [← hnn] at hwl ⊢
  have hmk := run_make_rowN (P := Try.prog) 34 65 i0 _ Try.underlying34 hi hz0 .i64 .i64 n n (Nat.le_refl _) (by rw [hz2]; omega) (by omega)
  rw [hz1] at hmk
  obtain ⟨cells, hcells⟩ : ∃ cs, cs = madeCells (Value.agg #[.int .i64 0, .int .i64 0, .int .i64 0, .slice none 0 0]).cells (n * 4) := ⟨_, rfl⟩
  rw [← hcells] at hmk
  have hcs : cells.size = n * 4 := by rw [hcells]; exact size_madeCells _ _
  clear hcells hz0 hz1 hz2 hi
  have hN := Lib.hid hnn
  have hC := Lib.hid hcs
  have hn' : n ≤ 1048576 := by omega
  clear hnn hcs
  go_enter Try.func21, Try.ntmps21
  go_wp2
  go_loopw [4] (fun i wr => ∃ (k : Nat) (g : Nat → Nat) (S : Nat → Option Addr) (D : Nat → Nat), k ≤ n ∧ i = .int .i64 k ∧ Below w.heap.size w wr ∧ NFill w.heap.size n xs g S D k wr ∧ Hid (CapTo S D xs k)) (fun i _ => n - (intOf i).toNat)
  case atStart => exact ⟨0, fun _ => 0, fun _ => none, fun _ => 0, by omega, rfl, by go_grown, NFill.start rfl hC.out, fun i x h => by omega⟩
  case round =>
    obtain ⟨k, g, S, D, hk, rfl, hbr, hF, hcp⟩ := hrel
    by_cases hlt : k < n
    · obtain ⟨x, b, o, A', d, hx, rfl, hb, hc, hfl⟩ := (hA.ext hbr).at_ (k := k) (by rw [← hN.out]; exact hlt)
      have hxl := hin x (List.mem_of_getElem? hx)
      have hX := Lib.hid hx
      clear hx
      have c0 : World.cell? wr ⟨b, o + k * 4, none⟩ = some (.int .i64 x.a) := hc.ca
      have c1 : World.cell? wr ⟨b, o + k * 4 + 1, none⟩ = some (.int .i64 x.b) := hc.cb
      have c2 : World.cell? wr ⟨b, o + k * 4 + 2, none⟩ = some (.int .i64 x.c) := hc.cc
      have c3 : World.cell? wr ⟨b, o + k * 4 + 3, none⟩ = some (.slice A' x.l.length d) := hc.cl
      clear hc hA
      have hk0 : (0 : Int) ≤ (k : Int) := by omega
      have hk1 : (k : Int) < (n : Int) := by omega
      go_wp2_with fail
      refine (toHeld_any x A' d _ (by omega) hfl).mono ?_
      rintro e w1 ⟨B, rfl, hFo, hb1⟩
      have hF1 := hF.ext hb1
      have hsz := hF1.size
      have hfz := hF1.frozen
      obtain ⟨z0, hz0⟩ : ∃ u, World.cell? w1 ⟨w.heap.size, k * 4, none⟩ = some u := hF1.there _ (by omega)
      obtain ⟨z1, hz1⟩ : ∃ u, World.cell? w1 ⟨w.heap.size, k * 4 + 1, none⟩ = some u := hF1.there _ (by omega)
      obtain ⟨z2, hz2⟩ : ∃ u, World.cell? w1 ⟨w.heap.size, k * 4 + 2, none⟩ = some u := hF1.there _ (by omega)
      obtain ⟨z3, hz3⟩ : ∃ u, World.cell? w1 ⟨w.heap.size, k * 4 + 3, none⟩ = some u := hF1.there _ (by omega)
      go_wp2
      go_roundw
      case rel =>
        refine ⟨k + 1, _, _, _, by omega, by go_num, ?_, (hF.step (d := x.l.length) hb1 hlt hX.out hFo : NFill _ _ _ _ _ _ _ (setRow w1 w.heap.size (k * 4) _)), hcp.out.step hX.out⟩
        exact ((setRow_touch w.heap.size (lo := w.heap.size) (hi := w.heap.size + 1) (Nat.le_refl _) (by omega) [Value.int .i64 x.a, .int .i64 x.b, .int .i64 x.c, .slice (some ⟨B, 0, none⟩) x.l.length x.l.length] w1 (k * 4)).below (ext_trans hbr hb1) (Nat.le_refl _) : Below _ w (setRow w1 w.heap.size (k * 4) _))
      case measure => simp [intOf]; omega
    · have hkn : k = n := by omega
      subst hkn
      go_wp2
      go_ret
      exact ⟨_, rfl, hF.nlo (by rw [← hN.out]; exact Nat.le_refl _) (Nat.le_refl _), hF.nlc hcp.out (by rw [← hN.out]; exact Nat.le_refl _) hn, hbr⟩
end Go.Proofs.Ytnpnggnoaodobaa
