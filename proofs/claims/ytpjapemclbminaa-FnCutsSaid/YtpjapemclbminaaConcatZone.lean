/- slices.Concat of two slices. -/
import Derived.Test.YtpjapemclbminaaFamZone
import Derived.Test.YtpjapemclbminaaLst
import Derived.Lib.AppendZerosOnto
import Derived.Lib.AppendZeros
import Derived.Laws.OwnMore
namespace Go.Proofs.Ytpjapemclbminaa
open Go.RowKit
set_option linter.unusedVariables false
set_option linter.unusedSimpArgs false

set_option maxHeartbeats 1000000 in
set_option maxRecDepth 100000 in
theorem growZone_any (n : Nat) (w : World) (hn : n ≤ 16777216) :
    Calls Try.prog 71 #[.slice none 0 0, .int .i64 n] w fun e w' => ∃ v, e = .returned v ∧ OwnF Zone.ints 5 w.heap.size 35 w' v [] ∧ Below w.heap.size w w' := by
  obtain ⟨i0, hi, hz0, hz1, hz2⟩ := info_parts infoZone
  by_cases h0 : n = 0
  · subst h0
    go_enter Try.func71, Try.ntmps71
    go_wp2
    go_ret
    exact ⟨_, rfl, OwnF.none_, Below.refl _ _⟩
  · have hp : (0 : Int) < (n : Int) := by omega
    have hold : (Builtin.firstCells i0.size 0 (.slice none 0 0)).run Try.prog w.drew = .ok ([] : List Value).toArray w.drew := run_firstCells_none w.drew i0.size 0 0 0
    have hrz : ∀ ty, (Builtin.append_ #[24, 3] ty #[.slice none 0 0, .int .i64 (n : Int)]).run Try.prog w = _ := fun ty =>
      Lib.run_append_grow_zeros (P := Try.prog) w 24 3 ty 35 i0 _ .i64 .i64 Try.underlying24 Try.underlying3 hi hz0 none 0 0 [] hold n (by omega) (by rw [hz1]; decide) (by omega) (by omega) (by rw [hz2]; omega) (growslice_fits (by omega) (by rw [hz2]; omega))
    have hG := grownCap_le_maxLen w (0 + n) 0 35 (by unfold maxLen; omega)
    have hGn := grownCap_ge w (0 + n) 0 35
    obtain ⟨G, hGG⟩ : ∃ G, G = grownCap w (0 + n) 0 35 := ⟨_, rfl⟩
    rw [← hGG] at hrz hG hGn
    clear hold hGG
    have hG63 : G ≤ 9223372036854775807 := by unfold maxLen at hG; omega
    have HR := Lib.hid hrz
    clear hrz
    go_enter Try.func71, Try.ntmps71
    go_wp2_with (at_builtin; refine Lib.wpList_append_run _ rfl _ _ _ _ rfl _ _ rfl rfl _ _ (HR.out _) ?_)
    go_ret
    refine ⟨_, rfl, World.ownsRow_made w _ G (Nat.le_refl _) hG ?_, (below_new (Nat.le_refl _) _).drew⟩
    simp only [Array.size_append, List.size_toArray, size_zeroCells, List.length_nil, Value.cells]
    simp
    omega
set_option maxHeartbeats 1000000 in
set_option maxRecDepth 100000 in
theorem concatZone_any (b : Nat) (A1 : Option Addr) (c1 n1 : Nat) (xs1 : List Zone) (A2 : Option Addr) (c2 n2 : Nat) (xs2 : List Zone) (w : World) (h1 : n1 = xs1.length) (h2 : n2 = xs2.length) (hb : b < w.heap.size) (hn : n1 + n2 ≤ 16777216)
    (hk1 : w.cell? ⟨b, 0, none⟩ = some (.slice A1 n1 c1)) (hk2 : w.cell? ⟨b, 1, none⟩ = some (.slice A2 n2 c2)) (hF1 : Fl Zone.ints 5 w A1 xs1) (hF2 : Fl Zone.ints 5 w A2 xs2) :
    Calls Try.prog 64 #[.slice (some ⟨b, 0, none⟩) 2 2] w fun e w' => ∃ v, e = .returned v ∧ OwnF Zone.ints 5 w.heap.size 35 w' v (xs1 ++ xs2) ∧ Below w.heap.size w w' := by
  obtain ⟨i0, hi, hz0, hz1, hz2⟩ := info_parts infoZone
  have HN1 := Lib.hid h1
  have HN2 := Lib.hid h2
  have hgr := growZone_any (n1 + n2) w hn
  rw [show ((n1 + n2 : Nat) : Int) = (n1 : Int) + (n2 : Int) from by omega] at hgr
  have HG := Lib.hid hgr
  clear h1 h2 hgr
  go_enter Try.func64, Try.ntmps64
  go_wp2
  refine wp_loop_rounds 3 ?_
  rw [rounds_succ]
  go_wp2
  rw [rounds_succ]
  go_wp2
  rw [rounds_succ]
  go_wp2_with fail
  refine (HG.out).mono ?_
  rintro e w1 ⟨v, rfl, hown, hb1⟩
  have j1 : World.cell? w1 ⟨b, 0, none⟩ = some (.slice A1 n1 c1) := (hb1.cell (p := ⟨b, 0, none⟩) hb).trans hk1
  have j2 : World.cell? w1 ⟨b, 1, none⟩ = some (.slice A2 n2 c2) := (hb1.cell (p := ⟨b, 1, none⟩) hb).trans hk2
  have hG1 := hF1.ext hb1
  have hsz := hb1.size
  have hbb : b < w1.heap.size := Nat.lt_of_lt_of_le hb hsz
  clear hk1 hk2 hF1
  go_wp2
  refine wp_loop_rounds 3 ?_
  rw [rounds_succ]
  go_wp2_with (at_builtin; refine wpList_append_all (f := Zone.ints) rfl _ _ _ rfl w.heap.size i0 _ 5 40 Try.underlying24 hi hz0 hz1 hz2 rfl (by decide) v [] rfl hown A1 c1 xs1 (by rw [← HN1.out]; rfl) hG1 (fun _ => rfl) ?_ (by decide) ?_ ?_; (rw [← HN1.out]; simp; omega); exact hsz; intro v2 w2 hown2 hg2 hb2)
  have hx2 := hb1.trans hb2
  have l2 : World.cell? w2 ⟨b, 1, none⟩ = some (.slice A2 n2 c2) := (hb2.cell (p := ⟨b, 1, none⟩) hb).trans j2
  have hK2 := hF2.ext hx2
  rw [List.nil_append] at hown2
  clear j1 j2
  rw [rounds_succ]
  go_wp2_with (at_builtin; refine wpList_append_all (f := Zone.ints) rfl _ _ _ rfl w.heap.size i0 _ 5 40 Try.underlying24 hi hz0 hz1 hz2 rfl (by decide) v2 xs1 rfl hown2 A2 c2 xs2 (by rw [← HN2.out]; rfl) hK2 (fun _ => rfl) ?_ (by decide) ?_ ?_; (rw [← HN1.out, ← HN2.out]; omega); exact hx2.size; intro v3 w3 hown3 hg3 hb3)
  have hx3 := hx2.trans hb3
  rw [rounds_succ]
  go_wp2
  go_ret
  exact ⟨_, rfl, hown3, hx3⟩
end Go.Proofs.Ytpjapemclbminaa
