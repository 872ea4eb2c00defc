/- The laws' comparison of editions. No condition. -/
import Derived.Test.YtadcjfbcfiljkaaFamInt
import Derived.Test.YtadcjfbcfiljkaaFamEdition
import Derived.Test.YtadcjfbcfiljkaaNest
namespace Go.Proofs.Ytadcjfbcfiljkaa
open Go.RowKit
set_option linter.unusedVariables false
set_option linter.unusedSimpArgs false

set_option maxHeartbeats 1000000 in
set_option maxRecDepth 100000 in
theorem rEditions_same (A B : Option Addr) (c d : Nat) (xs : List Nest) (w : World) (hn : wt xs ≤ 1152921504606846976) (hA : Nl w A xs) (hB : Nl w B xs) :
    Calls Try.prog 8 #[.slice A xs.length c, .slice B xs.length d] w fun e w' => e = .returned (.bool true) ∧ Below w.heap.size w w' := by
  have hin := fun x (hx : x ∈ xs) => wt_in hx
  have hwl := wt_len xs
  obtain ⟨n, hnn⟩ : ∃ n, n = List.length xs := ⟨_, rfl⟩
  rw [← hnn] at hwl ⊢
  have hN := Lib.hid hnn
  clear hnn
  go_enter Try.func8, Try.ntmps8
  go_wp2
  go_loopw [5] (fun i wr => ∃ k : Nat, k ≤ n ∧ i = .int .i64 k ∧ Below w.heap.size w wr) (fun i _ => n - (intOf i).toNat)
  case atStart => exact ⟨0, by omega, rfl, Below.refl _ _⟩
  case round =>
    obtain ⟨k, hk, rfl, hbr⟩ := hrel
    by_cases hlt : k < n
    · have hBr := hB.ext hbr
      obtain ⟨x, b, o, A', d', hx, rfl, hb, hc, hfl⟩ := (hA.ext hbr).at_ (k := k) (by rw [← hN.out]; exact hlt)
      obtain ⟨y, b2, o2, A2, d2, hy, rfl, hb2, hc2, hfl2⟩ := hBr.at_ (k := k) (by rw [← hN.out]; exact hlt)
      rw [hx] at hy
      cases hy
      have hxl := hin x (List.mem_of_getElem? hx)
      have c0 : World.cell? wr ⟨b, o + k * 4, none⟩ = some (.int .i64 x.a) := hc.ca
      have c1 : World.cell? wr ⟨b, o + k * 4 + 1, none⟩ = some (.int .i64 x.b) := hc.cb
      have c2 : World.cell? wr ⟨b, o + k * 4 + 2, none⟩ = some (.int .i64 x.c) := hc.cc
      have c3 : World.cell? wr ⟨b, o + k * 4 + 3, none⟩ = some (.slice A' x.l.length d') := hc.cl
      have e0 : World.cell? wr ⟨b2, o2 + k * 4, none⟩ = some (.int .i64 x.a) := hc2.ca
      have e1 : World.cell? wr ⟨b2, o2 + k * 4 + 1, none⟩ = some (.int .i64 x.b) := hc2.cb
      have e2 : World.cell? wr ⟨b2, o2 + k * 4 + 2, none⟩ = some (.int .i64 x.c) := hc2.cc
      have e3 : World.cell? wr ⟨b2, o2 + k * 4 + 3, none⟩ = some (.slice A2 x.l.length d2) := hc2.cl
      clear hc hc2 hA hB hx hBr
      have hpc := plus_cell wr
      have hk0 : (0 : Int) ≤ (k : Int) := by omega
      have hk1 : (k : Int) < (n : Int) := by omega
      have na : (x.a != x.a) = false := by simp
      have nb : (x.b != x.b) = false := by simp
      have nc : (x.c != x.c) = false := by simp
      go_wp2_with fail
      refine wp_region_grow (by kernel_rfl) (by kernel_rfl) ?_
      repeat (go_big_quiet_step ((first | (go_at_call 12; exact quiet_below (rInts_same A' A2 d' d2 x.l _ (by omega) (hfl.ext (plus_below _ _)) (hfl2.ext (plus_below _ _)))))))
      refine wpQuiet_nil ?_
      intro w1 hb1
      go_wp2
      go_roundw
      case rel => exact ⟨k + 1, by omega, by go_num, ext_trans hbr hb1⟩
      case measure => simp [intOf]; omega
    · have hkn : k = n := by omega
      subst hkn
      go_wp2
      go_ret
      exact ⟨rfl, hbr⟩
end Go.Proofs.Ytadcjfbcfiljkaa
