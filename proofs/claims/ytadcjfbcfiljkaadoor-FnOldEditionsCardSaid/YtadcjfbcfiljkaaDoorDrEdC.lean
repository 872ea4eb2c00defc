/- The draws of editions, a sheet, a number, a day, a new one. No condition. -/
import Derived.Test.YtadcjfbcfiljkaaDoorEdn
import Derived.Test.YtadcjfbcfiljkaaDoorPl18
import Derived.Test.YtadcjfbcfiljkaaDoorDrD
namespace Go.Proofs.YtadcjfbcfiljkaaDoor
open Go.RowKit
set_option linter.unusedVariables false
set_option linter.unusedSimpArgs false

def CuDr (w : World) (e : Ending) (w' : World) : Prop :=
  ∃ (A : Option Addr) (d : Nat) (xs : List Nest) (sheet day : Int), e = .returned (.tuple #[.slice A xs.length d, .int .i64 sheet, .int .i64 day]) ∧ (xs.length ≤ d ∧ d ≤ 9223372036854775807) ∧ wt xs ≤ 400 ∧ NlA w.heap.size w' A xs ∧ Below w.heap.size w w'
def CsDr (w : World) (e : Ending) (w' : World) : Prop :=
  ∃ (A : Option Addr) (d : Nat) (xs : List Nest) (sheet number day : Int), e = .returned (.tuple #[.slice A xs.length d, .int .i64 sheet, .int .i64 number, .int .i64 day]) ∧ (xs.length ≤ d ∧ d ≤ 9223372036854775807) ∧ wt xs ≤ 400 ∧ NlA w.heap.size w' A xs ∧ Below w.heap.size w w'
def NeDr (w : World) (e : Ending) (w' : World) : Prop :=
  ∃ (A : Option Addr) (d : Nat) (xs : List Nest) (sheet day : Int) (P : Option Addr) (pd : Nat) (pl : List Int), e = .returned (.tuple #[.slice A xs.length d, .int .i64 sheet, .int .i64 day, .slice P pl.length pd]) ∧ (xs.length ≤ d ∧ d ≤ 9223372036854775807) ∧ wt xs ≤ 400 ∧ pl.length ≤ 12 ∧ NlA w.heap.size w' A xs ∧ FlO one 1 w.heap.size w'.heap.size w' P pl ∧ Below w.heap.size w w'
set_option maxHeartbeats 8000000 in
set_option maxRecDepth 100000 in
theorem drawCurrentOn_any (A : Option Addr) (n cap : Nat) (w : World) (hA : Bytes w A n) (hn : n ≤ 1099511627776) :
    Calls Tryd.prog 24 #[.slice A n cap] w (CuDr w) := by
  obtain ⟨V0, hV0, hB0, hz0, hu0, hf0⟩ := box_world w #[Value.slice A n cap, .int .i64 0, .int .u64 0] 54
  have hC0 : CurAt w.heap.size A n cap 0 V0 := hV0 ▸ CurAt.start hA cap _
  obtain ⟨g, hg⟩ : ∃ g, g = w.heap.size := ⟨_, rfl⟩
  rw [← hg] at hC0
  have HG := Lib.hid hg
  have hgw : w.heap.size ≤ g := by omega
  have hgV : g + 1 ≤ V0.heap.size := by omega
  have HP := Lib.hid (editions_any g A n cap 0 V0 hC0 (by omega) hn)
  have HB0 := Lib.hid hB0
  clear hg hC0 hu0 hf0 hA hB0
  go_enter Tryd.func24, Tryd.ntmps24
  go_wp2_with fail
  rw [← HG.out]
  clear hV0
  ((with_reducible refine (HP.out).mono ?_); rintro e w1 ⟨LA, m, d, xs, rfl, hm, hmd, hdm, hwt, hN, hC, hT⟩)
  have hs1 : V0.heap.size ≤ w1.heap.size := hT.size
  have hm4 : m ≤ 400 := by rw [hm]; exact Nat.le_trans (wt_len xs) hwt
  have HM := Lib.hid hm
  have HW := Lib.hid hwt
  clear hm hwt
  have HN2 := Lib.hid (sheet18_any g A n cap _ w1 hC (by omega) hn)
  clear hC
  go_wp2_with fail
  ((with_reducible refine (HN2.out).mono ?_); rintro e w2 ⟨sh, rfl, hC, hU2⟩)
  replace hN := hN.touch hU2 (by omega)
  replace hT := hT.trans hU2
  have hz_w2 : (World.heap w1).size ≤ (World.heap w2).size := hU2.size
  clear hU2
  have HN3 := Lib.hid (day18_any LA d V0.heap.size m xs HM.out hm4 g A n cap _ w2 hC hN hgV (by omega) hn)
  clear hC
  go_wp2_with fail
  ((with_reducible refine (HN3.out).mono ?_); rintro e w3 ⟨dy, rfl, hC, hU3⟩)
  replace hN := hN.touch hU3 (by omega)
  replace hT := hT.trans hU3
  have hz_w3 : (World.heap w2).size ≤ (World.heap w3).size := hU3.size
  clear hU3
  have HN := Lib.hid hN
  have hB := hT.below HB0.out hgw
  have HB := Lib.hid hB
  have hs9 : V0.heap.size ≤ (World.heap w3).size := by omega
  have hs8 : w.heap.size ≤ V0.heap.size := by omega
  clear hN hC hT hB
  go_wp2
  go_ret3
  have hm := HM.out
  subst hm
  exact ⟨LA, d, xs, sh, dy, rfl, ⟨hmd, hdm⟩, HW.out, HN.out.from_ hs8, HB.out⟩
end Go.Proofs.YtadcjfbcfiljkaaDoor
