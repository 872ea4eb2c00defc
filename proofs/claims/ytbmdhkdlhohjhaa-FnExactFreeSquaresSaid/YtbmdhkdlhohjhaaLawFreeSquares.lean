/- The program's FreeSquares returns what the reference's returns, for all arguments. No condition. -/
import Derived.Test.YtbmdhkdlhohjhaaLaw
import Derived.Test.YtbmdhkdlhohjhaaOpen
import Derived.Test.YtbmdhkdlhohjhaaFamLand
import Derived.Test.YtbmdhkdlhohjhaaFreeI
import Derived.Test.YtbmdhkdlhohjhaaFreeS
import Derived.Lib.SmallJoins
namespace Go.Proofs.Ytbmdhkdlhohjhaa
open Go.ChangeShapes Go.WideShapes Go.ChangeAt Go.RowKit Go.Joins
set_option linter.unusedVariables false
set_option linter.unusedSimpArgs false

set_option maxHeartbeats 2000000 in
set_option maxRecDepth 100000 in
theorem fnFreeSquares_any (wide high steep : Int) (A : Option Addr) (c : Nat) (xs : List Four) (w : World) (hm : xs.length ≤ 9223372036854775807) (hA : Fl Four.ints 4 w A xs) :
    Calls Try.prog 9 #[.agg #[.int .i64 wide, .int .i64 high, .slice A xs.length c, .int .i64 steep]] w fun e w' => e = .returned (.bool true) ∧ Below w.heap.size w w' := by
  obtain ⟨W0, hW0, hB0, hz0, hc0, _⟩ := box_world w #[Value.int .i64 wide, Value.int .i64 high, Value.slice A xs.length c, Value.int .i64 steep] 24
  have ea : World.cell? W0 ⟨w.heap.size, 0, none⟩ = some (.int .i64 wide) := hc0 0
  have eb : World.cell? W0 ⟨w.heap.size, 1, none⟩ = some (.int .i64 high) := hc0 1
  have ec : World.cell? W0 ⟨w.heap.size, 2, none⟩ = some (.slice A xs.length c) := hc0 2
  have ed : World.cell? W0 ⟨w.heap.size, 3, none⟩ = some (.int .i64 steep) := hc0 3
  clear hc0
  by_cases hbig : (1048576 : Int) < (xs.length : Int)
  · go_enter Try.func9, Try.ntmps9
    go_wp2_with fail
    refine (szLand_no wide high steep A xs.length c W0 hm hbig).mono ?_
    rintro e w1 ⟨rfl, hb1⟩
    go_wp2
    go_ret
    exact ⟨rfl, ext_trans hB0 hb1⟩
  · have hn : xs.length ≤ 1048576 := by omega
    have hs0 : ¬ (1048576 : Int) - (xs.length : Int) < 0 := by omega
    have hspec := fun (B : Option Addr) (d : Nat) W hW => specFreeSquares_any wide high steep B d xs W hn hW
    have himpl := fun (B : Option Addr) (d : Nat) W hW => freeSquares_any wide high steep B d xs W hn hW
    generalize seli (Lnd wide high steep xs) (wide * high - areaZ (implZ xs)) = q at hspec himpl
    generalize tb (Lnd wide high steep xs) = ok at hspec himpl
    have HSP := Lib.hid hspec
    have HIM := Lib.hid himpl
    clear hspec himpl
    go_enter Try.func9, Try.ntmps9
    go_wp2_with fail
    clear hW0
    refine (szLand_ok wide high steep A xs.length c W0 hm (by omega)).mono ?_
    rintro e w1 ⟨rfl, hb1⟩
    have hr1 := bcell hb1
    go_wp2_with fail
    refine (toLand_any wide high steep A c xs w1 hn (hA.ext (ext_trans hB0 hb1))).mono ?_
    rintro e w2 ⟨B1, rfl, hF1, hb2⟩
    have hx2 := ext_trans hb1 hb2
    clear hr1
    have hr2 := bcell hx2
    go_wp2_with fail
    refine (HSP.out _ _ w2 hF1.fl).mono ?_
    rintro e w3 ⟨rfl, hb3⟩
    have hx3 := ext_trans hx2 hb3
    clear hr2
    have hr3 := bcell hx3
    go_wp2_with fail
    refine (toLand_any wide high steep A c xs w3 hn (hA.ext (ext_trans hB0 hx3))).mono ?_
    rintro e w4 ⟨B2, rfl, hF2, hb4⟩
    have hx4 := ext_trans hx3 hb4
    clear hr3
    obtain ⟨W4, hW4, hB4, hz4, hc4, _⟩ := box_world w4 #[Value.int .i64 wide, Value.int .i64 high, Value.slice (some ⟨B2, 0, none⟩) xs.length xs.length, Value.int .i64 steep] 30
    have ga : World.cell? W4 ⟨w4.heap.size, 0, none⟩ = some (.int .i64 wide) := hc4 0
    have gb : World.cell? W4 ⟨w4.heap.size, 1, none⟩ = some (.int .i64 high) := hc4 1
    have gc : World.cell? W4 ⟨w4.heap.size, 2, none⟩ = some (.slice (some ⟨B2, 0, none⟩) xs.length xs.length) := hc4 2
    have gd : World.cell? W4 ⟨w4.heap.size, 3, none⟩ = some (.int .i64 steep) := hc4 3
    clear hc4
    have hx5 := ext_trans hx4 hB4
    have hr4 := bcell hx5
    go_wp2_with fail
    clear hW4
    refine (HIM.out _ _ W4 (hF2.ext hB4).fl).mono ?_
    rintro e w5 ⟨rfl, hb5⟩
    have hx6 := ext_trans hx5 hb5
    clear hr4
    have hr5 := bcell hx6
    have hs5 := bcell hb5
    have hzw : w.heap.size < w5.heap.size := Nat.lt_of_lt_of_le hz0 hx6.size
    have hzx : w4.heap.size < w5.heap.size := Nat.lt_of_lt_of_le hz4 hb5.size
    go_wp2_with fail
    go_region_held3 (fun w' => Below (World.heap w5).size w5 w' ∧ ∀ b o, b < (World.heap w5).size → w'.cell? ⟨b, o, none⟩ = World.cell? w5 ⟨b, o, none⟩) (first | exact cls_of (ext_drew _) | exact cls_of (ext_trans (ext_drew _) hb6) | exact cls_of (ext_trans (ext_trans (ext_drew _) hb6) hb7)) ((first | (go_at_call 15; refine (toLand_any wide high steep A c xs _ hn (hA.ext (ext_trans hB0 (ext_trans hx6 (ext_drew _))))).mono ?_; rintro e w6 ⟨B3, rfl, hF3, hb6⟩) | (go_at_call 18; refine (eqLand_same wide high steep _ _ _ _ xs _ (by omega) ((hF2.ext hB4).ext (ext_trans hb5 (ext_trans (ext_drew _) hb6))).fl hF3.fl).mono ?_; rintro e w7 ⟨rfl, hb7⟩)))
    go_wp2
    go_ret
    exact ⟨rfl, ext_trans hB0 (ext_trans hx6 (ext_trans (ext_drew _) (ext_trans hb6 hb7)))⟩

set_option maxRecDepth 100000 in
theorem FnExactFreeSquares_holds : Rows.FnExactFreeSquaresSaid :=
  OpenClaim.holds_of_wide 9 Try.f9 rfl rfl rfl rfl rfl rfl rfl ⟨rfl, rfl, rfl, rfl, rfl⟩ rfl rfl rfl rfl rfl (by kernel_rfl) Try.func9 (by kernel_rfl)
    (of_decide_eq_true (by kernel_rfl)) (by unfold Func.isWrapper; first | (rw [if_pos (by decide +kernel)]; kernel_rfl) | (rw [if_neg (by decide +kernel)]; exact ⟨rfl, rfl⟩))
    (fun os started H enc _ => by
      refine law_lifted (s := Rows.fnExactFreeSquaresSpec) (conds := []) os started H enc (by kernel_rfl) Try.func9 (by kernel_rfl) rfl rfl Try.underlying4
        (ChangeSpec.witness6 (enc := enc) (C := Try.checked) false ⟨#[], #[.agg #[.int .i64 0, .int .i64 0, .slice none 0 0, .int .i64 0]], []⟩ 8 (by kernel_rfl) (by kernel_rfl) (by kernel_rfl) (by kernel_rfl)) ?_
      intro W base args ds ps hval hA
      rw [Try.params9] at hA hval
      obtain ⟨v0, vs0, d0, ds0, p0, q0, hargs, rfl, rfl, h0, r0⟩ := trodAll_cons hA
      obtain ⟨rfl, rfl, rfl⟩ := trodAll_nil r0
      obtain rfl : args = #[v0] := by cases args; simp_all
      refine ⟨rfl, ?_⟩
      obtain ⟨f0, f1, f2, f3, y0, y1, y2, y3, m, rfl, rfl, rfl, hy0, hy1, hy2, hy3⟩ := open_agg4 Try.underlying24 (by kernel_rfl) (by kernel_rfl) (hval 0 24 v0 rfl rfl) h0
      obtain ⟨a0, e0, _, _⟩ := DataW.trod_int Try.underlying3 hy0
      obtain ⟨a1, e1, _, _⟩ := DataW.trod_int Try.underlying3 hy1
      obtain ⟨a3, e3, _, _⟩ := DataW.trod_int Try.underlying3 hy3
      obtain ⟨A, c, xs, rfl, hl, hf⟩ := open_core (f := Four.ints) Try.underlying22 (by kernel_rfl) (by decide) (intElem_array Try.underlying106 Try.underlying3 (by kernel_rfl)) Four.mk_ints hy2
      simp at e0 e1 e3
      subst e0 e1 e3
      exact fnFreeSquares_any _ _ _ A c xs W hl hf)
end Go.Proofs.Ytbmdhkdlhohjhaa
