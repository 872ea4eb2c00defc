/- The program's ErratumText returns what the reference's returns, for all arguments. No condition. -/
import Derived.Test.YthoicjdkpkbbfaaDoorLawL
import Derived.Test.YthoicjdkpkbbfaaDoorErrTI
import Derived.Test.YthoicjdkpkbbfaaDoorErrTS
import Derived.Test.YthoicjdkpkbbfaaDoorAgg5
import Derived.Test.YthoicjdkpkbbfaaDoorCards
import Derived.Test.YthoicjdkpkbbfaaDoorTie
import Derived.SevenTiedAt
namespace Go.Proofs.YthoicjdkpkbbfaaDoor
open Go.RowKit
set_option linter.unusedVariables false
set_option linter.unusedSimpArgs false

set_option maxHeartbeats 8000000 in
set_option maxRecDepth 100000 in
theorem fnErratumText_any (x : Erratum) (w : World) (hT : Pow w.heap.size w) :
    Calls Tryd.prog 3 #[.agg #[.int .i64 x.id, .int .i64 x.sheet, .int .i64 x.frm, .int .i64 x.til, .int .i64 x.day]] w fun e w' => e = .returned (.bool true) ∧ Below w.heap.size w w' := by
  obtain ⟨V0, hV0, hB0, hz0, hc0, _⟩ := box_world w #[Value.int .i64 x.id, .int .i64 x.sheet, .int .i64 x.frm, .int .i64 x.til, .int .i64 x.day] 23
  have e0 : World.cell? V0 ⟨w.heap.size, 0, none⟩ = some (.int .i64 x.id) := hc0 0
  have e1 : World.cell? V0 ⟨w.heap.size, 1, none⟩ = some (.int .i64 x.sheet) := hc0 1
  have e2 : World.cell? V0 ⟨w.heap.size, 2, none⟩ = some (.int .i64 x.frm) := hc0 2
  have e3 : World.cell? V0 ⟨w.heap.size, 3, none⟩ = some (.int .i64 x.til) := hc0 3
  have e4 : World.cell? V0 ⟨w.heap.size, 4, none⟩ = some (.int .i64 x.day) := hc0 4
  clear hc0
  obtain ⟨S, hS⟩ : ∃ S, S = selt (IsErr x) (errT x) := ⟨_, rfl⟩
  obtain ⟨Q, hQ⟩ : ∃ Q, Q = tb (IsErr x) := ⟨_, rfl⟩
  have hsp := fun W => specErratumText_any x W
  have him := fun W (h : Pow w.heap.size W) (hz : w.heap.size ≤ W.heap.size) => erratumText_any x W (h.at (Below.refl _ _) hz)
  rw [← hS, ← hQ] at hsp him
  have HSP := Lib.hid hsp
  have HIM := Lib.hid him
  have HT := Lib.hid hT
  clear hS hQ hsp him hT
  go_enter Tryd.func3, Tryd.ntmps3
  go_wp2_with fail
  ((with_reducible refine (toErratum_any x V0).mono ?_); rintro e w1 ⟨rfl, hb1⟩)
  go_wp2_with fail
  ((with_reducible refine (HSP.out w1).mono ?_); rintro e w2 ⟨rfl, hb2⟩)
  have hbx := ext_trans hb1 hb2
  have k0 := (hbx.cell (p := ⟨w.heap.size, 0, none⟩) hz0).trans e0
  have k1 := (hbx.cell (p := ⟨w.heap.size, 1, none⟩) hz0).trans e1
  have k2 := (hbx.cell (p := ⟨w.heap.size, 2, none⟩) hz0).trans e2
  have k3 := (hbx.cell (p := ⟨w.heap.size, 3, none⟩) hz0).trans e3
  have k4 := (hbx.cell (p := ⟨w.heap.size, 4, none⟩) hz0).trans e4
  go_wp2_with fail
  ((with_reducible refine (toErratum_any x w2).mono ?_); rintro e w3 ⟨rfl, hb3⟩)
  have hb0 := ext_trans hB0 (ext_trans hbx hb3)
  go_wp2_with fail
  ((with_reducible refine (HIM.out w3 (HT.out.on hb0) hb0.size).mono ?_); rintro e w4 ⟨rfl, hb4⟩)
  go_wp2
  go_ret
  exact ⟨rfl, ext_trans hb0 hb4⟩

open Go.ChangeShapes Go.WideShapes Go.ChangeAt Go.WideMaps Go.WideElems Go.Joins in
set_option maxRecDepth 100000 in
theorem ErratumText_lifted (os : Os) (started : os.Started) (H : Type) (enc : TypeId × Value → H) :
    ReturnsInHanded {} Tryd.checked os 3 .any (fun w args => (Rows.fnExactErratumTextSpec.pre enc Tryd.prog Tryd.f3 [] false w args ∧ laidMetH Tryd.prog laid3 w) ∧ sizedMet enc Tryd.prog Tryd.f3 (OpenSpec.ofChange Rows.fnExactErratumTextSpec) false w args)
      (Rows.fnExactErratumTextSpec.post enc Tryd.prog Tryd.f3 false true false false) := by
  refine returnsInHanded_of_change_and (C := Tryd.checked) (X := fun w _ => laidMetH Tryd.prog laid3 w) (fun _ _ _ hh h => h.of_heap hh) own started (by kernel_rfl) Tryd.func3
    (ChangeSpec.witness_shaped (enc := enc) (C := Tryd.checked) (os := os) (X := fun w _ => laidMetH Tryd.prog laid3 w) false (World.doorLaid Tryd.prog 400 os) #[.agg #[.int .i64 0, .int .i64 0, .int .i64 0, .int .i64 0, .int .i64 0]] 8 rfl (World.shaped_of_RefB (by kernel_rfl) (by kernel_rfl)) (by kernel_rfl) (by kernel_rfl) (by kernel_rfl) (door_met os _)) ?_
  intro W base args ds gs before hval0 hW _ _ hL _
  have hT := pow_of_laid hL
  have hval : ∀ (j : Nat) t v, Tryd.f3.params[j]? = some t → args[j]? = some v → Value.okWide Tryd.prog W .any base t v := hval0
  obtain ⟨p, q, hA0, hV, hx⟩ := id hW
  have hA : DataW.TrodAll enc Tryd.prog W 0 (fun _ => true) true Tryd.f3.params.toList args.toList ds p := hA0
  rw [Tryd.params3] at hA hval
  obtain ⟨v0, vs0, d0, ds0, p0, q0, hargs, rfl, rfl, h0, r0⟩ := trodAll_cons hA
  obtain ⟨rfl, rfl, rfl⟩ := trodAll_nil r0
  obtain rfl : args = #[v0] := by cases args; simp_all
  obtain ⟨a0, a1, a2, a3, a4, rfl⟩ := open_ints5 Tryd.underlying23 (by kernel_rfl) (by kernel_rfl) Tryd.underlying3 rfl rfl rfl rfl rfl (hval 0 23 v0 rfl rfl) h0
  refine (fnErratumText_any ⟨a0, a1, a2, a3, a4⟩ W hT).mono fun e W' ⟨he, hb⟩ => ?_
  exact ⟨_, he, law_post laidOut (by kernel_rfl) rfl rfl Tryd.underlying4 rfl hW hb⟩

set_option maxRecDepth 100000 in
theorem ErratumText_row : Rows.FnExactErratumTextSaid :=
  OpenClaim.holds_of_wide 3 Tryd.f3 rfl rfl rfl rfl rfl rfl rfl ⟨rfl, rfl, rfl, rfl, rfl⟩ rfl rfl rfl rfl rfl (by kernel_rfl) Tryd.func3 (by kernel_rfl)
    (of_decide_eq_true (by kernel_rfl)) (by unfold Func.isWrapper; first | (rw [if_pos (by decide +kernel)]; kernel_rfl) | (rw [if_neg (by decide +kernel)]; exact ⟨rfl, rfl⟩))
    (fun os started H enc _ => ErratumText_lifted os started H enc)

theorem FnExactErratumText_holds : Rows.FnExactErratumTextCardSaid :=
  Claim7.holds_tied_plain_at .later [] [.data, .data, .data] true _ false
    ErratumText_row (fun _ h => by cases h) (by kernel_rfl) (fun _ h => by cases h) fnExactErratumText_row_tie rfl ⟨rfl, rfl⟩ (by kernel_rfl) rfl
    (fun f fn hf hfn => by
      obtain rfl : f = 3 := Option.some.inj ((show Tryd.prog.funcNamed "loop.example/g01060/laws.FnExactErratumText" = some 3 by kernel_rfl).symm.trans hf) |>.symm
      obtain rfl : fn = Tryd.f3 := (Option.some.inj (Tryd.func3.symm.trans hfn)).symm
      exact ⟨by kernel_rfl, fun j t ht => by
        rw [Tryd.params3] at ht
        have hm : t ∈ [23] := by simpa using Array.mem_of_getElem? ht
        have hall : ([23].all fun u => !Tryd.prog.wantsStandIn u) = true := by kernel_rfl
        exact (show Tryd.prog.wantsStandIn t = false by simpa using List.all_eq_true.1 hall t hm)⟩)
    (by kernel_rfl)
end Go.Proofs.YthoicjdkpkbbfaaDoor
