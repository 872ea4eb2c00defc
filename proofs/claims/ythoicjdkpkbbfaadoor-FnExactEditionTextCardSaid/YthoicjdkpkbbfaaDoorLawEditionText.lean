/- The program's EditionText returns what the reference's returns, for all arguments. No condition. -/
import Derived.Test.YthoicjdkpkbbfaaDoorLawL
import Derived.Test.YthoicjdkpkbbfaaDoorEdTI
import Derived.Test.YthoicjdkpkbbfaaDoorEdTS
import Derived.Test.YthoicjdkpkbbfaaDoorEdFam
import Derived.Test.YthoicjdkpkbbfaaDoorAgg5
import Derived.Test.YthoicjdkpkbbfaaDoorOpen
import Derived.Test.YthoicjdkpkbbfaaDoorFamInt
import Derived.Test.YthoicjdkpkbbfaaDoorCards
import Derived.Test.YthoicjdkpkbbfaaDoorTie
import Derived.SevenTiedAt
import Derived.Lib.SmallJoins
namespace Go.Proofs.YthoicjdkpkbbfaaDoor
open Go.RowKit
set_option linter.unusedVariables false
set_option linter.unusedSimpArgs false

open Go.ChangeShapes Go.WideShapes Go.ChangeAt Go.Joins in
set_option maxHeartbeats 8000000 in
set_option maxRecDepth 100000 in
theorem fnEditionText_any (x : Nest) (A : Option Addr) (d : Nat) (w : World) (hm : x.l.length ≤ 9223372036854775807) (hA : Fl one 1 w A x.l) (hT : Pow w.heap.size w) :
    Calls Tryd.prog 4 #[.agg #[.int .i64 x.a, .int .i64 x.b, .int .i64 x.c, .slice A x.l.length d]] w fun e w' => e = .returned (.bool true) ∧ Below w.heap.size w w' := by
  obtain ⟨V0, hV0, hB0, hz0, hc0, _⟩ := box_world w #[Value.int .i64 x.a, .int .i64 x.b, .int .i64 x.c, .slice A x.l.length d] 31
  have e0 : World.cell? V0 ⟨w.heap.size, 0, none⟩ = some (.int .i64 x.a) := hc0 0
  have e1 : World.cell? V0 ⟨w.heap.size, 1, none⟩ = some (.int .i64 x.b) := hc0 1
  have e2 : World.cell? V0 ⟨w.heap.size, 2, none⟩ = some (.int .i64 x.c) := hc0 2
  have e3 : World.cell? V0 ⟨w.heap.size, 3, none⟩ = some (.slice A x.l.length d) := hc0 3
  clear hc0
  by_cases hs : 1048576 < x.l.length
  · clear hT
    go_enter Tryd.func4, Tryd.ntmps4
    go_wp2_with fail
    clear hV0
    ((with_reducible refine (szEdition_no x A d _ (1048576) (by omega) (by omega) hm (by omega)).mono ?_); rintro e w1 ⟨rfl, hb1⟩)
    go_wp2
    go_ret
    exact ⟨rfl, ext_trans hB0 hb1⟩
  · have hn : x.l.length ≤ 1048576 := by omega
    have hl0 : ¬ (1048576 : Int) - (x.l.length : Int) < 0 := by omega
    have hsp := fun (D : Nat) (W : World) (h : Fl one 1 W (some ⟨D, 0, none⟩) x.l) => specEditionText_any x (some ⟨D, 0, none⟩) x.l.length W (by omega) h
    have him := fun (D : Nat) (W : World) (h : Fl one 1 W (some ⟨D, 0, none⟩) x.l) (hb : Below w.heap.size w W) => editionText_any x (some ⟨D, 0, none⟩) x.l.length W (by omega) h (hT.at hb hb.size)
    generalize selt (IsEd x) (edX x) = S at hsp him
    generalize tb (IsEd x) = Q at hsp him
    have HSP := Lib.hid hsp
    have HIM := Lib.hid him
    clear hsp him hT
    go_enter Tryd.func4, Tryd.ntmps4
    go_wp2_with fail
    clear hV0
    ((with_reducible refine (szEdition_ok x A d _ (1048576) (by omega) (by omega) hm (by omega)).mono ?_); rintro e w1 ⟨rfl, hb1⟩)
    have hB1 := ext_trans hB0 hb1
    have hz1 := Nat.lt_of_lt_of_le hz0 hb1.size
    have a0 := (hb1.cell (p := ⟨w.heap.size, 0, none⟩) hz0).trans e0
    have a1 := (hb1.cell (p := ⟨w.heap.size, 1, none⟩) hz0).trans e1
    have a2 := (hb1.cell (p := ⟨w.heap.size, 2, none⟩) hz0).trans e2
    have a3 := (hb1.cell (p := ⟨w.heap.size, 3, none⟩) hz0).trans e3
    go_wp2_with fail
    ((with_reducible refine (toEdition_any x A d w1 hn (hA.ext hB1)).mono ?_); rintro e w2 ⟨D2, rfl, f2, hb2⟩)
    go_wp2_with fail
    ((with_reducible refine (HSP.out _ w2 f2.fl).mono ?_); rintro e w3 ⟨rfl, hb3⟩)
    have hb13 := ext_trans hb2 hb3
    have hB3 := ext_trans hB1 hb13
    have hz3 := Nat.lt_of_lt_of_le hz1 hb13.size
    have b0 := (hb13.cell (p := ⟨w.heap.size, 0, none⟩) hz1).trans a0
    have b1 := (hb13.cell (p := ⟨w.heap.size, 1, none⟩) hz1).trans a1
    have b2 := (hb13.cell (p := ⟨w.heap.size, 2, none⟩) hz1).trans a2
    have b3 := (hb13.cell (p := ⟨w.heap.size, 3, none⟩) hz1).trans a3
    go_wp2_with fail
    ((with_reducible refine (toEdition_any x A d w3 hn (hA.ext hB3)).mono ?_); rintro e w4 ⟨D4, rfl, f4, hb4⟩)
    obtain ⟨V1, hV1, hD1, hy1, hd1, _⟩ := box_world w4 #[Value.int .i64 x.a, .int .i64 x.b, .int .i64 x.c, .slice (some ⟨D4, 0, none⟩) x.l.length x.l.length] 34
    have x0 : World.cell? V1 ⟨w4.heap.size, 0, none⟩ = some (.int .i64 x.a) := hd1 0
    have x1 : World.cell? V1 ⟨w4.heap.size, 1, none⟩ = some (.int .i64 x.b) := hd1 1
    have x2 : World.cell? V1 ⟨w4.heap.size, 2, none⟩ = some (.int .i64 x.c) := hd1 2
    have x3 : World.cell? V1 ⟨w4.heap.size, 3, none⟩ = some (.slice (some ⟨D4, 0, none⟩) x.l.length x.l.length) := hd1 3
    clear hd1
    have f4' := f4.ext hD1
    have hb3v := ext_trans hb4 hD1
    have hBv := ext_trans hB3 hb3v
    have hzv := Nat.lt_of_lt_of_le hz3 hb3v.size
    have c0 := (hb3v.cell (p := ⟨w.heap.size, 0, none⟩) hz3).trans b0
    have c1 := (hb3v.cell (p := ⟨w.heap.size, 1, none⟩) hz3).trans b1
    have c2 := (hb3v.cell (p := ⟨w.heap.size, 2, none⟩) hz3).trans b2
    have c3 := (hb3v.cell (p := ⟨w.heap.size, 3, none⟩) hz3).trans b3
    clear a0 a1 a2 a3 b0 b1 b2 b3 e0 e1 e2 e3
    go_wp2_with fail
    clear hV1
    ((with_reducible refine (HIM.out _ V1 f4'.fl hBv).mono ?_); rintro e w5 ⟨rfl, hb5⟩)
    have f5 := f4'.ext hb5
    have hB5 := ext_trans hBv hb5
    have hz5 := Nat.lt_of_lt_of_le hzv hb5.size
    have hy5 := Nat.lt_of_lt_of_le hy1 hb5.size
    have d0 := (hb5.cell (p := ⟨w.heap.size, 0, none⟩) hzv).trans c0
    have d1 := (hb5.cell (p := ⟨w.heap.size, 1, none⟩) hzv).trans c1
    have d2 := (hb5.cell (p := ⟨w.heap.size, 2, none⟩) hzv).trans c2
    have d3 := (hb5.cell (p := ⟨w.heap.size, 3, none⟩) hzv).trans c3
    have z0 := (hb5.cell (p := ⟨w4.heap.size, 0, none⟩) hy1).trans x0
    have z1 := (hb5.cell (p := ⟨w4.heap.size, 1, none⟩) hy1).trans x1
    have z2 := (hb5.cell (p := ⟨w4.heap.size, 2, none⟩) hy1).trans x2
    have z3 := (hb5.cell (p := ⟨w4.heap.size, 3, none⟩) hy1).trans x3
    clear c0 c1 c2 c3 x0 x1 x2 x3
    go_wp2_with fail
    go_region_held3 (fun w' => Below (World.heap w5).size w5 w' ∧ ∀ b o, b < (World.heap w5).size → w'.cell? ⟨b, o, none⟩ = World.cell? w5 ⟨b, o, none⟩) (first | exact cls_of (ext_drew _) | exact cls_of (ext_trans (ext_drew _) hb6) | exact cls_of (ext_trans (ext_trans (ext_drew _) hb6) hb7)) ((first | (go_at_call 10; refine (toEdition_any x A d _ hn (hA.ext (ext_trans hB5 (ext_drew _)))).mono ?_; rintro e w6 ⟨D6, rfl, f6, hb6⟩) | (go_at_call 12; refine (eqEdition_same x _ _ _ _ _ (by omega) (f5.ext (ext_trans (ext_drew _) hb6)).fl f6.fl).mono ?_; rintro e w7 ⟨rfl, hb7⟩)))
    have hb57 := ext_trans (ext_trans (ext_drew w5) hb6) hb7
    go_wp2
    go_ret
    exact ⟨rfl, ext_trans hB5 hb57⟩

open Go.ChangeShapes Go.WideShapes Go.ChangeAt Go.WideMaps Go.WideElems Go.Joins in
set_option maxRecDepth 100000 in
theorem EditionText_lifted (os : Os) (started : os.Started) (H : Type) (enc : TypeId × Value → H) :
    ReturnsInHanded {} Tryd.checked os 4 .any (fun w args => (Rows.fnExactEditionTextSpec.pre enc Tryd.prog Tryd.f4 [] false w args ∧ laidMetH Tryd.prog laid3 w) ∧ sizedMet enc Tryd.prog Tryd.f4 (OpenSpec.ofChange Rows.fnExactEditionTextSpec) false w args)
      (Rows.fnExactEditionTextSpec.post enc Tryd.prog Tryd.f4 false true false false) := by
  refine returnsInHanded_of_change_and (C := Tryd.checked) (X := fun w _ => laidMetH Tryd.prog laid3 w) (fun _ _ _ hh h => h.of_heap hh) own started (by kernel_rfl) Tryd.func4
    (ChangeSpec.witness_shaped (enc := enc) (C := Tryd.checked) (os := os) (X := fun w _ => laidMetH Tryd.prog laid3 w) false (World.doorLaid Tryd.prog 400 os) #[.agg #[.int .i64 0, .int .i64 0, .int .i64 0, .slice none 0 0]] 8 rfl (World.shaped_of_RefB (by kernel_rfl) (by kernel_rfl)) (by kernel_rfl) (by kernel_rfl) (by kernel_rfl) (door_met os _)) ?_
  intro W base args ds gs before hval0 hW _ _ hL _
  have hT := pow_of_laid hL
  have hval : ∀ (j : Nat) t v, Tryd.f4.params[j]? = some t → args[j]? = some v → Value.okWide Tryd.prog W .any base t v := hval0
  obtain ⟨p, q, hA0, hV, hx⟩ := id hW
  have hA : DataW.TrodAll enc Tryd.prog W 0 (fun _ => true) true Tryd.f4.params.toList args.toList ds p := hA0
  rw [Tryd.params4] at hA hval
  obtain ⟨v0, vs0, d0, ds0, p0, q0, hargs, rfl, rfl, h0, r0⟩ := trodAll_cons hA
  obtain ⟨rfl, rfl, rfl⟩ := trodAll_nil r0
  obtain rfl : args = #[v0] := by cases args; simp_all
  obtain ⟨f0, f1, f2, f3, y0, y1, y2, y3, m, rfl, rfl, rfl, hy0, hy1, hy2, hy3⟩ := open_agg4 Tryd.underlying31 (by kernel_rfl) (by kernel_rfl) (hval 0 31 v0 rfl rfl) h0
  obtain ⟨a0, e0, _, _⟩ := DataW.trod_int Tryd.underlying3 hy0
  obtain ⟨a1, e1, _, _⟩ := DataW.trod_int Tryd.underlying3 hy1
  obtain ⟨a2, e2, _, _⟩ := DataW.trod_int Tryd.underlying3 hy2
  obtain ⟨A, c, xs, rfl, hl, hf⟩ := open_core (f := one) Tryd.underlying29 (by kernel_rfl) (by decide) (intElem_int Tryd.underlying3) one_mk hy3
  simp at e0 e1 e2
  subst e0 e1 e2
  refine (fnEditionText_any ⟨a0, a1, a2, xs⟩ A c W hl hf hT).mono fun e W' ⟨he, hb⟩ => ?_
  exact ⟨_, he, law_post laidOut (by kernel_rfl) rfl rfl Tryd.underlying4 rfl hW hb⟩

set_option maxRecDepth 100000 in
theorem EditionText_row : Rows.FnExactEditionTextSaid :=
  OpenClaim.holds_of_wide 4 Tryd.f4 rfl rfl rfl rfl rfl rfl rfl ⟨rfl, rfl, rfl, rfl, rfl⟩ rfl rfl rfl rfl rfl (by kernel_rfl) Tryd.func4 (by kernel_rfl)
    (of_decide_eq_true (by kernel_rfl)) (by unfold Func.isWrapper; first | (rw [if_pos (by decide +kernel)]; kernel_rfl) | (rw [if_neg (by decide +kernel)]; exact ⟨rfl, rfl⟩))
    (fun os started H enc _ => EditionText_lifted os started H enc)

theorem FnExactEditionText_holds : Rows.FnExactEditionTextCardSaid :=
  Claim7.holds_tied_plain_at .later [] [.data, .data, .data] true _ false
    EditionText_row (fun _ h => by cases h) (by kernel_rfl) (fun _ h => by cases h) fnExactEditionText_row_tie rfl ⟨rfl, rfl⟩ (by kernel_rfl) rfl
    (fun f fn hf hfn => by
      obtain rfl : f = 4 := Option.some.inj ((show Tryd.prog.funcNamed "loop.example/g01060/laws.FnExactEditionText" = some 4 by kernel_rfl).symm.trans hf) |>.symm
      obtain rfl : fn = Tryd.f4 := (Option.some.inj (Tryd.func4.symm.trans hfn)).symm
      exact ⟨by kernel_rfl, fun j t ht => by
        rw [Tryd.params4] at ht
        have hm : t ∈ [31] := by simpa using Array.mem_of_getElem? ht
        have hall : ([31].all fun u => !Tryd.prog.wantsStandIn u) = true := by kernel_rfl
        exact (show Tryd.prog.wantsStandIn t = false by simpa using List.all_eq_true.1 hall t hm)⟩)
    (by kernel_rfl)
end Go.Proofs.YthoicjdkpkbbfaaDoor
