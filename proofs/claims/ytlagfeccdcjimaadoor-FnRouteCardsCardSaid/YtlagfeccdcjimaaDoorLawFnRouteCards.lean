/- The great law FnRouteCards. No condition. -/
import Derived.Test.YtlagfeccdcjimaaDoorLawL
import Derived.Test.YtlagfeccdcjimaaDoorOpen
import Derived.Test.YtlagfeccdcjimaaDoorOpV
import Derived.Test.YtlagfeccdcjimaaDoorDrRc
import Derived.Test.YtlagfeccdcjimaaDoorSvLegs
import Derived.Test.YtlagfeccdcjimaaDoorMgC
import Derived.Test.YtlagfeccdcjimaaDoorMgE
import Derived.Test.YtlagfeccdcjimaaDoorMgS
import Derived.Test.YtlagfeccdcjimaaDoorWlkI
import Derived.Test.YtlagfeccdcjimaaDoorMgM
import Derived.Test.YtlagfeccdcjimaaDoorRtxI
import Derived.Test.YtlagfeccdcjimaaDoorRtxS
import Derived.Test.YtlagfeccdcjimaaDoorRcF
import Derived.Test.YtlagfeccdcjimaaDoorCards
import Derived.Test.YtlagfeccdcjimaaDoorTie
import Derived.Test.YtlagfeccdcjimaaDoorLst
import Derived.SevenTiedAt
import Derived.Lib.SmallJoins
import Derived.Deep.DeepCutAuto
import Derived.Deep.RegionLaw
namespace Go.Proofs.YtlagfeccdcjimaaDoor
open Go.RowKit
set_option linter.unusedVariables false
set_option linter.unusedSimpArgs false

theorem Pow.at' {B : Nat} {w w1 : World} (h : Pow B w) (hb : Below B w w1) (hB : B ≤ w1.heap.size) : Pow w1.heap.size w1 := fun w' hb' => h w' (hb.trans (hb'.mono hB))
open Go.ChangeShapes Go.WideShapes Go.ChangeAt Go.Joins in
set_option maxHeartbeats 16000000 in
set_option maxRecDepth 100000 in
theorem fnRouteCards_any (A : Option Addr) (n cap : Nat) (w : World) (hm : n ≤ 9223372036854775807) (hA : Bytes w A n) (hT : Pow w.heap.size w) :
    Calls Tryd.prog 3 #[.slice A n cap] w fun e w' => e = .returned (.bool true) ∧ Below w.heap.size w w' := by
  have HPOW := Lib.hid hT
  clear hT
  by_cases hbig : 65536 < (n : Int)
  · go_enter Tryd.func3, Tryd.ntmps3
    go_wp2_with fail
    ((with_reducible refine (rBig_any A n cap w _ Iff.rfl).mono ?_); rintro e w9 ⟨rfl, rfl⟩)
    rw [tb_t hbig]
    go_wp2
    go_ret
    exact ⟨rfl, Below.refl _ _⟩
  · have hn16 : n ≤ 1099511627776 := by omega
    have hB := Below.refl w.heap.size w
    go_enter Tryd.func3, Tryd.ntmps3
    go_wp2_with fail
    ((with_reducible refine (rBig_any A n cap w _ Iff.rfl).mono ?_); rintro e w9 ⟨rfl, rfl⟩)
    rw [tb_f (show ¬ 65536 < (n : Int) by omega)]
    clear hbig hm
    go_wp2_with fail
    ((with_reducible refine (drawClosest_any A n cap w hA hn16).mono ?_); rintro e w1 ⟨ea, no, rfl, hb1⟩)
    replace hA := hA.ext hb1
    replace hB := ext_trans hB hb1
    have hz1 := hb1.size
    have hI := fun W => closest_any ea no W
    have hJ := fun W => specClosest_any ea no W
    obtain ⟨rt, hg_rt⟩ : ∃ z, z = sel (CkOk ea no) (closeL ea no) := ⟨_, rfl⟩
    obtain ⟨ok, hg_ok⟩ : ∃ z, z = tb (CkOk ea no) := ⟨_, rfl⟩
    simp only [← hg_rt, ← hg_ok] at hI hJ
    have HI := Lib.hid hI
    have HJ := Lib.hid hJ
    have HG_rt := Lib.hid hg_rt
    have HG_ok := Lib.hid hg_ok
    clear hI hJ hg_rt hg_ok
    have hrl : rt.length ≤ 2 := HG_rt.out ▸ Nat.le_trans (sel_len _ _) (closeL_len _ _)
    have z1 : (ok != ok) = false := by simp
    go_wp2_with fail
    ((with_reducible refine (HI.out _).mono ?_); rintro e w2 ⟨R1, d1, rfl, hR1, hb2⟩)
    replace hA := hA.ext hb2
    replace hB := ext_trans hB hb2
    have hz2 := hb2.size
    go_wp2_with fail
    ((with_reducible refine (HJ.out _).mono ?_); rintro e w3 ⟨R2, d2, rfl, hR2, hb3⟩)
    replace hA := hA.ext hb3
    replace hR1 := hR1.ext hb3
    replace hB := ext_trans hB hb3
    have hz3 := hb3.size
    go_wp2_with fail
    ((with_reducible refine (vLegs_same _ _ _ _ rt _ (by omega) hR1.fl hR2.fl).mono ?_); rintro e w4 ⟨rfl, hb4⟩)
    replace hA := hA.ext hb4
    replace hR1 := hR1.ext hb4
    replace hR2 := hR2.ext hb4
    replace hB := ext_trans hB hb4
    have hz4 := hb4.size
    clear hR2 HI HJ
    go_upto_if 68 with fail
    go_cut [] (fun wx => Below (World.heap w4).size w4 wx)
    case first =>
      by_cases hCO : (CkOk ea no)
      · skip
        obtain rfl : ok = true := by rw [HG_ok.out, tb_t hCO]
        have hrt : rt = closeL ea no := by rw [HG_rt.out, sel_t hCO]
        obtain ⟨f1, f2, f3, f4⟩ := close_law hCO
        rw [← hrt] at f1 f2 f3 f4
        have hEn := fun W h => endOfRoute_any R1 d1 rt W (by omega) h
        simp only [seli_t f1, tb_t f1, f2, f3, f4] at hEn
        have HEN := Lib.hid hEn
        have hml : ¬ (2 : Int) < (rt.length : Int) := by omega
        have hml2 : ¬ 2 < rt.length := by omega
        have z2 : (ea != ea) = false := by simp
        have z3 : (no != no) = false := by simp
        clear hEn f1 f2 f3 f4 hCO hrt HG_rt HG_ok z1
        go_wp2_with fail
        ((with_reducible refine (HEN.out _ hR1.fl).mono ?_); rintro e w5 ⟨rfl, hb5⟩)
        replace hA := hA.ext hb5
        replace hR1 := hR1.ext hb5
        replace hB := ext_trans hB hb5
        have hz5 := hb5.size
        go_wp2
        go_meet
        exact hb5
      · obtain rfl : ok = false := by rw [HG_ok.out, tb_f hCO]
        go_wp2
        go_meet
        exact Below.refl _ _
    case rest =>
      obtain ⟨w6, hwz⟩ : ∃ z, z = wc := ⟨_, rfl⟩
      subst hwz
      clear hR1 HG_rt HG_ok z1 hrl
      replace hA := hA.ext hcut
      replace hB := ext_trans hB hcut
      have hz6 := hcut.size
      go_wp2_with fail
      ((with_reducible refine (drawStretch_any A n cap _ hA hn16).mono ?_); rintro e w7 ⟨SA, sd, xs, num, den, rfl, hxl, hS, hb7⟩)
      replace hA := hA.ext hb7
      replace hB := ext_trans hB hb7
      have hz7 := hb7.size
      have hI := fun W h => stretch_any SA sd xs num den W (by omega) h
      have hJ := fun W h => specStretch_any SA sd xs num den W (by omega) h
      obtain ⟨ou, hg_ou⟩ : ∃ z, z = sel (StOk xs num den) (xs.map (stU num den)) := ⟨_, rfl⟩
      obtain ⟨tk, hg_tk⟩ : ∃ z, z = tb (StOk xs num den) := ⟨_, rfl⟩
      simp only [← hg_ou, ← hg_tk] at hI hJ
      have HI := Lib.hid hI
      have HJ := Lib.hid hJ
      have HG_ou := Lib.hid hg_ou
      have HG_tk := Lib.hid hg_tk
      clear hI hJ hg_ou hg_tk
      have hol : ou.length ≤ 16 := HG_ou.out ▸ Nat.le_trans (sel_len _ _) (by rw [List.length_map]; exact hxl)
      have z1 : (tk != tk) = false := by simp
      go_wp2_with fail
      ((with_reducible refine (HI.out _ hS.fl).mono ?_); rintro e w8 ⟨R4, d4, rfl, hR4, hb8⟩)
      replace hA := hA.ext hb8
      replace hS := hS.ext hb8
      replace hB := ext_trans hB hb8
      have hz8 := hb8.size
      go_wp2_with fail
      ((with_reducible refine (HJ.out _ hS.fl).mono ?_); rintro e w9 ⟨R5, d5, rfl, hR5, hb9⟩)
      replace hA := hA.ext hb9
      replace hS := hS.ext hb9
      replace hR4 := hR4.ext hb9
      replace hB := ext_trans hB hb9
      have hz9 := hb9.size
      go_wp2_with fail
      ((with_reducible refine (vLegs_same _ _ _ _ ou _ (by omega) hR4.fl hR5.fl).mono ?_); rintro e w10 ⟨rfl, hb10⟩)
      replace hA := hA.ext hb10
      replace hS := hS.ext hb10
      replace hR4 := hR4.ext hb10
      replace hR5 := hR5.ext hb10
      replace hB := ext_trans hB hb10
      have hz10 := hb10.size
      clear hR5 HI HJ
      go_upto_if 126 with fail
      go_cut [] (fun wx => Below (World.heap w10).size w10 wx)
      case first =>
        by_cases hSO : (StOk xs num den)
        · skip
          obtain rfl : tk = true := by rw [HG_tk.out, tb_t hSO]
          have hou : ou = xs.map (stU num den) := by rw [HG_ou.out, sel_t hSO]
          obtain ⟨f1, f2, f3, f4, f5, f6, f7⟩ := stretch_law hSO
          rw [← hou] at f2 f5
          have hWx := fun W h => walkOf_any SA sd xs W (by omega) h
          have hWo := fun W h => walkOf_any R4 d4 ou W (by omega) h
          simp only [seli_t f1, tb_t f1] at hWx
          simp only [seli_t f2, tb_t f2] at hWo
          obtain ⟨mx, hmx⟩ : ∃ z, z = wkS xs := ⟨_, rfl⟩
          obtain ⟨mo, hmo⟩ : ∃ z, z = wkS ou := ⟨_, rfl⟩
          obtain ⟨q, hq⟩ : ∃ z, z = mx * num := ⟨_, rfl⟩
          simp only [← hmx] at hWx f5 f7
          simp only [← hmo] at hWo f5
          rw [← hq] at f5 f7
          have w1 : IntKind.i64.wrap (mx * num) = q := by rw [← hq]; exact IntWalk.i64_in _ (by omega)
          have w2 : IntKind.i64.wrap (mo * den) = q := by rw [f5]; exact IntWalk.i64_in _ (by omega)
          have z2 : (q != q) = false := by simp
          have HWX := Lib.hid hWx
          have HWO := Lib.hid hWo
          clear hWx hWo f1 f2 f3 f4 f5 f6 f7 hSO hou hmx hmo hq HG_ou HG_tk z1
          go_wp2_with fail
          ((with_reducible refine (HWX.out _ hS.fl).mono ?_); rintro e w11 ⟨rfl, hb11⟩)
          replace hA := hA.ext hb11
          replace hS := hS.ext hb11
          replace hR4 := hR4.ext hb11
          replace hB := ext_trans hB hb11
          have hz11 := hb11.size
          go_wp2_with fail
          ((with_reducible refine (HWO.out _ hR4.fl).mono ?_); rintro e w12 ⟨rfl, hb12⟩)
          replace hA := hA.ext hb12
          replace hS := hS.ext hb12
          replace hR4 := hR4.ext hb12
          replace hB := ext_trans hB hb12
          have hz12 := hb12.size
          go_wp2
          go_meet
          exact ext_trans (hb11) hb12
        · obtain rfl : tk = false := by rw [HG_tk.out, tb_f hSO]
          go_wp2
          go_meet
          exact Below.refl _ _
      case rest =>
        obtain ⟨w13, hwz⟩ : ∃ z, z = wc := ⟨_, rfl⟩
        subst hwz
        clear hS hR4 HG_ou HG_tk z1 hol hxl
        replace hA := hA.ext hcut
        replace hB := ext_trans hB hcut
        have hz13 := hcut.size
        go_wp2_with fail
        ((with_reducible refine (drawMinutesOf_any A n cap _ hA hn16).mono ?_); rintro e w14 ⟨MA, md, ys, rfl, hyl, hM, hb14⟩)
        replace hA := hA.ext hb14
        replace hB := ext_trans hB hb14
        have hz14 := hb14.size
        have hI := fun W h => minutesOf_any MA md ys W (by omega) h
        have hJ := fun W h => specMinutesOf_any MA md ys W (by omega) h
        have hU := fun W h => enough_any MA md ys W (by omega) h
        have hV := fun W h => specEnoughE_any MA md ys W (by omega) h
        obtain ⟨mp, hg_mp⟩ : ∃ z, z = seli (Rt ys) (mnP ys) := ⟨_, rfl⟩
        obtain ⟨mq, hg_mq⟩ : ∃ z, z = seli (Rt ys) (mnQ ys) := ⟨_, rfl⟩
        obtain ⟨me, hg_me⟩ : ∃ z, z = seli (Rt ys) (mnE ys) := ⟨_, rfl⟩
        obtain ⟨fk, hg_fk⟩ : ∃ z, z = tb (Rt ys) := ⟨_, rfl⟩
        simp only [← hg_mp, ← hg_mq, ← hg_me, ← hg_fk] at hI hJ hU hV
        have HI := Lib.hid hI
        have HJ := Lib.hid hJ
        have HU := Lib.hid hU
        have HV := Lib.hid hV
        have HG_mp := Lib.hid hg_mp
        have HG_mq := Lib.hid hg_mq
        have HG_me := Lib.hid hg_me
        have HG_fk := Lib.hid hg_fk
        clear hI hJ hU hV hg_mp hg_mq hg_me hg_fk
        have z1 : (mp != mp) = false := by simp
        have z2 : (mq != mq) = false := by simp
        have z3 : (fk != fk) = false := by simp
        have z4 : (me != me) = false := by simp
        go_wp2_with fail
        ((with_reducible refine (HI.out _ hM.fl).mono ?_); rintro e w15 ⟨rfl, hb15⟩)
        replace hA := hA.ext hb15
        replace hM := hM.ext hb15
        replace hB := ext_trans hB hb15
        have hz15 := hb15.size
        go_wp2_with fail
        ((with_reducible refine (HJ.out _ hM.fl).mono ?_); rintro e w16 ⟨rfl, hb16⟩)
        replace hA := hA.ext hb16
        replace hM := hM.ext hb16
        replace hB := ext_trans hB hb16
        have hz16 := hb16.size
        go_wp2_with fail
        ((with_reducible refine (HU.out _ hM.fl).mono ?_); rintro e w17 ⟨rfl, hb17⟩)
        replace hA := hA.ext hb17
        replace hM := hM.ext hb17
        replace hB := ext_trans hB hb17
        have hz17 := hb17.size
        go_wp2_with fail
        ((with_reducible refine (HV.out _ hM.fl).mono ?_); rintro e w18 ⟨rfl, hb18⟩)
        replace hA := hA.ext hb18
        replace hM := hM.ext hb18
        replace hB := ext_trans hB hb18
        have hz18 := hb18.size
        clear HI HJ HU HV
        go_upto_region 29 with fail
        go_cut [219] (fun v wx => v = .bool false ∧ wx = w18)
        case first =>
          by_cases hR : Rt ys
          · obtain rfl : fk = true := by rw [HG_fk.out, tb_t hR]
            obtain ⟨p, q, z, m, e1, e2, e3, ⟨b1, b2, b3, b4⟩, e4, e5, e6, e7⟩ := minutes_law hR
            obtain rfl : mp = (p : Int) := by rw [HG_mp.out, seli_t hR, e1]
            obtain rfl : mq = (q : Int) := by rw [HG_mq.out, seli_t hR, e2]
            obtain rfl : me = (z : Int) := by rw [HG_me.out, seli_t hR, e3]
            have w1 : IntKind.i64.wrap ((z : Int) * (q : Int)) = (m : Int) := by rw [e4]; exact IntWalk.i64_in _ (by omega)
            have w2 : IntKind.i64.wrap ((z : Int) - 1) = (z : Int) - 1 := IntWalk.i64_in _ (by omega)
            obtain ⟨m2, hm2⟩ : ∃ y, y = (m : Int) - (q : Int) := ⟨_, rfl⟩
            have w3 : IntKind.i64.wrap (((z : Int) - 1) * (q : Int)) = m2 := by rw [e6, ← hm2]; exact IntWalk.i64_in _ (by omega)
            have y1 : ¬ (m : Int) < (p : Int) := by omega
            have y2 : ¬ (p : Int) ≤ m2 := by omega
            have y3 : m2 < (p : Int) := by omega
            clear e1 e2 e3 e4 e5 e6 e7 hm2 HG_mp HG_mq HG_me HG_fk hR
            go_wp2
            go_meet
            exact ⟨rfl, rfl⟩
          · obtain rfl : fk = false := by rw [HG_fk.out, tb_f hR]
            clear HG_mp HG_mq HG_me HG_fk hR
            go_wp2
            go_meet
            exact ⟨rfl, rfl⟩
        case rest =>
          obtain ⟨rfl, hwx⟩ := hcut
          replace hwx := hwx.symm
          subst hwx
          clear z1 z2 z3 z4 hM HG_mp HG_mq HG_me HG_fk
          go_wp2_with fail
          ((with_reducible refine (drawRouteText_any A n cap _ hA hn16).mono ?_); rintro e w19 ⟨TA, td, ts, rfl, htl, hT, hb19⟩)
          replace hA := hA.ext hb19
          replace hB := ext_trans hB hb19
          have hz19 := hb19.size
          have hS := fun W h hp => routeText_any TA td ts W (by omega) h hp
          have hX := fun W h => specRouteText_any TA td ts W (by omega) h
          obtain ⟨tx, hg_tx⟩ : ∃ z, z = selt (Rt ts) (rtT ts) := ⟨_, rfl⟩
          obtain ⟨lk, hg_lk⟩ : ∃ z, z = tb (Rt ts) := ⟨_, rfl⟩
          simp only [← hg_tx, ← hg_lk] at hS hX
          have HS := Lib.hid hS
          have HX := Lib.hid hX
          have HG_tx := Lib.hid hg_tx
          have HG_lk := Lib.hid hg_lk
          clear hS hX hg_tx hg_lk
          have z7 : (lk == lk) = true := beq_self_eq_true _
          go_wp2_with fail
          ((with_reducible refine (HS.out _ hT.fl (HPOW.out.at' hB hB.size)).mono ?_); rintro e w20 ⟨rfl, hb20⟩)
          replace hA := hA.ext hb20
          replace hT := hT.ext hb20
          replace hB := ext_trans hB hb20
          have hz20 := hb20.size
          go_wp2_with fail
          ((with_reducible refine (HX.out _ hT.fl).mono ?_); rintro e w21 ⟨rfl, hb21⟩)
          replace hA := hA.ext hb21
          replace hT := hT.ext hb21
          replace hB := ext_trans hB hb21
          have hz21 := hb21.size
          go_wp2
          go_ret
          exact ⟨rfl, hB⟩
open Go.ChangeShapes Go.WideShapes Go.ChangeAt Go.WideMaps Go.WideElems Go.Joins in
set_option maxRecDepth 100000 in
theorem RouteCards_lifted (os : Os) (started : os.Started) (H : Type) (enc : TypeId × Value → H) :
    ReturnsInHanded {} Tryd.checked os 3 .any (fun w args => (Rows.fnRouteCardsSpec.pre enc Tryd.prog Tryd.f3 [] false w args ∧ laidMetH Tryd.prog laid3 w) ∧ sizedMet enc Tryd.prog Tryd.f3 (OpenSpec.ofChange Rows.fnRouteCardsSpec) false w args)
      (Rows.fnRouteCardsSpec.post enc Tryd.prog Tryd.f3 false true false false) := by
  refine returnsInHanded_of_change_and (C := Tryd.checked) (X := fun w _ => laidMetH Tryd.prog laid3 w) (fun _ _ _ hh h => h.of_heap hh) own started (by kernel_rfl) Tryd.func3
    (ChangeSpec.witness_shaped (enc := enc) (C := Tryd.checked) (os := os) (X := fun w _ => laidMetH Tryd.prog laid3 w) false (World.doorLaid Tryd.prog 400 os) #[.slice none 0 0] 8 rfl (World.shaped_of_RefB (by kernel_rfl) (by kernel_rfl)) (by kernel_rfl) (by kernel_rfl) (by kernel_rfl) (door_met os _)) ?_
  intro W base args ds gs before hval0 hW _ _ hL _
  have hT := pow_of_laid hL
  have hval : ∀ (j : Nat) t v, Tryd.f3.params[j]? = some t → args[j]? = some v → Value.okWide Tryd.prog W .any base t v := hval0
  obtain ⟨p, q, hA0, hV, hx⟩ := id hW
  have hA : DataW.TrodAll enc Tryd.prog W 0 (fun _ => true) true Tryd.f3.params.toList args.toList ds p := hA0
  rw [Tryd.params3] at hA hval
  obtain ⟨v0, vs0, d0, ds0, p0, q0, hargs, rfl, rfl, h0, r0⟩ := trodAll_cons hA
  obtain ⟨rfl, rfl, rfl⟩ := trodAll_nil r0
  obtain rfl : args = #[v0] := by cases args; simp_all
  obtain ⟨A0, n0, c0, rfl, hm0, hb0⟩ := open_bytes Tryd.underlying22 Tryd.underlying5 (by kernel_rfl) (hval 0 22 v0 rfl rfl) h0
  refine (fnRouteCards_any A0 n0 c0 W hm0 hb0 hT).mono fun e W' ⟨he, hb⟩ => ?_
  exact ⟨_, he, law_post laidOut (by kernel_rfl) rfl rfl Tryd.underlying4 rfl hW hb⟩

set_option maxRecDepth 100000 in
theorem RouteCards_row : Rows.FnRouteCardsSaid :=
  OpenClaim.holds_of_wide 3 Tryd.f3 rfl rfl rfl rfl rfl rfl rfl ⟨rfl, rfl, rfl, rfl, rfl⟩ rfl rfl rfl rfl rfl (by kernel_rfl) Tryd.func3 (by kernel_rfl)
    (of_decide_eq_true (by kernel_rfl)) (by unfold Func.isWrapper; first | (rw [if_pos (by decide +kernel)]; kernel_rfl) | (rw [if_neg (by decide +kernel)]; exact ⟨rfl, rfl⟩))
    (fun os started H enc _ => RouteCards_lifted os started H enc)

theorem FnRouteCards_holds : Rows.FnRouteCardsCardSaid :=
  Claim7.holds_tied_plain_at .later [] [.data, .data, .data] true _ false
    RouteCards_row (fun _ h => by cases h) (by kernel_rfl) (fun _ h => by cases h) fnRouteCards_row_tie rfl ⟨rfl, rfl⟩ (by kernel_rfl) rfl
    (fun f fn hf hfn => by
      obtain rfl : f = 3 := Option.some.inj ((show Tryd.prog.funcNamed "loop.example/g01060/laws.FnRouteCards" = some 3 by kernel_rfl).symm.trans hf) |>.symm
      obtain rfl : fn = Tryd.f3 := (Option.some.inj (Tryd.func3.symm.trans hfn)).symm
      exact ⟨by kernel_rfl, fun j t ht => by
        rw [Tryd.params3] at ht
        have hm : t ∈ [22] := by simpa using Array.mem_of_getElem? ht
        have hall : ([22].all fun u => !Tryd.prog.wantsStandIn u) = true := by kernel_rfl
        exact (show Tryd.prog.wantsStandIn t = false by simpa using List.all_eq_true.1 hall t hm)⟩)
    (by kernel_rfl)
end Go.Proofs.YtlagfeccdcjimaaDoor
