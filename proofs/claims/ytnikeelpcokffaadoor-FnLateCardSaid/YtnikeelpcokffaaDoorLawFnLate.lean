/- The great law FnLate. No condition. -/
import Derived.Test.YtnikeelpcokffaaDoorLawL
import Derived.Test.YtnikeelpcokffaaDoorLatT
import Derived.Test.YtnikeelpcokffaaDoorOpen
import Derived.Test.YtnikeelpcokffaaDoorOpB
import Derived.Test.YtnikeelpcokffaaDoorDrLat
import Derived.Test.YtnikeelpcokffaaDoorSrLoans
import Derived.Test.YtnikeelpcokffaaDoorFamInt
import Derived.Test.YtnikeelpcokffaaDoorHasR
import Derived.Test.YtnikeelpcokffaaDoorLatF
import Derived.Test.YtnikeelpcokffaaDoorMgL
import Derived.Test.YtnikeelpcokffaaDoorWho
import Derived.Test.YtnikeelpcokffaaDoorFine
import Derived.Test.YtnikeelpcokffaaDoorMgP
import Derived.Test.YtnikeelpcokffaaDoorCards
import Derived.Test.YtnikeelpcokffaaDoorTie
import Derived.Test.YtnikeelpcokffaaDoorLst
import Derived.SevenTiedAt
import Derived.Lib.SmallJoins
import Derived.Deep.DeepCutAuto
import Derived.Deep.RegionLaw
import Derived.Deep.CutBlock
namespace Go.Proofs.YtnikeelpcokffaaDoor
open Go.RowKit
set_option linter.unusedVariables false
set_option linter.unusedSimpArgs false

theorem Pow.at' {B : Nat} {w w1 : World} (h : Pow B w) (hb : Below B w w1) (hB : B ≤ w1.heap.size) : Pow w1.heap.size w1 := fun w' hb' => h w' (hb.trans (hb'.mono hB))
open Go.ChangeShapes Go.WideShapes Go.ChangeAt Go.Joins in
set_option maxHeartbeats 16000000 in
set_option maxRecDepth 100000 in
theorem fnLate_any (A : Option Addr) (n cap : Nat) (w : World) (hm : n ≤ 9223372036854775807) (hA : Bytes w A n) (hT : Pow w.heap.size w) :
    Calls Tryd.prog 3 #[.slice A n cap] w fun e w' => e = .returned (.bool true) ∧ Below w.heap.size w w' := by
  have HPOW := Lib.hid hT
  clear hT
  by_cases hbig : 65536 < (n : Int)
  · go_enter Tryd.func3, Tryd.ntmps3
    go_wp2_with fail
    ((with_reducible refine (rBig_any A n cap w _ Iff.rfl).mono ?_); rintro e w9 ⟨rfl, rfl⟩)
    rw [tb_t hbig]
    go_wp2
    go_ret
    exact ⟨rfl, Below.refl _ _⟩
  · have hn16 : n ≤ 1099511627776 := by omega
    have hB := Below.refl w.heap.size w
    go_enter Tryd.func3, Tryd.ntmps3
    go_wp2_with fail
    ((with_reducible refine (rBig_any A n cap w _ Iff.rfl).mono ?_); rintro e w9 ⟨rfl, rfl⟩)
    rw [tb_f (show ¬ 65536 < (n : Int) by omega)]
    clear hbig hm
    go_wp2_with fail
    ((with_reducible refine (drawLateOn_any A n cap w hA hn16).mono ?_); rintro e w1 ⟨LA, ld, xs, dy, rfl, hcap, hxl, hN, hb1⟩)
    replace hA := hA.ext hb1
    replace hB := ext_trans hB hb1
    have hz1 := hb1.size
    obtain ⟨hc1, hc2⟩ := hcap
    have hI := fun W h => lateOn_any LA ld xs dy W (by omega) hc1 hc2 h
    have hJ := fun W h => specLateOn_any LA ld xs dy W (by omega) hc1 hc2 h
    obtain ⟨la, hg_la⟩ : ∃ z, z = sel (LtOk xs dy) (putAll (lateS dy xs)) := ⟨_, rfl⟩
    obtain ⟨ok, hg_ok⟩ : ∃ z, z = tb (LtOk xs dy) := ⟨_, rfl⟩
    simp only [← hg_la, ← hg_ok] at hI hJ
    have HI := Lib.hid hI
    have HJ := Lib.hid hJ
    have HG_la := Lib.hid hg_la
    have HG_ok := Lib.hid hg_ok
    clear hI hJ hg_la hg_ok
    have hll : la.length ≤ 17 := HG_la.out ▸ Nat.le_trans (sel_len _ _) (Nat.le_trans (putAll_len _) (Nat.le_trans (lateS_len _ _) hxl))
    have z1 : (ok != ok) = false := by simp
    have HWH := Lib.hid (show ∀ s ∈ la, WhOk xs s dy ∧ whoL s dy xs ≠ 0 from fun s hs => by
      have h1 := HG_la.out
      by_cases q : LtOk xs dy
      · rw [sel_t q] at h1; exact late_who q (h1 ▸ hs)
      · rw [sel_f q] at h1; rw [h1] at hs; simp at hs)
    have HWC := Lib.hid (fun (s : Int) W h => whoHas_any LA ld xs s dy W (by omega) hc1 hc2 h)
    have HFI := Lib.hid (fun W h => favorite_any LA ld xs W (by omega) hc1 hc2 h)
    have HFS := Lib.hid (fun W h => specFavorite_any LA ld xs W (by omega) hc1 hc2 h)
    go_wp2_with fail
    ((with_reducible refine (HI.out _ hN.fl).mono ?_); rintro e w2 ⟨R1, d1, rfl, hR1, hb2⟩)
    replace hA := hA.ext hb2
    replace hN := hN.ext hb2
    replace hB := ext_trans hB hb2
    have hz2 := hb2.size
    go_wp2_with fail
    ((with_reducible refine (HJ.out _ hN.fl).mono ?_); rintro e w3 ⟨R2, d2, rfl, hR2, hb3⟩)
    replace hA := hA.ext hb3
    replace hN := hN.ext hb3
    replace hR1 := hR1.ext hb3
    replace hB := ext_trans hB hb3
    have hz3 := hb3.size
    go_wp2_with fail
    ((with_reducible refine (rInts_same _ _ _ _ la _ (by omega) hR1.fl hR2.fl).mono ?_); rintro e w4 ⟨rfl, hb4⟩)
    replace hA := hA.ext hb4
    replace hN := hN.ext hb4
    replace hR1 := hR1.ext hb4
    replace hR2 := hR2.ext hb4
    replace hB := ext_trans hB hb4
    have hz4 := hb4.size
    clear hR2 HI HJ HG_la HG_ok
    have HNF := Lib.hid hN.fl
    go_upto_block 0 with fail
    go_cut [] (fun wx => Below (World.heap w4).size w4 wx)
    case first =>
      clear hN
      have hN := HNF.out
      go_wp2_with fail
      go_loopw [9] (fun iv wr => ∃ k : Nat, k ≤ la.length ∧ iv = .int .i64 (k : Int) ∧ Below (World.heap w4).size w4 wr) (fun iv _ => la.length - (intOf iv).toNat)
      case atStart => exact ⟨0, by omega, rfl, Below.refl _ _⟩
      case round =>
        obtain ⟨k, hk, rfl, hbr⟩ := hrel
        by_cases hlt : k < la.length
        · obtain ⟨s, b, o, hs, hBe, hbq, hc⟩ := ((hR1.fl.ext hbr).at_ (k := k) hlt)
          subst hBe
          have c0 : World.cell? wr ⟨b, o + k, none⟩ = some (.int .i64 s) := by have := hc 0 s rfl; rwa [Nat.mul_one, Nat.add_zero] at this
          obtain ⟨q1, q2⟩ := HWH.out s (List.mem_of_getElem? hs)
          have hw := HWC.out s wr (hN.ext hbr)
          rw [seli_t q1, tb_t q1] at hw
          obtain ⟨wv, hwv⟩ : ∃ z, z = whoL s dy xs := ⟨_, rfl⟩
          rw [← hwv] at hw q2
          have HW := Lib.hid hw
          have q3 : (wv == 0) = false := by simp [q2]
          have hk0 : (0 : Int) ≤ (k : Int) := by omega
          have hk1 : (k : Int) < (la.length : Int) := by omega
          clear hc hs hw q1 q2 hwv
          go_wp2_with fail
          ((with_reducible refine (HW.out).mono ?_); rintro e w92 ⟨rfl, hb92⟩)
          go_wp2
          go_roundw
          case rel => exact ⟨k + 1, by omega, by go_num, ext_trans hbr hb92⟩
          case measure => simp [intOf]; omega
        · have hkn : k = la.length := by omega
          subst hkn
          clear hlt hk
          go_wp2
          go_meet
          exact hbr
    case rest =>
      clear HWH HWC
      obtain ⟨w5, hwz⟩ : ∃ z, z = wc := ⟨_, rfl⟩
      subst hwz
      clear hR1 HNF hll
      replace hA := hA.ext hcut
      replace hN := hN.ext hcut
      replace hB := ext_trans hB hcut
      have hz5 := hcut.size
      go_wp2_with fail
      ((with_reducible refine (drawProlongLoan_any A n cap _ hA hn16).mono ?_); rintro e w6 ⟨MA, md, ys, sx, ta, dz, rfl, hcap2, hyl, hM, hb6⟩)
      replace hA := hA.ext hb6
      replace hN := hN.ext hb6
      replace hB := ext_trans hB hb6
      have hz6 := hb6.size
      obtain ⟨hc3, hc4⟩ := hcap2
      have hI := fun W h => prolongLoan_any MA md ys sx ta dz W (by omega) hc3 hc4 h
      have hJ := fun W h => specProlongLoan_any MA md ys sx ta dz W (by omega) hc3 hc4 h
      obtain ⟨ou, hg_ou⟩ : ∃ z, z = sel (PrOk ys sx ta dz) (prlL sx dz ys) := ⟨_, rfl⟩
      obtain ⟨fi, hg_fi⟩ : ∃ z, z = tb (PrOk ys sx ta dz) := ⟨_, rfl⟩
      simp only [← hg_ou, ← hg_fi] at hI hJ
      have HI := Lib.hid hI
      have HJ := Lib.hid hJ
      have HG_ou := Lib.hid hg_ou
      have HG_fi := Lib.hid hg_fi
      clear hI hJ hg_ou hg_fi
      have hol : ou.length ≤ 17 := HG_ou.out ▸ Nat.le_trans (sel_len _ _) (by rw [prlL_len]; exact hyl)
      have z2 : (fi != fi) = false := by simp
      go_wp2_with fail
      ((with_reducible refine (HI.out _ hM.fl).mono ?_); rintro e w7 ⟨R4, d4, rfl, hcp, hR4, hb7⟩)
      replace hA := hA.ext hb7
      replace hN := hN.ext hb7
      replace hM := hM.ext hb7
      replace hB := ext_trans hB hb7
      have hz7 := hb7.size
      go_wp2_with fail
      ((with_reducible refine (HJ.out _ hM.fl).mono ?_); rintro e w8 ⟨R5, d5, rfl, hcq, hR5, hb8⟩)
      replace hA := hA.ext hb8
      replace hN := hN.ext hb8
      replace hM := hM.ext hb8
      replace hR4 := hR4.ext hb8
      replace hB := ext_trans hB hb8
      have hz8 := hb8.size
      go_wp2_with fail
      ((with_reducible refine (rLoans_same _ _ _ _ ou _ (by omega) hR4.fl hR5.fl).mono ?_); rintro e w9 ⟨rfl, hb9⟩)
      replace hA := hA.ext hb9
      replace hN := hN.ext hb9
      replace hM := hM.ext hb9
      replace hR4 := hR4.ext hb9
      replace hR5 := hR5.ext hb9
      replace hB := ext_trans hB hb9
      have hz9 := hb9.size
      clear hR5 hM
      go_upto_if 131 with fail
      go_cut [] (fun wx => Below (World.heap w9).size w9 wx)
      case first =>
        by_cases hPO : (PrOk ys sx ta dz)
        · skip
          obtain rfl : fi = true := by rw [HG_fi.out, tb_t hPO]
          have hou : ou = prlL sx dz ys := by rw [HG_ou.out, sel_t hPO]
          obtain ⟨⟨f1, f2⟩, f3, f4⟩ := prl_law hPO
          simp only [← hou] at f1 f2 f3 f4
          have hLa := fun W h => lateOn_any R4 d4 ou ta W (by omega) hcp.1 hcp.2 h
          simp only [sel_t f1, tb_t f1] at hLa
          have hFa := fun W h => fineOn_any R4 d4 ou sx ta W (by omega) hcp.1 hcp.2 h
          simp only [seli_t f3, tb_t f3, f4] at hFa
          have hlt9 : (putAll (lateS ta ou)).length ≤ 1048576 := Nat.le_trans (putAll_len _) (Nat.le_trans (lateS_len _ _) (by omega))
          obtain ⟨sm, hsm⟩ : ∃ z, z = putAll (lateS ta ou) := ⟨_, rfl⟩
          simp only [← hsm] at hLa f2 hlt9
          have HLA := Lib.hid hLa
          have HFA := Lib.hid hFa
          have HF2 := Lib.hid f2
          clear hLa hFa f1 f2 f3 f4 hou hPO hsm HG_ou HG_fi HI HJ z2
          go_wp2_with fail
          ((with_reducible refine (HLA.out _ hR4.fl).mono ?_); rintro e w10 ⟨B6, d6, rfl, hR6, hb10⟩)
          replace hA := hA.ext hb10
          replace hN := hN.ext hb10
          replace hR4 := hR4.ext hb10
          replace hB := ext_trans hB hb10
          have hz10 := hb10.size
          go_wp2_with fail
          ((with_reducible refine (HFA.out _ hR4.fl).mono ?_); rintro e w11 ⟨rfl, hb11⟩)
          replace hA := hA.ext hb11
          replace hN := hN.ext hb11
          replace hR4 := hR4.ext hb11
          replace hR6 := hR6.ext hb11
          replace hB := ext_trans hB hb11
          have hz11 := hb11.size
          go_wp2_with fail
          ((with_reducible refine (hasI_any B6 d6 sm sx _ (by omega) hR6.fl).mono ?_); rintro e w12 ⟨rfl, hb12⟩)
          replace hA := hA.ext hb12
          replace hN := hN.ext hb12
          replace hR4 := hR4.ext hb12
          replace hR6 := hR6.ext hb12
          replace hB := ext_trans hB hb12
          have hz12 := hb12.size
          rw [tb_f HF2.out]
          go_wp2
          go_meet
          exact ext_trans (ext_trans (hb10) hb11) hb12
        · obtain rfl : fi = false := by rw [HG_fi.out, tb_f hPO]
          go_wp2
          go_meet
          exact Below.refl _ _
      case rest =>
        rename_i K9 hK9
        refine hK9 _ _ ?_
        exact late_tail A n cap w hn16 (hA.ext hcut) HPOW.out LA ld xs hxl hc1 hc2 (ext_trans hB hcut) (hN.fl.ext hcut) _ _ _ _ _ _ _ _ _ _ _ _ _ _ _ _ _ _ _ _ _ _ _ _ _ _ _ _ _ _ _ _ _ _ _ _ _ _ _ _ _ _ _ _ _ _ _ _ _ _ _ _ _ _ _ _ _ _ _ _ _ _ _ _ _ _ _ _ _ _ _ _ _ _ _ _ _ _ _ _ _ _ _ _ _ _ _ _ _ _ _ _ _ _ _ _ _ _ _ _ _ _ _ _ _ _ _ _ _ _ _ _ _ _ _ _ _ _ _ _ _ _ _ _ _ _ _ _ _ _ _ _ _ _ _ _ _ _ _ _ _ _ _ _ _ _ _ _ _ _ _ _ _ _ _ _ _ _ _ _ _ _ _ _ _ _ _ _ _ _ _ _ _ _ _ _ _ _ _ _ _ _ _ _ _ _ _ _ _ _ _ _ _ _ _ _ _ _ _ _ _ _ _ _ _ _ _ _ _ _ _ _ _ _ _ _ _ _ _ _ _ _ _ _ _ _ _ _ _ _ _ _ _ _ _ _ _ _ _ _ _ _ _ _ _ _ _ _ _ _ _ _ _ _ _ _ _ _ _ _ _ _ _ _ _ _ _ _ _ _ _ _ _ _ _ _ _ _ _ _ _ _
open Go.ChangeShapes Go.WideShapes Go.ChangeAt Go.WideMaps Go.WideElems Go.Joins in
set_option maxRecDepth 100000 in
theorem Late_lifted (os : Os) (started : os.Started) (H : Type) (enc : TypeId × Value → H) :
    ReturnsInHanded {} Tryd.checked os 3 .any (fun w args => (Rows.fnLateSpec.pre enc Tryd.prog Tryd.f3 [] false w args ∧ laidMetH Tryd.prog laid3 w) ∧ sizedMet enc Tryd.prog Tryd.f3 (OpenSpec.ofChange Rows.fnLateSpec) false w args)
      (Rows.fnLateSpec.post enc Tryd.prog Tryd.f3 false true false false) := by
  refine returnsInHanded_of_change_and (C := Tryd.checked) (X := fun w _ => laidMetH Tryd.prog laid3 w) (fun _ _ _ hh h => h.of_heap hh) own started (by kernel_rfl) Tryd.func3
    (ChangeSpec.witness_shaped (enc := enc) (C := Tryd.checked) (os := os) (X := fun w _ => laidMetH Tryd.prog laid3 w) false (World.doorLaid Tryd.prog 400 os) #[.slice none 0 0] 8 rfl (World.shaped_of_RefB (by kernel_rfl) (by kernel_rfl)) (by kernel_rfl) (by kernel_rfl) (by kernel_rfl) (door_met os _)) ?_
  intro W base args ds gs before hval0 hW _ _ hL _
  have hT := pow_of_laid hL
  have hval : ∀ (j : Nat) t v, Tryd.f3.params[j]? = some t → args[j]? = some v → Value.okWide Tryd.prog W .any base t v := hval0
  obtain ⟨p, q, hA0, hV, hx⟩ := id hW
  have hA : DataW.TrodAll enc Tryd.prog W 0 (fun _ => true) true Tryd.f3.params.toList args.toList ds p := hA0
  rw [Tryd.params3] at hA hval
  obtain ⟨v0, vs0, d0, ds0, p0, q0, hargs, rfl, rfl, h0, r0⟩ := trodAll_cons hA
  obtain ⟨rfl, rfl, rfl⟩ := trodAll_nil r0
  obtain rfl : args = #[v0] := by cases args; simp_all
  obtain ⟨A0, n0, c0, rfl, hm0, hb0⟩ := open_bytes Tryd.underlying22 Tryd.underlying5 (by kernel_rfl) (hval 0 22 v0 rfl rfl) h0
  refine (fnLate_any A0 n0 c0 W hm0 hb0 hT).mono fun e W' ⟨he, hb⟩ => ?_
  exact ⟨_, he, law_post laidOut (by kernel_rfl) rfl rfl Tryd.underlying4 rfl hW hb⟩

set_option maxRecDepth 100000 in
theorem Late_row : Rows.FnLateSaid :=
  OpenClaim.holds_of_wide 3 Tryd.f3 rfl rfl rfl rfl rfl rfl rfl ⟨rfl, rfl, rfl, rfl, rfl⟩ rfl rfl rfl rfl rfl (by kernel_rfl) Tryd.func3 (by kernel_rfl)
    (of_decide_eq_true (by kernel_rfl)) (by unfold Func.isWrapper; first | (rw [if_pos (by decide +kernel)]; kernel_rfl) | (rw [if_neg (by decide +kernel)]; exact ⟨rfl, rfl⟩))
    (fun os started H enc _ => Late_lifted os started H enc)

theorem FnLate_holds : Rows.FnLateCardSaid :=
  Claim7.holds_tied_plain_at .later [] [.data, .data, .data] true _ false
    Late_row (fun _ h => by cases h) (by kernel_rfl) (fun _ h => by cases h) fnLate_row_tie rfl ⟨rfl, rfl⟩ (by kernel_rfl) rfl
    (fun f fn hf hfn => by
      obtain rfl : f = 3 := Option.some.inj ((show Tryd.prog.funcNamed "loop.example/g01060/laws.FnLate" = some 3 by kernel_rfl).symm.trans hf) |>.symm
      obtain rfl : fn = Tryd.f3 := (Option.some.inj (Tryd.func3.symm.trans hfn)).symm
      exact ⟨by kernel_rfl, fun j t ht => by
        rw [Tryd.params3] at ht
        have hm : t ∈ [22] := by simpa using Array.mem_of_getElem? ht
        have hall : ([22].all fun u => !Tryd.prog.wantsStandIn u) = true := by kernel_rfl
        exact (show Tryd.prog.wantsStandIn t = false by simpa using List.all_eq_true.1 hall t hm)⟩)
    (by kernel_rfl)
end Go.Proofs.YtnikeelpcokffaaDoor
