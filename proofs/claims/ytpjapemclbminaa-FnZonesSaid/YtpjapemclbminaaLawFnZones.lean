/- The great law FnZones. No condition. -/
import Derived.Test.YtpjapemclbminaaLaw
import Derived.Test.YtpjapemclbminaaOpen
import Derived.Test.YtpjapemclbminaaOpV
import Derived.Test.YtpjapemclbminaaDrZon
import Derived.Test.YtpjapemclbminaaFamV
import Derived.Test.YtpjapemclbminaaHasV
import Derived.Test.YtpjapemclbminaaAreaA
import Derived.Test.YtpjapemclbminaaRedW
import Derived.Test.YtpjapemclbminaaDeepW
import Derived.Test.YtpjapemclbminaaZonesAt
import Derived.Test.YtpjapemclbminaaZonF
import Derived.Test.YtpjapemclbminaaOvI
import Derived.Test.YtpjapemclbminaaZonesOk
import Derived.Test.YtpjapemclbminaaLst
import Derived.Lib.SmallJoins
import Derived.Deep.DeepCutAuto
import Derived.Deep.RegionLaw
namespace Go.Proofs.Ytpjapemclbminaa
open Go.ChangeShapes Go.WideShapes Go.ChangeAt Go.RowKit Go.Joins
set_option linter.unusedVariables false
set_option linter.unusedSimpArgs false

set_option maxHeartbeats 16000000 in
set_option maxRecDepth 100000 in
theorem fnZones_any (A : Option Addr) (n cap : Nat) (w : World) (hm : n ≤ 9223372036854775807) (hA : Bytes w A n) :
    Calls Try.prog 3 #[.slice A n cap] w fun e w' => e = .returned (.bool true) ∧ Below w.heap.size w w' := by
  by_cases hbig : 65536 < (n : Int)
  · go_enter Try.func3, Try.ntmps3
    go_wp2_with fail
    ((with_reducible refine (rBig_any A n cap w _ Iff.rfl).mono ?_); rintro e w9 ⟨rfl, rfl⟩)
    rw [tb_t hbig]
    go_wp2
    go_ret
    exact ⟨rfl, Below.refl _ _⟩
  · have hn16 : n ≤ 1099511627776 := by omega
    have hB := Below.refl w.heap.size w
    go_enter Try.func3, Try.ntmps3
    go_wp2_with fail
    ((with_reducible refine (rBig_any A n cap w _ Iff.rfl).mono ?_); rintro e w9 ⟨rfl, rfl⟩)
    rw [tb_f (show ¬ 65536 < (n : Int) by omega)]
    clear hbig hm
    go_wp2_with fail
    ((with_reducible refine (drawRedundant_any A n cap w hA hn16).mono ?_); rintro e w1 ⟨B, d, zs, rfl, hzl, hcap, hZ, hb1⟩)
    replace hA := hA.ext hb1
    replace hB := ext_trans hB hb1
    have hz1 := hb1.size
    obtain ⟨hc1, hc2⟩ := hcap
    have hI := fun W h => areaOfAll_any B d zs W (by omega) h
    have hJ := fun W h => specAreaOfAll_any B d zs W (by omega) h
    have hK := fun W h => areZones_any B d zs W (by omega) h
    have hL := fun W h => redundant_any B d zs W (by omega) hc1 hc2 h
    have hM := fun W h => specRedundant_any B d zs W (by omega) hc1 hc2 h
    obtain ⟨al, hg_al⟩ : ∃ z, z = seli (Zons zs) (areaZ zs) := ⟨_, rfl⟩
    obtain ⟨rs, hg_rs⟩ : ∃ z, z = sel (Zons zs) (redTo zs zs.length) := ⟨_, rfl⟩
    obtain ⟨ok, hg_ok⟩ : ∃ z, z = tb (Zons zs) := ⟨_, rfl⟩
    simp only [← hg_al, ← hg_rs, ← hg_ok] at hI hJ hK hL hM
    have HI := Lib.hid hI
    have HJ := Lib.hid hJ
    have HK := Lib.hid hK
    have HL := Lib.hid hL
    have HM := Lib.hid hM
    have HG_al := Lib.hid hg_al
    have HG_rs := Lib.hid hg_rs
    have HG_ok := Lib.hid hg_ok
    clear hI hJ hK hL hM hg_al hg_rs hg_ok
    have hrl : rs.length ≤ 1048576 := HG_rs.out ▸ Nat.le_trans (sel_len _ _) (Nat.le_trans (redTo_len _ _) (by omega))
    have z0 : (al != al) = false := by simp
    have z1 : (ok != ok) = false := by simp
    have HOV := Lib.hid (fun (x : Int) W h => overlapOf_any B d zs x x W (by omega) h)
    have HAY := Lib.hid (fun (x : Int) W h => areaOnlyIn_any B d zs x W (by omega) hc1 hc2 h)
    clear hc1 hc2
    go_wp2_with fail
    ((with_reducible refine (HI.out _ hZ.fl).mono ?_); rintro e w2 ⟨rfl, hb2⟩)
    replace hA := hA.ext hb2
    replace hZ := hZ.ext hb2
    replace hB := ext_trans hB hb2
    have hz2 := hb2.size
    go_wp2_with fail
    ((with_reducible refine (HJ.out _ hZ.fl).mono ?_); rintro e w3 ⟨rfl, hb3⟩)
    replace hA := hA.ext hb3
    replace hZ := hZ.ext hb3
    replace hB := ext_trans hB hb3
    have hz3 := hb3.size
    go_wp2_with fail
    ((with_reducible refine (HK.out _ hZ.fl).mono ?_); rintro e w4 ⟨rfl, hb4⟩)
    replace hA := hA.ext hb4
    replace hZ := hZ.ext hb4
    replace hB := ext_trans hB hb4
    have hz4 := hb4.size
    go_wp2_with fail
    ((with_reducible refine (HL.out _ hZ.fl).mono ?_); rintro e w5 ⟨R1, d1, rfl, hR1, hb5⟩)
    replace hA := hA.ext hb5
    replace hZ := hZ.ext hb5
    replace hB := ext_trans hB hb5
    have hz5 := hb5.size
    go_wp2_with fail
    ((with_reducible refine (HM.out _ hZ.fl).mono ?_); rintro e w6 ⟨R2, d2, rfl, hR2, hb6⟩)
    replace hA := hA.ext hb6
    replace hZ := hZ.ext hb6
    replace hR1 := hR1.ext hb6
    replace hB := ext_trans hB hb6
    have hz6 := hb6.size
    go_wp2_with fail
    ((with_reducible refine (vInts_same _ _ _ _ rs _ (by omega) hR1.fl hR2.fl).mono ?_); rintro e w7 ⟨rfl, hb7⟩)
    replace hA := hA.ext hb7
    replace hZ := hZ.ext hb7
    replace hR1 := hR1.ext hb7
    replace hR2 := hR2.ext hb7
    replace hB := ext_trans hB hb7
    have hz7 := hb7.size
    clear hR2
    go_upto_if 89 with fail
    go_cut [] (fun wx => Below (World.heap w7).size w7 wx)
    case first =>
      by_cases hZo : Zons zs
      · skip
        obtain rfl : ok = true := by rw [HG_ok.out, tb_t hZo]
        have hzb := hZo.zb
        have hrs : rs = redTo zs zs.length := by rw [HG_rs.out, sel_t hZo]
        have hal : al = areaZ zs := by rw [HG_al.out, seli_t hZo]
        have q1 := area_sum hzb
        have q2 := alone_sum hzb
        rw [← hal] at q1 q2
        have HQ1 := Lib.hid q1
        have HQ2 := Lib.hid q2
        have HZO := Lib.hid hZo
        have HRS := Lib.hid hrs
        have HZB := Lib.hid hzb
        clear q1 q2 hZo hrs hal hzb HI HJ HK HL HM
        go_wp2_with fail
        go_loopw [12, 13, 14] (fun sm av iv wr => ∃ k : Nat, k ≤ zs.length ∧ sm = .int .i64 (ownTo (zs.take k)) ∧ av = .int .i64 (aloTo zs k) ∧ iv = .int .i64 (k : Int) ∧ Below (World.heap w7).size w7 wr) (fun _ _ iv _ => zs.length - (intOf iv).toNat)
        case atStart => exact ⟨0, by omega, by simp [ownTo], by simp [aloTo], rfl, Below.refl _ _⟩
        case round =>
          obtain ⟨k, hk, rfl, rfl, rfl, hbr⟩ := hrel
          have ho := ownTo_bd (zs := zs.take k) (fun z hz => HZB.out z (List.mem_of_mem_take hz))
          have ha := aloTo_bd HZB.out k hk
          rw [List.length_take] at ho
          by_cases hlt : k < zs.length
          · obtain ⟨z, b, o, hx, hBe, hbq, hc⟩ := ((hZ.fl.ext hbr).at_ (k := k) hlt)
            subst hBe
            have hat := atZ_at HZO.out hx
            have hov := fun W h => HOV.out z.id W h
            have hay := fun W h => HAY.out z.id W h
            have e1 : OvOk zs (k : Int) (k : Int) := ⟨HZO.out, by omega, by omega⟩
            have e2 : AyOk zs (k : Int) := ⟨HZO.out, by omega⟩
            have e3 : ovZ zs (k : Int) (k : Int) = ownA z := by
              have hb := bothZ_self (HZB.out z (List.mem_of_getElem? hx))
              unfold ovZ
              rw [show ((k : Int)).toNat = k from rfl, hx]
              exact hb
            have e4 : woZ zs (k : Int) = wZ zs k := rfl
            simp only [hat, seli_t e1, tb_t e1, e3] at hov
            simp only [hat, seli_t e2, tb_t e2, e4] at hay
            have h1 := alone_own HZB.out hx
            have h2 := ownA_bd (HZB.out z (List.mem_of_getElem? hx))
            have h3 := ownTo_step hx
            have h4 : aloTo zs (k + 1) = aloTo zs k + (areaZ zs - areaZ (wZ zs k)) := rfl
            have h5 : tb (z.id ∈ rs) = (areaZ zs - areaZ (wZ zs k) == 0) := by
              rw [HRS.out]
              have := red_iff HZO.out hx
              by_cases q : areaZ zs - areaZ (wZ zs k) = 0
              · rw [tb_t (this.2 q)]; simp [q]
              · rw [tb_f (fun h => q (this.1 h))]; simp [q]
            have hhs := fun W h => hasI_any R1 d1 rs z.id W (by omega) h
            rw [h5] at hhs
            obtain ⟨oz, hoz⟩ : ∃ y, y = ownA z := ⟨_, rfl⟩
            obtain ⟨av, hav⟩ : ∃ y, y = areaZ zs - areaZ (wZ zs k) := ⟨_, rfl⟩
            obtain ⟨s0, hs0⟩ : ∃ y, y = ownTo (zs.take k) := ⟨_, rfl⟩
            obtain ⟨a0, ha0⟩ : ∃ y, y = aloTo zs k := ⟨_, rfl⟩
            rw [← hoz] at hov h1 h2 h3
            rw [← hav] at hay h1 h4 hhs
            rw [← hs0] at ho h3
            rw [← ha0] at ha h4
            rw [← hs0, ← ha0]
            obtain ⟨m, hm⟩ : ∃ z, z = zs.length := ⟨_, rfl⟩
            rw [← hm] at hov hay ⊢
            have HM := Lib.hid hm
            have HOX := Lib.hid hov
            have HAX := Lib.hid hay
            have HHX := Lib.hid hhs
            have H3 := Lib.hid h3
            have H4 := Lib.hid h4
            have c0 : World.cell? wr ⟨b, o + k * 5, none⟩ = some (.int .i64 z.id) := by simpa using hc 0 z.id rfl
            have hk0 : (0 : Int) ≤ (k : Int) := by omega
            have hk1 : (k : Int) < (m : Int) := by omega
            have hs2 : 0 ≤ s0 ∧ s0 ≤ 2000000000 := by omega
            have ha2 : 0 ≤ a0 ∧ a0 ≤ 2000000000 := by omega
            have g1 : ¬ oz < av := by omega
            have HR1 := Lib.hid (hR1.fl.ext hbr)
            have HZr := Lib.hid (hZ.fl.ext hbr)
            have hpc := plus_cell wr
            have hbd := h1
            clear hc hx hm hat e1 e2 e3 e4 h3 h4 h5 hov hay hhs hoz hav hs0 ha0 ho ha h1
            go_wp2_with fail
            go_upto_region 17 with fail
            refine wp_region_grow (by kernel_rfl) (by kernel_rfl) ?_
            repeat (go_big_quiet_step ((first | (go_at_call 13; exact quiet_below (HOX.out _ (HZr.out.ext (plus_below _ _)))))))
            refine wpQuiet_nil ?_
            intro w1 hb1
            obtain ⟨wv, hwv⟩ : ∃ z, z = w1 := ⟨_, rfl⟩
            subst hwv
            have d0 := (hb1.cell (p := ⟨b, o + k * 5, none⟩) hbq).trans c0
            have HZv := Lib.hid (HZr.out.ext hb1)
            clear c0 hpc
            go_wp2_with fail
            ((with_reducible refine (HAX.out _ HZv.out).mono ?_); rintro e wy ⟨rfl, hby⟩)
            have f0 := (hby.cell (p := ⟨b, o + k * 5, none⟩) (Nat.lt_of_lt_of_le hbq hb1.size)).trans d0
            have HBy := Lib.hid (ext_trans hb1 hby)
            have HRy := Lib.hid (HR1.out.ext HBy.out)
            clear d0
            go_wp2_with fail
            ((with_reducible refine (HHX.out _ HRy.out).mono ?_); rintro e wq ⟨rfl, hbq2⟩)
            have g2 : ((av == 0) != (av == 0)) = false := by simp
            go_wp2
            go_roundw
            case rel => exact ⟨k + 1, by have := HM.out; omega, by rw [H3.out], by rw [H4.out], by go_num, ext_trans hbr (ext_trans HBy.out hbq2)⟩
            case measure => simp [intOf]; omega
          · have hkn : k = zs.length := by omega
            subst hkn
            have h1 := HQ1.out
            have h2 := HQ2.out
            rw [List.take_length]
            rw [List.take_length] at ho
            obtain ⟨s0, hs0⟩ : ∃ y, y = ownTo zs := ⟨_, rfl⟩
            obtain ⟨a0, ha0⟩ : ∃ y, y = aloTo zs zs.length := ⟨_, rfl⟩
            rw [← hs0] at h1 ho ⊢
            rw [← ha0] at h2 ha ⊢
            have g1 : ¬ s0 < al := by omega
            have g2 : ¬ al < a0 := by omega
            clear hs0 ha0
            go_wp2
            go_meet
            exact hbr
      · obtain rfl : ok = false := by rw [HG_ok.out, tb_f hZo]
        go_wp2
        go_meet
        exact Below.refl _ _
    case rest =>
      obtain ⟨w8, hwz⟩ : ∃ z, z = wc := ⟨_, rfl⟩
      subst hwz
      clear hZ hR1 HI HJ HK HL HM HOV HAY HG_al HG_rs HG_ok z0 z1
      replace hA := hA.ext hcut
      replace hB := ext_trans hB hcut
      have hz8 := hcut.size
      go_wp2_with fail
      ((with_reducible refine (drawMostDeep_any A n cap _ hA hn16).mono ?_); rintro e w9 ⟨C, e9, ys, rfl, hyl, _, hY, hb9⟩)
      replace hA := hA.ext hb9
      replace hB := ext_trans hB hb9
      have hz9 := hb9.size
      have hN := fun W h => mostDeep_any C e9 ys W (by omega) h
      have hO := fun W h => specMostDeep_any C e9 ys W (by omega) h
      obtain ⟨p, hg_p⟩ : ∃ z, z = seli (MdOk ys) (deepZ ys).1 := ⟨_, rfl⟩
      obtain ⟨q, hg_q⟩ : ∃ z, z = seli (MdOk ys) (deepZ ys).2.1 := ⟨_, rfl⟩
      obtain ⟨m, hg_m⟩ : ∃ z, z = seli (MdOk ys) (deepZ ys).2.2 := ⟨_, rfl⟩
      obtain ⟨ok, hg_ok⟩ : ∃ z, z = tb (MdOk ys) := ⟨_, rfl⟩
      simp only [← hg_p, ← hg_q, ← hg_m, ← hg_ok] at hN hO
      have HN := Lib.hid hN
      have HO := Lib.hid hO
      have HG_p := Lib.hid hg_p
      have HG_q := Lib.hid hg_q
      have HG_m := Lib.hid hg_m
      have HG_ok := Lib.hid hg_ok
      clear hN hO hg_p hg_q hg_m hg_ok
      have z2 : (p != p) = false := by simp
      have z3 : (q != q) = false := by simp
      have z4 : (m != m) = false := by simp
      have z5 : (ok != ok) = false := by simp
      go_wp2_with fail
      ((with_reducible refine (HN.out _ hY.fl).mono ?_); rintro e w10 ⟨rfl, hb10⟩)
      replace hA := hA.ext hb10
      replace hY := hY.ext hb10
      replace hB := ext_trans hB hb10
      have hz10 := hb10.size
      go_wp2_with fail
      ((with_reducible refine (HO.out _ hY.fl).mono ?_); rintro e w11 ⟨rfl, hb11⟩)
      replace hA := hA.ext hb11
      replace hY := hY.ext hb11
      replace hB := ext_trans hB hb11
      have hz11 := hb11.size
      go_upto_if 192 with fail
      go_cut [] (fun wx => Below (World.heap w11).size w11 wx)
      case first =>
        by_cases hMd : MdOk ys
        · skip
          obtain rfl : ok = true := by rw [HG_ok.out, tb_t hMd]
          have hp : p = (deepZ ys).1 := by rw [HG_p.out, seli_t hMd]
          have hq : q = (deepZ ys).2.1 := by rw [HG_q.out, seli_t hMd]
          have hm : m = (deepZ ys).2.2 := by rw [HG_m.out, seli_t hMd]
          obtain ⟨f1, f2⟩ := deep_facts hMd
          rw [← hp, ← hq] at f1 f2
          rw [← hm] at f2
          have hzt := fun W h => zonesAt_any p q C e9 ys W (by omega) h
          simp only [sel_t f1, tb_t f1] at hzt
          obtain ⟨us, hus⟩ : ∃ u, u = zonesAt p q ys := ⟨_, rfl⟩
          rw [← hus] at f2
          simp only [← hus] at hzt
          have HZT := Lib.hid hzt
          clear hzt f1 hp hq hm hMd hus
          go_wp2_with fail
          ((with_reducible refine (HZT.out _ hY.fl).mono ?_); rintro e w12 ⟨T1, t1, rfl, _, hb12⟩)
          replace hA := hA.ext hb12
          replace hY := hY.ext hb12
          replace hB := ext_trans hB hb12
          have hz12 := hb12.size
          obtain ⟨ul, hul⟩ : ∃ z, z = us.length := ⟨_, rfl⟩
          rw [← hul] at f2 ⊢
          subst f2
          clear hul
          go_wp2
          go_meet
          exact hb12
        · obtain rfl : ok = false := by rw [HG_ok.out, tb_f hMd]
          go_wp2
          go_meet
          exact Below.refl _ _
      case rest =>
        obtain ⟨w13, hwz⟩ : ∃ z, z = wc := ⟨_, rfl⟩
        subst hwz
        clear hY HN HO HG_p HG_q HG_m HG_ok z2 z3 z4 z5
        replace hA := hA.ext hcut
        replace hB := ext_trans hB hcut
        have hz13 := hcut.size
        go_wp2_with fail
        ((with_reducible refine (drawZonesAt_any A n cap _ hA hn16).mono ?_); rintro e w14 ⟨D, e8, ts, x, y, rfl, htl, _, hD, hb14⟩)
        replace hA := hA.ext hb14
        replace hB := ext_trans hB hb14
        have hz14 := hb14.size
        have hS := fun W h => zonesAt_any x y D e8 ts W (by omega) h
        have hT := fun W h => specZonesAt_any x y D e8 ts W (by omega) h
        obtain ⟨ws, hg_ws⟩ : ∃ z, z = sel (ZonesAtOk x y ts) (zonesAt x y ts) := ⟨_, rfl⟩
        obtain ⟨ok, hg_ok⟩ : ∃ z, z = tb (ZonesAtOk x y ts) := ⟨_, rfl⟩
        simp only [← hg_ws, ← hg_ok] at hS hT
        have HS := Lib.hid hS
        have HT := Lib.hid hT
        have HG_ws := Lib.hid hg_ws
        have HG_ok := Lib.hid hg_ok
        clear hS hT hg_ws hg_ok
        have hwl : ws.length ≤ 1048576 := HG_ws.out ▸ Nat.le_trans (sel_len _ _) (Nat.le_trans (zonesAt_len _ _ _) (by omega))
        have z6 : (ok == ok) = true := by simp
        go_wp2_with fail
        ((with_reducible refine (HS.out _ hD.fl).mono ?_); rintro e w15 ⟨R3, d3, rfl, hR3, hb15⟩)
        replace hA := hA.ext hb15
        replace hD := hD.ext hb15
        replace hB := ext_trans hB hb15
        have hz15 := hb15.size
        go_wp2_with fail
        ((with_reducible refine (HT.out _ hD.fl).mono ?_); rintro e w16 ⟨R4, d4, rfl, hR4, hb16⟩)
        replace hA := hA.ext hb16
        replace hD := hD.ext hb16
        replace hR3 := hR3.ext hb16
        replace hB := ext_trans hB hb16
        have hz16 := hb16.size
        go_wp2_with fail
        ((with_reducible refine (vInts_same _ _ _ _ ws _ (by omega) hR3.fl hR4.fl).mono ?_); rintro e w17 ⟨rfl, hb17⟩)
        replace hA := hA.ext hb17
        replace hD := hD.ext hb17
        replace hR3 := hR3.ext hb17
        replace hR4 := hR4.ext hb17
        replace hB := ext_trans hB hb17
        have hz17 := hb17.size
        go_wp2
        go_ret
        exact ⟨rfl, hB⟩

set_option maxRecDepth 100000 in
theorem FnZones_holds : Rows.FnZonesSaid :=
  OpenClaim.holds_of_wide 3 Try.f3 rfl rfl rfl rfl rfl rfl rfl ⟨rfl, rfl, rfl, rfl, rfl⟩ rfl rfl rfl rfl rfl (by kernel_rfl) Try.func3 (by kernel_rfl)
    (of_decide_eq_true (by kernel_rfl)) (by unfold Func.isWrapper; first | (rw [if_pos (by decide +kernel)]; kernel_rfl) | (rw [if_neg (by decide +kernel)]; exact ⟨rfl, rfl⟩))
    (fun os started H enc _ => by
      refine law_lifted (s := Rows.fnZonesSpec) (conds := []) os started H enc (by kernel_rfl) Try.func3 (by kernel_rfl) rfl rfl Try.underlying4
        (ChangeSpec.witness6 (enc := enc) (C := Try.checked) false ⟨#[], #[.slice none 0 0], []⟩ 8 (by kernel_rfl) (by kernel_rfl) (by kernel_rfl) (by kernel_rfl)) ?_
      intro W base args ds ps hval hA
      rw [Try.params3] at hA hval
      obtain ⟨v0, vs0, d0, ds0, p0, q0, hargs, rfl, rfl, h0, r0⟩ := trodAll_cons hA
      obtain ⟨rfl, rfl, rfl⟩ := trodAll_nil r0
      obtain rfl : args = #[v0] := by cases args; simp_all
      refine ⟨rfl, ?_⟩
      obtain ⟨A0, n0, c0, rfl, hm0, hb0⟩ := open_bytes Try.underlying22 Try.underlying5 (by kernel_rfl) (hval 0 22 v0 rfl rfl) h0
      exact fnZones_any A0 n0 c0 W hm0 hb0)
end Go.Proofs.Ytpjapemclbminaa
