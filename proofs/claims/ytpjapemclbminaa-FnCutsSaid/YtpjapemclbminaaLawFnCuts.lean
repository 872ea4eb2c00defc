/- The great law FnCuts. No condition. -/
import Derived.Test.YtpjapemclbminaaLaw
import Derived.Test.YtpjapemclbminaaOpen
import Derived.Test.YtpjapemclbminaaOpV
import Derived.Test.YtpjapemclbminaaDrCut
import Derived.Test.YtpjapemclbminaaCutI
import Derived.Test.YtpjapemclbminaaCutS
import Derived.Test.YtpjapemclbminaaTchI
import Derived.Test.YtpjapemclbminaaTchS
import Derived.Test.YtpjapemclbminaaOvI
import Derived.Test.YtpjapemclbminaaOvS
import Derived.Test.YtpjapemclbminaaSvArr
import Derived.Test.YtpjapemclbminaaAreaA
import Derived.Test.YtpjapemclbminaaZonesOk
import Derived.Test.YtpjapemclbminaaLst
import Derived.Lib.SmallJoins
import Derived.Deep.DeepCutAuto
import Derived.Deep.RegionLaw
namespace Go.Proofs.Ytpjapemclbminaa
open Go.ChangeShapes Go.WideShapes Go.ChangeAt Go.RowKit Go.Joins
set_option linter.unusedVariables false
set_option linter.unusedSimpArgs false

set_option maxHeartbeats 16000000 in
set_option maxRecDepth 100000 in
theorem fnCuts_any (A : Option Addr) (n cap : Nat) (w : World) (hm : n ≤ 9223372036854775807) (hA : Bytes w A n) :
    Calls Try.prog 4 #[.slice A n cap] w fun e w' => e = .returned (.bool true) ∧ Below w.heap.size w w' := by
  by_cases hbig : 65536 < (n : Int)
  · go_enter Try.func4, Try.ntmps4
    go_wp2_with fail
    ((with_reducible refine (rBig_any A n cap w _ Iff.rfl).mono ?_); rintro e w9 ⟨rfl, rfl⟩)
    rw [tb_t hbig]
    go_wp2
    go_ret
    exact ⟨rfl, Below.refl _ _⟩
  · have hn16 : n ≤ 1099511627776 := by omega
    have hB := Below.refl w.heap.size w
    go_enter Try.func4, Try.ntmps4
    go_wp2_with fail
    ((with_reducible refine (rBig_any A n cap w _ Iff.rfl).mono ?_); rintro e w9 ⟨rfl, rfl⟩)
    rw [tb_f (show ¬ 65536 < (n : Int) by omega)]
    clear hbig hm
    go_wp2_with fail
    ((with_reducible refine (drawCutZone_any A n cap w hA hn16).mono ?_); rintro e w1 ⟨a, b, rfl, ia, ib, hb1⟩)
    replace hA := hA.ext hb1
    replace hB := ext_trans hB hb1
    have hz1 := hb1.size
    have HIA := Lib.hid ia
    have HIB := Lib.hid ib
    clear ia ib
    obtain ⟨E1, hE1, hD1, hs1, hv1, _⟩ := box_world w1 #[Value.int .i64 0, Value.int .i64 0, Value.int .i64 0, Value.int .i64 0, Value.int .i64 0] 35
    have va1 : VarL E1 (World.heap w1).size [Value.int .i64 0, Value.int .i64 0, Value.int .i64 0, Value.int .i64 0, Value.int .i64 0] := hE1 ▸ VarL.box w1 _ _
    obtain ⟨F1, hF1, hG1, hr1, hw1, _⟩ := box_world E1 #[Value.int .i64 0, Value.int .i64 0, Value.int .i64 0, Value.int .i64 0, Value.int .i64 0] 35
    have vb1 : VarL F1 (World.heap E1).size [Value.int .i64 0, Value.int .i64 0, Value.int .i64 0, Value.int .i64 0, Value.int .i64 0] := hF1 ▸ VarL.box E1 _ _
    have vc1 := va1.ext hG1
    have g0 := vc1.cell 0 _ rfl
    have e0 := vb1.cell 0 _ rfl
    have g1 := vc1.cell 1 _ rfl
    have e1 := vb1.cell 1 _ rfl
    have g2 := vc1.cell 2 _ rfl
    have e2 := vb1.cell 2 _ rfl
    have g3 := vc1.cell 3 _ rfl
    have e3 := vb1.cell 3 _ rfl
    have g4 := vc1.cell 4 _ rfl
    have e4 := vb1.cell 4 _ rfl
    have gz := vc1.fz
    have gl := vc1.lt
    have ez := vb1.fz
    have el := vb1.lt
    obtain ⟨U1, hU1⟩ : ∃ z, z = ((((((((((F1.setCell ⟨(World.heap w1).size, 0, none⟩ (Value.int .i64 a.id)).setCell ⟨(World.heap w1).size, 1, none⟩ (Value.int .i64 a.west)).setCell ⟨(World.heap w1).size, 2, none⟩ (Value.int .i64 a.south)).setCell ⟨(World.heap w1).size, 3, none⟩ (Value.int .i64 a.east)).setCell ⟨(World.heap w1).size, 4, none⟩ (Value.int .i64 a.north)).setCell ⟨(World.heap E1).size, 0, none⟩ (Value.int .i64 b.id)).setCell ⟨(World.heap E1).size, 1, none⟩ (Value.int .i64 b.west)).setCell ⟨(World.heap E1).size, 2, none⟩ (Value.int .i64 b.south)).setCell ⟨(World.heap E1).size, 3, none⟩ (Value.int .i64 b.east)).setCell ⟨(World.heap E1).size, 4, none⟩ (Value.int .i64 b.north)) := ⟨_, rfl⟩
    have ta1 := set5_touch F1 (World.heap w1).size (Value.int .i64 a.id) (Value.int .i64 a.west) (Value.int .i64 a.south) (Value.int .i64 a.east) (Value.int .i64 a.north)
    have tz1 := set5_touch (((((F1.setCell ⟨(World.heap w1).size, 0, none⟩ (Value.int .i64 a.id)).setCell ⟨(World.heap w1).size, 1, none⟩ (Value.int .i64 a.west)).setCell ⟨(World.heap w1).size, 2, none⟩ (Value.int .i64 a.south)).setCell ⟨(World.heap w1).size, 3, none⟩ (Value.int .i64 a.east)).setCell ⟨(World.heap w1).size, 4, none⟩ (Value.int .i64 a.north)) (World.heap E1).size (Value.int .i64 b.id) (Value.int .i64 b.west) (Value.int .i64 b.south) (Value.int .i64 b.east) (Value.int .i64 b.north)
    have vd1 := (vc1.set5 (Value.int .i64 a.id) (Value.int .i64 a.west) (Value.int .i64 a.south) (Value.int .i64 a.east) (Value.int .i64 a.north)).touch tz1 (.inl hs1)
    have ve1 := (vb1.touch ta1 (.inr hs1)).set5 (Value.int .i64 b.id) (Value.int .i64 b.west) (Value.int .i64 b.south) (Value.int .i64 b.east) (Value.int .i64 b.north)
    have hDU1 : Below (World.heap w1).size w1 U1 := hU1 ▸ tz1.below (ta1.below (ext_trans hD1 hG1) (Nat.le_refl _)) (Nat.le_of_lt hs1)
    rw [← hU1] at vd1 ve1
    clear hv1 hw1 ta1 tz1 va1 vb1 vc1
    go_upto_region 4 with fail
    rw [← hU1]
    clear hU1 hE1 hF1 gz gl ez el hD1 hG1 g0 e0 g1 e1 g2 e2 g3 e3 g4 e4
    replace hA := hA.ext hDU1
    replace hB := ext_trans hB hDU1
    have hz2 := hDU1.size
    have a_0 := vd1.cell 0 _ rfl
    have a_1 := vd1.cell 1 _ rfl
    have a_2 := vd1.cell 2 _ rfl
    have a_3 := vd1.cell 3 _ rfl
    have a_4 := vd1.cell 4 _ rfl
    have ah := vd1.lt
    have b_0 := ve1.cell 0 _ rfl
    have b_1 := ve1.cell 1 _ rfl
    have b_2 := ve1.cell 2 _ rfl
    have b_3 := ve1.cell 3 _ rfl
    have b_4 := ve1.cell 4 _ rfl
    have bh := ve1.lt
    clear vd1 ve1
    have hI := fun W => cutZone_any a b W
    have hJ := fun W => specCutZone_any a b W
    obtain ⟨ps, hg_ps⟩ : ∃ z, z = sel (CutOk a b) (cutZ a b) := ⟨_, rfl⟩
    obtain ⟨ok, hg_ok⟩ : ∃ z, z = tb (CutOk a b) := ⟨_, rfl⟩
    simp only [← hg_ps, ← hg_ok] at hI hJ
    have HI := Lib.hid hI
    have HJ := Lib.hid hJ
    have HG_ps := Lib.hid hg_ps
    have HG_ok := Lib.hid hg_ok
    clear hI hJ hg_ps hg_ok
    have hpl : ps.length ≤ 1048576 := HG_ps.out ▸ Nat.le_trans (sel_len _ _) (Nat.le_trans (cut_len _ _) (by omega))
    have z1 : (ok != ok) = false := by simp
    obtain ⟨bz, hbz⟩ : ∃ z, z = tb (IsZon a) := ⟨_, rfl⟩
    have hza := fun W => isZone_any a W
    have hzs := fun W => specIsZone_any a W
    simp only [← hbz] at hza hzs
    have HZA := Lib.hid hza
    have HZS := Lib.hid hzs
    have z2 : (bz != bz) = false := by simp
    clear hza hzs hbz
    go_wp2_with fail
    ((with_reducible refine (HI.out _).mono ?_); rintro e w3 ⟨R1, d1, rfl, hR1, hb3⟩)
    replace hA := hA.ext hb3
    replace a_0 := (hb3.cell (p := ⟨(World.heap w1).size, 0, none⟩) ah).trans a_0
    replace a_1 := (hb3.cell (p := ⟨(World.heap w1).size, 1, none⟩) ah).trans a_1
    replace a_2 := (hb3.cell (p := ⟨(World.heap w1).size, 2, none⟩) ah).trans a_2
    replace a_3 := (hb3.cell (p := ⟨(World.heap w1).size, 3, none⟩) ah).trans a_3
    replace a_4 := (hb3.cell (p := ⟨(World.heap w1).size, 4, none⟩) ah).trans a_4
    replace ah := Nat.lt_of_lt_of_le ah hb3.size
    replace b_0 := (hb3.cell (p := ⟨(World.heap E1).size, 0, none⟩) bh).trans b_0
    replace b_1 := (hb3.cell (p := ⟨(World.heap E1).size, 1, none⟩) bh).trans b_1
    replace b_2 := (hb3.cell (p := ⟨(World.heap E1).size, 2, none⟩) bh).trans b_2
    replace b_3 := (hb3.cell (p := ⟨(World.heap E1).size, 3, none⟩) bh).trans b_3
    replace b_4 := (hb3.cell (p := ⟨(World.heap E1).size, 4, none⟩) bh).trans b_4
    replace bh := Nat.lt_of_lt_of_le bh hb3.size
    replace hB := ext_trans hB hb3
    have hz3 := hb3.size
    go_wp2_with fail
    ((with_reducible refine (HJ.out _).mono ?_); rintro e w4 ⟨R2, d2, rfl, hR2, hb4⟩)
    replace hA := hA.ext hb4
    replace hR1 := hR1.ext hb4
    replace a_0 := (hb4.cell (p := ⟨(World.heap w1).size, 0, none⟩) ah).trans a_0
    replace a_1 := (hb4.cell (p := ⟨(World.heap w1).size, 1, none⟩) ah).trans a_1
    replace a_2 := (hb4.cell (p := ⟨(World.heap w1).size, 2, none⟩) ah).trans a_2
    replace a_3 := (hb4.cell (p := ⟨(World.heap w1).size, 3, none⟩) ah).trans a_3
    replace a_4 := (hb4.cell (p := ⟨(World.heap w1).size, 4, none⟩) ah).trans a_4
    replace ah := Nat.lt_of_lt_of_le ah hb4.size
    replace b_0 := (hb4.cell (p := ⟨(World.heap E1).size, 0, none⟩) bh).trans b_0
    replace b_1 := (hb4.cell (p := ⟨(World.heap E1).size, 1, none⟩) bh).trans b_1
    replace b_2 := (hb4.cell (p := ⟨(World.heap E1).size, 2, none⟩) bh).trans b_2
    replace b_3 := (hb4.cell (p := ⟨(World.heap E1).size, 3, none⟩) bh).trans b_3
    replace b_4 := (hb4.cell (p := ⟨(World.heap E1).size, 4, none⟩) bh).trans b_4
    replace bh := Nat.lt_of_lt_of_le bh hb4.size
    replace hB := ext_trans hB hb4
    have hz4 := hb4.size
    have hpc := plus_cell w4
    have HVF := Lib.hid (fun W (hb : Below (World.heap w4).size w4 W) => vFours_same R1 R2 d1 d2 ps W (by omega) (hR1.ext hb).fl (hR2.ext hb).fl)
    obtain ⟨pl, hpl2⟩ : ∃ z, z = ps.length := ⟨_, rfl⟩
    rw [← hpl2] at HVF hpl ⊢
    have HPL := Lib.hid hpl2
    clear hpl2
    go_wp2_with fail
    go_upto_region 6 with fail
    refine wp_region_grow (by kernel_rfl) (by kernel_rfl) ?_
    repeat (go_big_quiet_step ((first | (go_at_call 25; exact quiet_below (HVF.out _ (plus_below _ _))) | (go_at_call 26; exact quiet_below (HZA.out _)) | (go_at_call 27; exact quiet_below (HZS.out _)))))
    refine wpQuiet_nil ?_
    intro w1 hb1
    obtain ⟨wv, hwv⟩ : ∃ z, z = w1 := ⟨_, rfl⟩
    subst hwv
    have hbv := hb1
    clear hpc hb1 HVF
    clear hR2
    replace hA := hA.ext hbv
    replace hR1 := hR1.ext hbv
    replace a_0 := (hbv.cell (p := ⟨(World.heap w1).size, 0, none⟩) ah).trans a_0
    replace a_1 := (hbv.cell (p := ⟨(World.heap w1).size, 1, none⟩) ah).trans a_1
    replace a_2 := (hbv.cell (p := ⟨(World.heap w1).size, 2, none⟩) ah).trans a_2
    replace a_3 := (hbv.cell (p := ⟨(World.heap w1).size, 3, none⟩) ah).trans a_3
    replace a_4 := (hbv.cell (p := ⟨(World.heap w1).size, 4, none⟩) ah).trans a_4
    replace ah := Nat.lt_of_lt_of_le ah hbv.size
    replace b_0 := (hbv.cell (p := ⟨(World.heap E1).size, 0, none⟩) bh).trans b_0
    replace b_1 := (hbv.cell (p := ⟨(World.heap E1).size, 1, none⟩) bh).trans b_1
    replace b_2 := (hbv.cell (p := ⟨(World.heap E1).size, 2, none⟩) bh).trans b_2
    replace b_3 := (hbv.cell (p := ⟨(World.heap E1).size, 3, none⟩) bh).trans b_3
    replace b_4 := (hbv.cell (p := ⟨(World.heap E1).size, 4, none⟩) bh).trans b_4
    replace bh := Nat.lt_of_lt_of_le bh hbv.size
    replace hB := ext_trans hB hbv
    have hz5 := hbv.size
    go_upto_if 71 with fail
    go_cut [] (fun wx => Below (World.heap wv).size wv wx)
    case first =>
      by_cases hCO : CutOk a b
      · skip
        obtain rfl : ok = true := by rw [HG_ok.out, tb_t hCO]
        have hps : ps = cutZ a b := by rw [HG_ps.out, sel_t hCO]
        obtain ⟨f1, f2, f3, f4⟩ := pair_facts hCO HIA.out HIB.out
        have ov1 := fun B W h => overlapOf_any (some ⟨B, 0, none⟩) 2 [a, b] a.id b.id W (by simp) h
        have ov2 := fun B W h => overlapOf_any (some ⟨B, 0, none⟩) 2 [a, b] a.id a.id W (by simp) h
        simp only [seli_t f1, tb_t f1, f2, show ([a, b] : List Zone).length = 2 from rfl] at ov1
        simp only [seli_t f3, tb_t f3, f4, show ([a, b] : List Zone).length = 2 from rfl] at ov2
        have hca := cut_area (zb_of hCO.1) (zb_of hCO.2)
        have hfb := cut_bd (zb_of hCO.1) (zb_of hCO.2)
        have hcl := cut_len a b
        rw [← hps] at hca hfb hcl
        have hoa := ownA_bd (zb_of hCO.1)
        have hbo := bothZ_bd a b (zb_of hCO.1).1 (zb_of hCO.1).2.2.1 (zb_of hCO.1).2.2.2.1 (zb_of hCO.1).2.2.2.2.2
        have hsf := sumF_bd hfb
        obtain ⟨ow, how⟩ : ∃ z, z = ownA a := ⟨_, rfl⟩
        obtain ⟨bo, hbo2⟩ : ∃ z, z = bothZ a b := ⟨_, rfl⟩
        rw [← how] at hca hoa
        rw [← hbo2] at hca hbo
        simp only [← how] at ov2
        simp only [← hbo2] at ov1
        have HO1 := Lib.hid ov1
        have HO2 := Lib.hid ov2
        have HFB := Lib.hid hfb
        have HCA := Lib.hid hca
        have HSF := Lib.hid hsf
        have hpl4 : pl ≤ 4 := by rw [HPL.out]; exact hcl
        clear ov1 ov2 hca hfb hsf hcl f1 f2 f3 f4 how hbo2 hps hCO HI HJ HG_ps HG_ok
        go_wp2_with fail
        ((with_reducible refine (HO1.out (World.heap wv).size _ (zlit wv a b _)).mono ?_); rintro e w6 ⟨rfl, hq6⟩)
        have hb6 := ext_trans (ext_alloc wv _) hq6
        clear hq6
        replace hA := hA.ext hb6
        replace hR1 := hR1.ext hb6
        replace a_0 := (hb6.cell (p := ⟨(World.heap w1).size, 0, none⟩) ah).trans a_0
        replace a_1 := (hb6.cell (p := ⟨(World.heap w1).size, 1, none⟩) ah).trans a_1
        replace a_2 := (hb6.cell (p := ⟨(World.heap w1).size, 2, none⟩) ah).trans a_2
        replace a_3 := (hb6.cell (p := ⟨(World.heap w1).size, 3, none⟩) ah).trans a_3
        replace a_4 := (hb6.cell (p := ⟨(World.heap w1).size, 4, none⟩) ah).trans a_4
        replace ah := Nat.lt_of_lt_of_le ah hb6.size
        replace b_0 := (hb6.cell (p := ⟨(World.heap E1).size, 0, none⟩) bh).trans b_0
        replace b_1 := (hb6.cell (p := ⟨(World.heap E1).size, 1, none⟩) bh).trans b_1
        replace b_2 := (hb6.cell (p := ⟨(World.heap E1).size, 2, none⟩) bh).trans b_2
        replace b_3 := (hb6.cell (p := ⟨(World.heap E1).size, 3, none⟩) bh).trans b_3
        replace b_4 := (hb6.cell (p := ⟨(World.heap E1).size, 4, none⟩) bh).trans b_4
        replace bh := Nat.lt_of_lt_of_le bh hb6.size
        replace hB := ext_trans hB hb6
        have hz6 := hb6.size
        go_wp2_with fail
        ((with_reducible refine (HO2.out (World.heap w6).size _ (zlit w6 a b _)).mono ?_); rintro e w7 ⟨rfl, hq7⟩)
        have hb7 := ext_trans (ext_alloc w6 _) hq7
        clear hq7
        replace hA := hA.ext hb7
        replace hR1 := hR1.ext hb7
        replace a_0 := (hb7.cell (p := ⟨(World.heap w1).size, 0, none⟩) ah).trans a_0
        replace a_1 := (hb7.cell (p := ⟨(World.heap w1).size, 1, none⟩) ah).trans a_1
        replace a_2 := (hb7.cell (p := ⟨(World.heap w1).size, 2, none⟩) ah).trans a_2
        replace a_3 := (hb7.cell (p := ⟨(World.heap w1).size, 3, none⟩) ah).trans a_3
        replace a_4 := (hb7.cell (p := ⟨(World.heap w1).size, 4, none⟩) ah).trans a_4
        replace ah := Nat.lt_of_lt_of_le ah hb7.size
        replace b_0 := (hb7.cell (p := ⟨(World.heap E1).size, 0, none⟩) bh).trans b_0
        replace b_1 := (hb7.cell (p := ⟨(World.heap E1).size, 1, none⟩) bh).trans b_1
        replace b_2 := (hb7.cell (p := ⟨(World.heap E1).size, 2, none⟩) bh).trans b_2
        replace b_3 := (hb7.cell (p := ⟨(World.heap E1).size, 3, none⟩) bh).trans b_3
        replace b_4 := (hb7.cell (p := ⟨(World.heap E1).size, 4, none⟩) bh).trans b_4
        replace bh := Nat.lt_of_lt_of_le bh hb7.size
        replace hB := ext_trans hB hb7
        have hz7 := hb7.size
        go_wp2_with fail
        go_loopw [13, 14] (fun sm iv wr => ∃ k : Nat, k ≤ pl ∧ sm = .int .i64 (sumF (ps.take k)) ∧ iv = .int .i64 (k : Int) ∧ Below (World.heap w7).size w7 wr) (fun _ iv _ => pl - (intOf iv).toNat)
        case atStart => exact ⟨0, by omega, by simp [sumF], rfl, Below.refl _ _⟩
        case round =>
          obtain ⟨k, hk, rfl, rfl, hbr⟩ := hrel
          by_cases hlt : k < pl
          · obtain ⟨x, bq, oq, hx, hBe, hbq, hc⟩ := ((hR1.fl.ext hbr).at_ (k := k) (by rw [← HPL.out]; exact hlt))
            subst hBe
            have c0 : World.cell? wr ⟨bq, oq + k * 4, none⟩ = some (.int .i64 x.a) := hc 0 _ rfl
            have c1 : World.cell? wr ⟨bq, oq + k * 4 + 1, none⟩ = some (.int .i64 x.b) := hc 1 _ rfl
            have c2 : World.cell? wr ⟨bq, oq + k * 4 + 2, none⟩ = some (.int .i64 x.c) := hc 2 _ rfl
            have c3 : World.cell? wr ⟨bq, oq + k * 4 + 3, none⟩ = some (.int .i64 x.d) := hc 3 _ rfl
            have h1 := HFB.out x (List.mem_of_getElem? hx)
            have h2 := areaF_bd h1
            have h3 := sumF_step hx
            have h4 := sumF_bd (qs := ps.take k) (fun q hq => HFB.out q (List.mem_of_mem_take hq))
            rw [List.length_take] at h4
            obtain ⟨s0, hs0⟩ : ∃ y, y = sumF (ps.take k) := ⟨_, rfl⟩
            rw [← hs0] at h3 h4 ⊢
            unfold areaF at h2 h3
            unfold FB at h1
            have H3 := Lib.hid h3
            have y1 : IntKind.i64.wrap (x.c - x.a) = x.c - x.a := IntWalk.i64_in _ (by omega)
            have y2 : IntKind.i64.wrap (x.d - x.b) = x.d - x.b := IntWalk.i64_in _ (by omega)
            have y3 : IntKind.i64.wrap ((x.c - x.a) * (x.d - x.b)) = (x.c - x.a) * (x.d - x.b) := IntWalk.i64_in _ (by omega)
            have y4 : IntKind.i64.wrap (s0 + (x.c - x.a) * (x.d - x.b)) = s0 + (x.c - x.a) * (x.d - x.b) := IntWalk.i64_in _ (by omega)
            have hk0 : (0 : Int) ≤ (k : Int) := by omega
            have hk1 : (k : Int) < (pl : Int) := by omega
            have hpc := plus_cell wr
            clear hc hx h1 h2 h3 h4 hs0
            go_wp2_with fail
            go_upto_region 15 with fail
            refine wp_region_grow (by kernel_rfl) (by kernel_rfl) ?_
            repeat (go_big_quiet_step ((first | (fail))))
            refine wpQuiet_nil ?_
            intro w1 hb1
            go_wp2
            go_roundw
            case rel => exact ⟨k + 1, by omega, by rw [H3.out], by go_num, ext_trans hbr hb1⟩
            case measure => simp [intOf]; omega
          · have hkn : pl = k := by omega
            subst hkn
            rw [take_all (by rw [← HPL.out]; exact Nat.le_refl _)]
            have h1 := HCA.out
            have h2 := HSF.out
            rw [← HPL.out] at h2
            obtain ⟨s0, hs0⟩ : ∃ y, y = sumF ps := ⟨_, rfl⟩
            rw [← hs0] at h1 h2 ⊢
            have y1 : (s0 + bo != ow) = false := by simp; omega
            have y2 : 0 ≤ s0 ∧ s0 ≤ 400000000 := by omega
            clear hs0 h1 h2
            go_wp2
            go_meet
            exact ext_trans (ext_trans (hb6) hb7) hbr
      · obtain rfl : ok = false := by rw [HG_ok.out, tb_f hCO]
        go_wp2
        go_meet
        exact Below.refl _ _
    case rest =>
      obtain ⟨w8, hwz⟩ : ∃ z, z = wc := ⟨_, rfl⟩
      subst hwz
      clear hR1 HI HJ HG_ps HG_ok z1 z2 HZA HZS HPL hpl HIA HIB a_0 a_1 a_2 a_3 a_4 ah b_0 b_1 b_2 b_3 b_4 bh
      replace hA := hA.ext hcut
      replace hB := ext_trans hB hcut
      have hz8 := hcut.size
      go_wp2_with fail
      ((with_reducible refine (drawTouchingZones_any A n cap _ hA hn16).mono ?_); rintro e w9 ⟨B, d, zs, rfl, hzl, hcap, hZ, hb9⟩)
      replace hA := hA.ext hb9
      replace hB := ext_trans hB hb9
      have hz9 := hb9.size
      obtain ⟨hc1, hc2⟩ := hcap
      have hT := fun W h => touching_any B d zs W (by omega) hc1 hc2 h
      have hU := fun W h => specTouching_any B d zs W (by omega) h
      obtain ⟨qs, hg_qs⟩ : ∃ z, z = sel (Zons zs) (tchTo zs zs.length) := ⟨_, rfl⟩
      obtain ⟨ok, hg_ok⟩ : ∃ z, z = tb (Zons zs) := ⟨_, rfl⟩
      simp only [← hg_qs, ← hg_ok] at hT hU
      have HT := Lib.hid hT
      have HU := Lib.hid hU
      have HG_qs := Lib.hid hg_qs
      have HG_ok := Lib.hid hg_ok
      clear hT hU hg_qs hg_ok
      have hql : qs.length ≤ 1048576 := by
        rw [HG_qs.out]
        have h1 := sel_len (Zons zs) (tchTo zs zs.length)
        have h2 := tchTo_len zs zs.length
        have h3 : zs.length * zs.length ≤ 12 * 12 := Nat.mul_le_mul hzl hzl
        omega
      have z1 : (ok != ok) = false := by simp
      have HOV := Lib.hid (fun (x y : Int) W h => overlapOf_any B d zs x y W (by omega) h)
      clear hc1 hc2
      go_wp2_with fail
      ((with_reducible refine (HT.out _ hZ.fl).mono ?_); rintro e w10 ⟨R1, d1, rfl, hR1, hb10⟩)
      replace hA := hA.ext hb10
      replace hZ := hZ.ext hb10
      replace hB := ext_trans hB hb10
      have hz10 := hb10.size
      go_wp2_with fail
      ((with_reducible refine (HU.out _ hZ.fl).mono ?_); rintro e w11 ⟨R2, d2, rfl, hR2, hb11⟩)
      replace hA := hA.ext hb11
      replace hZ := hZ.ext hb11
      replace hR1 := hR1.ext hb11
      replace hB := ext_trans hB hb11
      have hz11 := hb11.size
      go_wp2_with fail
      ((with_reducible refine (vPairs_same _ _ _ _ qs _ (by omega) hR1.fl hR2.fl).mono ?_); rintro e w12 ⟨rfl, hb12⟩)
      replace hA := hA.ext hb12
      replace hZ := hZ.ext hb12
      replace hR1 := hR1.ext hb12
      replace hR2 := hR2.ext hb12
      replace hB := ext_trans hB hb12
      have hz12 := hb12.size
      clear hR2
      obtain ⟨ql, hql2⟩ : ∃ z, z = qs.length := ⟨_, rfl⟩
      rw [← hql2] at hql ⊢
      have HQL := Lib.hid hql2
      clear hql2 HT HU HG_ok
      go_wp2_with fail
      go_loopw [20] (fun iv wr => ∃ k : Nat, k ≤ ql ∧ iv = .int .i64 (k : Int) ∧ Below (World.heap w12).size w12 wr) (fun iv _ => ql - (intOf iv).toNat)
      case atStart => exact ⟨0, by omega, rfl, Below.refl _ _⟩
      case round =>
        obtain ⟨k, hk, rfl, hbr⟩ := hrel
        by_cases hlt : k < ql
        · obtain ⟨x, bq, oq, hx, hBe, hbq, hc⟩ := ((hR1.fl.ext hbr).at_ (k := k) (by rw [← HQL.out]; exact hlt))
          subst hBe
          have c0 : World.cell? wr ⟨bq, oq + k * 2, none⟩ = some (.int .i64 x.a) := hc 0 _ rfl
          have c1 : World.cell? wr ⟨bq, oq + k * 2 + 1, none⟩ = some (.int .i64 x.b) := hc 1 _ rfl
          have hm := List.mem_of_getElem? hx
          rw [HG_qs.out] at hm
          obtain ⟨m1, m2⟩ := sel_mem hm
          obtain ⟨f1, f2, f3⟩ := tch_facts m1 m2
          have hov := fun W h => HOV.out x.a x.b W h
          simp only [seli_t f1, tb_t f1, f2] at hov
          have HOX := Lib.hid hov
          have g1 : decide (x.b ≤ x.a) = false := by simp; omega
          have hk0 : (0 : Int) ≤ (k : Int) := by omega
          have hk1 : (k : Int) < (ql : Int) := by omega
          have hpc := plus_cell wr
          have HZr := Lib.hid (hZ.fl.ext hbr)
          clear hc hx hm m1 m2 f1 f2 f3 hov
          go_wp2_with fail
          go_upto_region 26 with fail
          refine wp_region_grow (by kernel_rfl) (by kernel_rfl) ?_
          repeat (go_big_quiet_step ((first | (go_at_call 13; exact quiet_below (HOX.out _ (HZr.out.ext (plus_below _ _)))))))
          refine wpQuiet_nil ?_
          intro w1 hb1
          obtain ⟨wv, hwv⟩ : ∃ z, z = w1 := ⟨_, rfl⟩
          subst hwv
          have hbv := hb1
          have d0 := (hbv.cell (p := ⟨bq, _, none⟩) hbq).trans c0
          have d1 := (hbv.cell (p := ⟨bq, _, none⟩) hbq).trans c1
          have hbq2 := Nat.lt_of_lt_of_le hbq hbv.size
          have hpc2 := plus_cell wv
          clear c0 c1 hpc
          go_wp2_with fail
          go_upto_region 27 with fail
          refine wp_region_grow (by kernel_rfl) (by kernel_rfl) ?_
          repeat (go_big_quiet_step ((first | (fail))))
          refine wpQuiet_nil ?_
          intro w1 hb1
          go_wp2
          go_roundw
          case rel => exact ⟨k + 1, by omega, by go_num, ext_trans hbr (ext_trans hbv hb1)⟩
          case measure => simp [intOf]; omega
        · have hkn : k = ql := by omega
          obtain ⟨w13, hwz⟩ : ∃ z, z = wr := ⟨_, rfl⟩
          subst hwz
          subst hkn
          clear hlt hk hR1 HOV HG_qs HQL hql z1 hZ
          replace hA := hA.ext hbr
          replace hB := ext_trans hB hbr
          have hz13 := hbr.size
          go_wp2_with fail
          ((with_reducible refine (drawOverlapOf_any A n cap _ hA hn16).mono ?_); rintro e w14 ⟨C, e9, ys, x, y, rfl, hyl, _, hY, hb14⟩)
          replace hA := hA.ext hb14
          replace hB := ext_trans hB hb14
          have hz14 := hb14.size
          have hP := fun W h => overlapOf_any C e9 ys x y W (by omega) h
          have hQ := fun W h => specOverlapOf_any C e9 ys x y W (by omega) h
          obtain ⟨bo, hg_bo⟩ : ∃ z, z = seli (OvOk ys (atZ ys x) (atZ ys y)) (ovZ ys (atZ ys x) (atZ ys y)) := ⟨_, rfl⟩
          obtain ⟨ok, hg_ok⟩ : ∃ z, z = tb (OvOk ys (atZ ys x) (atZ ys y)) := ⟨_, rfl⟩
          simp only [← hg_bo, ← hg_ok] at hP hQ
          have HP := Lib.hid hP
          have HQ := Lib.hid hQ
          have HG_bo := Lib.hid hg_bo
          have HG_ok := Lib.hid hg_ok
          clear hP hQ hg_bo hg_ok
          have z1 : (bo != bo) = false := by simp
          have z2 : (ok != ok) = false := by simp
          go_wp2_with fail
          ((with_reducible refine (HP.out _ hY.fl).mono ?_); rintro e w15 ⟨rfl, hb15⟩)
          replace hA := hA.ext hb15
          replace hY := hY.ext hb15
          replace hB := ext_trans hB hb15
          have hz15 := hb15.size
          go_wp2_with fail
          ((with_reducible refine (HQ.out _ hY.fl).mono ?_); rintro e w16 ⟨rfl, hb16⟩)
          replace hA := hA.ext hb16
          replace hY := hY.ext hb16
          replace hB := ext_trans hB hb16
          have hz16 := hb16.size
          go_wp2_with fail
          ((with_reducible refine (drawAreaOnlyIn_any A n cap _ hA hn16).mono ?_); rintro e w17 ⟨D, e8, ts, i9, rfl, htl, hcap, hD, hb17⟩)
          replace hA := hA.ext hb17
          replace hY := hY.ext hb17
          replace hB := ext_trans hB hb17
          have hz17 := hb17.size
          obtain ⟨hc1, hc2⟩ := hcap
          have hS := fun W h => areaOnlyIn_any D e8 ts i9 W (by omega) hc1 hc2 h
          have hV := fun W h => specAreaOnlyIn_any D e8 ts i9 W (by omega) hc1 hc2 h
          obtain ⟨an, hg_an⟩ : ∃ z, z = seli (AyOk ts (atZ ts i9)) (areaZ ts - areaZ (woZ ts (atZ ts i9))) := ⟨_, rfl⟩
          obtain ⟨kn, hg_kn⟩ : ∃ z, z = tb (AyOk ts (atZ ts i9)) := ⟨_, rfl⟩
          simp only [← hg_an, ← hg_kn] at hS hV
          have HS := Lib.hid hS
          have HV := Lib.hid hV
          have HG_an := Lib.hid hg_an
          have HG_kn := Lib.hid hg_kn
          clear hS hV hg_an hg_kn
          have z3 : (an == an) = true := by simp
          have z4 : (kn == kn) = true := by simp
          go_wp2_with fail
          ((with_reducible refine (HS.out _ hD.fl).mono ?_); rintro e w18 ⟨rfl, hb18⟩)
          replace hA := hA.ext hb18
          replace hY := hY.ext hb18
          replace hD := hD.ext hb18
          replace hB := ext_trans hB hb18
          have hz18 := hb18.size
          go_wp2_with fail
          ((with_reducible refine (HV.out _ hD.fl).mono ?_); rintro e w19 ⟨rfl, hb19⟩)
          replace hA := hA.ext hb19
          replace hY := hY.ext hb19
          replace hD := hD.ext hb19
          replace hB := ext_trans hB hb19
          have hz19 := hb19.size
          go_wp2
          go_ret
          exact ⟨rfl, hB⟩

set_option maxRecDepth 100000 in
theorem FnCuts_holds : Rows.FnCutsSaid :=
  OpenClaim.holds_of_wide 4 Try.f4 rfl rfl rfl rfl rfl rfl rfl ⟨rfl, rfl, rfl, rfl, rfl⟩ rfl rfl rfl rfl rfl (by kernel_rfl) Try.func4 (by kernel_rfl)
    (of_decide_eq_true (by kernel_rfl)) (by unfold Func.isWrapper; first | (rw [if_pos (by decide +kernel)]; kernel_rfl) | (rw [if_neg (by decide +kernel)]; exact ⟨rfl, rfl⟩))
    (fun os started H enc _ => by
      refine law_lifted (s := Rows.fnCutsSpec) (conds := []) os started H enc (by kernel_rfl) Try.func4 (by kernel_rfl) rfl rfl Try.underlying4
        (ChangeSpec.witness6 (enc := enc) (C := Try.checked) false ⟨#[], #[.slice none 0 0], []⟩ 8 (by kernel_rfl) (by kernel_rfl) (by kernel_rfl) (by kernel_rfl)) ?_
      intro W base args ds ps hval hA
      rw [Try.params4] at hA hval
      obtain ⟨v0, vs0, d0, ds0, p0, q0, hargs, rfl, rfl, h0, r0⟩ := trodAll_cons hA
      obtain ⟨rfl, rfl, rfl⟩ := trodAll_nil r0
      obtain rfl : args = #[v0] := by cases args; simp_all
      refine ⟨rfl, ?_⟩
      obtain ⟨A0, n0, c0, rfl, hm0, hb0⟩ := open_bytes Try.underlying22 Try.underlying5 (by kernel_rfl) (hval 0 22 v0 rfl rfl) h0
      exact fnCuts_any A0 n0 c0 W hm0 hb0)
end Go.Proofs.Ytpjapemclbminaa
