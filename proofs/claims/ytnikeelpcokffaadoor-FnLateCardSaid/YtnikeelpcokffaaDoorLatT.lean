/- The second half of the great law FnLate: the days lent, the favorite sheet, the texts, the open loans. No condition. -/
import Derived.Test.YtnikeelpcokffaaDoorLaw
import Derived.Test.YtnikeelpcokffaaDoorOpen
import Derived.Test.YtnikeelpcokffaaDoorOpB
import Derived.Test.YtnikeelpcokffaaDoorDrLat
import Derived.Test.YtnikeelpcokffaaDoorSrLoans
import Derived.Test.YtnikeelpcokffaaDoorFamInt
import Derived.Test.YtnikeelpcokffaaDoorLatF
import Derived.Test.YtnikeelpcokffaaDoorMgD
import Derived.Test.YtnikeelpcokffaaDoorMgF
import Derived.Test.YtnikeelpcokffaaDoorMgT
import Derived.Test.YtnikeelpcokffaaDoorMgO
import Derived.Test.YtnikeelpcokffaaDoorTextI
import Derived.Test.YtnikeelpcokffaaDoorLst
import Derived.Lib.SmallJoins
import Derived.Deep.DeepCutAuto
import Derived.Deep.RegionLaw
namespace Go.Proofs.YtnikeelpcokffaaDoor
open Go.RowKit
set_option linter.unusedVariables false
set_option linter.unusedSimpArgs false

theorem Pow.atT {B : Nat} {w w1 : World} (h : Pow B w) (hb : Below B w w1) (hB : B ≤ w1.heap.size) : Pow w1.heap.size w1 := fun w' hb' => h w' (hb.trans (hb'.mono hB))
def headIs (r : Nat) : Code → Bool
  | .region id _ _ => id == r
  | _ => false
/-- the code from region r on -/
def dropTo (r : Nat) : Code → Code
  | .seq a b => if headIs r a then .seq a b else dropTo r b
  | c => c
noncomputable def tail24 : Code := dropTo 24 (Tryd.f3.body.getD .skip)
open Go.ChangeShapes Go.WideShapes Go.ChangeAt Go.Joins in
set_option maxHeartbeats 16000000 in
set_option maxRecDepth 1000000 in
theorem late_tail (A : Option Addr) (n cap : Nat) (w : World) (hn16 : n ≤ 1099511627776) {wc : World} (hA : Bytes wc A n) (hT : Pow w.heap.size w) (LA : Option Addr) (ld : Nat) (xs : List Loan) (hxl : xs.length ≤ 17) (hc1 : xs.length ≤ ld) (hc2 : ld ≤ 9223372036854775807) (hB : Below w.heap.size w wc) (hN : Fl Loan.ints 5 wc LA xs) (u1 u2 u4 u5 u6 u7 u8 u9 u10 u11 u12 u13 u14 u15 u16 u17 u18 u19 u20 u21 u22 u23 u24 u25 u26 u27 u28 u29 u30 u31 u32 u33 u34 u35 u36 u37 u38 u39 u40 u41 u42 u43 u44 u45 u46 u47 u48 u49 u50 u51 u52 u53 u54 u55 u56 u57 u58 u59 u60 u61 u62 u63 u64 u65 u66 u67 u68 u69 u70 u71 u72 u73 u74 u75 u76 u77 u78 u79 u80 u81 u82 u83 u84 u85 u86 u87 u88 u89 u90 u91 u92 u93 u94 u95 u96 u97 u98 u99 u100 u101 u102 u103 u104 u105 u106 u107 u108 u109 u110 u111 u112 u113 u114 u115 u116 u117 u118 u119 u120 u121 u122 u123 u124 u125 u126 u127 u128 u129 u130 u131 u132 u133 u134 u135 u136 u137 u138 u139 u140 u141 u142 u143 u144 u145 u146 u147 u148 u149 u150 u151 u152 u153 u154 u155 u156 u157 u158 u159 u160 u161 u162 u163 u164 u165 u166 u167 u168 u169 u170 u171 u172 u173 u174 u175 u176 u177 u178 u179 u180 u181 u182 u183 u184 u185 u186 u187 u188 u189 u190 u191 u192 u193 u194 u195 u196 u197 u198 u199 u200 u201 u202 u203 u204 u205 u206 u207 u208 u209 u210 u211 u212 u213 u214 u215 u216 u217 u218 u219 u220 u221 u222 u223 u224 u225 u226 u227 u228 u229 u230 u231 u232 u233 u234 u235 u236 u237 u238 u239 u240 u241 u242 u243 u244 u245 u246 u247 u248 u249 u250 u251 u252 u253 u254 u255 u256 u257 u258 u259 u260 u261 u262 u263 u264 u265 u266 u267 u268 u269 u270 u271 u272 u273 u274 u275 u276 u277 u278 u279 u280 u281 u282 u283 : Value) :
    Code.wp Tryd.prog tail24 (bodyPost Tryd.prog Tryd.f3 fun e w' => e = .returned (.bool true) ∧ Below w.heap.size w w') ⟨#[.slice A n cap, u1, u2, .slice LA xs.length ld, u4, u5, u6, u7, u8, u9, u10, u11, u12, u13, u14, u15, u16, u17, u18, u19, u20, u21, u22, u23, u24, u25, u26, u27, u28, u29, u30, u31, u32, u33, u34, u35, u36, u37, u38, u39, u40, u41, u42, u43, u44, u45, u46, u47, u48, u49, u50, u51, u52, u53, u54, u55, u56, u57, u58, u59, u60, u61, u62, u63, u64, u65, u66, u67, u68, u69, u70, u71, u72, u73, u74, u75, u76, u77, u78, u79, u80, u81, u82, u83, u84, u85, u86, u87, u88, u89, u90, u91, u92, u93, u94, u95, u96, u97, u98, u99, u100, u101, u102, u103, u104, u105, u106, u107, u108, u109, u110, u111, u112, u113, u114, u115, u116, u117, u118, u119, u120, u121, u122, u123, u124, u125, u126, u127, u128, u129, u130, u131, u132, u133, u134, u135, u136, u137, u138, u139, u140, u141, u142, u143, u144, u145, u146, u147, u148, u149, u150, u151, u152, u153, u154, u155, u156, u157, u158, u159, u160, u161, u162, u163, u164, u165, u166, u167, u168, u169, u170, u171, u172, u173, u174, u175, u176, u177, u178, u179, u180, u181, u182, u183, u184, u185, u186, u187, u188, u189, u190, u191, u192, u193, u194, u195, u196, u197, u198, u199, u200, u201, u202, u203, u204, u205, u206, u207, u208, u209, u210, u211, u212, u213, u214, u215, u216, u217, u218, u219, u220, u221, u222, u223, u224, u225, u226, u227, u228, u229, u230, u231, u232, u233, u234, u235, u236, u237, u238, u239, u240, u241, u242, u243, u244, u245, u246, u247, u248, u249, u250, u251, u252, u253, u254, u255, u256, u257, u258, u259, u260, u261, u262, u263, u264, u265, u266, u267, u268, u269, u270, u271, u272, u273, u274, u275, u276, u277, u278, u279, u280, u281, u282, u283], []⟩ wc := by
  have HPOW := Lib.hid hT
  clear hT
  conv => arg 2; whnf
  have HFI := Lib.hid (fun W h => favorite_any LA ld xs W (by omega) hc1 hc2 h)
  have HFS := Lib.hid (fun W h => specFavorite_any LA ld xs W (by omega) hc1 hc2 h)
  go_wp2_with fail
  ((with_reducible refine (drawDaysLent_any A n cap _ hA hn16).mono ?_); rintro e w1 ⟨QA, qd, qs, sq, on, rfl, hcap5, hql, hQ, hb1⟩)
  replace hA := hA.ext hb1
  replace hN := hN.ext hb1
  replace hB := ext_trans hB hb1
  have hz1 := hb1.size
  obtain ⟨hc5, hc6⟩ := hcap5
  have hI := fun W h => daysLent_any QA qd qs sq on W (by omega) hc5 hc6 h
  have hJ := fun W h => specDaysLent_any QA qd qs sq on W (by omega) hc5 hc6 h
  obtain ⟨dn, hg_dn⟩ : ∃ z, z = seli (WhOk qs sq on) (dlS sq on qs) := ⟨_, rfl⟩
  obtain ⟨tk, hg_tk⟩ : ∃ z, z = tb (WhOk qs sq on) := ⟨_, rfl⟩
  simp only [← hg_dn, ← hg_tk] at hI hJ
  have HI := Lib.hid hI
  have HJ := Lib.hid hJ
  have HG_dn := Lib.hid hg_dn
  have HG_tk := Lib.hid hg_tk
  clear hI hJ hg_dn hg_tk
  have z3 : (dn != dn) = false := by simp
  have z4 : (tk != tk) = false := by simp
  have HNX := Lib.hid (fun (o2 : Int) W h => daysLent_any QA qd qs sq o2 W (by omega) hc5 hc6 h)
  go_wp2_with fail
  ((with_reducible refine (HI.out _ hQ.fl).mono ?_); rintro e w2 ⟨rfl, hb2⟩)
  replace hA := hA.ext hb2
  replace hN := hN.ext hb2
  replace hQ := hQ.ext hb2
  replace hB := ext_trans hB hb2
  have hz2 := hb2.size
  go_wp2_with fail
  ((with_reducible refine (HJ.out _ hQ.fl).mono ?_); rintro e w3 ⟨rfl, hb3⟩)
  replace hA := hA.ext hb3
  replace hN := hN.ext hb3
  replace hQ := hQ.ext hb3
  replace hB := ext_trans hB hb3
  have hz3 := hb3.size
  clear HI HJ
  obtain ⟨bt, hbt⟩ : ∃ z : Bool, z = (tk && decide (on < 4000)) := ⟨_, rfl⟩
  have HBT := Lib.hid hbt
  clear hbt
  go_upto_region 29 with fail
  go_cut [192] (fun v wx => v = .bool bt ∧ wx = w3)
  case first =>
    have hbt := HBT.out
    cases tk
    · obtain rfl : bt = false := by rw [hbt]; rfl
      clear hbt HBT
      go_wp2
      go_meet
      exact ⟨rfl, rfl⟩
    · by_cases ho : on < 4000
      · obtain rfl : bt = true := by rw [hbt]; simp [ho]
        clear hbt HBT
        go_wp2
        go_meet
        exact ⟨rfl, rfl⟩
      · obtain rfl : bt = false := by rw [hbt]; simp [ho]
        clear hbt HBT
        go_wp2
        go_meet
        exact ⟨rfl, rfl⟩
  case rest =>
    obtain ⟨rfl, hwx⟩ := hcut
    replace hwx := hwx.symm
    subst hwx
    clear z3 z4
    go_upto_if 192 with fail
    go_cut [] (fun wx => Below (World.heap w3).size w3 wx)
    case first =>
      cases bt
      · go_wp2
        go_meet
        exact Below.refl _ _
      · skip
        have hbt := HBT.out.symm
        rw [Bool.and_eq_true, decide_eq_true_eq] at hbt
        obtain ⟨ht1, ht2⟩ := hbt
        have hWK : WhOk qs sq on := tb_true (HG_tk.out.symm.trans ht1)
        have hdn : dn = dlS sq on qs := by rw [HG_dn.out, seli_t hWK]
        have hds := dlS_bd (s := sq) hWK.2.2 qs (lns_lo hWK.1)
        obtain ⟨f1, f2, f3⟩ := days_law hWK ht2
        have hnx := fun W h => HNX.out (on + 1) W h
        simp only [seli_t f1, tb_t f1] at hnx
        obtain ⟨nx, hnxe⟩ : ∃ z, z = dlS sq (on + 1) qs := ⟨_, rfl⟩
        simp only [← hnxe] at hnx f2 f3
        rw [← hdn] at f2 f3 hds
        have hon := hWK.2.2
        have hw1 : IntKind.i64.wrap (on + 1) = on + 1 := IntWalk.i64_in _ (by omega)
        have hw2 : IntKind.i64.wrap (dn + 1) = dn + 1 := IntWalk.i64_in _ (by omega)
        have y1 : ¬ nx < dn := by omega
        have y2 : ¬ dn + 1 < nx := by omega
        have HNY := Lib.hid hnx
        clear ht1 ht2 hWK hdn hds f1 f2 f3 hnx hnxe hon HNX HG_dn HG_tk HBT
        go_wp2_with fail
        ((with_reducible refine (HNY.out _ hQ.fl).mono ?_); rintro e w4 ⟨rfl, hb4⟩)
        replace hA := hA.ext hb4
        replace hN := hN.ext hb4
        replace hQ := hQ.ext hb4
        replace hB := ext_trans hB hb4
        have hz4 := hb4.size
        go_wp2
        go_meet
        exact hb4
    case rest =>
      obtain ⟨w5, hwz⟩ : ∃ z, z = wc := ⟨_, rfl⟩
      subst hwz
      clear hQ HNX HG_dn HG_tk HBT
      replace hA := hA.ext hcut
      replace hN := hN.ext hcut
      replace hB := ext_trans hB hcut
      have hz5 := hcut.size
      obtain ⟨fv, hfv⟩ : ∃ z, z = seli (FvOk xs) (favI (allS xs)) := ⟨_, rfl⟩
      obtain ⟨fk, hfk⟩ : ∃ z, z = tb (FvOk xs) := ⟨_, rfl⟩
      have hfi := fun W h => HFI.out W h
      have hfs := fun W h => HFS.out W h
      simp only [← hfv, ← hfk] at hfi hfs
      have HFI2 := Lib.hid hfi
      have HFS2 := Lib.hid hfs
      have z5 : (fv == fv) = true := beq_self_eq_true _
      have z6 : (fk == fk) = true := beq_self_eq_true _
      clear hfi hfs hfv hfk HFI HFS
      go_wp2_with fail
      ((with_reducible refine (HFI2.out _ hN).mono ?_); rintro e w6 ⟨rfl, hb6⟩)
      replace hA := hA.ext hb6
      replace hN := hN.ext hb6
      replace hB := ext_trans hB hb6
      have hz6 := hb6.size
      go_wp2_with fail
      ((with_reducible refine (HFS2.out _ hN).mono ?_); rintro e w7 ⟨rfl, hb7⟩)
      replace hA := hA.ext hb7
      replace hN := hN.ext hb7
      replace hB := ext_trans hB hb7
      have hz7 := hb7.size
      clear hN HFI2 HFS2
      go_wp2_with fail
      ((with_reducible refine (drawLoanText_any A n cap _ hA hn16).mono ?_); rintro e w8 ⟨y, rfl, hb8⟩)
      replace hA := hA.ext hb8
      replace hB := ext_trans hB hb8
      have hz8 := hb8.size
      obtain ⟨U1, hU1, hD1, hs1, hv1, _⟩ := box_world w8 #[Value.int .i64 y.sheet, Value.int .i64 y.reader, Value.int .i64 y.out, Value.int .i64 y.due, Value.int .i64 y.back] 43
      replace hA := hA.ext hD1
      replace hB := ext_trans hB hD1
      have hz9 := hD1.size
      have e_0 : World.cell? U1 ⟨(World.heap w8).size, 0, none⟩ = some (Value.int .i64 y.sheet) := hv1 0
      have e_1 : World.cell? U1 ⟨(World.heap w8).size, 1, none⟩ = some (Value.int .i64 y.reader) := hv1 1
      have e_2 : World.cell? U1 ⟨(World.heap w8).size, 2, none⟩ = some (Value.int .i64 y.out) := hv1 2
      have e_3 : World.cell? U1 ⟨(World.heap w8).size, 3, none⟩ = some (Value.int .i64 y.due) := hv1 3
      have e_4 : World.cell? U1 ⟨(World.heap w8).size, 4, none⟩ = some (Value.int .i64 y.back) := hv1 4
      have eh := hs1
      clear hv1
      have hS := fun W hp => loanText_any y W hp
      have hT := fun W => specLoanText_any y W
      obtain ⟨tx, hg_tx⟩ : ∃ z, z = selt (IsLo y) (loanT y) := ⟨_, rfl⟩
      obtain ⟨lk, hg_lk⟩ : ∃ z, z = tb (IsLo y) := ⟨_, rfl⟩
      simp only [← hg_tx, ← hg_lk] at hS hT
      have HS := Lib.hid hS
      have HT := Lib.hid hT
      have HG_tx := Lib.hid hg_tx
      have HG_lk := Lib.hid hg_lk
      clear hS hT hg_tx hg_lk
      have z7 : (lk == lk) = true := beq_self_eq_true _
      go_wp2_with fail
      clear hU1
      ((with_reducible refine (HS.out _ (HPOW.out.atT hB hB.size)).mono ?_); rintro e w10 ⟨rfl, hb10⟩)
      replace hA := hA.ext hb10
      replace e_0 := (hb10.cell (p := ⟨(World.heap w8).size, 0, none⟩) eh).trans e_0
      replace e_1 := (hb10.cell (p := ⟨(World.heap w8).size, 1, none⟩) eh).trans e_1
      replace e_2 := (hb10.cell (p := ⟨(World.heap w8).size, 2, none⟩) eh).trans e_2
      replace e_3 := (hb10.cell (p := ⟨(World.heap w8).size, 3, none⟩) eh).trans e_3
      replace e_4 := (hb10.cell (p := ⟨(World.heap w8).size, 4, none⟩) eh).trans e_4
      replace eh := Nat.lt_of_lt_of_le eh hb10.size
      replace hB := ext_trans hB hb10
      have hz10 := hb10.size
      go_wp2_with fail
      ((with_reducible refine (HT.out _).mono ?_); rintro e w11 ⟨rfl, hb11⟩)
      replace hA := hA.ext hb11
      replace e_0 := (hb11.cell (p := ⟨(World.heap w8).size, 0, none⟩) eh).trans e_0
      replace e_1 := (hb11.cell (p := ⟨(World.heap w8).size, 1, none⟩) eh).trans e_1
      replace e_2 := (hb11.cell (p := ⟨(World.heap w8).size, 2, none⟩) eh).trans e_2
      replace e_3 := (hb11.cell (p := ⟨(World.heap w8).size, 3, none⟩) eh).trans e_3
      replace e_4 := (hb11.cell (p := ⟨(World.heap w8).size, 4, none⟩) eh).trans e_4
      replace eh := Nat.lt_of_lt_of_le eh hb11.size
      replace hB := ext_trans hB hb11
      have hz11 := hb11.size
      go_wp2_with fail
      ((with_reducible refine (drawOpenLoans_any A n cap _ hA hn16).mono ?_); rintro e w12 ⟨UA, ud, us, rd, wn, rfl, hcap7, hul, hU, hb12⟩)
      replace hA := hA.ext hb12
      replace e_0 := (hb12.cell (p := ⟨(World.heap w8).size, 0, none⟩) eh).trans e_0
      replace e_1 := (hb12.cell (p := ⟨(World.heap w8).size, 1, none⟩) eh).trans e_1
      replace e_2 := (hb12.cell (p := ⟨(World.heap w8).size, 2, none⟩) eh).trans e_2
      replace e_3 := (hb12.cell (p := ⟨(World.heap w8).size, 3, none⟩) eh).trans e_3
      replace e_4 := (hb12.cell (p := ⟨(World.heap w8).size, 4, none⟩) eh).trans e_4
      replace eh := Nat.lt_of_lt_of_le eh hb12.size
      replace hB := ext_trans hB hb12
      have hz12 := hb12.size
      obtain ⟨hc7, hc8⟩ := hcap7
      have hI := fun W h => openLoans_any UA ud us rd wn W (by omega) hc7 hc8 h
      have hJ := fun W h => specOpenLoans_any UA ud us rd wn W (by omega) hc7 hc8 h
      obtain ⟨op, hg_op⟩ : ∃ z, z = sel (OlOk us rd wn) ((openS rd wn us).mergeSort leI) := ⟨_, rfl⟩
      obtain ⟨ob, hg_ob⟩ : ∃ z, z = tb (OlOk us rd wn) := ⟨_, rfl⟩
      simp only [← hg_op, ← hg_ob] at hI hJ
      have HI := Lib.hid hI
      have HJ := Lib.hid hJ
      have HG_op := Lib.hid hg_op
      have HG_ob := Lib.hid hg_ob
      clear hI hJ hg_op hg_ob
      have hopl : op.length ≤ 1048576 := HG_op.out ▸ Nat.le_trans (sel_len _ _) (by rw [List.length_mergeSort]; exact Nat.le_trans (openS_len _ _ _) (by omega))
      have z8 : (ob == ob) = true := beq_self_eq_true _
      go_wp2_with fail
      ((with_reducible refine (HI.out _ hU.fl).mono ?_); rintro e w13 ⟨R7, d7, rfl, hR7, hb13⟩)
      replace hA := hA.ext hb13
      replace hU := hU.ext hb13
      replace e_0 := (hb13.cell (p := ⟨(World.heap w8).size, 0, none⟩) eh).trans e_0
      replace e_1 := (hb13.cell (p := ⟨(World.heap w8).size, 1, none⟩) eh).trans e_1
      replace e_2 := (hb13.cell (p := ⟨(World.heap w8).size, 2, none⟩) eh).trans e_2
      replace e_3 := (hb13.cell (p := ⟨(World.heap w8).size, 3, none⟩) eh).trans e_3
      replace e_4 := (hb13.cell (p := ⟨(World.heap w8).size, 4, none⟩) eh).trans e_4
      replace eh := Nat.lt_of_lt_of_le eh hb13.size
      replace hB := ext_trans hB hb13
      have hz13 := hb13.size
      go_wp2_with fail
      ((with_reducible refine (HJ.out _ hU.fl).mono ?_); rintro e w14 ⟨R8, d8, rfl, hR8, hb14⟩)
      replace hA := hA.ext hb14
      replace hU := hU.ext hb14
      replace hR7 := hR7.ext hb14
      replace e_0 := (hb14.cell (p := ⟨(World.heap w8).size, 0, none⟩) eh).trans e_0
      replace e_1 := (hb14.cell (p := ⟨(World.heap w8).size, 1, none⟩) eh).trans e_1
      replace e_2 := (hb14.cell (p := ⟨(World.heap w8).size, 2, none⟩) eh).trans e_2
      replace e_3 := (hb14.cell (p := ⟨(World.heap w8).size, 3, none⟩) eh).trans e_3
      replace e_4 := (hb14.cell (p := ⟨(World.heap w8).size, 4, none⟩) eh).trans e_4
      replace eh := Nat.lt_of_lt_of_le eh hb14.size
      replace hB := ext_trans hB hb14
      have hz14 := hb14.size
      go_wp2_with fail
      ((with_reducible refine (rInts_same _ _ _ _ op _ (by omega) hR7.fl hR8.fl).mono ?_); rintro e w15 ⟨rfl, hb15⟩)
      replace hA := hA.ext hb15
      replace hU := hU.ext hb15
      replace hR7 := hR7.ext hb15
      replace hR8 := hR8.ext hb15
      replace e_0 := (hb15.cell (p := ⟨(World.heap w8).size, 0, none⟩) eh).trans e_0
      replace e_1 := (hb15.cell (p := ⟨(World.heap w8).size, 1, none⟩) eh).trans e_1
      replace e_2 := (hb15.cell (p := ⟨(World.heap w8).size, 2, none⟩) eh).trans e_2
      replace e_3 := (hb15.cell (p := ⟨(World.heap w8).size, 3, none⟩) eh).trans e_3
      replace e_4 := (hb15.cell (p := ⟨(World.heap w8).size, 4, none⟩) eh).trans e_4
      replace eh := Nat.lt_of_lt_of_le eh hb15.size
      replace hB := ext_trans hB hb15
      have hz15 := hb15.size
      go_wp2
      go_ret
      exact ⟨rfl, hB⟩
end Go.Proofs.YtnikeelpcokffaaDoor
