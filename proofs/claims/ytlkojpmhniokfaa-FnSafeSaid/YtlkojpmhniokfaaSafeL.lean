/- SafeLegs on both sides. -/
import Derived.Test.YtlkojpmhniokfaaSafeD
import Derived.Test.YtlkojpmhniokfaaCut
namespace Go.Proofs.Ytlkojpmhniokfaa
open Go.RowKit
set_option linter.unusedVariables false
set_option linter.unusedSimpArgs false

set_option maxHeartbeats 1000000 in
set_option maxRecDepth 100000 in
theorem safeLegs_any (wide high steep e n most : Int) (A : Option Addr) (c : Nat) (xs : List Four) (b o : Nat) (d : Nat) (ls : List Leg) (w : World) (hn : xs.length ≤ 1048576) (hA : Fl Four.ints 4 w A xs) (hm : ls.length ≤ 1048576) (hB : Fl Leg.ints 3 w (some ⟨b, o, none⟩) ls) (hcap : ls.length ≤ d) (hcm : d ≤ 9223372036854775807) :
    Calls Try.prog 13 #[.agg #[.int .i64 wide, .int .i64 high, .slice A xs.length c, .int .i64 steep], .int .i64 e, .int .i64 n, .slice (some ⟨b, o, none⟩) ls.length d, .int .i64 most] w (RetL Leg.ints 3 w (sel (Asked wide high steep e n xs ls most) (ls.take (faultL wide high steep most xs ls 0 e n 0).2.toNat)) (tb (Asked wide high steep e n xs ls most))) := by
  obtain ⟨V0, hV0, hC0, hz0, hcv, _⟩ := box_world w #[Value.int .i64 wide, .int .i64 high, .slice A xs.length c, .int .i64 steep] 26
  obtain ⟨i0, hi, hzz0, hzz1, hzz2⟩ := info_parts infoLeg
  have hask := canStart_any wide high steep e n most A c xs (some ⟨b, o, none⟩) d ls V0 hn (hA.ext hC0) hm (hB.ext hC0)
  have hflt := fun (h : Asked wide high steep e n xs ls most) W hW => firstFault_any wide high steep e n most A c xs (some ⟨b, o, none⟩) d ls W hn (Fl.ext hA hW) (Fl.ext hB hW) hcap hcm ⟨h.1.2.1, h.1.2.2.1⟩ ⟨h.1.2.2.2.1, h.1.2.2.2.2.1⟩ ⟨h.1.2.2.2.2.2.2.1, h.1.2.2.2.2.2.2.2⟩ h.2.2.1 h.2.1.2 h.2.2.2
  obtain ⟨ji, hi1, hi2, hi3, hi4, hi5⟩ := faultL_idx (wide := wide) (high := high) (steep := steep) (most := most) (bars := xs) ls 0 e n 0
  generalize faultL wide high steep most xs ls 0 e n 0 = R at *
  obtain ⟨p, q⟩ := R
  simp only at hi1 hi4 hi5
  subst hi1
  simp only [Nat.zero_add] at hi3 hi4 hi5
  generalize Asked wide high steep e n xs ls most = Q at *
  have hTL : (ls.take ji).length = ji := by rw [List.length_take]; omega
  have HTL := Lib.hid hTL
  rw [show ((ji : Int)).toNat = ji from by omega]
  clear hTL
  obtain ⟨T, hT⟩ : ∃ T, T = ls.take ji := ⟨_, rfl⟩
  have hBT := hB.takeC ji
  rw [← hT] at HTL hBT ⊢
  clear hT
  have hj1 : (ji : Int) ≤ (d : Int) := by omega
  generalize hLL : ls.length = L at *
  clear hLL
  by_cases h : Q
  · rw [tb_t h] at hask
    rw [tb_t h, sel_t h]
    have H := Lib.hid h
    clear h
    generalize xs.length = m at *
    have e0 : World.cell? V0 ⟨w.heap.size, 0, none⟩ = some (.int .i64 wide) := hcv 0
    have e1 : World.cell? V0 ⟨w.heap.size, 1, none⟩ = some (.int .i64 high) := hcv 1
    have e2 : World.cell? V0 ⟨w.heap.size, 2, none⟩ = some (.slice A m c) := hcv 2
    have e3 : World.cell? V0 ⟨w.heap.size, 3, none⟩ = some (.int .i64 steep) := hcv 3
    have HASK := Lib.hid hask
    have HFLT := Lib.hid hflt
    have HI4 := Lib.hid hi4
    have HI5 := Lib.hid hi5
    clear hask hflt hcv hi4 hi5
    go_enter Try.func13, Try.ntmps13
    go_wp2_with fail
    ((with_reducible refine (HASK.out).mono ?_); rintro e w1 ⟨rfl, hb1⟩)
    have hx1 := ext_trans hC0 hb1
    have f0 := (hb1.cell (p := ⟨w.heap.size, 0, none⟩) hz0).trans e0
    have f1 := (hb1.cell (p := ⟨w.heap.size, 1, none⟩) hz0).trans e1
    have f2 := (hb1.cell (p := ⟨w.heap.size, 2, none⟩) hz0).trans e2
    have f3 := (hb1.cell (p := ⟨w.heap.size, 3, none⟩) hz0).trans e3
    go_wp2_with fail
    ((with_reducible refine (HFLT.out H.out w1 hx1).mono ?_); rintro e w2 ⟨rfl, hb2⟩)
    go_wp2_with (at_builtin; refine wpList_append_all (f := Leg.ints) rfl _ _ _ rfl w2.heap.size i0 _ 3 24 Try.underlying27 hi hzz0 hzz1 hzz2 rfl (by decide) _ [] rfl OwnF.none_ (some ⟨b, o, none⟩) d T (congrArg (fun n => Value.slice _ n d) HTL.out.symm) ((hBT.ext hx1).ext hb2) (fun _ => rfl) ?_ (by decide) (Nat.le_refl _) ?_; (rw [HTL.out]; simp; omega); intro v5 w5 hown5 hg5 hb5; rw [List.nil_append] at hown5; obtain ⟨B5, d5, hv5, hF5⟩ := hown5.form (fun _ => rfl); rw [HTL.out] at hv5; subst hv5)
    go_ret2
    refine ⟨B5, d5, by rw [HTL.out]; rfl, hF5.mono (ext_trans hx1 hb2).size (Nat.le_refl _), (ext_trans hx1 hb2).trans ((hb5).mono (ext_trans hx1 hb2).size)⟩
  · rw [tb_f h] at hask
    rw [tb_f h, sel_f h]
    clear h
    generalize xs.length = m at *
    have e0 : World.cell? V0 ⟨w.heap.size, 0, none⟩ = some (.int .i64 wide) := hcv 0
    have e1 : World.cell? V0 ⟨w.heap.size, 1, none⟩ = some (.int .i64 high) := hcv 1
    have e2 : World.cell? V0 ⟨w.heap.size, 2, none⟩ = some (.slice A m c) := hcv 2
    have e3 : World.cell? V0 ⟨w.heap.size, 3, none⟩ = some (.int .i64 steep) := hcv 3
    have HASK := Lib.hid hask
    have HFLT := Lib.hid hflt
    have HI4 := Lib.hid hi4
    have HI5 := Lib.hid hi5
    clear hask hflt hcv hi4 hi5
    go_enter Try.func13, Try.ntmps13
    go_wp2_with fail
    ((with_reducible refine (HASK.out).mono ?_); rintro e w1 ⟨rfl, hb1⟩)
    have hx1 := ext_trans hC0 hb1
    go_wp2
    go_ret2
    exact ⟨none, 0, rfl, FlO.nil, hx1⟩
set_option maxHeartbeats 1000000 in
set_option maxRecDepth 100000 in
theorem specSafeLegs_any (wide high steep e n most : Int) (A : Option Addr) (c : Nat) (xs : List Four) (b o : Nat) (d : Nat) (ls : List Leg) (w : World) (hn : xs.length ≤ 1048576) (hA : Fl Four.ints 4 w A xs) (hm : ls.length ≤ 1048576) (hB : Fl Leg.ints 3 w (some ⟨b, o, none⟩) ls) (hcap : ls.length ≤ d) (hcm : d ≤ 9223372036854775807) :
    Calls Try.prog 14 #[.agg #[.int .i64 wide, .int .i64 high, .slice A xs.length c, .int .i64 steep], .int .i64 e, .int .i64 n, .slice (some ⟨b, o, none⟩) ls.length d, .int .i64 most] w (RetL Leg.ints 3 w (sel (Asked wide high steep e n xs ls most) (ls.take (faultL wide high steep most xs ls 0 e n 0).2.toNat)) (tb (Asked wide high steep e n xs ls most))) := by
  obtain ⟨V0, hV0, hC0, hz0, hcv, _⟩ := box_world w #[Value.int .i64 wide, .int .i64 high, .slice A xs.length c, .int .i64 steep] 26
  obtain ⟨i0, hi, hzz0, hzz1, hzz2⟩ := info_parts infoLeg
  have hask := l16Asked_any wide high steep e n most A c xs (some ⟨b, o, none⟩) d ls V0 hn (hA.ext hC0) hm (hB.ext hC0)
  have hflt := fun (h : Asked wide high steep e n xs ls most) W hW => l16Fault_any wide high steep e n most A c xs (some ⟨b, o, none⟩) d ls W hn (Fl.ext hA hW) (Fl.ext hB hW) ⟨h.1.2.1, h.1.2.2.1⟩ ⟨h.1.2.2.2.1, h.1.2.2.2.2.1⟩ ⟨h.1.2.2.2.2.2.2.1, h.1.2.2.2.2.2.2.2⟩ h.2.2.1 h.2.1.2 h.2.2.2
  obtain ⟨ji, hi1, hi2, hi3, hi4, hi5⟩ := faultL_idx (wide := wide) (high := high) (steep := steep) (most := most) (bars := xs) ls 0 e n 0
  generalize faultL wide high steep most xs ls 0 e n 0 = R at *
  obtain ⟨p, q⟩ := R
  simp only at hi1 hi4 hi5
  subst hi1
  simp only [Nat.zero_add] at hi3 hi4 hi5
  generalize Asked wide high steep e n xs ls most = Q at *
  have hTL : (ls.take ji).length = ji := by rw [List.length_take]; omega
  have HTL := Lib.hid hTL
  rw [show ((ji : Int)).toNat = ji from by omega]
  clear hTL
  obtain ⟨T, hT⟩ : ∃ T, T = ls.take ji := ⟨_, rfl⟩
  have hBT := hB.takeC ji
  rw [← hT] at HTL hBT ⊢
  clear hT
  have hj1 : (ji : Int) ≤ (d : Int) := by omega
  generalize hLL : ls.length = L at *
  clear hLL
  by_cases h : Q
  · rw [tb_t h] at hask
    rw [tb_t h, sel_t h]
    have H := Lib.hid h
    clear h
    generalize xs.length = m at *
    have e0 : World.cell? V0 ⟨w.heap.size, 0, none⟩ = some (.int .i64 wide) := hcv 0
    have e1 : World.cell? V0 ⟨w.heap.size, 1, none⟩ = some (.int .i64 high) := hcv 1
    have e2 : World.cell? V0 ⟨w.heap.size, 2, none⟩ = some (.slice A m c) := hcv 2
    have e3 : World.cell? V0 ⟨w.heap.size, 3, none⟩ = some (.int .i64 steep) := hcv 3
    have HASK := Lib.hid hask
    have HFLT := Lib.hid hflt
    have HI4 := Lib.hid hi4
    have HI5 := Lib.hid hi5
    clear hask hflt hcv hi4 hi5
    go_enter Try.func14, Try.ntmps14
    go_wp2_with fail
    ((with_reducible refine (HASK.out).mono ?_); rintro e w1 ⟨rfl, hb1⟩)
    have hx1 := ext_trans hC0 hb1
    have f0 := (hb1.cell (p := ⟨w.heap.size, 0, none⟩) hz0).trans e0
    have f1 := (hb1.cell (p := ⟨w.heap.size, 1, none⟩) hz0).trans e1
    have f2 := (hb1.cell (p := ⟨w.heap.size, 2, none⟩) hz0).trans e2
    have f3 := (hb1.cell (p := ⟨w.heap.size, 3, none⟩) hz0).trans e3
    have hfl := HFLT.out H.out w1 hx1
    by_cases hp : p = 0
    · have hjL : ji = L := HI4.out hp
      subst hp hjL
      have HFL := Lib.hid hfl
      clear hfl
      go_wp2_with fail
      ((with_reducible refine (HFL.out).mono ?_); rintro e w2 ⟨rfl, hb2⟩)
      go_wp2_with (at_builtin; refine wpList_append_all (f := Leg.ints) rfl _ _ _ rfl w2.heap.size i0 _ 3 24 Try.underlying27 hi hzz0 hzz1 hzz2 rfl (by decide) _ [] rfl (OwnF.empty (Nat.le_refl _)) (some ⟨b, o, none⟩) d T (congrArg (fun n => Value.slice _ n d) HTL.out.symm) (((hBT.ext hx1).ext hb2).ext (ext_alloc _ _)) (fun _ => rfl) ?_ (by decide) (by simp) ?_; (rw [HTL.out]; simp; omega); intro v5 w5 hown5 hg5 hb5; rw [List.nil_append] at hown5; obtain ⟨B5, d5, hv5, hF5⟩ := hown5.form (fun _ => rfl); rw [HTL.out] at hv5; subst hv5)
      go_ret2
      refine ⟨B5, d5, by rw [HTL.out]; rfl, hF5.mono (ext_trans hx1 hb2).size (Nat.le_refl _), (ext_trans hx1 hb2).trans (((ext_alloc w2 _).trans hb5).mono (ext_trans hx1 hb2).size)⟩
    · have hpb : (p == 0) = false := beq_eq_false_iff_ne.2 hp
      rw [show faultP (p, (ji : Int)) = (ji : Int) from if_neg hp] at hfl
      have HFL := Lib.hid hfl
      clear hfl hp
      go_wp2_with fail
      ((with_reducible refine (HFL.out).mono ?_); rintro e w2 ⟨rfl, hb2⟩)
      go_wp2_with (at_builtin; refine wpList_append_all (f := Leg.ints) rfl _ _ _ rfl w2.heap.size i0 _ 3 24 Try.underlying27 hi hzz0 hzz1 hzz2 rfl (by decide) _ [] rfl (OwnF.empty (Nat.le_refl _)) (some ⟨b, o, none⟩) d T (congrArg (fun n => Value.slice _ n d) HTL.out.symm) (((hBT.ext hx1).ext hb2).ext (ext_alloc _ _)) (fun _ => rfl) ?_ (by decide) (by simp) ?_; (rw [HTL.out]; simp; omega); intro v5 w5 hown5 hg5 hb5; rw [List.nil_append] at hown5; obtain ⟨B5, d5, hv5, hF5⟩ := hown5.form (fun _ => rfl); rw [HTL.out] at hv5; subst hv5)
      go_ret2
      refine ⟨B5, d5, by rw [HTL.out]; rfl, hF5.mono (ext_trans hx1 hb2).size (Nat.le_refl _), (ext_trans hx1 hb2).trans (((ext_alloc w2 _).trans hb5).mono (ext_trans hx1 hb2).size)⟩
  · rw [tb_f h] at hask
    rw [tb_f h, sel_f h]
    clear h
    generalize xs.length = m at *
    have e0 : World.cell? V0 ⟨w.heap.size, 0, none⟩ = some (.int .i64 wide) := hcv 0
    have e1 : World.cell? V0 ⟨w.heap.size, 1, none⟩ = some (.int .i64 high) := hcv 1
    have e2 : World.cell? V0 ⟨w.heap.size, 2, none⟩ = some (.slice A m c) := hcv 2
    have e3 : World.cell? V0 ⟨w.heap.size, 3, none⟩ = some (.int .i64 steep) := hcv 3
    have HASK := Lib.hid hask
    have HFLT := Lib.hid hflt
    have HI4 := Lib.hid hi4
    have HI5 := Lib.hid hi5
    clear hask hflt hcv hi4 hi5
    go_enter Try.func14, Try.ntmps14
    go_wp2_with fail
    ((with_reducible refine (HASK.out).mono ?_); rintro e w1 ⟨rfl, hb1⟩)
    have hx1 := ext_trans hC0 hb1
    go_wp2
    go_ret2
    exact ⟨_, 0, rfl, FlO.nil, hx1.trans (below_new hx1.size _)⟩
end Go.Proofs.Ytlkojpmhniokfaa
