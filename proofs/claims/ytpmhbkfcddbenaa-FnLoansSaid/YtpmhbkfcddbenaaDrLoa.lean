/- The draws of loans, a sheet, a day. No condition. -/
import Derived.Test.YtpmhbkfcddbenaaLoA
import Derived.Test.YtpmhbkfcddbenaaLoDy
import Derived.Test.YtpmhbkfcddbenaaDrD
namespace Go.Proofs.Ytpmhbkfcddbenaa
open Go.RowKit
set_option linter.unusedVariables false
set_option linter.unusedSimpArgs false

def RtDr (w : World) (e : Ending) (w' : World) : Prop :=
  ∃ (A : Option Addr) (d : Nat) (xs : List Loan) (sheet day : Int), e = .returned (.tuple #[.slice A xs.length d, .int .i64 sheet, .int .i64 day]) ∧ (xs.length ≤ d ∧ d ≤ 9223372036854775807) ∧ xs.length ≤ 17 ∧ FlO Loan.ints 5 w.heap.size w'.heap.size w' A xs ∧ Below w.heap.size w w'
def LeDr (w : World) (e : Ending) (w' : World) : Prop :=
  ∃ (A : Option Addr) (d : Nat) (xs : List Loan) (sheet reader day days : Int), e = .returned (.tuple #[.slice A xs.length d, .int .i64 sheet, .int .i64 reader, .int .i64 day, .int .i64 days]) ∧ (xs.length ≤ d ∧ d ≤ 9223372036854775807) ∧ xs.length ≤ 17 ∧ FlO Loan.ints 5 w.heap.size w'.heap.size w' A xs ∧ Below w.heap.size w w'
set_option maxHeartbeats 8000000 in
set_option maxRecDepth 100000 in
theorem drawReturnSheet_any (A : Option Addr) (n cap : Nat) (w : World) (hA : Bytes w A n) (hn : n ≤ 1099511627776) :
    Calls Try.prog 12 #[.slice A n cap] w (RtDr w) := by
  obtain ⟨V0, hV0, hB0, hz0, hu0, hf0⟩ := box_world w #[Value.slice A n cap, .int .i64 0, .int .u64 0] 44
  have hC0 : CurAt w.heap.size A n cap 0 V0 := hV0 ▸ CurAt.start hA cap _
  obtain ⟨g, hg⟩ : ∃ g, g = w.heap.size := ⟨_, rfl⟩
  rw [← hg] at hC0
  have HG := Lib.hid hg
  have hgw : w.heap.size ≤ g := by omega
  have hgV : g + 1 ≤ V0.heap.size := by omega
  have HP := Lib.hid (loans_any g A n cap 0 V0 hC0 (by omega) hn)
  have HB0 := Lib.hid hB0
  clear hg hC0 hu0 hf0 hA hB0
  go_enter Try.func12, Try.ntmps12
  go_wp2_with fail
  rw [← HG.out]
  clear hV0
  ((with_reducible refine (HP.out).mono ?_); rintro e w1 ⟨LA, d, xs, rfl, hxl, hcd, hF, hC, hT⟩)
  have hs1 : V0.heap.size ≤ w1.heap.size := hT.size
  obtain ⟨m, hm⟩ : ∃ z, z = xs.length := ⟨_, rfl⟩
  rw [← hm] at hxl hcd ⊢
  have HM := Lib.hid hm
  clear hm
  have HN2 := Lib.hid (loanSheet_any g A n cap _ w1 hC (by omega) hn)
  clear hC
  go_wp2_with fail
  ((with_reducible refine (HN2.out).mono ?_); rintro e w2 ⟨sh, rfl, hC, hU2⟩)
  replace hF := hF.touch hU2 (by omega)
  replace hT := hT.trans hU2
  have hz_w2 : (World.heap w1).size ≤ (World.heap w2).size := hU2.size
  clear hU2
  have HN3 := Lib.hid (loanDay_any LA d V0.heap.size w1.heap.size m xs HM.out hxl g A n cap _ w2 hC hF hgV (by omega) hn)
  clear hC
  go_wp2_with fail
  ((with_reducible refine (HN3.out).mono ?_); rintro e w3 ⟨dy, rfl, hC, hU3⟩)
  replace hF := hF.touch hU3 (by omega)
  replace hT := hT.trans hU3
  have hz_w3 : (World.heap w2).size ≤ (World.heap w3).size := hU3.size
  clear hU3
  have HF := Lib.hid (hF.mono (show w.heap.size ≤ V0.heap.size by omega) (show w1.heap.size ≤ (World.heap w3).size by omega))
  have HB := Lib.hid (hT.below HB0.out hgw)
  clear hF hC hT
  go_wp2
  go_ret3
  have hm := HM.out
  subst hm
  exact ⟨LA, d, xs, sh, dy, rfl, hcd, hxl, HF.out, HB.out⟩
set_option maxHeartbeats 8000000 in
set_option maxRecDepth 100000 in
theorem drawLendSheet_any (A : Option Addr) (n cap : Nat) (w : World) (hA : Bytes w A n) (hn : n ≤ 1099511627776) :
    Calls Try.prog 5 #[.slice A n cap] w (LeDr w) := by
  obtain ⟨V0, hV0, hB0, hz0, hu0, hf0⟩ := box_world w #[Value.slice A n cap, .int .i64 0, .int .u64 0] 44
  have hC0 : CurAt w.heap.size A n cap 0 V0 := hV0 ▸ CurAt.start hA cap _
  obtain ⟨g, hg⟩ : ∃ g, g = w.heap.size := ⟨_, rfl⟩
  rw [← hg] at hC0
  have HG := Lib.hid hg
  have hgw : w.heap.size ≤ g := by omega
  have hgV : g + 1 ≤ V0.heap.size := by omega
  have HP := Lib.hid (loans_any g A n cap 0 V0 hC0 (by omega) hn)
  have HB0 := Lib.hid hB0
  clear hg hC0 hu0 hf0 hA hB0
  go_enter Try.func5, Try.ntmps5
  go_wp2_with fail
  rw [← HG.out]
  clear hV0
  ((with_reducible refine (HP.out).mono ?_); rintro e w1 ⟨LA, d, xs, rfl, hxl, hcd, hF, hC, hT⟩)
  have hs1 : V0.heap.size ≤ w1.heap.size := hT.size
  obtain ⟨m, hm⟩ : ∃ z, z = xs.length := ⟨_, rfl⟩
  rw [← hm] at hxl hcd ⊢
  have HM := Lib.hid hm
  clear hm
  have HN2 := Lib.hid (loanDay_any LA d V0.heap.size w1.heap.size m xs HM.out hxl g A n cap _ w1 hC hF hgV (by omega) hn)
  clear hC
  go_wp2_with fail
  ((with_reducible refine (HN2.out).mono ?_); rintro e w2 ⟨dy0, rfl, hC, hU2⟩)
  replace hF := hF.touch hU2 (by omega)
  replace hT := hT.trans hU2
  have hz_w2 : (World.heap w1).size ≤ (World.heap w2).size := hU2.size
  clear hU2
  have HF := Lib.hid hF
  have HC := Lib.hid hC
  have HT := Lib.hid hT
  have hsz : w1.heap.size ≤ (World.heap w2).size := by omega
  clear hF hC hT
  go_upto_region 5 with fail
  go_cut [26] (fun bv wx => ∃ b : Bool, bv = .bool b ∧ (b = true → 0 < m) ∧ FlO Loan.ints 5 V0.heap.size w1.heap.size wx LA xs ∧ w1.heap.size ≤ wx.heap.size ∧ CurAt g A n cap 2012 wx ∧ Touch g (g + 1) V0 wx)
  case first =>
    by_cases h0 : m = 0
    · subst h0
      go_wp2
      go_meet
      exact ⟨false, rfl, by simp, HF.out, hsz, HC.out.mono (by omega), HT.out⟩
    · have hm0 : (0 : Int) < (m : Int) := by omega
      have hC := HC.out
      have hT := HT.out
      have hF := HF.out
      clear HC HT HF
      have HN3 := Lib.hid (one_any 2 g A n cap _ w2 hC (by omega) hn)
      clear hC
      go_wp2_with fail
      ((with_reducible refine (HN3.out).mono ?_); rintro e w3 ⟨_, rfl, ⟨b, rfl⟩, hC, hU3⟩)
      replace hF := hF.touch hU3 (by omega)
      replace hT := hT.trans hU3
      have hz_w3 : (World.heap w2).size ≤ (World.heap w3).size := hU3.size
      clear hU3
      have HC := Lib.hid hC
      have HT := Lib.hid hT
      have HF := Lib.hid hF
      have hsy : w1.heap.size ≤ (World.heap w3).size := by omega
      clear hC hT hF
      go_wp2
      go_meet
      exact ⟨b, rfl, fun _ => by omega, HF.out, hsy, HC.out.mono (by omega), HT.out⟩
  case rest =>
    clear HF HC HT
    obtain ⟨b, rfl, hbm, hF, hsx, hC, hT⟩ := hcut
    obtain ⟨wq, hwq⟩ : ∃ z, z = wc := ⟨_, rfl⟩
    subst hwq
    go_upto_if 26 with fail
    go_cut [9] (fun dv wx => ∃ z : Int, dv = .int .i64 z ∧ FlO Loan.ints 5 V0.heap.size w1.heap.size wx LA xs ∧ w1.heap.size ≤ wx.heap.size ∧ CurAt g A n cap 2020 wx ∧ Touch g (g + 1) V0 wx)
    case first =>
      cases b
      · have HC := Lib.hid hC
        have HT := Lib.hid hT
        have HF := Lib.hid hF
        clear hC hT hF
        go_wp2
        go_meet
        exact ⟨dy0, rfl, HF.out, hsx, HC.out.mono (by omega), HT.out⟩
      · have hmp := hbm rfl
        obtain ⟨p, rfl⟩ : ∃ p, m = p + 1 := ⟨m - 1, by omega⟩
        obtain ⟨x, lb, lv, hx, hLA, hlw, hce⟩ := hF.fl.at_ (k := p) (by rw [← HM.out]; omega)
        subst hLA
        obtain ⟨b', o', hbo, hlo9, hhi9, hbl9, _⟩ := hF (fun e => by subst e; simp at hx)
        injection hbo with hbo
        injection hbo with hbo hbo2
        subst hbo hbo2
        have c0 : World.cell? wq ⟨lb, lv + p * 5 + 2, none⟩ = some (.int .i64 x.out) := hce 2 _ rfl
        have hlg : lb ≠ g := by omega
        have KP := Lib.hid (fun (W : World) (h : Touch g (g + 1) wq W) => (show ∀ o, World.cell? W ⟨lb, o, none⟩ = World.cell? wq ⟨lb, o, none⟩ from fun o => h.cell (b := lb) (o := o) hlw (by omega)))
        have hgq : g < (World.heap wq).size := hC.lt
        have AM := Lib.hid (fun (W : World) (h : CurAt g A n cap 2012 W) (hl : FlO one 1 (World.heap wq).size ((World.heap wq).size + 1) W (some ⟨(World.heap wq).size, 0, none⟩) [0, 1, 200]) => among_any (some ⟨(World.heap wq).size, 0, none⟩) 3 3 [0, 1, 200] rfl (World.heap wq).size ((World.heap wq).size + 1) g A n cap 2012 W h (by omega) hn hl (by simp) (by simp) (.inl hgq))
        have hp0 : (0 : Int) ≤ (p : Int) := by omega
        have hp1 : (p : Int) < (p : Int) + 1 := by omega
        have hpw : IntKind.i64.wrap ((p : Int) + 1 - 1) = (p : Int) := by rw [show (p : Int) + 1 - 1 = (p : Int) by omega]; exact IntWalk.i64_in _ (by omega)
        have hpw2 : IntKind.i64.wrap (p : Int) = (p : Int) := IntWalk.i64_in _ (by omega)
        have hpw3 : IntKind.i64.wrap (((p + 1 : Nat) : Int) - 1) = (p : Int) := by rw [show ((p + 1 : Nat) : Int) - 1 = (p : Int) by omega]; exact hpw2
        have hp2 : (p : Int) < ((p + 1 : Nat) : Int) := by omega
        have HF := Lib.hid hF
        have HT := Lib.hid hT
        have HC := Lib.hid hC
        clear hF hC hT hce hx hlo9 hhi9 hbl9
        go_upto_region 6 with fail
        go_region_held3 (fun w' => ∀ o, World.cell? w' ⟨lb, o, none⟩ = World.cell? wq ⟨lb, o, none⟩) (first | with_reducible exact KP.out _ (Touch.of_ext (ext_drew _)) | with_reducible exact KP.out _ (Touch.of_ext (ext_trans (ext_alloc _ _) (ext_drew _))) | with_reducible exact KP.out _ (Touch.of_ext (ext_trans (ext_drew _) (ext_alloc _ _))) | with_reducible exact KP.out _ HT5.out) ((first | (go_at_call 23; (with_reducible refine (l1Mn_any _ _ _).mono ?_); rintro e _ ⟨rfl, rfl⟩) | (go_at_call 24; (with_reducible refine (AM.out _ ?_ ?_).mono ?_); (first | with_reducible exact HC.out.ext (ext_trans (ext_alloc _ _) (ext_drew _)) | with_reducible exact HC.out.ext (ext_trans (ext_drew _) (ext_alloc _ _))); (exact (lit_flo wq [0, 1, 200] _ _ rfl).ext (ext_drew _)); rintro e w5 ⟨_, rfl, ⟨y, _, rfl⟩, hC5, hU5⟩; have HC5 := Lib.hid hC5; have HT5 := Lib.hid ((Touch.of_ext (ext_trans (ext_alloc wq (.cells #[Value.int .i64 0, .int .i64 1, .int .i64 200] 3)) (ext_drew _))).trans hU5); clear hC5 hU5)))
        all_goals (go_wp2_with fail)
        all_goals go_meet
        all_goals exact ⟨_, rfl, HF.out.touch HT5.out (.inr hgV), Nat.le_trans hsx HT5.out.size, HC5.out.mono (by omega), HT.out.trans HT5.out⟩
    case rest =>
      clear hF hC hT
      obtain ⟨dy, rfl, hF, hsx, hC, hT⟩ := hcut
      obtain ⟨wz, hwz⟩ : ∃ z, z = wc := ⟨_, rfl⟩
      subst hwz
      have HN21 := Lib.hid (loanSheet_any g A n cap _ wz hC (by omega) hn)
      clear hC
      go_wp2_with fail
      ((with_reducible refine (HN21.out).mono ?_); rintro e w21 ⟨sh, rfl, hC, hU21⟩)
      replace hF := hF.touch hU21 (by omega)
      replace hT := hT.trans hU21
      have hz_w21 : (World.heap wz).size ≤ (World.heap w21).size := hU21.size
      clear hU21
      have hlt22 : g < (World.heap w21).size := hC.lt
      have HN22 := Lib.hid (among_any (some ⟨(World.heap w21).size, 0, none⟩) 4 4 [1, 3, 999, 0] rfl (World.heap w21).size ((World.heap w21).size + 1) g A n cap _ (World.alloc w21 (.cells #[Value.int .i64 (1), Value.int .i64 (3), Value.int .i64 (999), Value.int .i64 (0)] 3)) (hC.ext (ext_alloc _ _)) (by omega) hn (lit_flo w21 [1, 3, 999, 0] _ _ rfl) (by simp) (by simp) (.inl hlt22))
      clear hC
      go_wp2_with fail
      ((with_reducible refine (HN22.out).mono ?_); rintro e w22 ⟨_, rfl, ⟨rd, _, rfl⟩, hC, hU22⟩)
      replace hU22 := (Touch.of_ext (ext_alloc w21 (.cells #[Value.int .i64 (1), Value.int .i64 (3), Value.int .i64 (999), Value.int .i64 (0)] 3))).trans hU22
      replace hF := hF.touch hU22 (by omega)
      replace hT := hT.trans hU22
      have hz_w22 : (World.heap w21).size ≤ (World.heap w22).size := hU22.size
      clear hU22
      have HF := Lib.hid hF
      have HT := Lib.hid hT
      have hsw : w1.heap.size ≤ (World.heap w22).size := by omega
      clear hF hT
      have hx := ext_alloc w22 (.cells #[Value.int .i64 (1), Value.int .i64 (14), Value.int .i64 (60), Value.int .i64 (0), Value.int .i64 (61)] 3)
      have HP := Lib.hid (pick_any 24 g A n cap _ _ (hC.ext hx) (by omega) hn)
      have HL := Lib.hid (lit_flo w22 [1, 14, 60, 0, 61] 3 #[Value.int .i64 (1), Value.int .i64 (14), Value.int .i64 (60), Value.int .i64 (0), Value.int .i64 (61)] rfl)
      have HX := Lib.hid hx
      have hgW : g < (World.heap w22).size := hC.lt
      clear hC hx
      go_wp2_with fail
      ((with_reducible refine (HP.out).mono ?_); rintro e v1 ⟨_, rfl, ⟨z, rfl, hz0, hz1⟩, hC, hU⟩)
      have HL1 := HL.out.touch hU (.inr (Nat.succ_le_of_lt hgW))
      have HU := Lib.hid (((Touch.of_ext (lo := g) (hi := g + 1) HX.out).trans hU))
      have hgg : g < (World.heap w22).size ∨ (World.heap w22).size + 1 ≤ g := .inl hgW
      have HA6 := Lib.hid (among_any (some ⟨(World.heap w22).size, 0, none⟩) 5 4 [1, 14, 60, 0] rfl (World.heap w22).size ((World.heap w22).size + 1) g A n cap _ v1 hC (by omega) hn (HL1.takeF 4) (by simp) (by simp) hgg)
      have HA7 := Lib.hid (among_any (some ⟨(World.heap w22).size, 0, none⟩) 5 5 [1, 14, 60, 0, 61] rfl (World.heap w22).size ((World.heap w22).size + 1) g A n cap _ v1 hC (by omega) hn HL1 (by simp) (by simp) hgg)
      clear hC hU HL1
      by_cases h12 : z < 12
      · have hz12 : z / 12 = 0 := by omega
        go_wp2_with fail
        ((with_reducible refine (HA6.out).mono ?_); rintro e v2 ⟨_, rfl, ⟨y, _, rfl⟩, hC2, hU2⟩)
        have hT2 := HT.out.trans (HU.out.trans hU2)
        have HB := Lib.hid (hT2.below HB0.out hgw)
        have hs22 : (World.heap w22).size ≤ v2.heap.size := (HU.out.trans hU2).size
        have HF2 := Lib.hid ((HF.out.touch (HU.out.trans hU2) (.inr hgV)).mono (show w.heap.size ≤ V0.heap.size by omega) (show w1.heap.size ≤ v2.heap.size by omega))
        clear hC2 hU2 hT2
        go_wp2
        refine bodyPost_ret (v := .tuple #[.slice LA m d, .int .i64 sh, .int .i64 rd, .int .i64 dy, .int .i64 y]) (by simp [results, Try.results5, go_sem]) rfl ?_
        have hm := HM.out
        subst hm
        exact ⟨LA, d, xs, sh, rd, dy, y, rfl, hcd, hxl, HF2.out, HB.out⟩
      · have hz12 : z / 12 = 1 := by omega
        go_wp2_with fail
        ((with_reducible refine (HA7.out).mono ?_); rintro e v2 ⟨_, rfl, ⟨y, _, rfl⟩, hC2, hU2⟩)
        have hT2 := HT.out.trans (HU.out.trans hU2)
        have HB := Lib.hid (hT2.below HB0.out hgw)
        have hs22 : (World.heap w22).size ≤ v2.heap.size := (HU.out.trans hU2).size
        have HF2 := Lib.hid ((HF.out.touch (HU.out.trans hU2) (.inr hgV)).mono (show w.heap.size ≤ V0.heap.size by omega) (show w1.heap.size ≤ v2.heap.size by omega))
        clear hC2 hU2 hT2
        go_wp2
        refine bodyPost_ret (v := .tuple #[.slice LA m d, .int .i64 sh, .int .i64 rd, .int .i64 dy, .int .i64 y]) (by simp [results, Try.results5, go_sem]) rfl ?_
        have hm := HM.out
        subst hm
        exact ⟨LA, d, xs, sh, rd, dy, y, rfl, hcd, hxl, HF2.out, HB.out⟩
end Go.Proofs.Ytpmhbkfcddbenaa
