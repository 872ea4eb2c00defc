/- The draws of editions, a sheet, a number, a day, a new one. No condition. -/
import Derived.Test.YtadcjfbcfiljkaaEdn
import Derived.Test.YtadcjfbcfiljkaaSh18
import Derived.Test.YtadcjfbcfiljkaaDrD
namespace Go.Proofs.Ytadcjfbcfiljkaa
open Go.RowKit
set_option linter.unusedVariables false
set_option linter.unusedSimpArgs false

def CuDr (w : World) (e : Ending) (w' : World) : Prop :=
  ∃ (A : Option Addr) (d : Nat) (xs : List Nest) (sheet day : Int), e = .returned (.tuple #[.slice A xs.length d, .int .i64 sheet, .int .i64 day]) ∧ (xs.length ≤ d ∧ d ≤ 9223372036854775807) ∧ wt xs ≤ 400 ∧ NlA w.heap.size w' A xs ∧ Below w.heap.size w w'
def CsDr (w : World) (e : Ending) (w' : World) : Prop :=
  ∃ (A : Option Addr) (d : Nat) (xs : List Nest) (sheet number day : Int), e = .returned (.tuple #[.slice A xs.length d, .int .i64 sheet, .int .i64 number, .int .i64 day]) ∧ (xs.length ≤ d ∧ d ≤ 9223372036854775807) ∧ wt xs ≤ 400 ∧ NlA w.heap.size w' A xs ∧ Below w.heap.size w w'
def NeDr (w : World) (e : Ending) (w' : World) : Prop :=
  ∃ (A : Option Addr) (d : Nat) (xs : List Nest) (sheet day : Int) (P : Option Addr) (pd : Nat) (pl : List Int), e = .returned (.tuple #[.slice A xs.length d, .int .i64 sheet, .int .i64 day, .slice P pl.length pd]) ∧ (xs.length ≤ d ∧ d ≤ 9223372036854775807) ∧ wt xs ≤ 400 ∧ pl.length ≤ 12 ∧ NlA w.heap.size w' A xs ∧ FlO one 1 w.heap.size w'.heap.size w' P pl ∧ Below w.heap.size w w'
set_option maxHeartbeats 8000000 in
set_option maxRecDepth 100000 in
theorem drawCurrentOn_any (A : Option Addr) (n cap : Nat) (w : World) (hA : Bytes w A n) (hn : n ≤ 1099511627776) :
    Calls Try.prog 17 #[.slice A n cap] w (CuDr w) := by
  obtain ⟨V0, hV0, hB0, hz0, hu0, hf0⟩ := box_world w #[Value.slice A n cap, .int .i64 0, .int .u64 0] 48
  have hC0 : CurAt w.heap.size A n cap 0 V0 := hV0 ▸ CurAt.start hA cap _
  obtain ⟨g, hg⟩ : ∃ g, g = w.heap.size := ⟨_, rfl⟩
  rw [← hg] at hC0
  have HG := Lib.hid hg
  have hgw : w.heap.size ≤ g := by omega
  have hgV : g + 1 ≤ V0.heap.size := by omega
  have HP := Lib.hid (editions_any g A n cap 0 V0 hC0 (by omega) hn)
  have HB0 := Lib.hid hB0
  clear hg hC0 hu0 hf0 hA hB0
  go_enter Try.func17, Try.ntmps17
  go_wp2_with fail
  rw [← HG.out]
  clear hV0
  ((with_reducible refine (HP.out).mono ?_); rintro e w1 ⟨LA, m, d, xs, rfl, hm, hmd, hdm, hwt, hN, hC, hT⟩)
  have hs1 : V0.heap.size ≤ w1.heap.size := hT.size
  have hm4 : m ≤ 400 := by rw [hm]; exact Nat.le_trans (wt_len xs) hwt
  have HM := Lib.hid hm
  have HW := Lib.hid hwt
  clear hm hwt
  have HN2 := Lib.hid (sheet18_any g A n cap _ w1 hC (by omega) hn)
  clear hC
  go_wp2_with fail
  ((with_reducible refine (HN2.out).mono ?_); rintro e w2 ⟨sh, rfl, hC, hU2⟩)
  replace hN := hN.touch hU2 (by omega)
  replace hT := hT.trans hU2
  have hz_w2 : (World.heap w1).size ≤ (World.heap w2).size := hU2.size
  clear hU2
  have HN3 := Lib.hid (day18_any LA d V0.heap.size m xs HM.out hm4 g A n cap _ w2 hC hN hgV (by omega) hn)
  clear hC
  go_wp2_with fail
  ((with_reducible refine (HN3.out).mono ?_); rintro e w3 ⟨dy, rfl, hC, hU3⟩)
  replace hN := hN.touch hU3 (by omega)
  replace hT := hT.trans hU3
  have hz_w3 : (World.heap w2).size ≤ (World.heap w3).size := hU3.size
  clear hU3
  have HN := Lib.hid hN
  have hB := hT.below HB0.out hgw
  have HB := Lib.hid hB
  have hs9 : V0.heap.size ≤ (World.heap w3).size := by omega
  have hs8 : w.heap.size ≤ V0.heap.size := by omega
  clear hN hC hT hB
  go_wp2
  go_ret3
  have hm := HM.out
  subst hm
  exact ⟨LA, d, xs, sh, dy, rfl, ⟨hmd, hdm⟩, HW.out, HN.out.from_ hs8, HB.out⟩
set_option maxHeartbeats 8000000 in
set_option maxRecDepth 100000 in
theorem drawChangedSince_any (A : Option Addr) (n cap : Nat) (w : World) (hA : Bytes w A n) (hn : n ≤ 1099511627776) :
    Calls Try.prog 15 #[.slice A n cap] w (CsDr w) := by
  obtain ⟨V0, hV0, hB0, hz0, hu0, hf0⟩ := box_world w #[Value.slice A n cap, .int .i64 0, .int .u64 0] 48
  have hC0 : CurAt w.heap.size A n cap 0 V0 := hV0 ▸ CurAt.start hA cap _
  obtain ⟨g, hg⟩ : ∃ g, g = w.heap.size := ⟨_, rfl⟩
  rw [← hg] at hC0
  have HG := Lib.hid hg
  have hgw : w.heap.size ≤ g := by omega
  have hgV : g + 1 ≤ V0.heap.size := by omega
  have HP := Lib.hid (editions_any g A n cap 0 V0 hC0 (by omega) hn)
  have HB0 := Lib.hid hB0
  clear hg hC0 hu0 hf0 hA hB0
  go_enter Try.func15, Try.ntmps15
  go_wp2_with fail
  rw [← HG.out]
  clear hV0
  ((with_reducible refine (HP.out).mono ?_); rintro e w1 ⟨LA, m, d, xs, rfl, hm, hmd, hdm, hwt, hN, hC, hT⟩)
  have hs1 : V0.heap.size ≤ w1.heap.size := hT.size
  have hm4 : m ≤ 400 := by rw [hm]; exact Nat.le_trans (wt_len xs) hwt
  have HM := Lib.hid hm
  have HW := Lib.hid hwt
  clear hm hwt
  have HN2 := Lib.hid (sheet18_any g A n cap _ w1 hC (by omega) hn)
  clear hC
  go_wp2_with fail
  ((with_reducible refine (HN2.out).mono ?_); rintro e w2 ⟨sh, rfl, hC, hU2⟩)
  replace hN := hN.touch hU2 (by omega)
  replace hT := hT.trans hU2
  have hz_w2 : (World.heap w1).size ≤ (World.heap w2).size := hU2.size
  clear hU2
  have hlt3 : g < (World.heap w2).size := hC.lt
  have HN3 := Lib.hid (among_any (some ⟨(World.heap w2).size, 0, none⟩) 6 6 [1, 1, 2, 3, 0, 9] rfl (World.heap w2).size ((World.heap w2).size + 1) g A n cap _ (World.alloc w2 (.cells #[Value.int .i64 (1), Value.int .i64 (1), Value.int .i64 (2), Value.int .i64 (3), Value.int .i64 (0), Value.int .i64 (9)] 3)) (hC.ext (ext_alloc _ _)) (by omega) hn (lit_flo w2 [1, 1, 2, 3, 0, 9] _ _ rfl) (by simp) (by simp) (.inl hlt3))
  clear hC
  go_wp2_with fail
  ((with_reducible refine (HN3.out).mono ?_); rintro e w3 ⟨_, rfl, ⟨nu, _, rfl⟩, hC, hU3⟩)
  replace hU3 := (Touch.of_ext (ext_alloc w2 (.cells #[Value.int .i64 (1), Value.int .i64 (1), Value.int .i64 (2), Value.int .i64 (3), Value.int .i64 (0), Value.int .i64 (9)] 3))).trans hU3
  replace hN := hN.touch hU3 (by omega)
  replace hT := hT.trans hU3
  have hz_w3 : (World.heap w2).size ≤ (World.heap w3).size := hU3.size
  clear hU3
  have HN4 := Lib.hid (day18_any LA d V0.heap.size m xs HM.out hm4 g A n cap _ w3 hC hN hgV (by omega) hn)
  clear hC
  go_wp2_with fail
  ((with_reducible refine (HN4.out).mono ?_); rintro e w4 ⟨dy, rfl, hC, hU4⟩)
  replace hN := hN.touch hU4 (by omega)
  replace hT := hT.trans hU4
  have hz_w4 : (World.heap w3).size ≤ (World.heap w4).size := hU4.size
  clear hU4
  have HN := Lib.hid hN
  have hB := hT.below HB0.out hgw
  have HB := Lib.hid hB
  have hs9 : V0.heap.size ≤ (World.heap w4).size := by omega
  have hs8 : w.heap.size ≤ V0.heap.size := by omega
  clear hN hC hT hB
  go_wp2
  refine bodyPost_ret (v := .tuple #[.slice LA m d, .int .i64 sh, .int .i64 nu, .int .i64 dy]) (by simp [results, Try.results15, go_sem]) rfl ?_
  have hm := HM.out
  subst hm
  exact ⟨LA, d, xs, sh, nu, dy, rfl, ⟨hmd, hdm⟩, HW.out, HN.out.from_ hs8, HB.out⟩
set_option maxHeartbeats 8000000 in
set_option maxRecDepth 100000 in
theorem drawNewEdition_any (A : Option Addr) (n cap : Nat) (w : World) (hA : Bytes w A n) (hn : n ≤ 1099511627776) :
    Calls Try.prog 5 #[.slice A n cap] w (NeDr w) := by
  obtain ⟨V0, hV0, hB0, hz0, hu0, hf0⟩ := box_world w #[Value.slice A n cap, .int .i64 0, .int .u64 0] 48
  have hC0 : CurAt w.heap.size A n cap 0 V0 := hV0 ▸ CurAt.start hA cap _
  obtain ⟨g, hg⟩ : ∃ g, g = w.heap.size := ⟨_, rfl⟩
  rw [← hg] at hC0
  have HG := Lib.hid hg
  have hgw : w.heap.size ≤ g := by omega
  have hgV : g + 1 ≤ V0.heap.size := by omega
  have HP := Lib.hid (editions_any g A n cap 0 V0 hC0 (by omega) hn)
  have HB0 := Lib.hid hB0
  clear hg hC0 hu0 hf0 hA hB0
  go_enter Try.func5, Try.ntmps5
  go_wp2_with fail
  rw [← HG.out]
  clear hV0
  ((with_reducible refine (HP.out).mono ?_); rintro e w1 ⟨LA, m, d, xs, rfl, hm, hmd, hdm, hwt, hN, hC, hT⟩)
  have hs1 : V0.heap.size ≤ w1.heap.size := hT.size
  have hm4 : m ≤ 400 := by rw [hm]; exact Nat.le_trans (wt_len xs) hwt
  have HM := Lib.hid hm
  have HW := Lib.hid hwt
  clear hm hwt
  have HN2 := Lib.hid (day18_any LA d V0.heap.size m xs HM.out hm4 g A n cap _ w1 hC hN hgV (by omega) hn)
  clear hC
  go_wp2_with fail
  ((with_reducible refine (HN2.out).mono ?_); rintro e w2 ⟨dy0, rfl, hC, hU2⟩)
  replace hN := hN.touch hU2 (by omega)
  replace hT := hT.trans hU2
  have hz_w2 : (World.heap w1).size ≤ (World.heap w2).size := hU2.size
  clear hU2
  have HN := Lib.hid hN
  have HC := Lib.hid hC
  have HT := Lib.hid hT
  have hsz : V0.heap.size ≤ (World.heap w2).size := by omega
  clear hN hC hT
  go_upto_region 5 with fail
  go_cut [27] (fun bv wx => ∃ b : Bool, bv = .bool b ∧ (b = true → 0 < m) ∧ NlA V0.heap.size wx LA xs ∧ V0.heap.size ≤ wx.heap.size ∧ CurAt g A n cap 2012 wx ∧ Touch g (g + 1) V0 wx)
  case first =>
    by_cases h0 : m = 0
    · subst h0
      go_wp2
      go_meet
      exact ⟨false, rfl, by simp, HN.out, hsz, HC.out.mono (by omega), HT.out⟩
    · have hm0 : (0 : Int) < (m : Int) := by omega
      have hC := HC.out
      have hT := HT.out
      have hN := HN.out
      clear HC HT HN
      have HN3 := Lib.hid (one_any 3 g A n cap _ w2 hC (by omega) hn)
      clear hC
      go_wp2_with fail
      ((with_reducible refine (HN3.out).mono ?_); rintro e w3 ⟨_, rfl, ⟨b, rfl⟩, hC, hU3⟩)
      replace hN := hN.touch hU3 (by omega)
      replace hT := hT.trans hU3
      have hz_w3 : (World.heap w2).size ≤ (World.heap w3).size := hU3.size
      clear hU3
      have HC := Lib.hid hC
      have HT := Lib.hid hT
      have HN := Lib.hid hN
      have hsy : V0.heap.size ≤ (World.heap w3).size := by omega
      clear hC hT hN
      go_wp2
      go_meet
      exact ⟨!b, rfl, fun _ => by omega, HN.out, hsy, HC.out.mono (by omega), HT.out⟩
  case rest =>
    clear HN HC HT
    obtain ⟨b, rfl, hbm, hN, hsx, hC, hT⟩ := hcut
    obtain ⟨wq, hwq⟩ : ∃ z, z = wc := ⟨_, rfl⟩
    subst hwq
    go_upto_if 27 with fail
    go_cut [8] (fun dv wx => ∃ z : Int, dv = .int .i64 z ∧ NlA V0.heap.size wx LA xs ∧ V0.heap.size ≤ wx.heap.size ∧ CurAt g A n cap 2020 wx ∧ Touch g (g + 1) V0 wx)
    case first =>
      cases b
      · have HC := Lib.hid hC
        have HT := Lib.hid hT
        have HN := Lib.hid hN
        clear hC hT hN
        go_wp2
        go_meet
        exact ⟨dy0, rfl, HN.out, hsx, HC.out.mono (by omega), HT.out⟩
      · have hmp := hbm rfl
        obtain ⟨p, rfl⟩ : ∃ p, m = p + 1 := ⟨m - 1, by omega⟩
        obtain ⟨lb, lv, hLA, hll, hlw, hce⟩ := hN (fun e => by have h := HM.out; rw [e] at h; simp at h)
        subst hLA
        obtain ⟨x, hx⟩ : ∃ x, xs[p]? = some x := ⟨_, List.getElem?_eq_getElem (by have := HM.out; omega)⟩
        have c0 : World.cell? wq ⟨lb, lv + p * 4 + 2, none⟩ = some (.int .i64 x.c) := by obtain ⟨_, _, h1, _⟩ := hce p x hx; exact h1.cc
        have hlg : lb ≠ g := by omega
        have KP := Lib.hid (fun (W : World) (h : Touch g (g + 1) wq W) => (show ∀ o, World.cell? W ⟨lb, o, none⟩ = World.cell? wq ⟨lb, o, none⟩ from fun o => h.cell (b := lb) (o := o) hlw (by omega)))
        have PK := Lib.hid (pick_any 3 g A n cap _ wq.drew (hC.ext (ext_drew _)) (by omega) hn)
        have hp0 : (0 : Int) ≤ (p : Int) := by omega
        have hp1 : (p : Int) < (p : Int) + 1 := by omega
        have hpw : IntKind.i64.wrap ((p : Int) + 1 - 1) = (p : Int) := by rw [show (p : Int) + 1 - 1 = (p : Int) by omega]; exact IntWalk.i64_in _ (by omega)
        have hpw2 : IntKind.i64.wrap (p : Int) = (p : Int) := IntWalk.i64_in _ (by omega)
        have hpw3 : IntKind.i64.wrap (((p + 1 : Nat) : Int) - 1) = (p : Int) := by rw [show ((p + 1 : Nat) : Int) - 1 = (p : Int) by omega]; exact hpw2
        have hp2 : (p : Int) < ((p + 1 : Nat) : Int) := by omega
        have HN := Lib.hid hN
        have HT := Lib.hid hT
        clear hN hC hT hce hx
        go_upto_region 6 with fail
        go_region_held3 (fun w' => ∀ o, World.cell? w' ⟨lb, o, none⟩ = World.cell? wq ⟨lb, o, none⟩) (first | with_reducible exact KP.out _ (Touch.of_ext (ext_drew _)) | with_reducible exact KP.out _ HT5.out) ((first | (go_at_call 24; (with_reducible refine (PK.out).mono ?_); rintro e w5 ⟨_, rfl, ⟨z, rfl, hz0, hz1⟩, hC5, hU5⟩; have HC5 := Lib.hid hC5; have HT5 := Lib.hid ((Touch.of_ext (ext_drew _)).trans hU5); clear hC5 hU5)))
        all_goals (go_wp2_with fail)
        all_goals go_meet
        all_goals exact ⟨_, rfl, HN.out.touch HT5.out hgV, Nat.le_trans hsx HT5.out.size, HC5.out.mono (by omega), HT.out.trans HT5.out⟩
    case rest =>
      clear hN hC hT
      obtain ⟨dy, rfl, hN, hsx, hC, hT⟩ := hcut
      obtain ⟨wz, hwz⟩ : ∃ z, z = wc := ⟨_, rfl⟩
      subst hwz
      have HN21 := Lib.hid (places18_any g A n cap _ wz hC (by omega) hn)
      clear hC
      go_wp2_with fail
      ((with_reducible refine (HN21.out).mono ?_); rintro e w21 ⟨PA, pm, pd, pl, rfl, hpm, hp12, hP, hC, hU21⟩)
      have HPM := Lib.hid hpm
      clear hpm
      replace hN := hN.touch hU21 (by omega)
      replace hT := hT.trans hU21
      have hz_w21 : (World.heap wz).size ≤ (World.heap w21).size := hU21.size
      clear hU21
      have hsp : V0.heap.size ≤ wz.heap.size := by omega
      replace hP := hP.from_ hsp
      have HN22 := Lib.hid (one_any 3 g A n cap _ w21 hC (by omega) hn)
      clear hC
      go_wp2_with fail
      ((with_reducible refine (HN22.out).mono ?_); rintro e w22 ⟨_, rfl, ⟨b2, rfl⟩, hC, hU22⟩)
      replace hN := hN.touch hU22 (by omega)
      replace hP := hP.touch hU22 (by omega)
      replace hT := hT.trans hU22
      have hz_w22 : (World.heap w21).size ≤ (World.heap w22).size := hU22.size
      clear hU22
      cases b2
      · skip
        have HN23 := Lib.hid (sheet18_any g A n cap _ w22 hC (by omega) hn)
        clear hC
        go_wp2_with fail
        ((with_reducible refine (HN23.out).mono ?_); rintro e w23 ⟨sh, rfl, hC, hU23⟩)
        replace hN := hN.touch hU23 (by omega)
        replace hP := hP.touch hU23 (by omega)
        replace hT := hT.trans hU23
        have hz_w23 : (World.heap w22).size ≤ (World.heap w23).size := hU23.size
        clear hU23
        have HN := Lib.hid hN
        have HPF := Lib.hid hP.flo
        have HB := Lib.hid (hT.below HB0.out hgw)
        have hs9 : V0.heap.size ≤ (World.heap w23).size := by omega
        have hs8 : w.heap.size ≤ V0.heap.size := by omega
        clear hN hC hT hP
        go_wp2
        refine bodyPost_ret (v := .tuple #[.slice LA m d, .int .i64 sh, .int .i64 dy, .slice PA pm pd]) (by simp [results, Try.results5, go_sem]) rfl ?_
        have hm := HM.out
        have hpm : pm = List.length (pl : List Int) := HPM.out
        subst hm
        exact ⟨LA, d, xs, sh, dy, PA, pd, pl, by rw [← hpm], ⟨hmd, hdm⟩, HW.out, by rw [← hpm]; exact hp12, HN.out.from_ hs8, HPF.out.mono hs8 (Nat.le_refl _), HB.out⟩
      · skip
        have hx9 := ext_alloc w22 (.cells #[] 3)
        have hO9 := OwnF.empty (f := one) (sz := 1) (e := 3) (w := w22) (lo := V0.heap.size) (by omega)
        replace hC := hC.ext hx9
        replace hT := hT.trans (Touch.of_ext hx9)
        replace hN := hN.ext hx9
        obtain ⟨wb, hwb⟩ : ∃ z, z = w22.alloc (.cells #[] 3) := ⟨_, rfl⟩
        rw [← hwb] at hO9 hC hT hN
        clear hP
        have hP := hO9
        have hsb : (World.heap w22).size ≤ (World.heap wb).size := by rw [hwb]; exact hx9.size
        clear hO9 hx9
        go_upto_region 10 with fail
        rw [← hwb]
        clear hwb
        have HN23 := Lib.hid (sheet18_any g A n cap _ wb hC (by omega) hn)
        clear hC
        go_wp2_with fail
        ((with_reducible refine (HN23.out).mono ?_); rintro e w23 ⟨sh, rfl, hC, hU23⟩)
        replace hN := hN.touch hU23 (by omega)
        replace hP := hP.touch hU23 (by omega)
        replace hT := hT.trans hU23
        have hz_w23 : (World.heap wb).size ≤ (World.heap w23).size := hU23.size
        clear hU23
        have HN := Lib.hid hN
        have HPF := Lib.hid hP.flo
        have HB := Lib.hid (hT.below HB0.out hgw)
        have hs9 : V0.heap.size ≤ (World.heap w23).size := by omega
        have hs8 : w.heap.size ≤ V0.heap.size := by omega
        clear hN hC hT hP
        go_wp2
        refine bodyPost_ret (v := .tuple #[.slice LA m d, .int .i64 sh, .int .i64 dy, .slice (some ⟨(World.heap w22).size, 0, none⟩) 0 0]) (by simp [results, Try.results5, go_sem]) rfl ?_
        have hm := HM.out
        have hpm : 0 = List.length ([] : List Int) := rfl
        subst hm
        exact ⟨LA, d, xs, sh, dy, (some ⟨(World.heap w22).size, 0, none⟩), 0, [], by rw [← hpm], ⟨hmd, hdm⟩, HW.out, by rw [← hpm]; omega, HN.out.from_ hs8, HPF.out.mono hs8 (Nat.le_refl _), HB.out⟩
end Go.Proofs.Ytadcjfbcfiljkaa
