/- Loans drawn. No condition. -/
import Derived.Test.YtnikeelpcokffaaDoorLoE
import Derived.Test.YtnikeelpcokffaaDoorCloL
import Derived.Test.YtnikeelpcokffaaDoorLoanS
import Derived.Test.YtnikeelpcokffaaDoorBoxLaw
import Derived.Deep.DeepCutAuto
import Derived.Deep.RegionLaw
namespace Go.Proofs.YtnikeelpcokffaaDoor
open Go.RowKit
set_option linter.unusedVariables false
set_option linter.unusedSimpArgs false

theorem touchB {M : Nat} {w w' : World} (h : Below M w w') : Touch M w.heap.size w w' := ⟨h.os, h.tape, h.output, h.size, fun i hi ho => h.block i (by omega)⟩
theorem Fl.grownL {α : Type} {f : α → List Int} {sz q : Nat} {w w' : World} {xs : List α} {ob : Option Nat} (h : Fl f sz w (some ⟨q, 0, none⟩) xs) (hg : w.grownBy w' ob) (hne : some q ≠ ob) : Fl f sz w' (some ⟨q, 0, none⟩) xs := fun hn => by
  obtain ⟨b, o, h1, h2, h3⟩ := h hn
  injection h1 with h1
  injection h1 with h1 h4
  subst h1 h4
  exact ⟨q, 0, rfl, Nat.lt_of_lt_of_le h2 hg.size, fun i x hx j v hv => hg.cell (h3 i x hx j v hv) hne⟩
theorem Fl.dropL {w : World} {b o : Nat} {xs : List Loan} (h : Fl Loan.ints 5 w (some ⟨b, o, none⟩) xs) : Fl Loan.ints 5 w (some ⟨b, o + 5, none⟩) (xs.drop 1) := fun hn => by
  obtain ⟨b', o', h1, h2, h3⟩ := h (fun e => hn (by rw [e]; rfl))
  injection h1 with h1
  injection h1 with h1 h4
  subst h1 h4
  refine ⟨b, o + 5, rfl, h2, fun i x hx j v hv => ?_⟩
  rw [List.getElem?_drop] at hx
  have := h3 (1 + i) x hx j v hv
  rwa [show o + (1 + i) * 5 + j = o + 5 + i * 5 + j from by omega] at this
theorem CurAt.belowL {g : Nat} {C : Option Addr} {n cap k M : Nat} {w w' : World} (h : CurAt g C n cap k w) (hb : Below M w w') (hg : g < M) : CurAt g C n cap k w' := by
  obtain ⟨z, q⟩ : ∃ z : Unit, True := ⟨(), trivial⟩
  exact h.touch' (touchB hb) hg
set_option maxHeartbeats 16000000 in
set_option maxRecDepth 100000 in
theorem loans_any (g : Nat) (C : Option Addr) (n cap k : Nat) (w : World) (hC : CurAt g C n cap k w) (hk : k ≤ 274877906944) (hn : n ≤ 1099511627776) :
    Calls Tryd.prog 27 #[.pointer (some ⟨g, 0, none⟩)] w (fun r w' => ∃ (A : Option Addr) (d : Nat) (xs : List Loan), r = .returned (.slice A xs.length d) ∧ xs.length ≤ 17 ∧ (xs.length ≤ d ∧ d ≤ 9223372036854775807) ∧ FlO Loan.ints 5 w.heap.size w'.heap.size w' A xs ∧ CurAt g C n cap (k + 2000) w' ∧ Touch g (g + 1) w w') := by
  have hgw : g < w.heap.size := hC.lt
  have hT := Touch.refl g (g + 1) w
  obtain ⟨i0, hi, hz0e, hz1e, hz2e⟩ := info_parts infoLoan
  have hx0 := ext_alloc w (.cells #[] 43)
  have hC0 := hC.ext hx0
  have hT0 := Touch.of_ext (lo := g) (hi := g + 1) hx0
  obtain ⟨w0, hw0⟩ : ∃ z, z = w.alloc (.cells #[] 43) := ⟨_, rfl⟩
  rw [← hw0] at hC0 hT0
  have hs0 : w.heap.size ≤ w0.heap.size := hT0.size
  clear hC hT hx0
  have hC := hC0
  have hT := hT0
  clear hC0 hT0
  go_enter Tryd.func27, Tryd.ntmps27
  go_upto_region 2 with fail
  rw [← hw0]
  clear hw0
  have hlt1 : g < (World.heap w0).size := hC.lt
  have HN1 := Lib.hid (among_any (some ⟨(World.heap w0).size, 0, none⟩) 4 4 [0, 0, 100, 3980] rfl (World.heap w0).size ((World.heap w0).size + 1) g C n cap _ (World.alloc w0 (.cells #[Value.int .i64 (0), Value.int .i64 (0), Value.int .i64 (100), Value.int .i64 (3980)] 3)) (hC.ext (ext_alloc _ _)) (by omega) hn (lit_flo w0 [0, 0, 100, 3980] _ _ rfl) (by simp) (by simp) (.inl hlt1))
  clear hC
  go_wp2_with fail
  ((with_reducible refine (HN1.out).mono ?_); rintro e w1 ⟨_, rfl, ⟨day0, _, rfl⟩, hC, hU1⟩)
  replace hU1 := (Touch.of_ext (ext_alloc w0 (.cells #[Value.int .i64 (0), Value.int .i64 (0), Value.int .i64 (100), Value.int .i64 (3980)] 3))).trans hU1
  replace hT := hT.trans hU1
  have hz_w1 : (World.heap w0).size ≤ (World.heap w1).size := hU1.size
  clear hU1
  have HN2 := Lib.hid (pick_any 9 g C n cap _ w1 hC (by omega) hn)
  clear hC
  go_wp2_with fail
  ((with_reducible refine (HN2.out).mono ?_); rintro e w2 ⟨_, rfl, ⟨z, rfl, z0, z1⟩, hC, hU2⟩)
  replace hT := hT.trans hU2
  have hz_w2 : (World.heap w1).size ≤ (World.heap w2).size := hU2.size
  clear hU2
  obtain ⟨N, rfl⟩ : ∃ N : Nat, z = N := ⟨z.toNat, by omega⟩
  have hs1 : w.heap.size ≤ (World.heap w2).size := by omega
  have HC1 := Lib.hid hC
  have HT1 := Lib.hid hT
  clear hC hT
  go_wp2
  go_loopw [3, 4, 5, 6] (fun out dv nv _ wr => ∃ (A : Option Addr) (c p : Nat) (xs : List Loan) (dy : Int) (m : Nat), out = .slice A p c ∧ dv = .int .i64 dy ∧ nv = .int .i64 (m : Int) ∧ Hid (p = xs.length) ∧ p ≤ c ∧ c ≤ 9223372036854775807 ∧ m ≤ 8 ∧ p + m ≤ 8 ∧ FlO Loan.ints 5 w.heap.size wr.heap.size wr A xs ∧ w.heap.size ≤ wr.heap.size ∧ CurAt g C n cap (k + 4 + (8 - m) * 100) wr ∧ Touch g (g + 1) w wr) (fun _ _ nv _ _ => (intOf nv).toNat)
  case atStart => exact ⟨_, 0, 0, [], day0, N, rfl, rfl, rfl, rfl, by omega, by omega, by omega, by omega, FlO.nil, hs1, HC1.out.mono (by omega), HT1.out⟩
  case round =>
    clear HC1 HT1 hs1 z0 z1
    obtain ⟨A, c, p, xs, dy, m, rfl, rfl, rfl, hp, hpc, hcm, hm8, hxm, hF, hsr, hC, hT⟩ := hrel
    by_cases hm : 0 < m
    · have hmi : (0 : Int) < (m : Int) := by omega
      obtain ⟨K0, hK0⟩ : ∃ z, z = k + 4 + (8 - m) * 100 := ⟨_, rfl⟩
      rw [← hK0] at hC
      have hKb : K0 + 200 ≤ 412316860416 := by omega
      have HK0 := Lib.hid hK0
      have HC := Lib.hid hC
      have HT := Lib.hid hT
      have HF := Lib.hid hF
      have HLN := Lib.hid (fun (W : World) (h : CurAt g C n cap K0 W) => loan_any dy g C n cap K0 W h (by omega) hn)
      clear hK0 hC hT hF
      go_wp2_with (at_builtin; refine wpList_append_all (f := Loan.ints) rfl _ _ _ rfl wr.heap.size i0 _ 5 40 Tryd.underlying24 hi hz0e hz1e hz2e rfl (by decide) _ [] rfl (OwnF.empty (Nat.le_refl wr.heap.size)) A c xs (congrArg (fun n => Value.slice A n c) hp.out) (HF.out.fl.ext (ext_alloc _ _)) (fun _ => rfl) (by have := hp.out; simp; omega) (by decide) (by simp) ?_; intro v3 w3 hown3 hg3 hb3; rw [List.nil_append] at hown3; have hx3 : Below wr.heap.size wr w3 := (ext_alloc wr _).trans hb3; (obtain ⟨B3, d3, hv3, _⟩ := hown3.form (fun _ => rfl)); subst hv3; rw [← hp.out] at hown3; rw [← hp.out]; have HO3 := Lib.hid hown3; clear hg3 hb3 hown3)
      ((with_reducible refine (HLN.out w3 (HC.out.ext hx3)).mono ?_); rintro e w4 ⟨er, rfl, hC4, hU4⟩)
      have hs4 : wr.heap.size ≤ w4.heap.size := Nat.le_trans hx3.size hU4.size
      have hgr : g + 1 ≤ wr.heap.size := by omega
      have HO4 := Lib.hid (HO3.out.touch hU4 hgr)
      have HF4 := Lib.hid ((HF.out.ext hx3).touch hU4 (.inr (by omega)))
      have HC4 := Lib.hid hC4
      have HT4 := Lib.hid ((HT.out.trans (Touch.of_ext hx3)).trans hU4)
      clear hC4 hU4 hx3 HO3 HF HC HT HLN
      go_wp2_with (at_builtin; refine wpList_append_flat (f := Loan.ints) (y := er) rfl _ _ _ rfl wr.heap.size i0 _ 5 40 Tryd.underlying24 hi hz0e hz1e hz2e rfl (by decide) _ xs rfl rfl HO4.out rfl ?_ (by decide) hs4 ?_; (have h9 := hp.out; omega); intro v6 w6 hown6 hg6 hb6; (obtain ⟨ys, hys⟩ : ∃ ys, ys = xs ++ [er] := ⟨_, rfl⟩); rw [← hys] at hown6; (obtain ⟨B6, d6, hv6, hc6, hF6⟩ := hown6.formL (fun _ => rfl)); subst hv6; have hyl : ys.length = p + 1 := (by have h9 := hp.out; rw [hys]; simp; omega); rw [hyl] at hc6; rw [hyl]; have HP6 := Lib.hid hyl.symm; have HF6 := Lib.hid hF6; have HF9 := Lib.hid (HF4.out.touch (touchB hb6) (.inl (Nat.le_refl _))); have hs6 : wr.heap.size ≤ w6.heap.size := Nat.le_trans hs4 hb6.size; have HC6 := Lib.hid (HC4.out.belowL hb6 hgr); have HT6 := Lib.hid (HT4.out.far' hb6 hsr); clear hown6 hg6 hb6 hF6 hys hyl)
      have HGD := Lib.hid (show Calls Tryd.prog 34 #[.slice B6 (p + 1) d6] w6 (fun e w' => e = .returned (.bool (tb (Lns ys))) ∧ Below w6.heap.size w6 w') from by have h := l11Good_any B6 d6 ys w6 (by have := HP6.out; omega) (by have := HP6.out; omega) hc6.2 HF6.out.fl; rwa [← HP6.out] at h)
      clear HC4 HT4 HF4 HO4
      ((with_reducible refine (HGD.out).mono ?_); rintro e wg ⟨rfl, hbg⟩)
      have hF := HF9.out.ext hbg
      have hN := HF6.out.ext hbg
      have hC := HC6.out.ext hbg
      have hT := HT6.out.trans (Touch.of_ext hbg)
      have hsg : w6.heap.size ≤ wg.heap.size := hbg.size
      clear HC6 HT6 HF6 HF9 hbg HGD
      by_cases hE : Lns ys
      · rw [tb_t hE]
        clear hE hF
        have hlt41 : g < (World.heap wg).size := hC.lt
        have HN41 := Lib.hid (among_any (some ⟨(World.heap wg).size, 0, none⟩) 5 5 [0, 1, 5, 14, 20] rfl (World.heap wg).size ((World.heap wg).size + 1) g C n cap _ (World.alloc wg (.cells #[Value.int .i64 (0), Value.int .i64 (1), Value.int .i64 (5), Value.int .i64 (14), Value.int .i64 (20)] 3)) (hC.ext (ext_alloc _ _)) (by omega) hn (lit_flo wg [0, 1, 5, 14, 20] _ _ rfl) (by simp) (by simp) (.inl hlt41))
        clear hC
        go_wp2_with fail
        ((with_reducible refine (HN41.out).mono ?_); rintro e w41 ⟨_, rfl, ⟨q7, _, rfl⟩, hC, hU41⟩)
        replace hU41 := (Touch.of_ext (ext_alloc wg (.cells #[Value.int .i64 (0), Value.int .i64 (1), Value.int .i64 (5), Value.int .i64 (14), Value.int .i64 (20)] 3))).trans hU41
        replace hN := hN.touch hU41 (by omega)
        replace hT := hT.trans hU41
        have hz_w41 : (World.heap wg).size ≤ (World.heap w41).size := hU41.size
        clear hU41
        have HN42 := Lib.hid (pick_any 150 g C n cap _ w41 hC (by omega) hn)
        clear hC
        go_wp2_with fail
        ((with_reducible refine (HN42.out).mono ?_); rintro e w42 ⟨_, rfl, ⟨z7, rfl, z70, z71⟩, hC, hU42⟩)
        replace hN := hN.touch hU42 (by omega)
        replace hT := hT.trans hU42
        have hz_w42 : (World.heap w41).size ≤ (World.heap w42).size := hU42.size
        clear hU42
        have hs9 : w.heap.size ≤ (World.heap w42).size := by omega
        have hs8 : wr.heap.size ≤ (World.heap w42).size := by omega
        have hs7 : w6.heap.size ≤ (World.heap w42).size := by omega
        have HL := Lib.hid hN
        have HC := Lib.hid hC
        have HT := Lib.hid hT
        clear hN hC hT
        go_wp2
        go_roundw
        case rel => exact ⟨_, _, _, ys, _, m - 1, rfl, rfl, by go_num, HP6.out, by omega, by omega, by omega, by omega, HL.out.mono hsr hs7, hs9, HC.out.mono (by have := HK0.out; omega), HT.out⟩
        case measure => simp [intOf]; omega
      · rw [tb_f hE]
        clear hE
        have HN61 := Lib.hid (one_any 40 g C n cap _ wg hC (by omega) hn)
        clear hC
        go_wp2_with fail
        ((with_reducible refine (HN61.out).mono ?_); rintro e w61 ⟨_, rfl, ⟨b5, rfl⟩, hC, hU61⟩)
        replace hF := hF.touch hU61 (by omega)
        replace hN := hN.touch hU61 (by omega)
        replace hT := hT.trans hU61
        have hz_w61 : (World.heap wg).size ≤ (World.heap w61).size := hU61.size
        clear hU61
        cases b5
        · clear hN
          have hlt62 : g < (World.heap w61).size := hC.lt
          have HN62 := Lib.hid (among_any (some ⟨(World.heap w61).size, 0, none⟩) 5 5 [0, 1, 5, 14, 20] rfl (World.heap w61).size ((World.heap w61).size + 1) g C n cap _ (World.alloc w61 (.cells #[Value.int .i64 (0), Value.int .i64 (1), Value.int .i64 (5), Value.int .i64 (14), Value.int .i64 (20)] 3)) (hC.ext (ext_alloc _ _)) (by omega) hn (lit_flo w61 [0, 1, 5, 14, 20] _ _ rfl) (by simp) (by simp) (.inl hlt62))
          clear hC
          go_wp2_with fail
          ((with_reducible refine (HN62.out).mono ?_); rintro e w62 ⟨_, rfl, ⟨q7, _, rfl⟩, hC, hU62⟩)
          replace hU62 := (Touch.of_ext (ext_alloc w61 (.cells #[Value.int .i64 (0), Value.int .i64 (1), Value.int .i64 (5), Value.int .i64 (14), Value.int .i64 (20)] 3))).trans hU62
          replace hF := hF.touch hU62 (by omega)
          replace hT := hT.trans hU62
          have hz_w62 : (World.heap w61).size ≤ (World.heap w62).size := hU62.size
          clear hU62
          have HN63 := Lib.hid (pick_any 150 g C n cap _ w62 hC (by omega) hn)
          clear hC
          go_wp2_with fail
          ((with_reducible refine (HN63.out).mono ?_); rintro e w63 ⟨_, rfl, ⟨z7, rfl, z70, z71⟩, hC, hU63⟩)
          replace hF := hF.touch hU63 (by omega)
          replace hT := hT.trans hU63
          have hz_w63 : (World.heap w62).size ≤ (World.heap w63).size := hU63.size
          clear hU63
          have hs9 : w.heap.size ≤ (World.heap w63).size := by omega
          have hs8 : wr.heap.size ≤ (World.heap w63).size := by omega
          have hs7 : w6.heap.size ≤ (World.heap w63).size := by omega
          have HL := Lib.hid hF
          have HC := Lib.hid hC
          have HT := Lib.hid hT
          clear hF hC hT
          go_wp2
          go_roundw
          case rel => exact ⟨_, _, _, xs, _, m - 1, rfl, rfl, by go_num, hp, by omega, by omega, by omega, by omega, HL.out.mono (Nat.le_refl _) hs8, hs9, HC.out.mono (by have := HK0.out; omega), HT.out⟩
          case measure => simp [intOf]; omega
        · clear hF
          have hlt81 : g < (World.heap w61).size := hC.lt
          have HN81 := Lib.hid (among_any (some ⟨(World.heap w61).size, 0, none⟩) 5 5 [0, 1, 5, 14, 20] rfl (World.heap w61).size ((World.heap w61).size + 1) g C n cap _ (World.alloc w61 (.cells #[Value.int .i64 (0), Value.int .i64 (1), Value.int .i64 (5), Value.int .i64 (14), Value.int .i64 (20)] 3)) (hC.ext (ext_alloc _ _)) (by omega) hn (lit_flo w61 [0, 1, 5, 14, 20] _ _ rfl) (by simp) (by simp) (.inl hlt81))
          clear hC
          go_wp2_with fail
          ((with_reducible refine (HN81.out).mono ?_); rintro e w81 ⟨_, rfl, ⟨q7, _, rfl⟩, hC, hU81⟩)
          replace hU81 := (Touch.of_ext (ext_alloc w61 (.cells #[Value.int .i64 (0), Value.int .i64 (1), Value.int .i64 (5), Value.int .i64 (14), Value.int .i64 (20)] 3))).trans hU81
          replace hN := hN.touch hU81 (by omega)
          replace hT := hT.trans hU81
          have hz_w81 : (World.heap w61).size ≤ (World.heap w81).size := hU81.size
          clear hU81
          have HN82 := Lib.hid (pick_any 150 g C n cap _ w81 hC (by omega) hn)
          clear hC
          go_wp2_with fail
          ((with_reducible refine (HN82.out).mono ?_); rintro e w82 ⟨_, rfl, ⟨z7, rfl, z70, z71⟩, hC, hU82⟩)
          replace hN := hN.touch hU82 (by omega)
          replace hT := hT.trans hU82
          have hz_w82 : (World.heap w81).size ≤ (World.heap w82).size := hU82.size
          clear hU82
          have hs9 : w.heap.size ≤ (World.heap w82).size := by omega
          have hs8 : wr.heap.size ≤ (World.heap w82).size := by omega
          have hs7 : w6.heap.size ≤ (World.heap w82).size := by omega
          have HL := Lib.hid hN
          have HC := Lib.hid hC
          have HT := Lib.hid hT
          clear hN hC hT
          go_wp2
          go_roundw
          case rel => exact ⟨_, _, _, ys, _, m - 1, rfl, rfl, by go_num, HP6.out, by omega, by omega, by omega, by omega, HL.out.mono hsr hs7, hs9, HC.out.mono (by have := HK0.out; omega), HT.out⟩
          case measure => simp [intOf]; omega
    · have hm0 : m = 0 := by omega
      subst hm0
      have hp8 : p ≤ 8 := by omega
      clear hm hm8 hxm
      have HN101 := Lib.hid (one_any 24 g C n cap _ wr hC (by omega) hn)
      clear hC
      go_wp2_with fail
      ((with_reducible refine (HN101.out).mono ?_); rintro e w101 ⟨_, rfl, ⟨b, rfl⟩, hC, hU101⟩)
      replace hF := hF.touch hU101 (by omega)
      replace hT := hT.trans hU101
      have hz_w101 : (World.heap wr).size ≤ (World.heap w101).size := hU101.size
      clear hU101
      cases b
      · have hp17 : p ≤ 17 := by omega
        have HN102 := Lib.hid (one_any 60 g C n cap _ w101 hC (by omega) hn)
        clear hC
        go_wp2_with fail
        ((with_reducible refine (HN102.out).mono ?_); rintro e w102 ⟨_, rfl, ⟨b9, rfl⟩, hC, hU102⟩)
        replace hF := hF.touch hU102 (by omega)
        replace hT := hT.trans hU102
        have hz_w102 : (World.heap w101).size ≤ (World.heap w102).size := hU102.size
        clear hU102
        cases b9
        · have HF := Lib.hid (hF.mono (Nat.le_refl _) (show (World.heap wr).size ≤ (World.heap w102).size by omega))
          have HC := Lib.hid hC
          have HT := Lib.hid hT
          clear hF hC hT
          go_wp2
          go_ret
          exact ⟨A, c, xs, by rw [← hp.out]; rfl, by have := hp.out; omega, by rw [← hp.out]; exact ⟨hpc, hcm⟩, HF.out, HC.out.mono (by omega), HT.out⟩
        · by_cases hp1 : 1 < p
          · have hpi : (1 : Int) < (p : Int) := by omega
            obtain ⟨x, b, o, hx, hAe, hbl, hcl⟩ := hF.fl.at_ (k := 0) (by rw [← hp.out]; omega)
            subst hAe
            obtain ⟨b', o', hbo, hlo9, hhi9, hbl9, _⟩ := hF (fun e => by subst e; simp at hx)
            injection hbo with hbo
            injection hbo with hbo hbo2
            subst hbo hbo2
            have c0 : World.cell? w102 ⟨b, o, none⟩ = some (.int .i64 x.sheet) := by have h := hcl 0 _ rfl; simpa using h
            have c1 : World.cell? w102 ⟨b, o + 1, none⟩ = some (.int .i64 x.reader) := by have h := hcl 1 _ rfl; simpa using h
            have c2 : World.cell? w102 ⟨b, o + 2, none⟩ = some (.int .i64 x.out) := by have h := hcl 2 _ rfl; simpa using h
            have c3 : World.cell? w102 ⟨b, o + 3, none⟩ = some (.int .i64 x.due) := by have h := hcl 3 _ rfl; simpa using h
            have c4 : World.cell? w102 ⟨b, o + 4, none⟩ = some (.int .i64 x.back) := by have h := hcl 4 _ rfl; simpa using h
            have HX := Lib.hid hx
            have hbwy : b < w102.heap.size := hbl
            have hp1i : (1 : Int) ≤ (p : Int) := by omega
            have hc1 : ¬ c = 1 := by omega
            have hp0 : 0 < p := by omega
            have HE1 := Lib.hid ((OwnF.empty (f := Loan.ints) (sz := 5) (e := 43) (Nat.le_refl w102.heap.size)).ext (ext_drew _))
            have HE2 := Lib.hid (((OwnF.empty (f := Loan.ints) (sz := 5) (e := 43) (Nat.le_refl w102.heap.size)).ext (ext_alloc _ (Obj.cells #[Value.int .i64 x.sheet, .int .i64 x.reader, .int .i64 x.out, .int .i64 x.due, .int .i64 x.back] 43))).ext (ext_drew _))
            have HE3 := Lib.hid (show OwnF Loan.ints 5 w102.heap.size 43 (((w102.alloc (Obj.cells #[Value.int .i64 x.sheet, .int .i64 x.reader, .int .i64 x.out, .int .i64 x.due, .int .i64 x.back] 43)).alloc (Obj.cells #[] 43)).drew) (.slice (some ⟨w102.heap.size + 1, 0, none⟩) 0 0) [] from by have h := (OwnF.empty (f := Loan.ints) (sz := 5) (e := 43) (lo := w102.heap.size) (w := w102.alloc (Obj.cells #[Value.int .i64 x.sheet, .int .i64 x.reader, .int .i64 x.out, .int .i64 x.due, .int .i64 x.back] 43)) (by simp)).ext (ext_drew _); simpa using h)
            have HLA2 := Lib.hid (show Fl Loan.ints 5 (((w102.alloc (Obj.cells #[] 43)).alloc (Obj.cells #[Value.int .i64 x.sheet, .int .i64 x.reader, .int .i64 x.out, .int .i64 x.due, .int .i64 x.back] 43)).drew) (some ⟨w102.heap.size + 1, 0, none⟩) [x] from by have h := (Fl.box (f := Loan.ints) (sz := 5) (e := 43) (w102.alloc (Obj.cells #[] 43)) x).ext (ext_drew _); rw [show (w102.alloc (Obj.cells #[] 43)).heap.size = w102.heap.size + 1 from by simp] at h; exact h)
            have HLA3 := Lib.hid (show Fl Loan.ints 5 (((w102.alloc (Obj.cells #[Value.int .i64 x.sheet, .int .i64 x.reader, .int .i64 x.out, .int .i64 x.due, .int .i64 x.back] 43)).alloc (Obj.cells #[] 43)).drew) (some ⟨w102.heap.size, 0, none⟩) [x] from ((Fl.box (f := Loan.ints) (sz := 5) (e := 43) w102 x).ext (ext_alloc _ _)).ext (ext_drew _))
            have HATB := Lib.hid (fun (W : World) (hb : Below w102.heap.size w102 W) => (hF.fl.ext hb).dropL)
            have HBX := Lib.hid (fun W : World => (show Fl Loan.ints 5 (W.alloc (Obj.cells #[Value.int .i64 x.sheet, .int .i64 x.reader, .int .i64 x.out, .int .i64 x.due, .int .i64 x.back] 43)) (some ⟨W.heap.size, 0, none⟩) [x] from Fl.box (f := Loan.ints) W x))
            have HSL : Hid (Value.slice (some ⟨b, o + 5, none⟩) (p - 1) (c - 1) = Value.slice (some ⟨b, o + 5, none⟩) (xs.drop 1).length (c - 1)) := by unfold Hid; rw [List.length_drop, ← hp.out]
            have HMK := Lib.hid (fun (v4 : Value) (w4 : World) (h1 : OwnF Loan.ints 5 w102.heap.size 43 w4 v4 (xs.drop 1 ++ [x])) => (show ∃ B d, v4 = .slice B p d ∧ (p ≤ d ∧ d ≤ 9223372036854775807) ∧ FlO Loan.ints 5 w.heap.size w4.heap.size w4 B (xs.drop 1 ++ [x]) from by
              obtain ⟨B, d, h2, h3, h4⟩ := h1.formL (fun _ => rfl)
              have hl : (xs.drop 1 ++ [x]).length = p := by have := hp.out; simp; omega
              rw [hl] at h2 h3
              exact ⟨B, d, h2, h3, h4.mono (by omega) (Nat.le_refl _)⟩))
            have HP := hp
            have HC := Lib.hid hC
            have HT := Lib.hid hT
            clear hcl hx hC hT hF hlo9 hhi9 hbl9 hbl
            go_wp2
            go_cut [3] (fun ov wx => ∃ (bn : Option Addr) (cn : Nat), ov = .slice bn p cn ∧ ((p ≤ cn ∧ cn ≤ 9223372036854775807) ∧ FlO Loan.ints 5 w.heap.size wx.heap.size wx bn (xs.drop 1 ++ [x])) ∧ Below w102.heap.size w102 wx)
            case first =>
              go_region_law (first | (refine step_append_all (f := Loan.ints) rfl (.tmp 68) (.tmp 70) 24 rfl w102.heap.size i0 _ 5 40 Tryd.underlying24 hi hz0e hz1e hz2e rfl (by decide) (.slice (some ⟨w102.heap.size, 0, none⟩) 0 0) [] rfl ?_ (some ⟨b, o + 5, none⟩) (c - 1) (xs.drop 1) ?_ ?_ (fun _ => rfl) ?_ (by decide) ?_ ?_; with_reducible exact HE1.out; (simp [Act.eval]; have h9 := HP.out; omega); with_reducible exact HATB.out _ (ext_trans (ext_alloc _ _) (ext_drew _)); (have h9 := HP.out; simp; omega); simp; intro v3 w3 hown3 hg3 hb3; have hbz3 : Below w102.heap.size w102 w3 := (((Below.refl w102.heap.size w102).alloc (Nat.le_refl _) _).drew).trans hb3; have hs3 : w102.heap.size ≤ w3.heap.size := hbz3.size; rw [List.nil_append] at hown3; have f0 := (hbz3.cell (p := ⟨b, o, none⟩) hbwy).trans c0; have f1 := (hbz3.cell (p := ⟨b, o + 1, none⟩) hbwy).trans c1; have f2 := (hbz3.cell (p := ⟨b, o + 2, none⟩) hbwy).trans c2; have f3 := (hbz3.cell (p := ⟨b, o + 3, none⟩) hbwy).trans c3; have f4 := (hbz3.cell (p := ⟨b, o + 4, none⟩) hbwy).trans c4) | (refine step_append_all (f := Loan.ints) rfl (.tmp 68) (.tmp 70) 24 rfl w102.heap.size i0 _ 5 40 Tryd.underlying24 hi hz0e hz1e hz2e rfl (by decide) (.slice (some ⟨w102.heap.size, 0, none⟩) 0 0) [] rfl ?_ (some ⟨b, o + 5, none⟩) (c - 1) (xs.drop 1) ?_ ?_ (fun _ => rfl) ?_ (by decide) ?_ ?_; with_reducible exact HE2.out; (simp [Act.eval]; have h9 := HP.out; omega); with_reducible exact HATB.out _ (ext_trans (ext_trans (ext_alloc _ _) (ext_alloc _ _)) (ext_drew _)); (have h9 := HP.out; simp; omega); (simp; omega); intro v3 w3 hown3 hg3 hb3; have hbz3 : Below w102.heap.size w102 w3 := ((((Below.refl w102.heap.size w102).alloc (Nat.le_refl _) _).alloc (ext_alloc w102 _).size _).drew).trans hb3; have hs3 : w102.heap.size ≤ w3.heap.size := hbz3.size; rw [List.nil_append] at hown3; have HL3 := Lib.hid (HLA2.out.grownL hg3 (by simp [Value.ownBlock] <;> omega))) | (refine step_append_all (f := Loan.ints) rfl (.tmp 68) (.tmp 70) 24 rfl w102.heap.size i0 _ 5 40 Tryd.underlying24 hi hz0e hz1e hz2e rfl (by decide) (.slice (some ⟨w102.heap.size + 1, 0, none⟩) 0 0) [] rfl ?_ (some ⟨b, o + 5, none⟩) (c - 1) (xs.drop 1) ?_ ?_ (fun _ => rfl) ?_ (by decide) ?_ ?_; with_reducible exact HE3.out; (simp [Act.eval]; have h9 := HP.out; omega); with_reducible exact HATB.out _ (ext_trans (ext_trans (ext_alloc _ _) (ext_alloc _ _)) (ext_drew _)); (have h9 := HP.out; simp; omega); (simp; omega); intro v3 w3 hown3 hg3 hb3; have hbz3 : Below w102.heap.size w102 w3 := ((((Below.refl w102.heap.size w102).alloc (Nat.le_refl _) _).alloc (ext_alloc w102 _).size _).drew).trans hb3; have hs3 : w102.heap.size ≤ w3.heap.size := hbz3.size; rw [List.nil_append] at hown3; have HL3 := Lib.hid (HLA3.out.grownL hg3 (by simp [Value.ownBlock] <;> omega))) | (refine step_append_all (f := Loan.ints) rfl (.tmp 71) (.tmp 75) 24 rfl w102.heap.size i0 _ 5 40 Tryd.underlying24 hi hz0e hz1e hz2e rfl (by decide) (v3) (xs.drop 1) rfl ?_ (some ⟨w3.heap.size, 0, none⟩) 1 [x] ?_ ?_ (fun _ => rfl) ?_ (by decide) ?_ ?_; with_reducible exact hown3.ext (ext_alloc _ _); simp [Act.eval]; exact (HBX.out w3); (have h9 := HP.out; simp; omega); (simp; omega); intro v4 w4 hown4 hg4 hb4; have hbz4 : Below w102.heap.size w102 w4 := (hbz3.alloc hs3 _).trans hb4; have hE4 := HMK.out v4 w4 hown4; obtain ⟨bn, cn, hvn, hE4⟩ := hE4; subst hvn; have HE4 := Lib.hid hE4; have HB4 := Lib.hid hbz4; clear hown4 hg4 hb4 hE4 hbz4) | (refine step_append_all (f := Loan.ints) rfl (.tmp 71) (.tmp 75) 24 rfl w102.heap.size i0 _ 5 40 Tryd.underlying24 hi hz0e hz1e hz2e rfl (by decide) (v3) (xs.drop 1) rfl ?_ (some ⟨w102.heap.size + 1, 0, none⟩) 1 [x] ?_ ?_ (fun _ => rfl) ?_ (by decide) ?_ ?_; with_reducible exact hown3; simp [Act.eval]; exact HL3.out; (have h9 := HP.out; simp; omega); exact hs3; intro v4 w4 hown4 hg4 hb4; have hbz4 : Below w102.heap.size w102 w4 := hbz3.trans hb4; have hE4 := HMK.out v4 w4 hown4; obtain ⟨bn, cn, hvn, hE4⟩ := hE4; subst hvn; have HE4 := Lib.hid hE4; have HB4 := Lib.hid hbz4; clear hown4 hg4 hb4 hE4 hbz4) | (refine step_append_all (f := Loan.ints) rfl (.tmp 71) (.tmp 75) 24 rfl w102.heap.size i0 _ 5 40 Tryd.underlying24 hi hz0e hz1e hz2e rfl (by decide) (v3) (xs.drop 1) rfl ?_ (some ⟨w102.heap.size, 0, none⟩) 1 [x] ?_ ?_ (fun _ => rfl) ?_ (by decide) ?_ ?_; with_reducible exact hown3; simp [Act.eval]; exact HL3.out; (have h9 := HP.out; simp; omega); exact hs3; intro v4 w4 hown4 hg4 hb4; have hbz4 : Below w102.heap.size w102 w4 := hbz3.trans hb4; have hE4 := HMK.out v4 w4 hown4; obtain ⟨bn, cn, hvn, hE4⟩ := hE4; subst hvn; have HE4 := Lib.hid hE4; have HB4 := Lib.hid hbz4; clear hown4 hg4 hb4 hE4 hbz4))
              all_goals (go_wp2_with fail)
              all_goals go_meet
              all_goals exact ⟨bn, cn, rfl, HE4.out, HB4.out⟩
            case rest =>
              obtain ⟨bn, cn, rfl, hE, hbn⟩ := hcut
              clear HE1 HE2 HE3 HLA2 HLA3 HATB HBX HMK HSL c0 c1 c2 c3 c4
              obtain ⟨wn, hwn⟩ : ∃ z, z = wc := ⟨_, rfl⟩
              subst hwn
              have HC := Lib.hid (HC.out.ext hbn)
              have HT := Lib.hid (HT.out.trans (Touch.of_ext hbn))
              have hl : (xs.drop 1 ++ [x]).length = p := by have := hp.out; simp; omega
              have HL := Lib.hid hl
              have HE := Lib.hid hE
              clear hE hbn hl
              go_wp2
              go_ret
              exact ⟨bn, cn, xs.drop 1 ++ [x], by rw [HL.out]; rfl, by rw [HL.out]; exact hp17, by rw [HL.out]; exact HE.out.1, HE.out.2, HC.out.mono (by omega), HT.out⟩
          · have hpi : ¬ (1 : Int) < (p : Int) := by omega
            have HF := Lib.hid (hF.mono (Nat.le_refl _) (show (World.heap wr).size ≤ (World.heap w102).size by omega))
            have HC := Lib.hid hC
            have HT := Lib.hid hT
            clear hF hC hT
            go_wp2
            go_ret
            exact ⟨A, c, xs, by rw [← hp.out]; rfl, by have := hp.out; omega, by rw [← hp.out]; exact ⟨hpc, hcm⟩, HF.out, HC.out.mono (by omega), HT.out⟩
      · have hs2 : w.heap.size ≤ (World.heap w101).size := by omega
        have hx9 := ext_alloc w101 (.cells #[] 43)
        have HOE := Lib.hid (OwnF.empty (f := Loan.ints) (sz := 5) (e := 43) hs2)
        have HC := Lib.hid (hC.ext hx9)
        have HT := Lib.hid (hT.trans (Touch.of_ext hx9))
        have hs4 : w.heap.size ≤ (w101.alloc (.cells #[] 43)).heap.size := Nat.le_trans hs2 hx9.size
        clear hF hC hT hx9 hp hpc hcm
        go_wp2
        go_loopw [3, 7] (fun out nv wr => ∃ (v : Value) (zs : List Loan) (j : Nat), out = v ∧ nv = .int .i64 (j : Int) ∧ j ≤ 16 ∧ zs.length = j ∧ OwnF Loan.ints 5 w.heap.size 43 wr v zs ∧ w.heap.size ≤ wr.heap.size ∧ CurAt g C n cap (k + 1000 + j * 2) wr ∧ Touch g (g + 1) w wr) (fun _ nv _ => 16 - (intOf nv).toNat)
        case atStart => exact ⟨_, [], 0, rfl, rfl, by omega, rfl, HOE.out, hs4, HC.out.mono (by omega), HT.out⟩
        case round =>
          clear HOE HC HT hs4 hs2 hz_w101
          obtain ⟨v, zs, j, rfl, rfl, hj, hzj, hO, hsr2, hC, hT⟩ := hrel
          skip
          have HN131 := Lib.hid (pick_any 2 g C n cap _ wr hC (by omega) hn)
          clear hC
          go_wp2_with fail
          ((with_reducible refine (HN131.out).mono ?_); rintro e w131 ⟨_, rfl, ⟨u, rfl, u0, u1⟩, hC, hU131⟩)
          replace hO := hO.touch hU131 (by omega)
          replace hT := hT.trans hU131
          have hz_w131 : (World.heap wr).size ≤ (World.heap w131).size := hU131.size
          clear hU131
          have hs5 : w.heap.size ≤ (World.heap w131).size := by omega
          have HC := Lib.hid hC
          have HT := Lib.hid hT
          clear hC hT
          by_cases hlt : (j : Int) < 15 + u
          · go_wp2_with (at_builtin; refine wpList_append_flat (f := Loan.ints) (y := ⟨_, _, _, _, _⟩) rfl _ _ _ rfl w.heap.size i0 _ 5 40 Tryd.underlying24 hi hz0e hz1e hz2e rfl (by decide) _ zs rfl rfl hO rfl ?_ (by decide) hs5 ?_; omega; intro v6 w6 hown6 hg6 hb6; have HC6 := Lib.hid (HC.out.belowL hb6 hgw); have HT6 := Lib.hid (HT.out.far' hb6 (Nat.le_refl _)); have hs6 : w.heap.size ≤ w6.heap.size := Nat.le_trans hs5 hb6.size; have HO6 := Lib.hid hown6; clear hown6 hg6 hb6)
            go_roundw
            case rel => exact ⟨_, _, j + 1, rfl, by go_num, by omega, by simp; omega, HO6.out, hs6, HC6.out.mono (by omega), HT6.out⟩
            case measure => simp [intOf]; omega
          · obtain ⟨A, c, hv9, hc9, hF9⟩ := hO.formL (fun _ => rfl)
            obtain ⟨p, hp9⟩ : ∃ z, z = zs.length := ⟨_, rfl⟩
            rw [← hp9] at hv9 hc9
            subst hv9
            obtain ⟨xs, hxz⟩ : ∃ xs, xs = zs := ⟨_, rfl⟩
            rw [← hxz] at hF9 hp9
            have hp : Hid (p = xs.length) := hp9
            have hpc := hc9.1
            have hcm := hc9.2
            have hp17 : p ≤ 17 := by rw [hp9, hxz]; omega
            have hF := hF9
            have hC := HC.out
            have hT := HT.out
            have hsr3 : w.heap.size ≤ (World.heap w131).size := hs5
            clear hO hF9 HC HT hzj hxz hp9 hc9
            have HN132 := Lib.hid (one_any 60 g C n cap _ w131 hC (by omega) hn)
            clear hC
            go_wp2_with fail
            ((with_reducible refine (HN132.out).mono ?_); rintro e w132 ⟨_, rfl, ⟨b9, rfl⟩, hC, hU132⟩)
            replace hF := hF.touch hU132 (by omega)
            replace hT := hT.trans hU132
            have hz_w132 : (World.heap w131).size ≤ (World.heap w132).size := hU132.size
            clear hU132
            cases b9
            · have HF := Lib.hid (hF.mono (Nat.le_refl _) (show (World.heap w131).size ≤ (World.heap w132).size by omega))
              have HC := Lib.hid hC
              have HT := Lib.hid hT
              clear hF hC hT
              go_wp2
              go_ret
              exact ⟨A, c, xs, by rw [← hp.out]; rfl, by have := hp.out; omega, by rw [← hp.out]; exact ⟨hpc, hcm⟩, HF.out, HC.out.mono (by omega), HT.out⟩
            · by_cases hp1 : 1 < p
              · have hpi : (1 : Int) < (p : Int) := by omega
                obtain ⟨x, b, o, hx, hAe, hbl, hcl⟩ := hF.fl.at_ (k := 0) (by rw [← hp.out]; omega)
                subst hAe
                obtain ⟨b', o', hbo, hlo9, hhi9, hbl9, _⟩ := hF (fun e => by subst e; simp at hx)
                injection hbo with hbo
                injection hbo with hbo hbo2
                subst hbo hbo2
                have c0 : World.cell? w132 ⟨b, o, none⟩ = some (.int .i64 x.sheet) := by have h := hcl 0 _ rfl; simpa using h
                have c1 : World.cell? w132 ⟨b, o + 1, none⟩ = some (.int .i64 x.reader) := by have h := hcl 1 _ rfl; simpa using h
                have c2 : World.cell? w132 ⟨b, o + 2, none⟩ = some (.int .i64 x.out) := by have h := hcl 2 _ rfl; simpa using h
                have c3 : World.cell? w132 ⟨b, o + 3, none⟩ = some (.int .i64 x.due) := by have h := hcl 3 _ rfl; simpa using h
                have c4 : World.cell? w132 ⟨b, o + 4, none⟩ = some (.int .i64 x.back) := by have h := hcl 4 _ rfl; simpa using h
                have HX := Lib.hid hx
                have hbwy : b < w132.heap.size := hbl
                have hp1i : (1 : Int) ≤ (p : Int) := by omega
                have hc1 : ¬ c = 1 := by omega
                have hp0 : 0 < p := by omega
                have HE1 := Lib.hid ((OwnF.empty (f := Loan.ints) (sz := 5) (e := 43) (Nat.le_refl w132.heap.size)).ext (ext_drew _))
                have HE2 := Lib.hid (((OwnF.empty (f := Loan.ints) (sz := 5) (e := 43) (Nat.le_refl w132.heap.size)).ext (ext_alloc _ (Obj.cells #[Value.int .i64 x.sheet, .int .i64 x.reader, .int .i64 x.out, .int .i64 x.due, .int .i64 x.back] 43))).ext (ext_drew _))
                have HE3 := Lib.hid (show OwnF Loan.ints 5 w132.heap.size 43 (((w132.alloc (Obj.cells #[Value.int .i64 x.sheet, .int .i64 x.reader, .int .i64 x.out, .int .i64 x.due, .int .i64 x.back] 43)).alloc (Obj.cells #[] 43)).drew) (.slice (some ⟨w132.heap.size + 1, 0, none⟩) 0 0) [] from by have h := (OwnF.empty (f := Loan.ints) (sz := 5) (e := 43) (lo := w132.heap.size) (w := w132.alloc (Obj.cells #[Value.int .i64 x.sheet, .int .i64 x.reader, .int .i64 x.out, .int .i64 x.due, .int .i64 x.back] 43)) (by simp)).ext (ext_drew _); simpa using h)
                have HLA2 := Lib.hid (show Fl Loan.ints 5 (((w132.alloc (Obj.cells #[] 43)).alloc (Obj.cells #[Value.int .i64 x.sheet, .int .i64 x.reader, .int .i64 x.out, .int .i64 x.due, .int .i64 x.back] 43)).drew) (some ⟨w132.heap.size + 1, 0, none⟩) [x] from by have h := (Fl.box (f := Loan.ints) (sz := 5) (e := 43) (w132.alloc (Obj.cells #[] 43)) x).ext (ext_drew _); rw [show (w132.alloc (Obj.cells #[] 43)).heap.size = w132.heap.size + 1 from by simp] at h; exact h)
                have HLA3 := Lib.hid (show Fl Loan.ints 5 (((w132.alloc (Obj.cells #[Value.int .i64 x.sheet, .int .i64 x.reader, .int .i64 x.out, .int .i64 x.due, .int .i64 x.back] 43)).alloc (Obj.cells #[] 43)).drew) (some ⟨w132.heap.size, 0, none⟩) [x] from ((Fl.box (f := Loan.ints) (sz := 5) (e := 43) w132 x).ext (ext_alloc _ _)).ext (ext_drew _))
                have HATB := Lib.hid (fun (W : World) (hb : Below w132.heap.size w132 W) => (hF.fl.ext hb).dropL)
                have HBX := Lib.hid (fun W : World => (show Fl Loan.ints 5 (W.alloc (Obj.cells #[Value.int .i64 x.sheet, .int .i64 x.reader, .int .i64 x.out, .int .i64 x.due, .int .i64 x.back] 43)) (some ⟨W.heap.size, 0, none⟩) [x] from Fl.box (f := Loan.ints) W x))
                have HSL : Hid (Value.slice (some ⟨b, o + 5, none⟩) (p - 1) (c - 1) = Value.slice (some ⟨b, o + 5, none⟩) (xs.drop 1).length (c - 1)) := by unfold Hid; rw [List.length_drop, ← hp.out]
                have HMK := Lib.hid (fun (v4 : Value) (w4 : World) (h1 : OwnF Loan.ints 5 w132.heap.size 43 w4 v4 (xs.drop 1 ++ [x])) => (show ∃ B d, v4 = .slice B p d ∧ (p ≤ d ∧ d ≤ 9223372036854775807) ∧ FlO Loan.ints 5 w.heap.size w4.heap.size w4 B (xs.drop 1 ++ [x]) from by
                  obtain ⟨B, d, h2, h3, h4⟩ := h1.formL (fun _ => rfl)
                  have hl : (xs.drop 1 ++ [x]).length = p := by have := hp.out; simp; omega
                  rw [hl] at h2 h3
                  exact ⟨B, d, h2, h3, h4.mono (by omega) (Nat.le_refl _)⟩))
                have HP := hp
                have HC := Lib.hid hC
                have HT := Lib.hid hT
                clear hcl hx hC hT hF hlo9 hhi9 hbl9 hbl
                go_wp2
                go_cut [3] (fun ov wx => ∃ (bn : Option Addr) (cn : Nat), ov = .slice bn p cn ∧ ((p ≤ cn ∧ cn ≤ 9223372036854775807) ∧ FlO Loan.ints 5 w.heap.size wx.heap.size wx bn (xs.drop 1 ++ [x])) ∧ Below w132.heap.size w132 wx)
                case first =>
                  go_region_law (first | (refine step_append_all (f := Loan.ints) rfl (.tmp 68) (.tmp 70) 24 rfl w132.heap.size i0 _ 5 40 Tryd.underlying24 hi hz0e hz1e hz2e rfl (by decide) (.slice (some ⟨w132.heap.size, 0, none⟩) 0 0) [] rfl ?_ (some ⟨b, o + 5, none⟩) (c - 1) (xs.drop 1) ?_ ?_ (fun _ => rfl) ?_ (by decide) ?_ ?_; with_reducible exact HE1.out; (simp [Act.eval]; have h9 := HP.out; omega); with_reducible exact HATB.out _ (ext_trans (ext_alloc _ _) (ext_drew _)); (have h9 := HP.out; simp; omega); simp; intro v3 w3 hown3 hg3 hb3; have hbz3 : Below w132.heap.size w132 w3 := (((Below.refl w132.heap.size w132).alloc (Nat.le_refl _) _).drew).trans hb3; have hs3 : w132.heap.size ≤ w3.heap.size := hbz3.size; rw [List.nil_append] at hown3; have f0 := (hbz3.cell (p := ⟨b, o, none⟩) hbwy).trans c0; have f1 := (hbz3.cell (p := ⟨b, o + 1, none⟩) hbwy).trans c1; have f2 := (hbz3.cell (p := ⟨b, o + 2, none⟩) hbwy).trans c2; have f3 := (hbz3.cell (p := ⟨b, o + 3, none⟩) hbwy).trans c3; have f4 := (hbz3.cell (p := ⟨b, o + 4, none⟩) hbwy).trans c4) | (refine step_append_all (f := Loan.ints) rfl (.tmp 68) (.tmp 70) 24 rfl w132.heap.size i0 _ 5 40 Tryd.underlying24 hi hz0e hz1e hz2e rfl (by decide) (.slice (some ⟨w132.heap.size, 0, none⟩) 0 0) [] rfl ?_ (some ⟨b, o + 5, none⟩) (c - 1) (xs.drop 1) ?_ ?_ (fun _ => rfl) ?_ (by decide) ?_ ?_; with_reducible exact HE2.out; (simp [Act.eval]; have h9 := HP.out; omega); with_reducible exact HATB.out _ (ext_trans (ext_trans (ext_alloc _ _) (ext_alloc _ _)) (ext_drew _)); (have h9 := HP.out; simp; omega); (simp; omega); intro v3 w3 hown3 hg3 hb3; have hbz3 : Below w132.heap.size w132 w3 := ((((Below.refl w132.heap.size w132).alloc (Nat.le_refl _) _).alloc (ext_alloc w132 _).size _).drew).trans hb3; have hs3 : w132.heap.size ≤ w3.heap.size := hbz3.size; rw [List.nil_append] at hown3; have HL3 := Lib.hid (HLA2.out.grownL hg3 (by simp [Value.ownBlock] <;> omega))) | (refine step_append_all (f := Loan.ints) rfl (.tmp 68) (.tmp 70) 24 rfl w132.heap.size i0 _ 5 40 Tryd.underlying24 hi hz0e hz1e hz2e rfl (by decide) (.slice (some ⟨w132.heap.size + 1, 0, none⟩) 0 0) [] rfl ?_ (some ⟨b, o + 5, none⟩) (c - 1) (xs.drop 1) ?_ ?_ (fun _ => rfl) ?_ (by decide) ?_ ?_; with_reducible exact HE3.out; (simp [Act.eval]; have h9 := HP.out; omega); with_reducible exact HATB.out _ (ext_trans (ext_trans (ext_alloc _ _) (ext_alloc _ _)) (ext_drew _)); (have h9 := HP.out; simp; omega); (simp; omega); intro v3 w3 hown3 hg3 hb3; have hbz3 : Below w132.heap.size w132 w3 := ((((Below.refl w132.heap.size w132).alloc (Nat.le_refl _) _).alloc (ext_alloc w132 _).size _).drew).trans hb3; have hs3 : w132.heap.size ≤ w3.heap.size := hbz3.size; rw [List.nil_append] at hown3; have HL3 := Lib.hid (HLA3.out.grownL hg3 (by simp [Value.ownBlock] <;> omega))) | (refine step_append_all (f := Loan.ints) rfl (.tmp 71) (.tmp 75) 24 rfl w132.heap.size i0 _ 5 40 Tryd.underlying24 hi hz0e hz1e hz2e rfl (by decide) (v3) (xs.drop 1) rfl ?_ (some ⟨w3.heap.size, 0, none⟩) 1 [x] ?_ ?_ (fun _ => rfl) ?_ (by decide) ?_ ?_; with_reducible exact hown3.ext (ext_alloc _ _); simp [Act.eval]; exact (HBX.out w3); (have h9 := HP.out; simp; omega); (simp; omega); intro v4 w4 hown4 hg4 hb4; have hbz4 : Below w132.heap.size w132 w4 := (hbz3.alloc hs3 _).trans hb4; have hE4 := HMK.out v4 w4 hown4; obtain ⟨bn, cn, hvn, hE4⟩ := hE4; subst hvn; have HE4 := Lib.hid hE4; have HB4 := Lib.hid hbz4; clear hown4 hg4 hb4 hE4 hbz4) | (refine step_append_all (f := Loan.ints) rfl (.tmp 71) (.tmp 75) 24 rfl w132.heap.size i0 _ 5 40 Tryd.underlying24 hi hz0e hz1e hz2e rfl (by decide) (v3) (xs.drop 1) rfl ?_ (some ⟨w132.heap.size + 1, 0, none⟩) 1 [x] ?_ ?_ (fun _ => rfl) ?_ (by decide) ?_ ?_; with_reducible exact hown3; simp [Act.eval]; exact HL3.out; (have h9 := HP.out; simp; omega); exact hs3; intro v4 w4 hown4 hg4 hb4; have hbz4 : Below w132.heap.size w132 w4 := hbz3.trans hb4; have hE4 := HMK.out v4 w4 hown4; obtain ⟨bn, cn, hvn, hE4⟩ := hE4; subst hvn; have HE4 := Lib.hid hE4; have HB4 := Lib.hid hbz4; clear hown4 hg4 hb4 hE4 hbz4) | (refine step_append_all (f := Loan.ints) rfl (.tmp 71) (.tmp 75) 24 rfl w132.heap.size i0 _ 5 40 Tryd.underlying24 hi hz0e hz1e hz2e rfl (by decide) (v3) (xs.drop 1) rfl ?_ (some ⟨w132.heap.size, 0, none⟩) 1 [x] ?_ ?_ (fun _ => rfl) ?_ (by decide) ?_ ?_; with_reducible exact hown3; simp [Act.eval]; exact HL3.out; (have h9 := HP.out; simp; omega); exact hs3; intro v4 w4 hown4 hg4 hb4; have hbz4 : Below w132.heap.size w132 w4 := hbz3.trans hb4; have hE4 := HMK.out v4 w4 hown4; obtain ⟨bn, cn, hvn, hE4⟩ := hE4; subst hvn; have HE4 := Lib.hid hE4; have HB4 := Lib.hid hbz4; clear hown4 hg4 hb4 hE4 hbz4))
                  all_goals (go_wp2_with fail)
                  all_goals go_meet
                  all_goals exact ⟨bn, cn, rfl, HE4.out, HB4.out⟩
                case rest =>
                  obtain ⟨bn, cn, rfl, hE, hbn⟩ := hcut
                  clear HE1 HE2 HE3 HLA2 HLA3 HATB HBX HMK HSL c0 c1 c2 c3 c4
                  obtain ⟨wn, hwn⟩ : ∃ z, z = wc := ⟨_, rfl⟩
                  subst hwn
                  have HC := Lib.hid (HC.out.ext hbn)
                  have HT := Lib.hid (HT.out.trans (Touch.of_ext hbn))
                  have hl : (xs.drop 1 ++ [x]).length = p := by have := hp.out; simp; omega
                  have HL := Lib.hid hl
                  have HE := Lib.hid hE
                  clear hE hbn hl
                  go_wp2
                  go_ret
                  exact ⟨bn, cn, xs.drop 1 ++ [x], by rw [HL.out]; rfl, by rw [HL.out]; exact hp17, by rw [HL.out]; exact HE.out.1, HE.out.2, HC.out.mono (by omega), HT.out⟩
              · have hpi : ¬ (1 : Int) < (p : Int) := by omega
                have HF := Lib.hid (hF.mono (Nat.le_refl _) (show (World.heap w131).size ≤ (World.heap w132).size by omega))
                have HC := Lib.hid hC
                have HT := Lib.hid hT
                clear hF hC hT
                go_wp2
                go_ret
                exact ⟨A, c, xs, by rw [← hp.out]; rfl, by have := hp.out; omega, by rw [← hp.out]; exact ⟨hpc, hcm⟩, HF.out, HC.out.mono (by omega), HT.out⟩
end Go.Proofs.YtnikeelpcokffaaDoor
