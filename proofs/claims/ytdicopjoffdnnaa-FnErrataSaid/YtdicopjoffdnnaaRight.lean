/- The copies from which no slip is missing: RightCopies on both sides. -/
import Derived.Test.YtdicopjoffdnnaaCopW
namespace Go.Proofs.Ytdicopjoffdnnaa
open Go.RowKit
set_option linter.unusedVariables false
set_option linter.unusedSimpArgs false

set_option maxHeartbeats 1000000 in
set_option maxRecDepth 100000 in
theorem copiesR_any (A : Option Addr) (c : Nat) (hs : List Nest) (P : Nest → Prop) (b1 b2 : Nat) (w : World) (hn : wt hs ≤ 1048576) (hA : Nl w A hs)
    (hcall : ∀ (W : World) (x : Nest) (A' : Option Addr) (d : Nat), Below w.heap.size w W → x ∈ hs → Fl one 1 W A' x.l → Calls Try.prog 37 #[.agg #[.int .i64 x.a, .int .i64 x.b, .int .i64 x.c, .slice A' x.l.length d], .pointer (some ⟨b1, 0, none⟩), .pointer (some ⟨b2, 0, none⟩)] W fun e w' => e = .returned (.bool (tb (P x))) ∧ Below W.heap.size W w') :
    Calls Try.prog 36 #[.slice A hs.length c, .func (.func 37) #[] #[.pointer (some ⟨b1, 0, none⟩), .pointer (some ⟨b2, 0, none⟩)]] w (RetI w (cw P hs)) := by
  obtain ⟨i0, hi, hz0, hz1, hz2⟩ := info_parts infoInt
  have hn1 := Nat.le_trans (wt_len hs) hn
  obtain ⟨n, hnn⟩ : ∃ n, n = List.length hs := ⟨_, rfl⟩
  rw [← hnn] at hn1 ⊢
  have hN := Lib.hid hnn
  have HC := Lib.hid hcall
  clear hnn hcall
  go_enter Try.func36, Try.ntmps36
  go_wp2
  go_loopw [5, 10] (fun v i wr => ∃ k : Nat, k ≤ n ∧ i = .int .i64 k ∧ Below w.heap.size w wr ∧ OwnF one 1 w.heap.size 3 wr v (cw P (hs.take k))) (fun _ i _ => n - (intOf i).toNat)
  case atStart => exact ⟨0, by omega, rfl, Below.refl _ _, OwnF.none_⟩
  case round =>
    obtain ⟨k, hk, rfl, hbr, hown⟩ := hrel
    have hzr := hbr.size
    by_cases hlt : k < n
    · obtain ⟨x, b, o, A', d, hx, rfl, hb, hc, hfl⟩ := (hA.ext hbr).at_ (k := k) (by rw [← hN.out]; exact hlt)
      have c0 : World.cell? wr ⟨b, o + k * 4, none⟩ = some (.int .i64 x.a) := hc.ca
      have c1 : World.cell? wr ⟨b, o + k * 4 + 1, none⟩ = some (.int .i64 x.b) := hc.cb
      have c2 : World.cell? wr ⟨b, o + k * 4 + 2, none⟩ = some (.int .i64 x.c) := hc.cc
      have c3 : World.cell? wr ⟨b, o + k * 4 + 3, none⟩ = some (.slice A' x.l.length d) := hc.cl
      have hlen : (cw P (hs.take k)).length ≤ 1048576 := Nat.le_trans (cw_len _ _) (by rw [List.length_take]; omega)
      have HT := Lib.hid (take_get hx)
      have hmem := List.mem_of_getElem? hx
      obtain ⟨W0, hW0, hB0, hz0', hg, _⟩ := box_world wr #[Value.int .i64 x.a, .int .i64 x.b, .int .i64 x.c, .slice A' x.l.length d] 35
      have g0 : World.cell? W0 ⟨wr.heap.size, 0, none⟩ = some (.int .i64 x.a) := hg 0
      have g1 : World.cell? W0 ⟨wr.heap.size, 1, none⟩ = some (.int .i64 x.b) := hg 1
      have g2 : World.cell? W0 ⟨wr.heap.size, 2, none⟩ = some (.int .i64 x.c) := hg 2
      have g3 : World.cell? W0 ⟨wr.heap.size, 3, none⟩ = some (.slice A' x.l.length d) := hg 3
      have hown0 := hown.ext hB0
      have hbW := ext_trans hbr hB0
      have hcl := HC.out W0 x A' d hbW hmem (hfl.ext hB0)
      have HCL := Lib.hid hcl
      clear hc hg hx hcl hmem
      have hk0 : (0 : Int) ≤ (k : Int) := by omega
      have hk1 : (k : Int) < (n : Int) := by omega
      go_wp2_with fail
      refine (HCL.out).mono ?_
      rintro e w1 ⟨rfl, hb1⟩
      have r0 : World.cell? w1 ⟨wr.heap.size, 0, none⟩ = some (.int .i64 x.a) := (hb1.cell (p := ⟨wr.heap.size, 0, none⟩) hz0').trans g0
      have hownA := hown0.ext hb1
      have hbA := ext_trans hbW hb1
      clear g0 g1 g2 g3
      by_cases hP : P x
      · rw [tb_t hP]
        have HP := Lib.hid hP
        clear hP
        go_wp2_with (at_builtin; refine wpList_append_flat (f := one) (y := x.a) rfl _ _ _ rfl w.heap.size i0 _ 1 8 Try.underlying31 hi hz0 hz1 hz2 rfl (by decide) _ _ rfl rfl hownA rfl ?_ (by decide) ?_ ?_; omega; exact hbA.size; intro v' w3 hown3 hg3 hb3)
        go_roundw
        case rel => exact ⟨k + 1, by omega, by go_num, hbA.trans hb3, by rw [HT.out, cw_t HP.out]; exact hown3⟩
        case measure => simp [intOf]; omega
      · rw [tb_f hP]
        have HP := Lib.hid hP
        clear hP
        go_wp2
        go_roundw
        case rel => exact ⟨k + 1, by omega, by go_num, hbA, by rw [HT.out, cw_f HP.out]; exact hownA⟩
        case measure => simp [intOf]; omega
    · have hkn : k = n := by omega
      subst hkn
      rw [take_all (by rw [← hN.out]; exact Nat.le_refl _)] at hown
      go_wp2
      go_ret
      obtain ⟨B2, d2, hv, hF⟩ := hown.form one_length
      exact ⟨B2, d2, by rw [hv]; rfl, hF, hbr⟩
def RcOk (xs : List Erratum) (hs : List Nest) (day : Int) : Prop := HeldOk xs hs ∧ (0 ≤ day ∧ day ≤ 4000)
def NoMiss (xs : List Erratum) (day : Int) (x : Nest) : Prop := miss x day xs = []
set_option maxHeartbeats 1000000 in
theorem rightC_any (A : Option Addr) (c : Nat) (xs : List Erratum) (x : Nest) (A' : Option Addr) (d : Nat) (day : Int) (b1 b2 : Nat) (w : World) (hn : xs.length ≤ 1048576) (hxl : x.l.length ≤ 1152921504606846976) (hA : Fl Erratum.ints 5 w A xs) (hF : Fl one 1 w A' x.l)
    (hz1 : b1 < w.heap.size) (hz2 : b2 < w.heap.size) (h1 : w.cell? ⟨b1, 0, none⟩ = some (.slice A xs.length c)) (h2 : w.cell? ⟨b2, 0, none⟩ = some (.int .i64 day)) :
    Calls Try.prog 37 #[.agg #[.int .i64 x.a, .int .i64 x.b, .int .i64 x.c, .slice A' x.l.length d], .pointer (some ⟨b1, 0, none⟩), .pointer (some ⟨b2, 0, none⟩)] w fun e w' => e = .returned (.bool (tb (NoMiss xs day x))) ∧ Below w.heap.size w w' := by
  obtain ⟨V0, hV0, hC0, hy0, hv, _⟩ := box_world w #[Value.int .i64 x.a, .int .i64 x.b, .int .i64 x.c, .slice A' x.l.length d] 35
  have v0 : World.cell? V0 ⟨w.heap.size, 0, none⟩ = some (.int .i64 x.a) := hv 0
  have v1 : World.cell? V0 ⟨w.heap.size, 1, none⟩ = some (.int .i64 x.b) := hv 1
  have v2 : World.cell? V0 ⟨w.heap.size, 2, none⟩ = some (.int .i64 x.c) := hv 2
  have v3 : World.cell? V0 ⟨w.heap.size, 3, none⟩ = some (.slice A' x.l.length d) := hv 3
  have e1 := (hC0.cell (p := ⟨b1, 0, none⟩) hz1).trans h1
  have e2 := (hC0.cell (p := ⟨b2, 0, none⟩) hz2).trans h2
  have hmi := missing_any A c xs x A' d day V0 hn hxl (hA.ext hC0) (hF.ext hC0)
  have hle := Nat.le_trans (miss_len x day xs) hn
  have hnil : NoMiss xs day x ↔ (miss x day xs).length = 0 := by unfold NoMiss; exact List.length_eq_zero_iff.symm
  generalize xs.length = n at hmi hn h1 e1 hle ⊢
  generalize hq : (miss x day xs).length = q at hle hnil
  generalize miss x day xs = ys at hmi hq
  have HM := Lib.hid hmi
  have HQ := Lib.hid hq
  have HNI := Lib.hid hnil
  clear hv hA hF hmi hq hnil
  go_enter Try.func37, Try.ntmps37
  go_wp2_with fail
  refine (HM.out).mono ?_
  rintro e w3 ⟨B, e, rfl, hG, hb3⟩
  rw [HQ.out]
  go_wp2
  go_ret
  exact ⟨ret_bool (by by_cases h : q = 0
                      · rw [tb_t (HNI.out.2 h)]; subst h; rfl
                      · rw [tb_f (fun h' => h (HNI.out.1 h'))]; simp; omega), ext_trans hC0 hb3⟩
set_option maxHeartbeats 1000000 in
set_option maxRecDepth 100000 in
theorem rightCopies_any (A : Option Addr) (c : Nat) (xs : List Erratum) (C : Option Addr) (cc : Nat) (hs : List Nest) (day : Int) (w : World) (hne : xs.length ≤ 1048576) (hA : Fl Erratum.ints 5 w A xs) (hn : wt hs ≤ 1048576) (hC : Nl w C hs) :
    Calls Try.prog 10 #[.slice A xs.length c, .slice C hs.length cc, .int .i64 day] w (RetL one 1 w (sel (RcOk xs hs day) (cw (NoMiss xs day) hs)) (tb (RcOk xs hs day))) := by
  obtain ⟨W1, hW1, hD1, hy1, hv1, _⟩ := box_world w #[Value.slice A xs.length c] 24
  obtain ⟨W2, hW2, hD2, hy2, hv2, _⟩ := box_world W1 #[Value.int .i64 day] 3
  have hmf : ∀ (fn : Fn) (first cap : Array Value) (w : World), (Instr.makeFunc fn first cap).run Try.prog w = .ok (.func fn first cap) w := fun _ _ _ _ => rfl
  have hB2 := ext_trans hD1 hD2
  have k1 : World.cell? W2 ⟨w.heap.size, 0, none⟩ = some (.slice A xs.length c) := (hD2.cell (p := ⟨w.heap.size, 0, none⟩) hy1).trans (hv1 0)
  have k2 : World.cell? W2 ⟨W1.heap.size, 0, none⟩ = some (.int .i64 day) := hv2 0
  have hz1 : w.heap.size < W2.heap.size := Nat.lt_of_lt_of_le hy1 hD2.size
  have hin := fun x (hx : x ∈ hs) => Nat.le_trans (wt_in hx) hn
  have hare := areHeld_any A c xs C cc hs W2 hne (hA.ext hB2) hn (hC.ext hB2)
  have hcw := fun (W : World) (hW : Below W2.heap.size W2 W) => copiesR_any C cc hs (NoMiss xs day) w.heap.size W1.heap.size W hn ((hC.ext hB2).ext hW)
    (fun V x A' d hV hx hF => rightC_any A c xs x A' d day _ _ V hne (by have := hin x hx; omega) (((hA.ext hB2).ext hW).ext hV) hF (Nat.lt_of_lt_of_le (Nat.lt_of_lt_of_le hz1 hW.size) hV.size) (Nat.lt_of_lt_of_le (Nat.lt_of_lt_of_le hy2 hW.size) hV.size)
      ((hV.cell (p := ⟨w.heap.size, 0, none⟩) (Nat.lt_of_lt_of_le hz1 hW.size)).trans ((hW.cell (p := ⟨w.heap.size, 0, none⟩) hz1).trans k1)) ((hV.cell (p := ⟨W1.heap.size, 0, none⟩) (Nat.lt_of_lt_of_le hy2 hW.size)).trans ((hW.cell (p := ⟨W1.heap.size, 0, none⟩) hy2).trans k2)))
  generalize cw (NoMiss xs day) hs = ys at hcw ⊢
  obtain ⟨m, hmm⟩ : ∃ m, m = List.length hs := ⟨_, rfl⟩
  obtain ⟨n, hnn⟩ : ∃ n, n = List.length xs := ⟨_, rfl⟩
  rw [← hmm] at hare hcw ⊢
  rw [← hnn] at hW1 k1 hare ⊢
  have HA := Lib.hid hare
  have HCW := Lib.hid hcw
  clear hmm hnn hare hcw hv1 hv2
  go_enter Try.func10, Try.ntmps10
  go_wp2_with fail
  refine (HA.out).mono ?_
  rintro e w1 ⟨rfl, hb1⟩
  have k3 : World.cell? w1 ⟨W1.heap.size, 0, none⟩ = some (.int .i64 day) := (hb1.cell (p := ⟨W1.heap.size, 0, none⟩) hy2).trans k2
  by_cases h1 : HeldOk xs hs
  · rw [tb_t h1]
    have H1 := Lib.hid h1
    clear h1
    by_cases h2 : 0 ≤ day ∧ day ≤ 4000
    · go_wp2_with fail
      refine (isDay_t day _ h2).mono ?_
      rintro e w9 ⟨rfl, rfl⟩
      have HO : Hid (RcOk xs hs day) := ⟨H1.out, h2⟩
      go_wp2_with fail
      refine (HCW.out _ hb1).mono ?_
      rintro e w3 ⟨B, e, rfl, hF, hb3⟩
      go_wp2
      go_ret2
      rw [sel_t HO.out, tb_t HO.out]
      exact ⟨B, e, rfl, hF.mono ((ext_trans hB2 hb1)).size (Nat.le_refl _), ext_trans (ext_trans hB2 hb1) hb3⟩
    · go_wp2_with fail
      refine (isDay_f day _ h2).mono ?_
      rintro e w9 ⟨rfl, rfl⟩
      go_wp2
      go_ret2
      have hok : ¬ (RcOk xs hs day) := fun h => h2 h.2
      rw [sel_f hok, tb_f hok]
      exact ⟨none, 0, rfl, FlO.nil, (ext_trans hB2 hb1)⟩
  · rw [tb_f h1]
    have H1 := Lib.hid h1
    clear h1
    go_wp2
    go_ret2
    have hok : ¬ (RcOk xs hs day) := fun h => H1.out h.1
    rw [sel_f hok, tb_f hok]
    exact ⟨none, 0, rfl, FlO.nil, (ext_trans hB2 hb1)⟩
set_option maxHeartbeats 1000000 in
set_option maxRecDepth 100000 in
theorem specRightCopies_any (A : Option Addr) (c : Nat) (xs : List Erratum) (C : Option Addr) (cc : Nat) (hs : List Nest) (day : Int) (w : World) (hne : xs.length ≤ 1048576) (hA : Fl Erratum.ints 5 w A xs) (hn : wt hs ≤ 1048576) (hC : Nl w C hs) :
    Calls Try.prog 13 #[.slice A xs.length c, .slice C hs.length cc, .int .i64 day] w (RetL one 1 w (sel (RcOk xs hs day) (cw (NoMiss xs day) hs)) (tb (RcOk xs hs day))) := by
  obtain ⟨i0, hi, hz0, hz1, hz2⟩ := info_parts infoInt
  obtain ⟨W0, hW0, hB0, hzw, _, _⟩ := box_world w #[] 3
  have hown0 : OwnF one 1 w.heap.size 3 W0 (.slice (some ⟨w.heap.size, 0, none⟩) 0 0) [] := hW0 ▸ OwnF.empty (Nat.le_refl _)
  have hin := fun x (hx : x ∈ hs) => Nat.le_trans (wt_in hx) hn
  have hn1 := Nat.le_trans (wt_len hs) hn
  have hare := l19Good_any A c xs C cc hs W0 hne (hA.ext hB0) hn (hC.ext hB0)
  have hmi := fun x A' d W hl hX hY => l19Missing_any A c xs x A' d day W hne hl hX hY
  have hle := fun x => Nat.le_trans (miss_len x day xs) hne
  obtain ⟨n, hmm⟩ : ∃ m, m = List.length hs := ⟨_, rfl⟩
  obtain ⟨ne, hnn⟩ : ∃ n, n = List.length xs := ⟨_, rfl⟩
  rw [← hmm] at hn1 hare ⊢
  rw [← hnn] at hne hare hmi ⊢
  have hN := Lib.hid hmm
  have HNE := Lib.hid hnn
  have HA := Lib.hid hare
  have HMI := Lib.hid hmi
  clear hmm hnn hare hmi
  go_enter Try.func13, Try.ntmps13
  go_wp2_with fail
  refine (HA.out).mono ?_
  rintro e w1 ⟨rfl, hb1⟩
  by_cases h1 : HeldOk xs hs
  · rw [tb_t h1]
    have H1 := Lib.hid h1
    clear h1
    by_cases h2 : 0 ≤ day ∧ day ≤ 4000
    · go_wp2_with fail
      refine (l2Day_t day _ h2).mono ?_
      rintro e w9 ⟨rfl, rfl⟩
      have HO : Hid (RcOk xs hs day) := ⟨H1.out, h2⟩
      go_wp2
      go_loopw [8, 9] (fun v i wr => ∃ k : Nat, k ≤ n ∧ i = .int .i64 k ∧ Below w.heap.size w wr ∧ OwnF one 1 w.heap.size 3 wr v (cw (NoMiss xs day) (hs.take k))) (fun _ i _ => n - (intOf i).toNat)
      case atStart => exact ⟨0, by omega, rfl, (ext_trans hB0 hb1), hown0.ext hb1⟩
      case round =>
        obtain ⟨k, hk, rfl, hbr, hown⟩ := hrel
        have hzr := hbr.size
        by_cases hlt : k < n
        · obtain ⟨x, b, o, A', d, hx, rfl, hb, hc, hfl⟩ := (hC.ext hbr).at_ (k := k) (by rw [← hN.out]; exact hlt)
          have hxl := hin x (List.mem_of_getElem? hx)
          have c0 : World.cell? wr ⟨b, o + k * 4, none⟩ = some (.int .i64 x.a) := hc.ca
          have c1 : World.cell? wr ⟨b, o + k * 4 + 1, none⟩ = some (.int .i64 x.b) := hc.cb
          have c2 : World.cell? wr ⟨b, o + k * 4 + 2, none⟩ = some (.int .i64 x.c) := hc.cc
          have c3 : World.cell? wr ⟨b, o + k * 4 + 3, none⟩ = some (.slice A' x.l.length d) := hc.cl
          have hlen : (cw (NoMiss xs day) (hs.take k)).length ≤ 1048576 := Nat.le_trans (cw_len _ _) (by rw [List.length_take]; omega)
          have HT := Lib.hid (take_get hx)
          have hml := hle x
          have hnil : NoMiss xs day x ↔ (miss x day xs).length = 0 := by unfold NoMiss; exact List.length_eq_zero_iff.symm
          have hAx := hA.ext hbr
          have HNI := Lib.hid hnil
          clear hc hx hnil
          have hk0 : (0 : Int) ≤ (k : Int) := by omega
          have hk1 : (k : Int) < (n : Int) := by omega
          go_wp2_with fail
          refine (HMI.out x A' d _ (by omega) hAx hfl).mono ?_
          rintro e w3 ⟨B, e, rfl, hF, hb3⟩
          have r0 : World.cell? w3 ⟨b, o + k * 4, none⟩ = some (.int .i64 x.a) := (hb3.cell (p := ⟨b, o + k * 4, none⟩) hb).trans c0
          have hownA := hown.ext hb3
          have hbA := ext_trans hbr hb3
          generalize (miss x day xs).length = q at HNI hml ⊢
          by_cases hq : q = 0
          · have HP : Hid (NoMiss xs day x) := HNI.out.2 hq
            subst hq
            go_wp2_with (at_builtin; refine wpList_append_flat (f := one) (y := x.a) rfl _ _ _ rfl w.heap.size i0 _ 1 8 Try.underlying31 hi hz0 hz1 hz2 rfl (by decide) _ _ rfl rfl hownA rfl ?_ (by decide) ?_ ?_; omega; exact hbA.size; intro v' w4 hown4 hg4 hb4)
            go_roundw
            case rel => exact ⟨k + 1, by omega, by go_num, hbA.trans hb4, by rw [HT.out, cw_t HP.out]; exact hown4⟩
            case measure => simp [intOf]; omega
          · have HP : Hid (¬ NoMiss xs day x) := fun h => hq (HNI.out.1 h)
            have hqb : ((q : Int) == 0) = false := beq_eq_false_iff_ne.2 (fun e => by omega)
            go_wp2
            go_roundw
            case rel => exact ⟨k + 1, by omega, by go_num, hbA, by rw [HT.out, cw_f HP.out]; exact hownA⟩
            case measure => simp [intOf]; omega
        · have hkn : k = n := by omega
          subst hkn
          go_wp2
          go_ret2
          rw [take_all (by rw [← hN.out]; exact Nat.le_refl _)] at hown
          obtain ⟨B, d, hv, hF⟩ := hown.form one_length
          rw [sel_t HO.out, tb_t HO.out]
          exact ⟨B, d, by rw [hv]; rfl, hF, hbr⟩
    · go_wp2_with fail
      refine (l2Day_f day _ h2).mono ?_
      rintro e w9 ⟨rfl, rfl⟩
      go_wp2
      go_ret2
      have hok : ¬ (RcOk xs hs day) := fun h => h2 h.2
      rw [sel_f hok, tb_f hok]
      exact ⟨some ⟨w.heap.size, 0, none⟩, 0, rfl, FlO.nil, (ext_trans hB0 hb1)⟩
  · rw [tb_f h1]
    have H1 := Lib.hid h1
    clear h1
    go_wp2
    go_ret2
    have hok : ¬ (RcOk xs hs day) := fun h => H1.out h.1
    rw [sel_f hok, tb_f hok]
    exact ⟨some ⟨w.heap.size, 0, none⟩, 0, rfl, FlO.nil, (ext_trans hB0 hb1)⟩
end Go.Proofs.Ytdicopjoffdnnaa
