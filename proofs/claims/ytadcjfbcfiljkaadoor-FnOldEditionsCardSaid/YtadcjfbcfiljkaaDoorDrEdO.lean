/- FnOldEditions: its draws of editions, and what it asks of them. No condition. -/
import Derived.Test.YtadcjfbcfiljkaaDoorDrEdC
import Derived.Test.YtadcjfbcfiljkaaDoorLongest
import Derived.Test.YtadcjfbcfiljkaaDoorRestless
import Derived.Test.YtadcjfbcfiljkaaDoorPlaceH
import Derived.Test.YtadcjfbcfiljkaaDoorCur
namespace Go.Proofs.YtadcjfbcfiljkaaDoor
open Go.RowKit
set_option linter.unusedVariables false
set_option linter.unusedSimpArgs false

theorem lg_pos (d : Int) : ∀ (ys : List Nest) (s : Int × Int), (∀ y ∈ ys, 1 ≤ y.b) → 0 ≤ s.1 → 0 ≤ s.2 → (s.2 = 0 ∨ 0 < s.1) → (0 < (lgL d ys s).1 ↔ (0 < s.1 ∨ ∃ y ∈ ys, y.c ≤ d))
  | [], s, _, _, _, _ => by simp [lgL]
  | e :: r, s, hb, h1, h2, h3 => by
    have he := hb e List.mem_cons_self
    have hr := fun y hy => hb y (List.mem_cons_of_mem e hy)
    have hn := nxL_le d r
    rw [lgL]
    by_cases q : s.2 < nxL d r - e.c + 1
    · rw [if_pos q, lg_pos d r _ hr (by show 0 ≤ e.b; omega) (by show 0 ≤ nxL d r - e.c + 1; omega) (.inr (by show 0 < e.b; omega))]
      constructor
      · intro _
        exact .inr ⟨e, List.mem_cons_self, by omega⟩
      · intro _
        exact .inl (by show 0 < e.b; omega)
    · rw [if_neg q, lg_pos d r s hr h1 h2 h3]
      constructor
      · rintro (h | ⟨y, hy, hc⟩)
        · exact .inl h
        · exact .inr ⟨y, List.mem_cons_of_mem _ hy, hc⟩
      · rintro (h | ⟨y, hy, hc⟩)
        · exact .inl h
        · rcases List.mem_cons.1 hy with rfl | hy
          · cases r with
            | nil => simp only [nxL] at q; exact .inl (by omega)
            | cons f t =>
              by_cases hf : f.c ≤ d
              · exact .inr ⟨f, List.mem_cons_self, hf⟩
              · simp only [nxL] at q; exact .inl (by omega)
          · exact .inr ⟨y, hy, hc⟩
theorem cur_pos (d : Int) : ∀ (ys : List Nest) (a : Int), (∀ y ∈ ys, 1 ≤ y.b) → 0 ≤ a → (0 < ys.foldl (curF d) a ↔ (0 < a ∨ ∃ y ∈ ys, y.c ≤ d))
  | [], a, _, _ => by simp
  | e :: r, a, hb, h => by
    have he := hb e List.mem_cons_self
    have hr := fun y hy => hb y (List.mem_cons_of_mem e hy)
    rw [List.foldl_cons]
    by_cases q : e.c ≤ d
    · rw [show curF d a e = e.b by rw [curF, if_pos q], cur_pos d r e.b hr (by omega)]
      constructor
      · intro _; exact .inr ⟨e, List.mem_cons_self, q⟩
      · intro _; exact .inl (by omega)
    · rw [show curF d a e = a by rw [curF, if_neg q], cur_pos d r a hr h]
      constructor
      · rintro (h | ⟨y, hy, hc⟩)
        · exact .inl h
        · exact .inr ⟨y, List.mem_cons_of_mem _ hy, hc⟩
      · rintro (h | ⟨y, hy, hc⟩)
        · exact .inl h
        · rcases List.mem_cons.1 hy with rfl | hy
          · exact absurd hc q
          · exact .inr ⟨y, hy, hc⟩
theorem lg_le (d B : Int) : ∀ (ys : List Nest) (s : Int × Int), (∀ y ∈ ys, d - y.c + 1 ≤ B) → s.2 ≤ B → (lgL d ys s).2 ≤ B
  | [], _, _, h => h
  | e :: r, s, hb, h => by
    have he := hb e List.mem_cons_self
    have hn := nxL_le d r
    rw [lgL]
    refine lg_le d B r _ (fun y hy => hb y (List.mem_cons_of_mem _ hy)) ?_
    split
    · show nxL d r - e.c + 1 ≤ B
      omega
    · exact h
theorem ofS_b {xs : List Nest} (h : Eds xs) (s : Int) : ∀ y ∈ ofS s xs, 1 ≤ y.b := fun y hy => by
  obtain ⟨i, hi⟩ := List.getElem?_of_mem (List.mem_filter.1 hy).1
  exact (h.1 i y hi).1.2.2.2.2.1.1
/-- there is a longest current edition where there is a current one -/
theorem long_cur {xs : List Nest} {s d : Int} (h : CurOk xs s d) : 0 < (longS xs s d).1 ↔ 0 < curN d (ofS s xs) := by
  unfold longS curN
  rw [lg_pos d _ (0, 0) (ofS_b h.1 s) (Int.le_refl _) (Int.le_refl _) (.inl rfl), cur_pos d _ 0 (ofS_b h.1 s) (Int.le_refl _)]
/-- it is not longer current than since the first one -/
theorem long_first {xs : List Nest} {s d : Int} (h : CurOk xs s d) (ho : 0 < (longS xs s d).1) {i : Nat} {x : Nest} (hx : xs[i]? = some x) (ha : x.a = s) (hb : x.b = 1) : (longS xs s d).2 ≤ d - x.c + 1 := by
  obtain ⟨h1, h2, h3⟩ := h
  have hst := (h1.1 i x hx).2.2.1
  rw [hb, ha] at hst
  have hnil : ofS s (xs.take i) = [] := List.length_eq_zero_iff.1 (by omega)
  have hge : ∀ y ∈ ofS s xs, x.c ≤ y.c := fun y hy => by
    obtain ⟨hy1, hy2⟩ := List.mem_filter.1 hy
    obtain ⟨j, hj⟩ := List.getElem?_of_mem hy1
    obtain ⟨hil, ei⟩ := List.getElem?_eq_some_iff.1 hx
    obtain ⟨hjl, ej⟩ := List.getElem?_eq_some_iff.1 hj
    rcases Nat.lt_trichotomy j i with q | q | q
    · exfalso
      have hm : y ∈ ofS s (xs.take i) := List.mem_filter.2 ⟨List.mem_of_getElem? (i := j) (by rw [List.getElem?_take_of_lt q]; exact hj), hy2⟩
      rw [hnil] at hm
      simp at hm
    · subst q
      rw [hx] at hj
      cases hj
      exact Int.le_refl _
    · have := List.pairwise_iff_getElem.1 h1.mono i j hil hjl q
      rw [ei, ej] at this
      exact this
  unfold longS at ho ⊢
  rw [lg_pos d _ (0, 0) (ofS_b h1 s) (Int.le_refl _) (Int.le_refl _) (.inl rfl)] at ho
  refine lg_le d _ _ _ (fun y hy => by have := hge y hy; omega) ?_
  rcases ho with ho | ⟨y, hy, hc⟩
  · exact absurd ho (by decide)
  · have := hge y hy
    show (0 : Int) ≤ d - x.c + 1
    omega
/-- the place that was changed most often has as many editions as told -/
theorem rest_hist {xs : List Nest} {s : Int} (h : ReOk xs s) (ho : 0 < (restS xs s).2) : PhOk xs s (restS xs s).1 ∧ ((hist (restS xs s).1 (ofS s xs)).length : Int) = (restS xs s).2 := by
  unfold restS at ho ⊢
  rcases bestTo_best (cntP (ofS s xs)) (fun p => by unfold cntP; omega) 1000 with ⟨h1, _⟩ | ⟨_, h2, h3, _⟩
  · rw [h1] at ho
    exact absurd ho (by decide)
  · exact ⟨⟨h.1, h.2, h2.1, by have := h2.2; omega⟩, h3⟩
theorem set4_touch (w : World) (b q : Nat) (x y z v : Value) : Touch b (b + 1) w ((((w.setCell ⟨b, q, none⟩ x).setCell ⟨b, q + 1, none⟩ y).setCell ⟨b, q + 2, none⟩ z).setCell ⟨b, q + 3, none⟩ v) :=
  (((Touch.of_set w ⟨b, q, none⟩ x (Nat.le_refl _) (Nat.lt_succ_self _)).set (p := ⟨b, q + 1, none⟩) (Nat.le_refl _) (Nat.lt_succ_self _) y).set (p := ⟨b, q + 2, none⟩) (Nat.le_refl _) (Nat.lt_succ_self _) z).set (p := ⟨b, q + 3, none⟩) (Nat.le_refl _) (Nat.lt_succ_self _) v
def RpDr (w : World) (e : Ending) (w' : World) : Prop :=
  ∃ (A : Option Addr) (d : Nat) (xs : List Nest) (sheet : Int), e = .returned (.tuple #[.slice A xs.length d, .int .i64 sheet]) ∧ (xs.length ≤ d ∧ d ≤ 9223372036854775807) ∧ wt xs ≤ 400 ∧ NlA w.heap.size w' A xs ∧ Below w.heap.size w w'
def EtDr (w : World) (e : Ending) (w' : World) : Prop :=
  ∃ (x : Nest) (A : Option Addr) (d : Nat), e = .returned (.agg #[.int .i64 x.a, .int .i64 x.b, .int .i64 x.c, .slice A x.l.length d]) ∧ x.l.length ≤ 400 ∧ FlO one 1 w.heap.size w'.heap.size w' A x.l ∧ Below w.heap.size w w'
set_option maxHeartbeats 4000000 in
theorem drawLongestCurrent_any (A : Option Addr) (n cap : Nat) (w : World) (hA : Bytes w A n) (hn : n ≤ 1099511627776) :
    Calls Tryd.prog 5 #[.slice A n cap] w (CuDr w) := by
  have HD := Lib.hid (drawCurrentOn_any A n cap w hA hn)
  clear hA
  go_enter Tryd.func5, Tryd.ntmps5
  go_wp2_with fail
  ((with_reducible refine (HD.out).mono ?_); rintro e w1 ⟨LA, d, xs, sh, dy, rfl, hc, hw, hN, hb⟩)
  have HN := Lib.hid hN
  have HB := Lib.hid hb
  obtain ⟨m, hm⟩ : ∃ z, z = xs.length := ⟨_, rfl⟩
  rw [← hm] at hc ⊢
  have HM := Lib.hid hm
  clear hN hb hm
  go_wp2
  go_ret3
  have hm := HM.out
  subst hm
  exact ⟨LA, d, xs, sh, dy, rfl, hc, hw, HN.out, HB.out⟩
set_option maxHeartbeats 8000000 in
set_option maxRecDepth 100000 in
theorem drawRestlessPlace_any (A : Option Addr) (n cap : Nat) (w : World) (hA : Bytes w A n) (hn : n ≤ 1099511627776) :
    Calls Tryd.prog 9 #[.slice A n cap] w (RpDr w) := by
  obtain ⟨V0, hV0, hB0, hz0, hu0, hf0⟩ := box_world w #[Value.slice A n cap, .int .i64 0, .int .u64 0] 54
  have hC0 : CurAt w.heap.size A n cap 0 V0 := hV0 ▸ CurAt.start hA cap _
  obtain ⟨g, hg⟩ : ∃ g, g = w.heap.size := ⟨_, rfl⟩
  rw [← hg] at hC0
  have HG := Lib.hid hg
  have hgw : w.heap.size ≤ g := by omega
  have hgV : g + 1 ≤ V0.heap.size := by omega
  have HP := Lib.hid (editions_any g A n cap 0 V0 hC0 (by omega) hn)
  have HB0 := Lib.hid hB0
  clear hg hC0 hu0 hf0 hA hB0
  go_enter Tryd.func9, Tryd.ntmps9
  go_wp2_with fail
  rw [← HG.out]
  clear hV0
  ((with_reducible refine (HP.out).mono ?_); rintro e w1 ⟨LA, m, d, xs, rfl, hm, hmd, hdm, hwt, hN, hC, hT⟩)
  have hs1 : V0.heap.size ≤ w1.heap.size := hT.size
  have hm4 : m ≤ 400 := by rw [hm]; exact Nat.le_trans (wt_len xs) hwt
  have HM := Lib.hid hm
  have HW := Lib.hid hwt
  clear hm hwt
  have HN2 := Lib.hid (sheet18_any g A n cap _ w1 hC (by omega) hn)
  clear hC
  go_wp2_with fail
  ((with_reducible refine (HN2.out).mono ?_); rintro e w2 ⟨sh, rfl, hC, hU2⟩)
  replace hN := hN.touch hU2 (by omega)
  replace hT := hT.trans hU2
  have hz_w2 : (World.heap w1).size ≤ (World.heap w2).size := hU2.size
  clear hU2
  have HN := Lib.hid hN
  have hB := hT.below HB0.out hgw
  have HB := Lib.hid hB
  have hs9 : V0.heap.size ≤ (World.heap w2).size := by omega
  have hs8 : w.heap.size ≤ V0.heap.size := by omega
  clear hN hC hT hB
  go_wp2
  go_ret2
  have hm := HM.out
  subst hm
  exact ⟨LA, d, xs, sh, rfl, ⟨hmd, hdm⟩, HW.out, HN.out.from_ hs8, HB.out⟩
set_option maxHeartbeats 8000000 in
set_option maxRecDepth 100000 in
theorem drawOldEditions_any (A : Option Addr) (n cap : Nat) (w : World) (hA : Bytes w A n) (hn : n ≤ 1099511627776) :
    Calls Tryd.prog 13 #[.slice A n cap] w (CuDr w) := by
  obtain ⟨V0, hV0, hB0, hz0, hu0, hf0⟩ := box_world w #[Value.slice A n cap, .int .i64 0, .int .u64 0] 54
  have hC0 : CurAt w.heap.size A n cap 0 V0 := hV0 ▸ CurAt.start hA cap _
  obtain ⟨g, hg⟩ : ∃ g, g = w.heap.size := ⟨_, rfl⟩
  rw [← hg] at hC0
  have HG := Lib.hid hg
  have hgw : w.heap.size ≤ g := by omega
  have hgV : g + 1 ≤ V0.heap.size := by omega
  have HP := Lib.hid (editions_any g A n cap 0 V0 hC0 (by omega) hn)
  have HB0 := Lib.hid hB0
  clear hg hC0 hu0 hf0 hA hB0
  go_enter Tryd.func13, Tryd.ntmps13
  go_wp2_with fail
  rw [← HG.out]
  clear hV0
  ((with_reducible refine (HP.out).mono ?_); rintro e w1 ⟨LA, m, d, xs, rfl, hm, hmd, hdm, hwt, hN, hC, hT⟩)
  have hs1 : V0.heap.size ≤ w1.heap.size := hT.size
  have hm4 : m ≤ 400 := by rw [hm]; exact Nat.le_trans (wt_len xs) hwt
  have HM := Lib.hid hm
  have HW := Lib.hid hwt
  clear hm hwt
  have HN2 := Lib.hid (day18_any LA d V0.heap.size m xs HM.out hm4 g A n cap _ w1 hC hN hgV (by omega) hn)
  clear hC
  go_wp2_with fail
  ((with_reducible refine (HN2.out).mono ?_); rintro e w2 ⟨dy, rfl, hC, hU2⟩)
  replace hN := hN.touch hU2 (by omega)
  replace hT := hT.trans hU2
  have hz_w2 : (World.heap w1).size ≤ (World.heap w2).size := hU2.size
  clear hU2
  have hx := ext_alloc w2 (.cells #[Value.int .i64 (0), Value.int .i64 (1), Value.int .i64 (10), Value.int .i64 (11), Value.int .i64 (30), Value.int .i64 (4000), Value.int .i64 (-1), Value.int .i64 (4001)] 3)
  have HPK := Lib.hid (pick_any 24 g A n cap _ _ (hC.ext hx) (by omega) hn)
  have HL := Lib.hid (lit_flo w2 [0, 1, 10, 11, 30, 4000, -1, 4001] 3 #[Value.int .i64 (0), Value.int .i64 (1), Value.int .i64 (10), Value.int .i64 (11), Value.int .i64 (30), Value.int .i64 (4000), Value.int .i64 (-1), Value.int .i64 (4001)] rfl)
  have HX := Lib.hid hx
  have hgW : g < (World.heap w2).size := hC.lt
  replace hN := hN.ext hx
  replace hT := hT.trans (Touch.of_ext hx)
  have hszW : (World.heap w2).size ≤ (World.heap (World.alloc w2 (.cells #[Value.int .i64 (0), Value.int .i64 (1), Value.int .i64 (10), Value.int .i64 (11), Value.int .i64 (30), Value.int .i64 (4000), Value.int .i64 (-1), Value.int .i64 (4001)] 3))).size := hx.size
  clear hC hx
  go_wp2_with fail
  ((with_reducible refine (HPK.out).mono ?_); rintro e v1 ⟨_, rfl, ⟨z, rfl, hz0, hz1⟩, hC, hU⟩)
  have HL1 := HL.out.touch hU (.inr (Nat.succ_le_of_lt hgW))
  replace hN := hN.touch hU hgV
  replace hT := hT.trans hU
  have hsv : V0.heap.size ≤ v1.heap.size := hT.size
  have hgg : g < (World.heap w2).size ∨ (World.heap w2).size + 1 ≤ g := .inl hgW
  by_cases hb1 : z < 11
  · have hz11 : z / 11 = 0 := by omega
    have HAM := Lib.hid (among_any (some ⟨(World.heap w2).size, 0, none⟩) 8 6 [0, 1, 10, 11, 30, 4000] rfl (World.heap w2).size ((World.heap w2).size + 1) g A n cap _ v1 hC (by omega) hn (HL1.takeF 6) (by simp) (by simp) hgg)
    clear hC hU HL1
    go_wp2_with fail
    ((with_reducible refine (HAM.out).mono ?_); rintro e v2 ⟨_, rfl, ⟨y, _, rfl⟩, hC, hU2⟩)
    have HN := Lib.hid (hN.touch hU2 hgV)
    have HB := Lib.hid ((hT.trans hU2).below HB0.out hgw)
    have hs8 : w.heap.size ≤ V0.heap.size := by omega
    clear hN hC hT hU2
    go_wp2
    go_ret3
    have hm := HM.out
    subst hm
    exact ⟨LA, d, xs, dy, y, rfl, ⟨hmd, hdm⟩, HW.out, HN.out.from_ hs8, HB.out⟩
  · by_cases hb2 : z < 22
    · have hz11 : z / 11 = 1 := by omega
      have HAM := Lib.hid (among_any (some ⟨(World.heap w2).size, 0, none⟩) 8 7 [0, 1, 10, 11, 30, 4000, -1] rfl (World.heap w2).size ((World.heap w2).size + 1) g A n cap _ v1 hC (by omega) hn (HL1.takeF 7) (by simp) (by simp) hgg)
      clear hC hU HL1
      go_wp2_with fail
      ((with_reducible refine (HAM.out).mono ?_); rintro e v2 ⟨_, rfl, ⟨y, _, rfl⟩, hC, hU2⟩)
      have HN := Lib.hid (hN.touch hU2 hgV)
      have HB := Lib.hid ((hT.trans hU2).below HB0.out hgw)
      have hs8 : w.heap.size ≤ V0.heap.size := by omega
      clear hN hC hT hU2
      go_wp2
      go_ret3
      have hm := HM.out
      subst hm
      exact ⟨LA, d, xs, dy, y, rfl, ⟨hmd, hdm⟩, HW.out, HN.out.from_ hs8, HB.out⟩
    · have hz11 : z / 11 = 2 := by omega
      have HAM := Lib.hid (among_any (some ⟨(World.heap w2).size, 0, none⟩) 8 8 [0, 1, 10, 11, 30, 4000, -1, 4001] rfl (World.heap w2).size ((World.heap w2).size + 1) g A n cap _ v1 hC (by omega) hn HL1 (by simp) (by simp) hgg)
      clear hC hU HL1
      go_wp2_with fail
      ((with_reducible refine (HAM.out).mono ?_); rintro e v2 ⟨_, rfl, ⟨y, _, rfl⟩, hC, hU2⟩)
      have HN := Lib.hid (hN.touch hU2 hgV)
      have HB := Lib.hid ((hT.trans hU2).below HB0.out hgw)
      have hs8 : w.heap.size ≤ V0.heap.size := by omega
      clear hN hC hT hU2
      go_wp2
      go_ret3
      have hm := HM.out
      subst hm
      exact ⟨LA, d, xs, dy, y, rfl, ⟨hmd, hdm⟩, HW.out, HN.out.from_ hs8, HB.out⟩
set_option maxHeartbeats 8000000 in
set_option maxRecDepth 100000 in
theorem drawAppearedIn_any (A : Option Addr) (n cap : Nat) (w : World) (hA : Bytes w A n) (hn : n ≤ 1099511627776) :
    Calls Tryd.prog 16 #[.slice A n cap] w (CuDr w) := by
  obtain ⟨V0, hV0, hB0, hz0, hu0, hf0⟩ := box_world w #[Value.slice A n cap, .int .i64 0, .int .u64 0] 54
  have hC0 : CurAt w.heap.size A n cap 0 V0 := hV0 ▸ CurAt.start hA cap _
  obtain ⟨g, hg⟩ : ∃ g, g = w.heap.size := ⟨_, rfl⟩
  rw [← hg] at hC0
  have HG := Lib.hid hg
  have hgw : w.heap.size ≤ g := by omega
  have hgV : g + 1 ≤ V0.heap.size := by omega
  have HP := Lib.hid (editions_any g A n cap 0 V0 hC0 (by omega) hn)
  have HB0 := Lib.hid hB0
  clear hg hC0 hu0 hf0 hA hB0
  go_enter Tryd.func16, Tryd.ntmps16
  go_wp2_with fail
  rw [← HG.out]
  clear hV0
  ((with_reducible refine (HP.out).mono ?_); rintro e w1 ⟨LA, m, d, xs, rfl, hm, hmd, hdm, hwt, hN, hC, hT⟩)
  have hs1 : V0.heap.size ≤ w1.heap.size := hT.size
  have hm4 : m ≤ 400 := by rw [hm]; exact Nat.le_trans (wt_len xs) hwt
  have HM := Lib.hid hm
  have HW := Lib.hid hwt
  clear hm hwt
  have HN2 := Lib.hid (day18_any LA d V0.heap.size m xs HM.out hm4 g A n cap _ w1 hC hN hgV (by omega) hn)
  clear hC
  go_wp2_with fail
  ((with_reducible refine (HN2.out).mono ?_); rintro e w2 ⟨d1, rfl, hC, hU2⟩)
  replace hN := hN.touch hU2 (by omega)
  replace hT := hT.trans hU2
  have hz_w2 : (World.heap w1).size ≤ (World.heap w2).size := hU2.size
  clear hU2
  have HN3 := Lib.hid (one_any 3 g A n cap _ w2 hC (by omega) hn)
  clear hC
  go_wp2_with fail
  ((with_reducible refine (HN3.out).mono ?_); rintro e w3 ⟨_, rfl, ⟨b, rfl⟩, hC, hU3⟩)
  replace hN := hN.touch hU3 (by omega)
  replace hT := hT.trans hU3
  have hz_w3 : (World.heap w2).size ≤ (World.heap w3).size := hU3.size
  clear hU3
  cases b
  · skip
    have hlt4 : g < (World.heap w3).size := hC.lt
    have HN4 := Lib.hid (among_any (some ⟨(World.heap w3).size, 0, none⟩) 4 4 [0, 1, 10, 60] rfl (World.heap w3).size ((World.heap w3).size + 1) g A n cap _ (World.alloc w3 (.cells #[Value.int .i64 (0), Value.int .i64 (1), Value.int .i64 (10), Value.int .i64 (60)] 3)) (hC.ext (ext_alloc _ _)) (by omega) hn (lit_flo w3 [0, 1, 10, 60] _ _ rfl) (by simp) (by simp) (.inl hlt4))
    clear hC
    go_wp2_with fail
    ((with_reducible refine (HN4.out).mono ?_); rintro e w4 ⟨_, rfl, ⟨d2, _, rfl⟩, hC, hU4⟩)
    replace hU4 := (Touch.of_ext (ext_alloc w3 (.cells #[Value.int .i64 (0), Value.int .i64 (1), Value.int .i64 (10), Value.int .i64 (60)] 3))).trans hU4
    replace hN := hN.touch hU4 (by omega)
    replace hT := hT.trans hU4
    have hz_w4 : (World.heap w3).size ≤ (World.heap w4).size := hU4.size
    clear hU4
    have HN := Lib.hid hN
    have hB := hT.below HB0.out hgw
    have HB := Lib.hid hB
    have hs9 : V0.heap.size ≤ (World.heap w4).size := by omega
    have hs8 : w.heap.size ≤ V0.heap.size := by omega
    clear hN hC hT hB
    go_wp2
    go_ret3
    have hm := HM.out
    subst hm
    exact ⟨LA, d, xs, d1, _, rfl, ⟨hmd, hdm⟩, HW.out, HN.out.from_ hs8, HB.out⟩
  · skip
    have HN4 := Lib.hid (day18_any LA d V0.heap.size m xs HM.out hm4 g A n cap _ w3 hC hN hgV (by omega) hn)
    clear hC
    go_wp2_with fail
    ((with_reducible refine (HN4.out).mono ?_); rintro e w4 ⟨d2, rfl, hC, hU4⟩)
    replace hN := hN.touch hU4 (by omega)
    replace hT := hT.trans hU4
    have hz_w4 : (World.heap w3).size ≤ (World.heap w4).size := hU4.size
    clear hU4
    have HN := Lib.hid hN
    have hB := hT.below HB0.out hgw
    have HB := Lib.hid hB
    have hs9 : V0.heap.size ≤ (World.heap w4).size := by omega
    have hs8 : w.heap.size ≤ V0.heap.size := by omega
    clear hN hC hT hB
    go_wp2
    go_ret3
    have hm := HM.out
    subst hm
    exact ⟨LA, d, xs, d1, _, rfl, ⟨hmd, hdm⟩, HW.out, HN.out.from_ hs8, HB.out⟩
set_option maxHeartbeats 8000000 in
set_option maxRecDepth 100000 in
theorem drawEditionText_any (A : Option Addr) (n cap : Nat) (w : World) (hA : Bytes w A n) (hn : n ≤ 1099511627776) :
    Calls Tryd.prog 19 #[.slice A n cap] w (EtDr w) := by
  obtain ⟨R0, hR0, hX0, hy0, _, _⟩ := box_world w #[Value.int .i64 0, .int .i64 0, .int .i64 0, .slice none 0 0] 33
  have hr0 : VarL R0 w.heap.size [Value.int .i64 0, .int .i64 0, .int .i64 0, .slice none 0 0] := hR0 ▸ VarL.box w _ _
  obtain ⟨V0, hV0, hB0, hz0, hu0, hf0⟩ := box_world R0 #[Value.slice A n cap, .int .i64 0, .int .u64 0] 54
  have hC0 : CurAt R0.heap.size A n cap 0 V0 := hV0 ▸ CurAt.start (hA.ext hX0) cap _
  have hR1 : R0.heap.size = w.heap.size + 1 := by rw [← hR0]; simp
  obtain ⟨g, hg⟩ : ∃ g, g = w.heap.size + 1 := ⟨_, rfl⟩
  rw [hR1, ← hg] at hC0
  have HG := Lib.hid hg
  have hgw : R0.heap.size ≤ g := by omega
  have hgr : w.heap.size < g := by omega
  have hgV : g + 1 ≤ V0.heap.size := by omega
  have hVR := hr0.ext hB0
  have HP := Lib.hid (editions_any g A n cap 0 V0 hC0 (by omega) hn)
  have HB0 := Lib.hid hB0
  have HX0 := Lib.hid hX0
  clear hg hC0 hu0 hf0 hA hB0 hX0 hr0
  go_enter Tryd.func19, Tryd.ntmps19
  go_wp2_with fail
  rw [← HG.out]
  clear hV0 hR0
  ((with_reducible refine (HP.out).mono ?_); rintro e w1 ⟨LA, m, d, xs, rfl, hm, hmd, hdm, hwt, hN, hC, hT⟩)
  replace hVR := hVR.touch hT (.inl hgr)
  have hs1 : V0.heap.size ≤ w1.heap.size := hT.size
  have hm4 : m ≤ 400 := by rw [hm]; exact Nat.le_trans (wt_len xs) hwt
  have HM := Lib.hid hm
  have HW := Lib.hid hwt
  clear hm hwt
  by_cases h0 : m = 0
  · subst h0
    have HPK := Lib.hid (pick_any 2 g A n cap _ w1 hC (by omega) hn)
    clear hC hN
    go_wp2_with fail
    ((with_reducible refine (HPK.out).mono ?_); rintro e w2 ⟨_, rfl, ⟨z, rfl, hz0', hz1'⟩, hC, hU⟩)
    have hv := hVR.touch hU (.inl hgr)
    have f0 := hv.cell 0 _ rfl
    have f1 := hv.cell 1 _ rfl
    have f2 := hv.cell 2 _ rfl
    have f3 := hv.cell 3 _ rfl
    have fz := hv.fz
    have fl := hv.lt
    have HB := Lib.hid (((hT.trans hU).below HB0.out hgw).mono (show w.heap.size ≤ R0.heap.size by omega))
    clear hVR hv hC hT hU
    go_wp2
    refine bodyPost_ret (v := .agg #[.int .i64 z, .int .i64 1, .int .i64 0, .slice none 0 0]) (by simp [results, Tryd.results19, go_sem, f0, f1, f2, f3, fl]) rfl ⟨⟨z, 1, 0, []⟩, none, 0, rfl, by simp, FlO.nil, ?_⟩
    exact (set4_touch w2 w.heap.size 0 _ _ _ _).below ((HX0.out).trans HB.out) (Nat.le_refl _)
  · have h0' : ((m : Int) == 0) = false := by simp; omega
    obtain ⟨lb, lv, hLA, hll, hlw, hce⟩ := hN (fun e => by have h := HM.out; rw [e] at h; exact h0 (by simpa using h))
    subst hLA
    have HPK := Lib.hid (pick_any (m : Int) g A n cap _ w1 hC (by omega) hn)
    have HCE := Lib.hid hce
    clear hC hN hce
    go_wp2_with fail
    ((with_reducible refine (HPK.out).mono ?_); rintro e w2 ⟨_, rfl, ⟨z, rfl, hz0', hz1'⟩, hC, hU⟩)
    obtain ⟨j, rfl⟩ : ∃ j : Nat, z = j := ⟨z.toNat, by omega⟩
    have hjm : j < m := by omega
    obtain ⟨x, hx⟩ : ∃ x, xs[j]? = some x := ⟨_, List.getElem?_eq_getElem (by rw [← HM.out]; exact hjm)⟩
    obtain ⟨SA, sd, hat, hfl⟩ := HCE.out j x hx
    have hxl : x.l.length ≤ 400 := Nat.le_trans (wt_in (List.mem_of_getElem? hx)) HW.out
    have hcc : ∀ o, World.cell? w2 ⟨lb, o, none⟩ = World.cell? w1 ⟨lb, o, none⟩ := fun o => hU.cell (b := lb) (o := o) hlw (by omega)
    have c0 := (hcc _).trans hat.ca
    have c1 := (hcc _).trans hat.cb
    have c2 := (hcc _).trans hat.cc
    have c3 := (hcc _).trans hat.cl
    obtain ⟨xl, hxe⟩ : ∃ z, z = x.l.length := ⟨_, rfl⟩
    rw [← hxe] at c3
    have HXE := Lib.hid hxe
    have hlw2 : lb < w2.heap.size := Nat.lt_of_lt_of_le hlw hU.size
    have HFL := Lib.hid ((hfl.touch hU (.inr hgV)).up hU.size)
    have hv := hVR.touch hU (.inl hgr)
    have f0 := hv.cell 0 _ rfl
    have f1 := hv.cell 1 _ rfl
    have f2 := hv.cell 2 _ rfl
    have f3 := hv.cell 3 _ rfl
    have fz := hv.fz
    have fl := hv.lt
    have HB := Lib.hid (((hT.trans hU).below HB0.out hgw).mono (show w.heap.size ≤ R0.heap.size by omega))
    have hj0 : (0 : Int) ≤ (j : Int) := by omega
    have hj1 : (j : Int) < (m : Int) := by omega
    clear hVR hv hC hT hU hfl hat hcc hxe hx
    go_wp2
    have ht := set4_touch w2 w.heap.size 0 (.int .i64 x.a) (.int .i64 x.b) (.int .i64 x.c) (.slice SA xl sd)
    refine bodyPost_ret (v := .agg #[.int .i64 x.a, .int .i64 x.b, .int .i64 x.c, .slice SA xl sd]) (by simp [results, Tryd.results19, go_sem, f0, f1, f2, f3, fl]) rfl ⟨x, SA, sd, by rw [← HXE.out], hxl, ?_, ?_⟩
    · exact ((HFL.out.touch ht (.inr (by omega))).mono (by omega) ht.size)
    · exact ht.below ((HX0.out).trans HB.out) (Nat.le_refl _)
end Go.Proofs.YtadcjfbcfiljkaaDoor
