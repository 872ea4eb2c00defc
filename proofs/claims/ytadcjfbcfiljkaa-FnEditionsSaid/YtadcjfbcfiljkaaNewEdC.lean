/- A new edition: the capacity of what NewEdition hands back. No condition. -/
import Derived.Test.YtadcjfbcfiljkaaNewEd
namespace Go.Proofs.Ytadcjfbcfiljkaa
open Go.RowKit
set_option linter.unusedVariables false
set_option linter.unusedSimpArgs false

def RetNIC (w : World) (ys : List Nest) (q : Int) (ok : Bool) (e : Ending) (w' : World) : Prop :=
  ∃ B d, e = .returned (.tuple #[.slice B ys.length d, .int .i64 q, .bool ok]) ∧ (ys.length ≤ d ∧ d ≤ 9223372036854775807) ∧ NlO w.heap.size w'.heap.size w' B ys ∧ Below w.heap.size w w'
set_option maxHeartbeats 2000000 in
set_option maxRecDepth 100000 in
theorem newEditionC_any (A : Option Addr) (c : Nat) (xs : List Nest) (sheet day : Int) (C : Option Addr) (cc : Nat) (ch : List Int) (w : World) (hn : wt xs ≤ 1048576) (hcap : xs.length ≤ c) (hcm : c ≤ 9223372036854775807) (hA : Nl w A xs) (hcn : ch.length ≤ 1048576) (hC : Fl one 1 w C ch) :
    Calls Try.prog 6 #[.slice A xs.length c, .int .i64 sheet, .int .i64 day, .slice C ch.length cc] w (RetNIC w (sel (NeOk xs sheet day ch) (xs ++ [newE xs sheet day ch])) (seli (NeOk xs sheet day ch) (((ofS sheet xs).length : Int) + 1)) (tb (NeOk xs sheet day ch))) := by
  obtain ⟨i0, hi, hz0, hz1, hz2⟩ := info_parts infoEdition
  have hn1 := Nat.le_trans (wt_len xs) hn
  have hare := areEditions_any A c xs w hn hcap hcm hA
  have hed := fun W hW => editionsOf_any A c xs sheet W (le22 (Nat.le_trans (wt_len xs) hn)) hW
  have hcl := fun W hW => cloneInt_any C cc ch W (by omega) hW
  have hcp := fun W hW => copyEditions_any A c xs W (le22 hn) hW
  by_cases h1 : Eds xs
  · have hL := ofS_len sheet xs
    have hx15 := h1.2
    obtain ⟨L, hLL⟩ : ∃ L, L = (ofS sheet xs).length := ⟨_, rfl⟩
    have H1 := Lib.hid h1
    obtain ⟨es, hes⟩ : ∃ es, es = ofS sheet xs := ⟨_, rfl⟩
    rw [← hes] at hed hLL hL
    obtain ⟨n, hnn⟩ : ∃ n, n = xs.length := ⟨_, rfl⟩
    obtain ⟨m, hmm⟩ : ∃ m, m = ch.length := ⟨_, rfl⟩
    rw [← hnn] at hare hed hcp hcap hL hx15 hn1 ⊢
    rw [← hmm] at hcl hcn ⊢
    have HN := Lib.hid hnn
    have HM := Lib.hid hmm
    have HL := Lib.hid hLL
    have HES := Lib.hid hes
    have hLn : L ≤ 15 := by omega
    have HA := Lib.hid hare
    have HE := Lib.hid hed
    have HC := Lib.hid hcl
    have HP := Lib.hid hcp
    clear hare hed hcl hcp h1 hes hnn hmm hLL hL
    go_enter Try.func6, Try.ntmps6
    go_wp2_with fail
    refine (HA.out).mono ?_
    rintro e w1 ⟨rfl, hb1⟩
    rw [tb_t H1.out]
    go_wp2_with fail
    refine (HE.out w1 (hA.ext hb1)).mono ?_
    rintro e w2 ⟨B2, d2, rfl, hN2, hb2⟩
    have hx2 := ext_trans hb1 hb2
    rw [← HL.out]
    clear hN2
    go_wp2_with fail
    refine (HC.out w2 (hC.ext hx2)).mono ?_
    rintro e w3 ⟨B3, d3, rfl, hC3, hb3⟩
    rw [← HM.out] at hC3 ⊢
    have hx3 := ext_trans hx2 hb3
    have hC3' := hC3.from_ hx2.size
    obtain ⟨W3, hW3, hB3, hz3, hc3, _⟩ := box_world w3 #[Value.int .i64 sheet, .int .i64 ((L : Int) + 1), .int .i64 day, .slice B3 m d3] 53
    have g0 : World.cell? W3 ⟨w3.heap.size, 0, none⟩ = some (.int .i64 sheet) := hc3 0
    have g1 : World.cell? W3 ⟨w3.heap.size, 1, none⟩ = some (.int .i64 ((L : Int) + 1)) := hc3 1
    have g2 : World.cell? W3 ⟨w3.heap.size, 2, none⟩ = some (.int .i64 day) := hc3 2
    have g3 : World.cell? W3 ⟨w3.heap.size, 3, none⟩ = some (.slice B3 m d3) := hc3 3
    have hx4 := ext_trans hx3 hB3
    have hA4 := hA.ext hx4
    have hC4 := hC3'.ext hB3
    have hsz4 := hx4.size
    obtain ⟨e0, he0⟩ : ∃ e0 : Nest, e0 = ⟨sheet, (L : Int) + 1, day, ch⟩ := ⟨_, rfl⟩
    have HE0 := Lib.hid he0
    clear hc3 he0
    go_wp2_with fail
    clear hW3
    go_region_held3 (fun w' => Below (World.heap W3).size W3 w' ∧ ∀ b o, b < (World.heap W3).size → w'.cell? ⟨b, o, none⟩ = World.cell? W3 ⟨b, o, none⟩) (first | exact cls_of (ext_drew _) | exact cls_alloc (by assumption) _ | exact cls_grow (by assumption) hb4' | exact cls_grow (by assumption) hb5) ((first | (go_at_call 29; refine (HP.out _ (hA4.ext ?_)).mono ?_; (first | exact ext_drew _ | exact ext_trans (ext_drew _) (ext_alloc _ _)); rintro e w4 ⟨v4, ys, rfl, hown, hys, hb4⟩; have hz4 : W3.heap.size ≤ w4.heap.size := Nat.le_trans (by simp) hb4.size; have hb4' : Below W3.heap.size _ w4 := hb4.mono (by simp); have hob : ∀ k, v4.ownBlock = some k → W3.heap.size ≤ k := (fun k hk => Nat.le_trans (by simp) (hown.ownBlock k hk).1); have HFR : Hid (ch ≠ [] → ∀ z ∈ ys, Nest.l z.x ≠ [] → z.A ≠ B3) := hown.fresh3 hC4 (by simp); have hown := OwnG.from_ (lo' := w.heap.size) hown (Nat.le_trans hsz4 (by simp)); have hx5 : Below W3.heap.size W3 w4 := (by first | exact (ext_drew W3).trans hb4' | exact (ext_trans (ext_drew W3) (ext_alloc _ _)).trans hb4'); have hC5 := hC4.ext hx5; have hyl : ys.length ≤ 15 := (by have h := congrArg List.length hys; rw [List.length_map, ← HN.out] at h; omega); have HYS := Lib.hid hys) | (refine step_append_g3 (et := 3) (y := ⟨⟨sheet, (L : Int) + 1, day, ch⟩, B3, d3⟩) (hd := hdN) (tl := Nest.l) rfl (.tmp 27) (.tmp 29) 24 rfl w.heap.size 3 i0 _ 48 Try.underlying24 hi hz0 hz1 hz2 rfl (fun _ => rfl) _ ys _ rfl rfl ?_ ?_ (by decide) ?_ HFR.out (by omega) (by decide) ?_ W3.heap.size ?_ hob ?_; (intro j u hu; have hu' : (#[Value.int .i64 sheet, .int .i64 ((L : Int) + 1), .int .i64 day, .slice B3 m d3] : Array Value)[j]? = some u := (by rw [HM.out]; simpa [GV.cells, hdN] using hu); first | exact (World.cell?_alloc_new w4 _ _ j).trans hu' | exact (hb4.cell (p := ⟨W3.heap.size, j, none⟩) (by simp)).trans ((World.cell?_alloc_new W3.drew _ _ j).trans hu')); (first | exact hown | exact hown.ext (ext_alloc _ _)); (show OwnF one 1 w.heap.size 3 _ (.slice B3 ch.length d3) ch; rw [← HM.out]; first | exact hC5 | exact hC5.ext (ext_alloc _ _)); (have := Nat.le_trans hsz4 hz4; first | exact this | (simp; omega)); (first | exact hz4 | (simp; omega)); intro v5 w5 hown5 hg5 hb5; have hx6 : Below W3.heap.size W3 w5 := (by first | exact hx5.trans hb5 | exact (ext_trans hx5 (ext_alloc _ _)).trans hb5 | exact (hx5.trans (below_new hz4 _)).trans hb5))))
    all_goals
      obtain ⟨B5, c5, hv5, hcap5, hcm5, hF5⟩ := hown5.full (fun _ => rfl) (by decide)
      subst hv5
      obtain ⟨zs, hzs⟩ : ∃ zs, zs = xs ++ [e0] := ⟨_, rfl⟩
      have hms : List.map GV.x (ys ++ [⟨⟨sheet, (L : Int) + 1, day, ch⟩, B3, d3⟩]) = zs := by
        rw [List.map_append, HYS.out, hzs, HE0.out]; rfl
      rw [hms] at hcap5 hF5 ⊢
      have hwt : wt zs ≤ 4194304 := by
        have h2 : e0.l.length = m := by rw [HE0.out, HM.out]
        rw [hzs, wt_snoc, h2]; omega
      have HZS := Lib.hid hzs
      have hN5 := hF5.n
      have hx7 := ext_trans hx4 hx6
      have G1 : World.cell? w5 ⟨w3.heap.size, 1, none⟩ = some (.int .i64 ((L : Int) + 1)) := (hx6.cell (p := ⟨w3.heap.size, 1, none⟩) hz3).trans g1
      have hz5 : w3.heap.size < w5.heap.size := Nat.lt_of_lt_of_le hz3 hx6.size
      clear hzs hms hown5 hF5 g0 g1 g2 g3 hown hg5
      go_wp2_with fail
      refine (areEditionsG_any B5 c5 zs _ hwt hcap5 hcm5 hN5.nl).mono ?_
      rintro e w6 ⟨rfl, hb6⟩
      have hN6 := hN5.ext hb6
      have hx8 := ext_trans hx7 hb6
      have G2 : World.cell? w6 ⟨w3.heap.size, 1, none⟩ = some (.int .i64 ((L : Int) + 1)) := (hb6.cell (p := ⟨w3.heap.size, 1, none⟩) hz5).trans G1
      have hz6 : w3.heap.size < w6.heap.size := Nat.lt_of_lt_of_le hz5 hb6.size
      have hye : xs ++ [newE xs sheet day ch] = zs := by rw [HZS.out, HE0.out]; unfold newE; rw [← HES.out, ← HL.out]
      have hyq : ((ofS sheet xs).length : Int) = L := by rw [← HES.out, ← HL.out]
      have HYE := Lib.hid hye
      have HYQ := Lib.hid hyq
      clear hye hyq
      by_cases h2 : Eds zs
      · rw [tb_t h2]
        have H2 := Lib.hid h2
        have hpc := plus_cell w6
        clear h2 G1
        go_wp2_with fail
        refine wp_region_grow (by kernel_rfl) (by kernel_rfl) ?_
        repeat (go_big_quiet_step ((first | (fail))))
        refine wpQuiet_nil ?_
        intro w1 hb1
        go_wp2
        go_ret3
        have hok : NeOk xs sheet day ch := ⟨H1.out, by rw [HYE.out]; exact H2.out⟩
        rw [sel_t hok, seli_t hok, tb_t hok, HYE.out, HYQ.out]
        exact ⟨B5, c5, rfl, ⟨hcap5, hcm5⟩, (hN6.ext hb1).mono (Nat.le_refl _) (Nat.le_trans hb6.size hb1.size), ext_trans hx8 hb1⟩
      · rw [tb_f h2]
        have H2 := Lib.hid h2
        clear h2
        go_wp2
        go_ret3
        have hok : ¬ NeOk xs sheet day ch := fun h => H2.out (by rw [← HYE.out]; exact h.2)
        rw [sel_f hok, seli_f hok, tb_f hok]
        exact ⟨none, 0, rfl, ⟨Nat.le_refl _, Nat.zero_le _⟩, NlO.nil, hx8⟩
  · have hok : ¬ NeOk xs sheet day ch := fun h => h1 h.1
    rw [sel_f hok, seli_f hok, tb_f hok]
    generalize xs.length = n at hare ⊢
    have HA := Lib.hid hare
    have H1 := Lib.hid h1
    clear hok hed hcl hcp hare h1
    go_enter Try.func6, Try.ntmps6
    go_wp2_with fail
    refine (HA.out).mono ?_
    rintro e w1 ⟨rfl, hb1⟩
    rw [tb_f H1.out]
    go_wp2
    go_ret3
    exact ⟨none, 0, rfl, ⟨Nat.le_refl _, Nat.zero_le _⟩, NlO.nil, hb1⟩
end Go.Proofs.Ytadcjfbcfiljkaa
