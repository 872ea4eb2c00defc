/- CutZone: the program's side; IsZone: the reference's side; two variables of zones. No condition. -/
import Derived.Test.YtpjapemclbminaaCutS
import Derived.Test.YtpjapemclbminaaErD
namespace Go.Proofs.Ytpjapemclbminaa
open Go.RowKit
set_option linter.unusedVariables false
set_option linter.unusedSimpArgs false

theorem fl_len : ∀ l : List Four, (l.flatMap someP).length ≤ l.length
  | [] => by simp
  | x :: r => by
    have h1 := fl_len r
    have h2 := some_len x
    rw [List.flatMap_cons, List.length_append, List.length_cons]
    omega
set_option maxHeartbeats 8000000 in
set_option maxRecDepth 100000 in
theorem cutZone_any (a b : Zone) (w : World) :
    Calls Try.prog 23 #[.agg #[.int .i64 a.id, .int .i64 a.west, .int .i64 a.south, .int .i64 a.east, .int .i64 a.north], .agg #[.int .i64 b.id, .int .i64 b.west, .int .i64 b.south, .int .i64 b.east, .int .i64 b.north]] w (RetL Four.ints 4 w (sel (CutOk a b) (cutZ a b)) (tb (CutOk a b))) := by
  obtain ⟨V0, hV0, hB0, hs0, hu0, _⟩ := box_world w #[Value.int .i64 a.id, Value.int .i64 a.west, Value.int .i64 a.south, Value.int .i64 a.east, Value.int .i64 a.north] 35
  obtain ⟨V1, hV1, hB1, hs1, hu1, _⟩ := box_world V0 #[Value.int .i64 b.id, Value.int .i64 b.west, Value.int .i64 b.south, Value.int .i64 b.east, Value.int .i64 b.north] 35
  have hs2 : w.heap.size < V1.heap.size := Nat.lt_of_lt_of_le hs0 hB1.size
  have a0 : World.cell? V1 ⟨w.heap.size, 0, none⟩ = some (.int .i64 a.id) := (hB1.cell (p := ⟨w.heap.size, 0, none⟩) hs0).trans (hu0 0)
  have a1 : World.cell? V1 ⟨w.heap.size, 1, none⟩ = some (.int .i64 a.west) := (hB1.cell (p := ⟨w.heap.size, 1, none⟩) hs0).trans (hu0 1)
  have a2 : World.cell? V1 ⟨w.heap.size, 2, none⟩ = some (.int .i64 a.south) := (hB1.cell (p := ⟨w.heap.size, 2, none⟩) hs0).trans (hu0 2)
  have a3 : World.cell? V1 ⟨w.heap.size, 3, none⟩ = some (.int .i64 a.east) := (hB1.cell (p := ⟨w.heap.size, 3, none⟩) hs0).trans (hu0 3)
  have a4 : World.cell? V1 ⟨w.heap.size, 4, none⟩ = some (.int .i64 a.north) := (hB1.cell (p := ⟨w.heap.size, 4, none⟩) hs0).trans (hu0 4)
  have b0 : World.cell? V1 ⟨V0.heap.size, 0, none⟩ = some (.int .i64 b.id) := hu1 0
  have b1 : World.cell? V1 ⟨V0.heap.size, 1, none⟩ = some (.int .i64 b.west) := hu1 1
  have b2 : World.cell? V1 ⟨V0.heap.size, 2, none⟩ = some (.int .i64 b.south) := hu1 2
  have b3 : World.cell? V1 ⟨V0.heap.size, 3, none⟩ = some (.int .i64 b.east) := hu1 3
  have b4 : World.cell? V1 ⟨V0.heap.size, 4, none⟩ = some (.int .i64 b.north) := hu1 4
  have hB01 := ext_trans hB0 hB1
  clear hu0 hu1
  obtain ⟨i0, hi, hy0, hy1, hy2⟩ := info_parts infoFourA
  go_enter Try.func23, Try.ntmps23
  go_wp2_with fail
  ((with_reducible refine (isZone_any a _).mono ?_); rintro e w3 ⟨rfl, hB3⟩)
  by_cases h1 : IsZon a
  · rw [tb_t h1]
    have da0 := (hB3.cell (p := ⟨w.heap.size, 0, none⟩) hs2).trans a0
    have da1 := (hB3.cell (p := ⟨w.heap.size, 1, none⟩) hs2).trans a1
    have da2 := (hB3.cell (p := ⟨w.heap.size, 2, none⟩) hs2).trans a2
    have da3 := (hB3.cell (p := ⟨w.heap.size, 3, none⟩) hs2).trans a3
    have da4 := (hB3.cell (p := ⟨w.heap.size, 4, none⟩) hs2).trans a4
    have db0 := (hB3.cell (p := ⟨V0.heap.size, 0, none⟩) hs1).trans b0
    have db1 := (hB3.cell (p := ⟨V0.heap.size, 1, none⟩) hs1).trans b1
    have db2 := (hB3.cell (p := ⟨V0.heap.size, 2, none⟩) hs1).trans b2
    have db3 := (hB3.cell (p := ⟨V0.heap.size, 3, none⟩) hs1).trans b3
    have db4 := (hB3.cell (p := ⟨V0.heap.size, 4, none⟩) hs1).trans b4
    have dl1 : w.heap.size < (World.heap w3).size := Nat.lt_of_lt_of_le hs2 (hB3).size
    have dl2 : V0.heap.size < (World.heap w3).size := Nat.lt_of_lt_of_le hs1 (hB3).size
    clear hV0 hV1
    go_wp2_with fail
    ((with_reducible refine (isZone_any b _).mono ?_); rintro e w4 ⟨rfl, hb4⟩)
    have hB4 := ext_trans hB3 hb4
    by_cases h2 : IsZon b
    · rw [tb_t h2]
      have HOK : Hid (CutOk a b) := ⟨h1, h2⟩
      clear h1 h2
      have fa0 := (hB4.cell (p := ⟨w.heap.size, 0, none⟩) hs2).trans a0
      have fa1 := (hB4.cell (p := ⟨w.heap.size, 1, none⟩) hs2).trans a1
      have fa2 := (hB4.cell (p := ⟨w.heap.size, 2, none⟩) hs2).trans a2
      have fa3 := (hB4.cell (p := ⟨w.heap.size, 3, none⟩) hs2).trans a3
      have fa4 := (hB4.cell (p := ⟨w.heap.size, 4, none⟩) hs2).trans a4
      have fb0 := (hB4.cell (p := ⟨V0.heap.size, 0, none⟩) hs1).trans b0
      have fb1 := (hB4.cell (p := ⟨V0.heap.size, 1, none⟩) hs1).trans b1
      have fb2 := (hB4.cell (p := ⟨V0.heap.size, 2, none⟩) hs1).trans b2
      have fb3 := (hB4.cell (p := ⟨V0.heap.size, 3, none⟩) hs1).trans b3
      have fb4 := (hB4.cell (p := ⟨V0.heap.size, 4, none⟩) hs1).trans b4
      have fl1 : w.heap.size < (World.heap w4).size := Nat.lt_of_lt_of_le hs2 (hB4).size
      have fl2 : V0.heap.size < (World.heap w4).size := Nat.lt_of_lt_of_le hs1 (hB4).size
      have hpc := plus_cell w4
      have HQ4 := Lib.hid hB4
      clear hb4 hB4
      go_wp2_with fail
      refine wp_region_grow (by kernel_rfl) (by kernel_rfl) ?_
      repeat (go_big_quiet_step ((first | (fail))))
      refine wpQuiet_nil ?_
      intro w1 hb1
      obtain ⟨w5, hw5⟩ : ∃ z, z = w1 := ⟨_, rfl⟩
      subst hw5
      have hK5 := ext_trans HQ4.out hb1
      have ga0 := (hK5.cell (p := ⟨w.heap.size, 0, none⟩) hs2).trans a0
      have ga1 := (hK5.cell (p := ⟨w.heap.size, 1, none⟩) hs2).trans a1
      have ga2 := (hK5.cell (p := ⟨w.heap.size, 2, none⟩) hs2).trans a2
      have ga3 := (hK5.cell (p := ⟨w.heap.size, 3, none⟩) hs2).trans a3
      have ga4 := (hK5.cell (p := ⟨w.heap.size, 4, none⟩) hs2).trans a4
      have gb0 := (hK5.cell (p := ⟨V0.heap.size, 0, none⟩) hs1).trans b0
      have gb1 := (hK5.cell (p := ⟨V0.heap.size, 1, none⟩) hs1).trans b1
      have gb2 := (hK5.cell (p := ⟨V0.heap.size, 2, none⟩) hs1).trans b2
      have gb3 := (hK5.cell (p := ⟨V0.heap.size, 3, none⟩) hs1).trans b3
      have gb4 := (hK5.cell (p := ⟨V0.heap.size, 4, none⟩) hs1).trans b4
      have gl1 : w.heap.size < (World.heap w5).size := Nat.lt_of_lt_of_le hs2 (hK5).size
      have gl2 : V0.heap.size < (World.heap w5).size := Nat.lt_of_lt_of_le hs1 (hK5).size
      clear hpc hb1
      obtain ⟨W0, hW0, hX0, hz0, _, _⟩ := box_world w5 #[Value.int .i64 (a.west), Value.int .i64 (a.south), Value.int .i64 (a.east), Value.int .i64 (min a.north b.south), Value.int .i64 (a.west), Value.int .i64 (max a.south b.north), Value.int .i64 (a.east), Value.int .i64 (a.north), Value.int .i64 (a.west), Value.int .i64 (max a.south b.south), Value.int .i64 (min a.east b.west), Value.int .i64 (min a.north b.north), Value.int .i64 (max a.west b.east), Value.int .i64 (max a.south b.south), Value.int .i64 (a.east), Value.int .i64 (min a.north b.north)] 50
      have hlt9 := lit_row (f := Four.ints) Four.ints_length w5 ([⟨a.west, a.south, a.east, min a.north b.south⟩, ⟨a.west, max a.south b.north, a.east, a.north⟩, ⟨a.west, max a.south b.south, min a.east b.west, min a.north b.north⟩, ⟨max a.west b.east, max a.south b.south, a.east, min a.north b.north⟩] : List Four) 50
      have eR : (row Four.ints ([⟨a.west, a.south, a.east, min a.north b.south⟩, ⟨a.west, max a.south b.north, a.east, a.north⟩, ⟨a.west, max a.south b.south, min a.east b.west, min a.north b.north⟩, ⟨max a.west b.east, max a.south b.south, a.east, min a.north b.north⟩] : List Four)).toArray = #[Value.int .i64 (a.west), Value.int .i64 (a.south), Value.int .i64 (a.east), Value.int .i64 (min a.north b.south), Value.int .i64 (a.west), Value.int .i64 (max a.south b.north), Value.int .i64 (a.east), Value.int .i64 (a.north), Value.int .i64 (a.west), Value.int .i64 (max a.south b.south), Value.int .i64 (min a.east b.west), Value.int .i64 (min a.north b.north), Value.int .i64 (max a.west b.east), Value.int .i64 (max a.south b.south), Value.int .i64 (a.east), Value.int .i64 (min a.north b.north)] := rfl
      rw [eR] at hlt9
      have hFL : FlO Four.ints 4 w5.heap.size (w5.heap.size + 1) W0 (some ⟨w5.heap.size, 0, none⟩) ([⟨a.west, a.south, a.east, min a.north b.south⟩, ⟨a.west, max a.south b.north, a.east, a.north⟩, ⟨a.west, max a.south b.south, min a.east b.west, min a.north b.north⟩, ⟨max a.west b.east, max a.south b.south, a.east, min a.north b.north⟩] : List Four) := hW0 ▸ hlt9
      have HE : Hid (cutZ a b = ([⟨a.west, a.south, a.east, min a.north b.south⟩, ⟨a.west, max a.south b.north, a.east, a.north⟩, ⟨a.west, max a.south b.south, min a.east b.west, min a.north b.north⟩, ⟨max a.west b.east, max a.south b.south, a.east, min a.north b.north⟩] : List Four).flatMap someP) := by unfold Hid cutZ; simp
      obtain ⟨ps, hps⟩ : ∃ z, z = ([⟨a.west, a.south, a.east, min a.north b.south⟩, ⟨a.west, max a.south b.north, a.east, a.north⟩, ⟨a.west, max a.south b.south, min a.east b.west, min a.north b.north⟩, ⟨max a.west b.east, max a.south b.south, a.east, min a.north b.north⟩] : List Four) := ⟨_, rfl⟩
      have hpl : ps.length = 4 := by rw [hps]; rfl
      rw [← hps] at hFL HE
      have hBW := ext_trans hK5 hX0
      have HBW := Lib.hid hBW
      have HPL := Lib.hid hpl
      clear hlt9 eR hps hK5 hX0 hBW hpl
      go_wp2
      go_loopw [8, 75] (fun v i wr => ∃ k : Nat, k ≤ 4 ∧ i = .int .i64 k ∧ Below W0.heap.size W0 wr ∧ OwnF Four.ints 4 W0.heap.size 50 wr v ((ps.take k).flatMap someP)) (fun _ i _ => 4 - (intOf i).toNat)
      case atStart => exact ⟨0, by omega, rfl, Below.refl _ _, OwnF.none_⟩
      case round =>
        obtain ⟨k, hk, rfl, hbr, hown⟩ := hrel
        have hzr := hbr.size
        by_cases hlt : k < 4
        · obtain ⟨x, b9, o9, hx, hAe, hbb, hc⟩ := (hFL.fl.ext hbr).at_ (k := k) (by rw [HPL.out]; exact hlt)
          injection hAe with hAe
          injection hAe with e1 e2 _
          subst e1 e2
          simp only [Nat.zero_add] at hc
          have c0 : World.cell? wr ⟨w5.heap.size, k * 4, none⟩ = some (.int .i64 x.a) := hc 0 _ rfl
          have c1 : World.cell? wr ⟨w5.heap.size, k * 4 + 1, none⟩ = some (.int .i64 x.b) := hc 1 _ rfl
          have c2 : World.cell? wr ⟨w5.heap.size, k * 4 + 2, none⟩ = some (.int .i64 x.c) := hc 2 _ rfl
          have c3 : World.cell? wr ⟨w5.heap.size, k * 4 + 3, none⟩ = some (.int .i64 x.d) := hc 3 _ rfl
          have hlen : ((ps.take k).flatMap someP).length ≤ 1048576 := by
            have h := fl_len (ps.take k)
            rw [List.length_take] at h
            omega
          have hst : (ps.take (k + 1)).flatMap someP = (ps.take k).flatMap someP ++ someP x := by rw [take_get hx]; simp
          have HST := Lib.hid hst
          obtain ⟨W1, hW1, hB1', hz1, hg, _⟩ := box_world wr #[Value.int .i64 x.a, .int .i64 x.b, .int .i64 x.c, .int .i64 x.d] 50
          have r0 : World.cell? W1 ⟨wr.heap.size, 0, none⟩ = some (.int .i64 x.a) := hg 0
          have r1 : World.cell? W1 ⟨wr.heap.size, 1, none⟩ = some (.int .i64 x.b) := hg 1
          have r2 : World.cell? W1 ⟨wr.heap.size, 2, none⟩ = some (.int .i64 x.c) := hg 2
          have r3 : World.cell? W1 ⟨wr.heap.size, 3, none⟩ = some (.int .i64 x.d) := hg 3
          have hown0 := hown.ext hB1'
          have hbW := ext_trans hbr hB1'
          clear hc hg hx hst
          have hk0 : (0 : Int) ≤ (k : Int) := by omega
          have hk1 : (k : Int) < (4 : Int) := by omega
          by_cases h1 : x.a < x.c
          · by_cases h2 : x.b < x.d
            · have HSP : Hid (someP x = [x]) := if_pos ⟨h1, h2⟩
              go_wp2_with (at_builtin; refine wpList_append_flat (f := Four.ints) (y := x) rfl _ _ _ rfl W0.heap.size i0 _ 4 32 Try.underlying45 hi hy0 hy1 hy2 rfl (by decide) _ _ rfl rfl hown0 rfl ?_ (by decide) ?_ ?_; omega; exact hbW.size; intro v' w6 hown6 hg6 hb6)
              go_roundw
              case rel => exact ⟨k + 1, by omega, by go_num, hbW.trans hb6, by rw [HST.out, HSP.out]; exact hown6⟩
              case measure => simp [intOf]; omega
            · have HSP : Hid (someP x = []) := if_neg (fun h => h2 h.2)
              go_wp2
              go_roundw
              case rel => exact ⟨k + 1, by omega, by go_num, hbW, by rw [HST.out, HSP.out, List.append_nil]; exact hown0⟩
              case measure => simp [intOf]; omega
          · have HSP : Hid (someP x = []) := if_neg (fun h => h1 h.1)
            go_wp2
            go_roundw
            case rel => exact ⟨k + 1, by omega, by go_num, hbW, by rw [HST.out, HSP.out, List.append_nil]; exact hown0⟩
            case measure => simp [intOf]; omega
        · have hkn : k = 4 := by omega
          subst hkn
          go_wp2
          go_ret2
          rw [take_all (by rw [HPL.out]; exact Nat.le_refl _), ← HE.out] at hown
          rw [sel_t HOK.out, tb_t HOK.out]
          obtain ⟨A9, d9, hv9, hF9⟩ := hown.form Four.ints_length
          subst hv9
          have hBZ := ext_trans hB01 (ext_trans HBW.out hbr)
          exact ⟨A9, d9, rfl, hF9.mono (Nat.le_trans (Nat.le_of_lt hs2) HBW.out.size) (Nat.le_refl _), hBZ⟩
    · rw [tb_f h2]
      go_wp2
      go_ret2
      have hok : ¬ CutOk a b := fun h => h2 h.2
      rw [sel_f hok, tb_f hok]
      exact ⟨none, 0, rfl, FlO.nil, ext_trans hB01 (hB4)⟩
  · rw [tb_f h1]
    go_wp2
    go_ret2
    have hok : ¬ CutOk a b := fun h => h1 h.1
    rw [sel_f hok, tb_f hok]
    exact ⟨none, 0, rfl, FlO.nil, ext_trans hB01 (hB3)⟩
set_option maxHeartbeats 400000 in
theorem specIsZone_any (x : Zone) (w : World) :
    Calls Try.prog 27 #[.agg #[.int .i64 x.id, .int .i64 x.west, .int .i64 x.south, .int .i64 x.east, .int .i64 x.north]] w fun e w' => e = .returned (.bool (tb (IsZon x))) ∧ Below w.heap.size w w' := by
  go_enter Try.func27, Try.ntmps27
  go_wp2_with fail
  refine (l6Zone_any x _).mono ?_
  rintro e w3 ⟨rfl, hb3⟩
  go_wp2
  go_ret
  exact ⟨rfl, by first | exact hb3 | exact ext_trans (ext_alloc _ _) hb3⟩
theorem sel_mem {α : Type} {p : Prop} {l : List α} {x : α} (h : x ∈ sel p l) : p ∧ x ∈ l := by
  by_cases q : p
  · rw [sel_t q] at h; exact ⟨q, h⟩
  · rw [sel_f q] at h; simp at h
theorem VarL.set5 {w : World} {B : Nat} {x0 x1 x2 x3 x4 : Value} (h : VarL w B [x0, x1, x2, x3, x4]) (a b c d e : Value) : VarL (((((w.setCell ⟨B, 0, none⟩ a).setCell ⟨B, 1, none⟩ b).setCell ⟨B, 2, none⟩ c).setCell ⟨B, 3, none⟩ d).setCell ⟨B, 4, none⟩ e) B [a, b, c, d, e] :=
  ((((h.set 0 a (by simp)).set 1 b (by simp)).set 2 c (by simp)).set 3 d (by simp)).set 4 e (by simp)
theorem zlit (w : World) (a b : Zone) (e : TypeId) : Fl Zone.ints 5 (w.alloc (.cells #[.int .i64 a.id, .int .i64 a.west, .int .i64 a.south, .int .i64 a.east, .int .i64 a.north, .int .i64 b.id, .int .i64 b.west, .int .i64 b.south, .int .i64 b.east, .int .i64 b.north] e)) (some ⟨w.heap.size, 0, none⟩) [a, b] := (lit_row (f := Zone.ints) Zone.ints_length w [a, b] e).fl
end Go.Proofs.Ytpjapemclbminaa
