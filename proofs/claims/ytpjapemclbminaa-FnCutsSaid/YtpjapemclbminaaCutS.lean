/- CutZone: the reference's side. No condition. -/
import Derived.Test.YtpjapemclbminaaOvS
import Derived.Test.YtpjapemclbminaaOwn2
import Derived.BigQuiet
import Derived.Deep.RegionHeld3
namespace Go.Proofs.Ytpjapemclbminaa
open Go.RowKit
set_option linter.unusedVariables false
set_option linter.unusedSimpArgs false

theorem infoFourA : (Try.prog.info? 50).map (fun i => (i.zero, i.size, i.bytes)) = some (some (.agg (Array.replicate 4 (.int .i64 0))), 4, 32) := by kernel_rfl
theorem lit_row {α : Type} {f : α → List Int} {sz : Nat} (hls : ∀ y, (f y).length = sz) (w : World) (xs : List α) (e : TypeId) : FlO f sz w.heap.size (w.heap.size + 1) (w.alloc (.cells (row f xs).toArray e)) (some ⟨w.heap.size, 0, none⟩) xs := fun _ => by
  refine ⟨w.heap.size, 0, rfl, by simp, Nat.le_refl _, Nat.lt_succ_self _, fun j => by unfold World.frozen?; rw [show (w.alloc (.cells (row f xs).toArray e)).heap[(⟨w.heap.size, j, none⟩ : Addr).block]? = some (.cells (row f xs).toArray e) from heap_alloc_new w _]; simp, fun i x hx j v hv => ?_⟩
  rw [Nat.zero_add, World.cell?_alloc_new]
  have h := row_get hls xs i x hx j v hv
  rw [List.getElem?_toArray]
  exact h
set_option maxHeartbeats 2000000 in
set_option maxRecDepth 100000 in
theorem l6Some_any (v : Value) (ys : List Four) (a b c d : Int) (lo : Nat) (w : World) (hlo : lo ≤ w.heap.size) (hO : OwnF Four.ints 4 lo 50 w v ys) (hn : ys.length ≤ 1000) :
    Calls Try.prog 58 #[v, .int .i64 a, .int .i64 b, .int .i64 c, .int .i64 d] w fun e w' => ∃ v', e = .returned v' ∧ OwnF Four.ints 4 lo 50 w' v' (ys ++ someP ⟨a, b, c, d⟩) ∧ Below lo w w' := by
  obtain ⟨i0, hi, hz0, hz1, hz2⟩ := info_parts infoFourA
  obtain ⟨A, cp, rfl, _⟩ := hO.form Four.ints_length
  by_cases h1 : a < c
  · have g1 : ¬ c ≤ a := by omega
    by_cases h2 : b < d
    · have g2 : ¬ d ≤ b := by omega
      rw [show someP ⟨a, b, c, d⟩ = [⟨a, b, c, d⟩] from if_pos ⟨h1, h2⟩]
      have hlen : ys.length ≤ 1048576 := by omega
      go_enter Try.func58, Try.ntmps58
      go_wp2_with (at_builtin; refine wpList_append_flat (f := Four.ints) (y := ⟨a, b, c, d⟩) rfl _ _ _ rfl lo i0 _ 4 32 Try.underlying45 hi hz0 hz1 hz2 rfl (by decide) _ _ rfl rfl hO rfl ?_ (by decide) ?_ ?_; omega; exact hlo; intro v' w3 hown3 hg3 hb3)
      go_ret
      exact ⟨v', rfl, hown3, hb3⟩
    · have g2 : d ≤ b := by omega
      rw [show someP ⟨a, b, c, d⟩ = [] from if_neg (fun h => h2 h.2), List.append_nil]
      go_enter Try.func58, Try.ntmps58
      go_wp2
      go_ret
      exact ⟨_, rfl, hO, Below.refl _ _⟩
  · have g1 : c ≤ a := by omega
    rw [show someP ⟨a, b, c, d⟩ = [] from if_neg (fun h => h1 h.1), List.append_nil]
    go_enter Try.func58, Try.ntmps58
    go_wp2
    go_ret
    exact ⟨_, rfl, hO, Below.refl _ _⟩
set_option maxHeartbeats 8000000 in
set_option maxRecDepth 100000 in
theorem specCutZone_any (a b : Zone) (w : World) :
    Calls Try.prog 24 #[.agg #[.int .i64 a.id, .int .i64 a.west, .int .i64 a.south, .int .i64 a.east, .int .i64 a.north], .agg #[.int .i64 b.id, .int .i64 b.west, .int .i64 b.south, .int .i64 b.east, .int .i64 b.north]] w (RetL Four.ints 4 w (sel (CutOk a b) (cutZ a b)) (tb (CutOk a b))) := by
  obtain ⟨V0, hV0, hB0, hs0, hu0, _⟩ := box_world w #[Value.int .i64 a.id, Value.int .i64 a.west, Value.int .i64 a.south, Value.int .i64 a.east, Value.int .i64 a.north] 35
  obtain ⟨V1, hV1, hB1, hs1, hu1, _⟩ := box_world V0 #[Value.int .i64 b.id, Value.int .i64 b.west, Value.int .i64 b.south, Value.int .i64 b.east, Value.int .i64 b.north] 35
  have hs2 : w.heap.size < V1.heap.size := Nat.lt_of_lt_of_le hs0 hB1.size
  have a0 : World.cell? V1 ⟨w.heap.size, 0, none⟩ = some (.int .i64 a.id) := (hB1.cell (p := ⟨w.heap.size, 0, none⟩) hs0).trans (hu0 0)
  have a1 : World.cell? V1 ⟨w.heap.size, 1, none⟩ = some (.int .i64 a.west) := (hB1.cell (p := ⟨w.heap.size, 1, none⟩) hs0).trans (hu0 1)
  have a2 : World.cell? V1 ⟨w.heap.size, 2, none⟩ = some (.int .i64 a.south) := (hB1.cell (p := ⟨w.heap.size, 2, none⟩) hs0).trans (hu0 2)
  have a3 : World.cell? V1 ⟨w.heap.size, 3, none⟩ = some (.int .i64 a.east) := (hB1.cell (p := ⟨w.heap.size, 3, none⟩) hs0).trans (hu0 3)
  have a4 : World.cell? V1 ⟨w.heap.size, 4, none⟩ = some (.int .i64 a.north) := (hB1.cell (p := ⟨w.heap.size, 4, none⟩) hs0).trans (hu0 4)
  have b0 : World.cell? V1 ⟨V0.heap.size, 0, none⟩ = some (.int .i64 b.id) := hu1 0
  have b1 : World.cell? V1 ⟨V0.heap.size, 1, none⟩ = some (.int .i64 b.west) := hu1 1
  have b2 : World.cell? V1 ⟨V0.heap.size, 2, none⟩ = some (.int .i64 b.south) := hu1 2
  have b3 : World.cell? V1 ⟨V0.heap.size, 3, none⟩ = some (.int .i64 b.east) := hu1 3
  have b4 : World.cell? V1 ⟨V0.heap.size, 4, none⟩ = some (.int .i64 b.north) := hu1 4
  have hB01 := ext_trans hB0 hB1
  clear hu0 hu1
  obtain ⟨V2, hV2, hB2, hs3, hu3, hf3⟩ := box_world V1 #[] 50
  have hO0 : OwnF Four.ints 4 V1.heap.size 50 V2 (.slice (some ⟨V1.heap.size, 0, none⟩) 0 0) [] := hV2 ▸ OwnF.empty (Nat.le_refl _)
  clear hu3 hf3
  have ca0 := (hB2.cell (p := ⟨w.heap.size, 0, none⟩) hs2).trans a0
  have ca1 := (hB2.cell (p := ⟨w.heap.size, 1, none⟩) hs2).trans a1
  have ca2 := (hB2.cell (p := ⟨w.heap.size, 2, none⟩) hs2).trans a2
  have ca3 := (hB2.cell (p := ⟨w.heap.size, 3, none⟩) hs2).trans a3
  have ca4 := (hB2.cell (p := ⟨w.heap.size, 4, none⟩) hs2).trans a4
  have cb0 := (hB2.cell (p := ⟨V0.heap.size, 0, none⟩) hs1).trans b0
  have cb1 := (hB2.cell (p := ⟨V0.heap.size, 1, none⟩) hs1).trans b1
  have cb2 := (hB2.cell (p := ⟨V0.heap.size, 2, none⟩) hs1).trans b2
  have cb3 := (hB2.cell (p := ⟨V0.heap.size, 3, none⟩) hs1).trans b3
  have cb4 := (hB2.cell (p := ⟨V0.heap.size, 4, none⟩) hs1).trans b4
  have cl1 : w.heap.size < (World.heap V2).size := Nat.lt_of_lt_of_le hs2 (hB2).size
  have cl2 : V0.heap.size < (World.heap V2).size := Nat.lt_of_lt_of_le hs1 (hB2).size
  go_enter Try.func24, Try.ntmps24
  go_wp2_with fail
  ((with_reducible refine (l6Zone_any a _).mono ?_); rintro e w3 ⟨rfl, hb3⟩)
  have hB3 := ext_trans hB2 hb3
  by_cases h1 : IsZon a
  · rw [tb_t h1]
    have da0 := (hB3.cell (p := ⟨w.heap.size, 0, none⟩) hs2).trans a0
    have da1 := (hB3.cell (p := ⟨w.heap.size, 1, none⟩) hs2).trans a1
    have da2 := (hB3.cell (p := ⟨w.heap.size, 2, none⟩) hs2).trans a2
    have da3 := (hB3.cell (p := ⟨w.heap.size, 3, none⟩) hs2).trans a3
    have da4 := (hB3.cell (p := ⟨w.heap.size, 4, none⟩) hs2).trans a4
    have db0 := (hB3.cell (p := ⟨V0.heap.size, 0, none⟩) hs1).trans b0
    have db1 := (hB3.cell (p := ⟨V0.heap.size, 1, none⟩) hs1).trans b1
    have db2 := (hB3.cell (p := ⟨V0.heap.size, 2, none⟩) hs1).trans b2
    have db3 := (hB3.cell (p := ⟨V0.heap.size, 3, none⟩) hs1).trans b3
    have db4 := (hB3.cell (p := ⟨V0.heap.size, 4, none⟩) hs1).trans b4
    have dl1 : w.heap.size < (World.heap w3).size := Nat.lt_of_lt_of_le hs2 (hB3).size
    have dl2 : V0.heap.size < (World.heap w3).size := Nat.lt_of_lt_of_le hs1 (hB3).size
    clear hV0 hV1 hV2
    go_wp2_with fail
    ((with_reducible refine (l6Zone_any b _).mono ?_); rintro e w4 ⟨rfl, hb4⟩)
    have hB4 := ext_trans hB3 hb4
    by_cases h2 : IsZon b
    · rw [tb_t h2]
      have HOK : Hid (CutOk a b) := ⟨h1, h2⟩
      have HSM : Hid (cutS a b = cutZ a b) := cut_same (zb_of h1) (zb_of h2)
      have HO0 := Lib.hid ((hO0.ext hb3).ext hb4)
      clear h1 h2 hO0
      have fa0 := (hB4.cell (p := ⟨w.heap.size, 0, none⟩) hs2).trans a0
      have fa1 := (hB4.cell (p := ⟨w.heap.size, 1, none⟩) hs2).trans a1
      have fa2 := (hB4.cell (p := ⟨w.heap.size, 2, none⟩) hs2).trans a2
      have fa3 := (hB4.cell (p := ⟨w.heap.size, 3, none⟩) hs2).trans a3
      have fa4 := (hB4.cell (p := ⟨w.heap.size, 4, none⟩) hs2).trans a4
      have fb0 := (hB4.cell (p := ⟨V0.heap.size, 0, none⟩) hs1).trans b0
      have fb1 := (hB4.cell (p := ⟨V0.heap.size, 1, none⟩) hs1).trans b1
      have fb2 := (hB4.cell (p := ⟨V0.heap.size, 2, none⟩) hs1).trans b2
      have fb3 := (hB4.cell (p := ⟨V0.heap.size, 3, none⟩) hs1).trans b3
      have fb4 := (hB4.cell (p := ⟨V0.heap.size, 4, none⟩) hs1).trans b4
      have fl1 : w.heap.size < (World.heap w4).size := Nat.lt_of_lt_of_le hs2 (hB4).size
      have fl2 : V0.heap.size < (World.heap w4).size := Nat.lt_of_lt_of_le hs1 (hB4).size
      have hpc := plus_cell w4
      have HQ4 := Lib.hid hB4
      clear hb3 hb4 hB4
      go_wp2_with fail
      refine wp_region_grow (by kernel_rfl) (by kernel_rfl) ?_
      repeat (go_big_quiet_step ((first | (go_at_call 57; exact quiet_same (l1Mx_any _ _ _)) | (go_at_call 56; exact quiet_same (l1Mn_any _ _ _)))))
      refine wpQuiet_nil ?_
      intro w1 hb1
      obtain ⟨w5, hw5⟩ : ∃ z, z = w1 := ⟨_, rfl⟩
      subst hw5
      have hK5 := ext_trans HQ4.out hb1
      obtain ⟨low, hlow⟩ : ∃ z, z = lowZ a b := ⟨_, rfl⟩
      obtain ⟨high, hhigh⟩ : ∃ z, z = highZ a b := ⟨_, rfl⟩
      have el : min a.north (max a.south b.south) = low := hlow.symm
      have eh : max a.south (min a.north b.north) = high := hhigh.symm
      rw [el, eh]
      have HE : Hid (cutZ a b = [] ++ someP ⟨a.west, a.south, a.east, low⟩ ++ someP ⟨a.west, max low high, a.east, a.north⟩ ++ someP ⟨a.west, low, min a.east b.west, high⟩ ++ someP ⟨max a.west b.east, low, a.east, high⟩) := by unfold Hid; rw [← HSM.out]; unfold cutS; rw [hlow, hhigh]; simp
      have HO5 := Lib.hid (HO0.out.ext hb1)
      clear el eh hlow hhigh hpc hb1 HO0
      have ga0 := (hK5.cell (p := ⟨w.heap.size, 0, none⟩) hs2).trans a0
      have ga1 := (hK5.cell (p := ⟨w.heap.size, 1, none⟩) hs2).trans a1
      have ga2 := (hK5.cell (p := ⟨w.heap.size, 2, none⟩) hs2).trans a2
      have ga3 := (hK5.cell (p := ⟨w.heap.size, 3, none⟩) hs2).trans a3
      have ga4 := (hK5.cell (p := ⟨w.heap.size, 4, none⟩) hs2).trans a4
      have gb0 := (hK5.cell (p := ⟨V0.heap.size, 0, none⟩) hs1).trans b0
      have gb1 := (hK5.cell (p := ⟨V0.heap.size, 1, none⟩) hs1).trans b1
      have gb2 := (hK5.cell (p := ⟨V0.heap.size, 2, none⟩) hs1).trans b2
      have gb3 := (hK5.cell (p := ⟨V0.heap.size, 3, none⟩) hs1).trans b3
      have gb4 := (hK5.cell (p := ⟨V0.heap.size, 4, none⟩) hs1).trans b4
      have gl1 : w.heap.size < (World.heap w5).size := Nat.lt_of_lt_of_le hs2 (hK5).size
      have gl2 : V0.heap.size < (World.heap w5).size := Nat.lt_of_lt_of_le hs1 (hK5).size
      have hz5 : V1.heap.size ≤ w5.heap.size := hK5.size
      have S1 := some_len ⟨a.west, a.south, a.east, low⟩
      have S2 := some_len ⟨a.west, max low high, a.east, a.north⟩
      have S3 := some_len ⟨a.west, low, min a.east b.west, high⟩
      go_wp2_with fail
      ((with_reducible refine (l6Some_any _ [] _ _ _ _ V1.heap.size _ hz5 HO5.out (by simp)).mono ?_); rintro e w6 ⟨v6, rfl, hO6, hb6⟩)
      have hK6 := hK5.trans hb6
      have HK6 := Lib.hid hK6
      have HO6 := Lib.hid hO6
      clear hK6 hO6 hK5 hb6 HO5
      have hz6 : V1.heap.size ≤ (World.heap w6).size := HK6.out.size
      go_wp2_with fail
      go_region_held3 (fun w' => Below V1.heap.size V1 w' ∧ ∀ b o, b < V1.heap.size → w'.cell? ⟨b, o, none⟩ = World.cell? V1 ⟨b, o, none⟩) (first | with_reducible exact cls_of (HK6.out.drew) | with_reducible exact cls_of HK7q.out) ((first | (go_at_call 57; (with_reducible refine (l1Mx_any _ _ _).mono ?_); rintro e _ ⟨rfl, rfl⟩) | (go_at_call 58; (with_reducible refine (l6Some_any _ ([] ++ someP ⟨a.west, a.south, a.east, low⟩) _ _ _ _ V1.heap.size _ HK6.out.drew.size (HO6.out.ext (ext_drew _)) ?_).mono ?_); (simp only [List.length_append, List.length_nil]; omega); rintro e w7 ⟨v7, rfl, hO7, hb7⟩; have HK7q := Lib.hid (HK6.out.drew.trans hb7); have HO7 := Lib.hid hO7; clear hO7 hb7)))
      have HK7 := HK7q
      have hz7 : V1.heap.size ≤ (World.heap w7).size := HK7.out.size
      go_wp2_with fail
      go_region_held3 (fun w' => Below V1.heap.size V1 w' ∧ ∀ b o, b < V1.heap.size → w'.cell? ⟨b, o, none⟩ = World.cell? V1 ⟨b, o, none⟩) (first | with_reducible exact cls_of (HK7.out.drew) | with_reducible exact cls_of HK8q.out) ((first | (go_at_call 56; (with_reducible refine (l1Mn_any _ _ _).mono ?_); rintro e _ ⟨rfl, rfl⟩) | (go_at_call 58; (with_reducible refine (l6Some_any _ ([] ++ someP ⟨a.west, a.south, a.east, low⟩ ++ someP ⟨a.west, max low high, a.east, a.north⟩) _ _ _ _ V1.heap.size _ HK7.out.drew.size (HO7.out.ext (ext_drew _)) ?_).mono ?_); (simp only [List.length_append, List.length_nil]; omega); rintro e w8 ⟨v8, rfl, hO8, hb8⟩; have HK8q := Lib.hid (HK7.out.drew.trans hb8); have HO8 := Lib.hid hO8; clear hO8 hb8)))
      have HK8 := HK8q
      have hz8 : V1.heap.size ≤ (World.heap w8).size := HK8.out.size
      go_wp2_with fail
      go_region_held3 (fun w' => Below V1.heap.size V1 w' ∧ ∀ b o, b < V1.heap.size → w'.cell? ⟨b, o, none⟩ = World.cell? V1 ⟨b, o, none⟩) (first | with_reducible exact cls_of (HK8.out.drew) | with_reducible exact cls_of HK9q.out) ((first | (go_at_call 57; (with_reducible refine (l1Mx_any _ _ _).mono ?_); rintro e _ ⟨rfl, rfl⟩) | (go_at_call 58; (with_reducible refine (l6Some_any _ ([] ++ someP ⟨a.west, a.south, a.east, low⟩ ++ someP ⟨a.west, max low high, a.east, a.north⟩ ++ someP ⟨a.west, low, min a.east b.west, high⟩) _ _ _ _ V1.heap.size _ HK8.out.drew.size (HO8.out.ext (ext_drew _)) ?_).mono ?_); (simp only [List.length_append, List.length_nil]; omega); rintro e w9 ⟨v9, rfl, hO9, hb9⟩; have HK9q := Lib.hid (HK8.out.drew.trans hb9); have HO9 := Lib.hid hO9; clear hO9 hb9)))
      have HK9 := HK9q
      go_wp2
      go_ret2
      rw [sel_t HOK.out, tb_t HOK.out, HE.out]
      obtain ⟨A9, d9, hv9, hF9⟩ := HO9.out.form Four.ints_length
      subst hv9
      exact ⟨A9, d9, rfl, hF9.mono (Nat.le_trans (Nat.le_of_lt hs2) (Nat.le_refl _)) (Nat.le_refl _), (hB01.trans (HK9.out.mono (Nat.le_of_lt hs2)))⟩
    · rw [tb_f h2]
      go_wp2
      go_ret2
      have hok : ¬ CutOk a b := fun h => h2 h.2
      rw [sel_f hok, tb_f hok]
      exact ⟨some ⟨V1.heap.size, 0, none⟩, 0, rfl, FlO.nil, ext_trans hB01 (hB4)⟩
  · rw [tb_f h1]
    go_wp2
    go_ret2
    have hok : ¬ CutOk a b := fun h => h1 h.1
    rw [sel_f hok, tb_f hok]
    exact ⟨some ⟨V1.heap.size, 0, none⟩, 0, rfl, FlO.nil, ext_trans hB01 (hB3)⟩
end Go.Proofs.Ytpjapemclbminaa
