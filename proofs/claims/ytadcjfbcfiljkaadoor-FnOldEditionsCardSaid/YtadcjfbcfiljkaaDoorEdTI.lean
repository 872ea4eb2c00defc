/- EditionText on both sides. No condition. -/
import Derived.Test.YtadcjfbcfiljkaaDoorEdD
import Derived.Test.YtadcjfbcfiljkaaDoorTextI
import Derived.BigQuiet
namespace Go.Proofs.YtadcjfbcfiljkaaDoor
open Go.RowKit
set_option linter.unusedVariables false
set_option linter.unusedSimpArgs false

set_option maxHeartbeats 8000000 in
set_option maxRecDepth 100000 in
theorem editionText_any (x : Nest) (A : Option Addr) (dd : Nat) (w : World) (hn : x.l.length ≤ 4194304) (hA : Fl one 1 w A x.l) (hT : Pow w.heap.size w) :
    Calls Tryd.prog 20 #[.agg #[.int .i64 x.a, .int .i64 x.b, .int .i64 x.c, .slice A x.l.length dd]] w fun e w' => e = .returned (.tuple #[.string (selt (IsEd x) (edX x)), .bool (tb (IsEd x))]) ∧ Below w.heap.size w w' := by
  obtain ⟨V0, hV0, hB0, hz0, hc0, _⟩ := box_world w #[Value.int .i64 x.a, .int .i64 x.b, .int .i64 x.c, .slice A x.l.length dd] 33
  have e0 : World.cell? V0 ⟨w.heap.size, 0, none⟩ = some (.int .i64 x.a) := hc0 0
  have e1 : World.cell? V0 ⟨w.heap.size, 1, none⟩ = some (.int .i64 x.b) := hc0 1
  have e2 : World.cell? V0 ⟨w.heap.size, 2, none⟩ = some (.int .i64 x.c) := hc0 2
  have e3 : World.cell? V0 ⟨w.heap.size, 3, none⟩ = some (.slice A x.l.length dd) := hc0 3
  clear hc0
  have ho := isEdition_any x A dd V0 hn (hA.ext hB0)
  obtain ⟨n, hnn⟩ : ∃ n, n = x.l.length := ⟨_, rfl⟩
  have HT := Lib.hid hT
  clear hT
  by_cases hq : IsEd x
  · obtain ⟨i1, i2, i3, ⟨i4, i5⟩, ⟨i6, i7⟩, ⟨i8, i9⟩, i10⟩ := id hq
    obtain ⟨a, ha⟩ : ∃ a : Nat, x.a = a := ⟨x.a.toNat, by omega⟩
    obtain ⟨b, hb⟩ : ∃ b : Nat, x.b = b := ⟨x.b.toNat, by omega⟩
    obtain ⟨c, hc⟩ : ∃ c : Nat, x.c = c := ⟨x.c.toNat, by omega⟩
    have htx : edX x = edT a b c x.l := by unfold edX; rw [ha, hb, hc]; rfl
    rw [tb_t hq] at ho
    rw [tb_t hq, selt_t hq, htx]
    rw [ha] at e0 i4 i5
    rw [hb] at e1 i6 i7
    rw [hc] at e2 i8 i9
    have hHs := edH_size (a := a) (b := b) (c := c) (by omega) (by omega) (by omega)
    have hHs2 : (edH a b c ++ ⟨#[58]⟩).size ≤ 30000 := by rw [ByteArray.size_append, show ByteArray.size ⟨#[58]⟩ = 1 from rfl]; omega
    have htk := fun k => edF_take (n := n) (k := k) hHs2 (fun i z h => i1 i z h) i3
    have HTK := Lib.hid htk
    have HR := Lib.hid i1
    have s1 := dig_size a
    have s2 := dig_size b
    have s3 := dig_size c
    rw [ha, hb, hc, ← hnn] at ho hV0
    rw [ha, hb, hc, ← hnn]
    rw [← hnn] at e3 hn i3
    have HN := Lib.hid hnn
    have HO2 := Lib.hid ho
    clear ho hq ha hb hc htx hnn htk i1 i2 i10
    go_enter Tryd.func20, Tryd.ntmps20
    go_wp2_with fail
    ((with_reducible refine (HO2.out).mono ?_); rintro e w1 ⟨rfl, hb1⟩)
    have hbw := ext_trans hB0 hb1
    have k0 := (hb1.cell (p := ⟨w.heap.size, 0, none⟩) hz0).trans e0
    have k1 := (hb1.cell (p := ⟨w.heap.size, 1, none⟩) hz0).trans e1
    have k2 := (hb1.cell (p := ⟨w.heap.size, 2, none⟩) hz0).trans e2
    have k3 := (hb1.cell (p := ⟨w.heap.size, 3, none⟩) hz0).trans e3
    have hlw : w.heap.size < w1.heap.size := Nat.lt_of_lt_of_le hz0 hb1.size
    have hpc := plus_cell w1
    have t1 := fun W (hW : Below w1.heap.size w1 W) => text_any a w.heap.size W (by omega) (Nat.le_trans hbw.size hW.size) (HT.out.on (hbw.trans (hW.mono hbw.size)))
    have t2 := fun W (hW : Below w1.heap.size w1 W) => text_any b w.heap.size W (by omega) (Nat.le_trans hbw.size hW.size) (HT.out.on (hbw.trans (hW.mono hbw.size)))
    have t3 := fun W (hW : Below w1.heap.size w1 W) => text_any c w.heap.size W (by omega) (Nat.le_trans hbw.size hW.size) (HT.out.on (hbw.trans (hW.mono hbw.size)))
    have T1 := Lib.hid t1
    have T2 := Lib.hid t2
    have T3 := Lib.hid t3
    clear t1 t2 t3
    go_wp2_with fail
    refine wp_region_grow (by kernel_rfl) (by kernel_rfl) ?_
    repeat (go_big_quiet_step ((first | (go_at_call 48; with_reducible exact quiet_below (T1.out _ (plus_below _ _))) | (go_at_call 48; with_reducible exact quiet_below (T2.out _ (plus_below _ _))) | (go_at_call 48; with_reducible exact quiet_below (T3.out _ (plus_below _ _))))))
    refine wpQuiet_nil ?_
    intro w1 hb1
    obtain ⟨w2, hw2⟩ : ∃ z, z = w1 := ⟨_, rfl⟩
    subst hw2
    have hb2 := hb1
    have hbx := ext_trans hbw hb2
    have q0 := (hb2.cell (p := ⟨w.heap.size, 3, none⟩) hlw).trans k3
    have hlx : w.heap.size < w2.heap.size := Nat.lt_of_lt_of_le hlw hb2.size
    clear hpc k0 k1 k2 e0 e1 e2
    by_cases h0 : n = 0
    · subst h0
      go_wp2
      go_loopw [4, 6, 32] (fun v _ i wr => i = .int .i64 0 ∧ v = .string (edH a b c) ∧ Below w2.heap.size w2 wr) (fun _ _ _ _ => 0)
      case atStart => exact ⟨rfl, rfl, Below.refl _ _⟩
      case round =>
        obtain ⟨rfl, rfl, hbr0⟩ := hrel
        have hED : edT a b c x.l = edH a b c := by unfold edT; rw [if_pos (HN.out).symm]
        have HED := Lib.hid hED
        clear hED
        go_wp2
        refine bodyPost_ret (v := .tuple #[.string (edT a b c x.l), .bool true]) (by rw [HED.out]; simp [results, Tryd.results20, go_sem]) rfl ⟨rfl, ext_trans hbx hbr0⟩
    · have h0' : (0 : Int) < (n : Int) := by omega
      have h00 : 0 < n := by omega
      have h01 : decide (0 < n) = true := by simp [h00]
      go_wp2
      go_loopw [4, 6, 32] (fun v _ i wr => ∃ k : Nat, k ≤ n ∧ i = .int .i64 k ∧ v = .string (edF (edH a b c ++ ⟨#[58]⟩) (x.l.take k)) ∧ Below w2.heap.size w2 wr) (fun _ _ i _ => n - (intOf i).toNat)
      case atStart => exact ⟨0, by omega, rfl, rfl, Below.refl _ _⟩
      case round =>
        obtain ⟨k, hk, rfl, rfl, hbr0⟩ := hrel
        have hbr := ext_trans hbx hbr0
        have hts := HTK.out k
        by_cases hlt : k < n
        · obtain ⟨z, b9, o9, hz, hAe, hb9, hc9⟩ := (hA.ext hbr).at_ (k := k) (by rw [← HN.out]; exact hlt)
          have c9 : wr.cell? ⟨b9, o9 + k, none⟩ = some (.int .i64 z) := by have := hc9 0 z rfl; simpa using this
          obtain ⟨hz0, hz9⟩ := HR.out k z hz
          obtain ⟨m, rfl⟩ : ∃ m : Nat, z = m := ⟨z.toNat, by omega⟩
          have hm9 : m ≤ 999 := by omega
          have sm := dig_size m
          have hsn : edF (edH a b c ++ ⟨#[58]⟩) (x.l.take (k + 1)) = edF (edH a b c ++ ⟨#[58]⟩) (x.l.take k) ++ ⟨#[32]⟩ ++ dig m := by rw [take_get hz, edF_snoc]; rfl
          have HS := Lib.hid hsn
          have hAe2 := hAe
          subst hAe
          clear hz hc9 hsn
          have tm := fun W (hW : Below wr.heap.size wr W) => text_any m w.heap.size W (by omega) (Nat.le_trans hbr.size hW.size) (HT.out.on (hbr.trans (hW.mono hbr.size)))
          have TM := Lib.hid tm
          clear tm
          generalize edF (edH a b c ++ ⟨#[58]⟩) (x.l.take k) = T at hts HS ⊢
          have hk0 : (0 : Int) ≤ (k : Int) := by omega
          have hk1 : (k : Int) < (n : Int) := by omega
          go_wp2_with fail
          ((with_reducible refine (TM.out wr (Below.refl _ _)).mono ?_); rintro e w4 ⟨rfl, hb4⟩)
          go_wp2
          go_roundw
          case rel => exact ⟨k + 1, by omega, by go_num, by rw [HS.out]; first | rfl | (congr 1; apply ByteArray.ext; simp), ext_trans hbr0 hb4⟩
          case measure => simp [intOf]; omega
        · have hkn : n = k := by omega
          subst hkn
          have hED : edT a b c x.l = edF (edH a b c ++ ⟨#[58]⟩) (x.l.take n) := by unfold edT; rw [if_neg (by rw [← HN.out]; exact h0), take_all (by rw [← HN.out]; exact Nat.le_refl _)]
          have HED := Lib.hid hED
          clear hED
          generalize edF (edH a b c ++ ⟨#[58]⟩) (x.l.take n) = T at hts HED ⊢
          go_wp2
          refine bodyPost_ret (v := .tuple #[.string (edT a b c x.l), .bool true]) (by rw [HED.out]; simp [results, Tryd.results20, go_sem]) rfl ⟨rfl, hbr⟩
  · rw [tb_f hq, selt_f hq]
    rw [tb_f hq] at ho
    rw [← hnn] at e3 ho hV0 hn
    rw [← hnn]
    have HO2 := Lib.hid ho
    clear ho hq hnn
    go_enter Tryd.func20, Tryd.ntmps20
    go_wp2_with fail
    ((with_reducible refine (HO2.out).mono ?_); rintro e w1 ⟨rfl, hb1⟩)
    go_wp2
    refine bodyPost_ret (v := .tuple #[.string ⟨#[]⟩, .bool false]) (by simp [results, Tryd.results20, go_sem]) rfl ⟨rfl, ext_trans hB0 hb1⟩
set_option maxHeartbeats 8000000 in
set_option maxRecDepth 100000 in
theorem specEditionText_any (x : Nest) (A : Option Addr) (dd : Nat) (w : World) (hn : x.l.length ≤ 4194304) (hA : Fl one 1 w A x.l) :
    Calls Tryd.prog 21 #[.agg #[.int .i64 x.a, .int .i64 x.b, .int .i64 x.c, .slice A x.l.length dd]] w fun e w' => e = .returned (.tuple #[.string (selt (IsEd x) (edX x)), .bool (tb (IsEd x))]) ∧ Below w.heap.size w w' := by
  obtain ⟨V0, hV0, hB0, hz0, hc0, _⟩ := box_world w #[Value.int .i64 x.a, .int .i64 x.b, .int .i64 x.c, .slice A x.l.length dd] 33
  have e0 : World.cell? V0 ⟨w.heap.size, 0, none⟩ = some (.int .i64 x.a) := hc0 0
  have e1 : World.cell? V0 ⟨w.heap.size, 1, none⟩ = some (.int .i64 x.b) := hc0 1
  have e2 : World.cell? V0 ⟨w.heap.size, 2, none⟩ = some (.int .i64 x.c) := hc0 2
  have e3 : World.cell? V0 ⟨w.heap.size, 3, none⟩ = some (.slice A x.l.length dd) := hc0 3
  clear hc0
  have ho := l18One_any x A dd V0 hn (hA.ext hB0)
  obtain ⟨n, hnn⟩ : ∃ n, n = x.l.length := ⟨_, rfl⟩
  skip
  by_cases hq : IsEd x
  · obtain ⟨i1, i2, i3, ⟨i4, i5⟩, ⟨i6, i7⟩, ⟨i8, i9⟩, i10⟩ := id hq
    obtain ⟨a, ha⟩ : ∃ a : Nat, x.a = a := ⟨x.a.toNat, by omega⟩
    obtain ⟨b, hb⟩ : ∃ b : Nat, x.b = b := ⟨x.b.toNat, by omega⟩
    obtain ⟨c, hc⟩ : ∃ c : Nat, x.c = c := ⟨x.c.toNat, by omega⟩
    have htx : edX x = edT a b c x.l := by unfold edX; rw [ha, hb, hc]; rfl
    rw [tb_t hq] at ho
    rw [tb_t hq, selt_t hq, htx]
    rw [ha] at e0 i4 i5
    rw [hb] at e1 i6 i7
    rw [hc] at e2 i8 i9
    have hHs := edH_size (a := a) (b := b) (c := c) (by omega) (by omega) (by omega)
    have hHs2 : (edH a b c ++ ⟨#[58]⟩).size ≤ 30000 := by rw [ByteArray.size_append, show ByteArray.size ⟨#[58]⟩ = 1 from rfl]; omega
    have htk := fun k => edF_take (n := n) (k := k) hHs2 (fun i z h => i1 i z h) i3
    have HTK := Lib.hid htk
    have HR := Lib.hid i1
    have s1 := dig_size a
    have s2 := dig_size b
    have s3 := dig_size c
    rw [ha, hb, hc, ← hnn] at ho hV0
    rw [ha, hb, hc, ← hnn]
    rw [← hnn] at e3 hn i3
    have HN := Lib.hid hnn
    have HO2 := Lib.hid ho
    clear ho hq ha hb hc htx hnn htk i1 i2 i10
    go_enter Tryd.func21, Tryd.ntmps21
    go_wp2_with fail
    ((with_reducible refine (HO2.out).mono ?_); rintro e w1 ⟨rfl, hb1⟩)
    have hbw := ext_trans hB0 hb1
    have k0 := (hb1.cell (p := ⟨w.heap.size, 0, none⟩) hz0).trans e0
    have k1 := (hb1.cell (p := ⟨w.heap.size, 1, none⟩) hz0).trans e1
    have k2 := (hb1.cell (p := ⟨w.heap.size, 2, none⟩) hz0).trans e2
    have k3 := (hb1.cell (p := ⟨w.heap.size, 3, none⟩) hz0).trans e3
    have hlw : w.heap.size < w1.heap.size := Nat.lt_of_lt_of_le hz0 hb1.size
    have hpc := plus_cell w1
    have t1 := fun W (hW : Below w1.heap.size w1 W) => l1Num_any a W (by omega)
    have t2 := fun W (hW : Below w1.heap.size w1 W) => l1Num_any b W (by omega)
    have t3 := fun W (hW : Below w1.heap.size w1 W) => l1Num_any c W (by omega)
    have T1 := Lib.hid t1
    have T2 := Lib.hid t2
    have T3 := Lib.hid t3
    clear t1 t2 t3
    go_wp2_with fail
    refine wp_region_grow (by kernel_rfl) (by kernel_rfl) ?_
    repeat (go_big_quiet_step ((first | (go_at_call 50; with_reducible exact quiet_below (T1.out _ (plus_below _ _))) | (go_at_call 50; with_reducible exact quiet_below (T2.out _ (plus_below _ _))) | (go_at_call 50; with_reducible exact quiet_below (T3.out _ (plus_below _ _))))))
    refine wpQuiet_nil ?_
    intro w1 hb1
    obtain ⟨w2, hw2⟩ : ∃ z, z = w1 := ⟨_, rfl⟩
    subst hw2
    have hb2 := hb1
    have hbx := ext_trans hbw hb2
    have q0 := (hb2.cell (p := ⟨w.heap.size, 3, none⟩) hlw).trans k3
    have hlx : w.heap.size < w2.heap.size := Nat.lt_of_lt_of_le hlw hb2.size
    clear hpc k0 k1 k2 e0 e1 e2
    go_wp2
    go_loopw [4, 5] (fun v i wr => ∃ k : Nat, k ≤ n ∧ i = .int .i64 k ∧ v = .string (if k = 0 then edH a b c else edF (edH a b c ++ ⟨#[58]⟩) (x.l.take k)) ∧ Below w2.heap.size w2 wr) (fun _ i _ => n - (intOf i).toNat)
    case atStart => exact ⟨0, by omega, rfl, rfl, Below.refl _ _⟩
    case round =>
      obtain ⟨k, hk, rfl, rfl, hbr0⟩ := hrel
      have hbr := ext_trans hbx hbr0
      have hts := HTK.out k
      have q9 := (hbr0.cell (p := ⟨w.heap.size, 3, none⟩) hlx).trans q0
      by_cases hlt : k < n
      · obtain ⟨z, b9, o9, hz, hAe, hb9, hc9⟩ := (hA.ext hbr).at_ (k := k) (by rw [← HN.out]; exact hlt)
        have c9 : wr.cell? ⟨b9, o9 + k, none⟩ = some (.int .i64 z) := by have := hc9 0 z rfl; simpa using this
        obtain ⟨hz0, hz9⟩ := HR.out k z hz
        obtain ⟨m, rfl⟩ : ∃ m : Nat, z = m := ⟨z.toNat, by omega⟩
        have hm9 : m ≤ 999 := by omega
        have sm := dig_size m
        have hsn : edF (edH a b c ++ ⟨#[58]⟩) (x.l.take (k + 1)) = edF (edH a b c ++ ⟨#[58]⟩) (x.l.take k) ++ ⟨#[32]⟩ ++ dig m := by rw [take_get hz, edF_snoc]; rfl
        have HS := Lib.hid hsn
        have hAe2 := hAe
        subst hAe
        clear hz hc9 hsn
        have tm := fun W (hW : Below wr.heap.size wr W) => l1Num_any m W (by omega)
        have TM := Lib.hid tm
        clear tm
        by_cases hk9 : k = 0
        · subst hk9
          rw [if_pos rfl]
          have hT0 : edF (edH a b c ++ ⟨#[58]⟩) (x.l.take 0) = edH a b c ++ ⟨#[58]⟩ := rfl
          rw [hT0] at HS hts
          simp only [Nat.add_zero] at c9
          have hn0 : (0 : Int) < (n : Int) := by omega
          go_wp2_with fail
          ((with_reducible refine (TM.out wr (Below.refl _ _)).mono ?_); rintro e w4 ⟨rfl, hb4⟩)
          go_wp2
          go_roundw
          case rel => exact ⟨1, by omega, by go_num, by rw [if_neg (by omega), HS.out], ext_trans hbr0 hb4⟩
          case measure => simp [intOf]; omega
        · rw [if_neg hk9]
          generalize edF (edH a b c ++ ⟨#[58]⟩) (x.l.take k) = T at hts HS ⊢
          have hk0 : (0 : Int) ≤ (k : Int) := by omega
          have hk1 : (k : Int) < (n : Int) := by omega
          have hk2 : ((k : Int) == 0) = false := by simp [hk9]
          go_wp2_with fail
          ((with_reducible refine (TM.out wr (Below.refl _ _)).mono ?_); rintro e w4 ⟨rfl, hb4⟩)
          go_wp2
          go_roundw
          case rel => exact ⟨k + 1, by omega, by go_num, by rw [if_neg (by omega), HS.out], ext_trans hbr0 hb4⟩
          case measure => simp [intOf]; omega
      · have hkn : n = k := by omega
        subst hkn
        have hED : edT a b c x.l = if n = 0 then edH a b c else edF (edH a b c ++ ⟨#[58]⟩) (x.l.take n) := by unfold edT; rw [← HN.out, take_all (by rw [← HN.out]; exact Nat.le_refl _)]
        generalize (if n = 0 then edH a b c else edF (edH a b c ++ ⟨#[58]⟩) (x.l.take n)) = T at hED ⊢
        have HED := Lib.hid hED
        clear hED
        go_wp2
        refine bodyPost_ret (v := .tuple #[.string (edT a b c x.l), .bool true]) (by rw [HED.out]; simp [results, Tryd.results21, go_sem]) rfl ⟨rfl, hbr⟩
  · rw [tb_f hq, selt_f hq]
    rw [tb_f hq] at ho
    rw [← hnn] at e3 ho hV0 hn
    rw [← hnn]
    have HO2 := Lib.hid ho
    clear ho hq hnn
    go_enter Tryd.func21, Tryd.ntmps21
    go_wp2_with fail
    ((with_reducible refine (HO2.out).mono ?_); rintro e w1 ⟨rfl, hb1⟩)
    go_wp2
    refine bodyPost_ret (v := .tuple #[.string ⟨#[]⟩, .bool false]) (by simp [results, Tryd.results21, go_sem]) rfl ⟨rfl, ext_trans hB0 hb1⟩
end Go.Proofs.YtadcjfbcfiljkaaDoor
