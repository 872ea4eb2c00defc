/- ErratumText: the program's side. ErratumText: the reference's side. No condition. -/
import Derived.Test.YtbnlbcbdhmmlgaaGreatDoorMgG
import Derived.Test.YtbnlbcbdhmmlgaaGreatDoorTextI
import Derived.BigQuiet
namespace Go.Proofs.YtbnlbcbdhmmlgaaGreatDoor
open Go.RowKit
set_option linter.unusedVariables false
set_option linter.unusedSimpArgs false

set_option maxHeartbeats 8000000 in
set_option maxRecDepth 100000 in
theorem erratumText_any (x : Erratum) (w : World) (hT : Pow w.heap.size w) :
    Calls Tryz.prog 19 #[.agg #[.int .i64 x.id, .int .i64 x.sheet, .int .i64 x.frm, .int .i64 x.til, .int .i64 x.day]] w fun e w' => e = .returned (.tuple #[.string (selt (IsErr x) (errT x)), .bool (tb (IsErr x))]) ∧ Below w.heap.size w w' := by
  obtain ⟨V0, hV0, hB0, hz0, hc0, _⟩ := box_world w #[Value.int .i64 x.id, .int .i64 x.sheet, .int .i64 x.frm, .int .i64 x.til, .int .i64 x.day] 47
  have e0 : World.cell? V0 ⟨w.heap.size, 0, none⟩ = some (.int .i64 x.id) := hc0 0
  have e1 : World.cell? V0 ⟨w.heap.size, 1, none⟩ = some (.int .i64 x.sheet) := hc0 1
  have e2 : World.cell? V0 ⟨w.heap.size, 2, none⟩ = some (.int .i64 x.frm) := hc0 2
  have e3 : World.cell? V0 ⟨w.heap.size, 3, none⟩ = some (.int .i64 x.til) := hc0 3
  have e4 : World.cell? V0 ⟨w.heap.size, 4, none⟩ = some (.int .i64 x.day) := hc0 4
  clear hc0
  have HO := Lib.hid (isErratum_any x V0)
  by_cases hq : IsErr x
  · have hq' := hq
    obtain ⟨i1, i2, i3, i4, i5, i6, i7, i8, i9⟩ := hq'
    have HQ := Lib.hid hq
    obtain ⟨a, ha⟩ : ∃ a : Nat, x.id = a := ⟨x.id.toNat, by omega⟩
    obtain ⟨b, hb⟩ : ∃ b : Nat, x.sheet = b := ⟨x.sheet.toNat, by omega⟩
    obtain ⟨c, hc⟩ : ∃ c : Nat, x.frm = c := ⟨x.frm.toNat, by omega⟩
    obtain ⟨d, hd⟩ : ∃ d : Nat, x.til = d := ⟨x.til.toNat, by omega⟩
    obtain ⟨f, hf⟩ : ∃ f : Nat, x.day = f := ⟨x.day.toNat, by omega⟩
    have htx : errT x = errB a b c d f := by unfold errT; rw [ha, hb, hc, hd, hf]; rfl
    rw [tb_t hq, selt_t hq, htx]
    have HX := HO.out
    rw [tb_t hq] at HX
    rw [ha] at e0 i1 i2
    rw [hb] at e1 i3 i4
    rw [hc] at e2 i5 i6
    rw [hd] at e3 i6 i7
    rw [hf] at e4 i8 i9
    rw [ha, hb, hc, hd, hf] at HX hV0 ⊢
    have s1 := dig_size a
    have s2 := dig_size b
    have s3 := dig_size c
    have s4 := dig_size d
    have s5 := dig_size f
    have HO2 := Lib.hid HX
    clear HX HO hq ha hb hc hd hf htx
    go_enter Tryz.func19, Tryz.ntmps19
    go_wp2_with fail
    ((with_reducible refine (HO2.out).mono ?_); rintro e w1 ⟨rfl, hb1⟩)
    have hbw := ext_trans hB0 hb1
    have k0 := (hb1.cell (p := ⟨w.heap.size, 0, none⟩) hz0).trans e0
    have k1 := (hb1.cell (p := ⟨w.heap.size, 1, none⟩) hz0).trans e1
    have k2 := (hb1.cell (p := ⟨w.heap.size, 2, none⟩) hz0).trans e2
    have k3 := (hb1.cell (p := ⟨w.heap.size, 3, none⟩) hz0).trans e3
    have k4 := (hb1.cell (p := ⟨w.heap.size, 4, none⟩) hz0).trans e4
    have hlw : w.heap.size < w1.heap.size := Nat.lt_of_lt_of_le hz0 hb1.size
    have hpc := plus_cell w1
    have t1 := fun W (hW : Below w1.heap.size w1 W) => text_any a w.heap.size W (by omega) (Nat.le_trans hbw.size hW.size) (hT.on (hbw.trans (hW.mono hbw.size)))
    have t2 := fun W (hW : Below w1.heap.size w1 W) => text_any b w.heap.size W (by omega) (Nat.le_trans hbw.size hW.size) (hT.on (hbw.trans (hW.mono hbw.size)))
    have t3 := fun W (hW : Below w1.heap.size w1 W) => text_any c w.heap.size W (by omega) (Nat.le_trans hbw.size hW.size) (hT.on (hbw.trans (hW.mono hbw.size)))
    have t4 := fun W (hW : Below w1.heap.size w1 W) => text_any d w.heap.size W (by omega) (Nat.le_trans hbw.size hW.size) (hT.on (hbw.trans (hW.mono hbw.size)))
    have t5 := fun W (hW : Below w1.heap.size w1 W) => text_any f w.heap.size W (by omega) (Nat.le_trans hbw.size hW.size) (hT.on (hbw.trans (hW.mono hbw.size)))
    have T1 := Lib.hid t1
    have T2 := Lib.hid t2
    have T3 := Lib.hid t3
    have T4 := Lib.hid t4
    have T5 := Lib.hid t5
    clear t1 t2 t3 t4 t5 hT
    go_wp2_with fail
    refine wp_region_grow (by kernel_rfl) (by kernel_rfl) ?_
    repeat (go_big_quiet_step ((first | (go_at_call 54; with_reducible exact quiet_below (T1.out _ (plus_below _ _))) | (go_at_call 54; with_reducible exact quiet_below (T2.out _ (plus_below _ _))) | (go_at_call 54; with_reducible exact quiet_below (T3.out _ (plus_below _ _))) | (go_at_call 54; with_reducible exact quiet_below (T4.out _ (plus_below _ _))) | (go_at_call 54; with_reducible exact quiet_below (T5.out _ (plus_below _ _))))))
    refine wpQuiet_nil ?_
    intro w1 hb1
    go_wp2
    refine bodyPost_ret (v := .tuple #[.string (errB a b c d f), .bool true]) (by simp [results, Tryz.results19, go_sem, errB]) rfl ⟨rfl, ext_trans hbw (by assumption)⟩
  · rw [tb_f hq, selt_f hq]
    have HX := HO.out
    rw [tb_f hq] at HX
    have HO2 := Lib.hid HX
    clear HX HO hq
    go_enter Tryz.func19, Tryz.ntmps19
    go_wp2_with fail
    ((with_reducible refine (HO2.out).mono ?_); rintro e w1 ⟨rfl, hb1⟩)
    go_wp2
    refine bodyPost_ret (v := .tuple #[.string ⟨#[]⟩, .bool false]) (by simp [results, Tryz.results19, go_sem]) rfl ⟨rfl, ext_trans hB0 hb1⟩
end Go.Proofs.YtbnlbcbdhmmlgaaGreatDoor
namespace Go.Proofs.YtbnlbcbdhmmlgaaGreatDoor
open Go.RowKit
set_option linter.unusedVariables false
set_option linter.unusedSimpArgs false

set_option maxHeartbeats 8000000 in
set_option maxRecDepth 100000 in
theorem specErratumText_any (x : Erratum) (w : World) :
    Calls Tryz.prog 20 #[.agg #[.int .i64 x.id, .int .i64 x.sheet, .int .i64 x.frm, .int .i64 x.til, .int .i64 x.day]] w fun e w' => e = .returned (.tuple #[.string (selt (IsErr x) (errT x)), .bool (tb (IsErr x))]) ∧ Below w.heap.size w w' := by
  obtain ⟨V0, hV0, hB0, hz0, hc0, _⟩ := box_world w #[Value.int .i64 x.id, .int .i64 x.sheet, .int .i64 x.frm, .int .i64 x.til, .int .i64 x.day] 47
  have e0 : World.cell? V0 ⟨w.heap.size, 0, none⟩ = some (.int .i64 x.id) := hc0 0
  have e1 : World.cell? V0 ⟨w.heap.size, 1, none⟩ = some (.int .i64 x.sheet) := hc0 1
  have e2 : World.cell? V0 ⟨w.heap.size, 2, none⟩ = some (.int .i64 x.frm) := hc0 2
  have e3 : World.cell? V0 ⟨w.heap.size, 3, none⟩ = some (.int .i64 x.til) := hc0 3
  have e4 : World.cell? V0 ⟨w.heap.size, 4, none⟩ = some (.int .i64 x.day) := hc0 4
  clear hc0
  have HO := Lib.hid (l19One_any x V0)
  by_cases hq : IsErr x
  · have hq' := hq
    obtain ⟨i1, i2, i3, i4, i5, i6, i7, i8, i9⟩ := hq'
    have HQ := Lib.hid hq
    obtain ⟨a, ha⟩ : ∃ a : Nat, x.id = a := ⟨x.id.toNat, by omega⟩
    obtain ⟨b, hb⟩ : ∃ b : Nat, x.sheet = b := ⟨x.sheet.toNat, by omega⟩
    obtain ⟨c, hc⟩ : ∃ c : Nat, x.frm = c := ⟨x.frm.toNat, by omega⟩
    obtain ⟨d, hd⟩ : ∃ d : Nat, x.til = d := ⟨x.til.toNat, by omega⟩
    obtain ⟨f, hf⟩ : ∃ f : Nat, x.day = f := ⟨x.day.toNat, by omega⟩
    have htx : errT x = errB a b c d f := by unfold errT; rw [ha, hb, hc, hd, hf]; rfl
    rw [tb_t hq, selt_t hq, htx]
    have HX := HO.out
    rw [tb_t hq] at HX
    rw [ha] at e0 i1 i2
    rw [hb] at e1 i3 i4
    rw [hc] at e2 i5 i6
    rw [hd] at e3 i6 i7
    rw [hf] at e4 i8 i9
    rw [ha, hb, hc, hd, hf] at HX hV0 ⊢
    have s1 := dig_size a
    have s2 := dig_size b
    have s3 := dig_size c
    have s4 := dig_size d
    have s5 := dig_size f
    have HO2 := Lib.hid HX
    clear HX HO hq ha hb hc hd hf htx
    go_enter Tryz.func20, Tryz.ntmps20
    go_wp2_with fail
    ((with_reducible refine (HO2.out).mono ?_); rintro e w1 ⟨rfl, hb1⟩)
    have hbw := ext_trans hB0 hb1
    have k0 := (hb1.cell (p := ⟨w.heap.size, 0, none⟩) hz0).trans e0
    have k1 := (hb1.cell (p := ⟨w.heap.size, 1, none⟩) hz0).trans e1
    have k2 := (hb1.cell (p := ⟨w.heap.size, 2, none⟩) hz0).trans e2
    have k3 := (hb1.cell (p := ⟨w.heap.size, 3, none⟩) hz0).trans e3
    have k4 := (hb1.cell (p := ⟨w.heap.size, 4, none⟩) hz0).trans e4
    have hlw : w.heap.size < w1.heap.size := Nat.lt_of_lt_of_le hz0 hb1.size
    have hpc := plus_cell w1
    have t1 := fun W (hW : Below w1.heap.size w1 W) => l1Num_any a W (by omega)
    have t2 := fun W (hW : Below w1.heap.size w1 W) => l1Num_any b W (by omega)
    have t3 := fun W (hW : Below w1.heap.size w1 W) => l1Num_any c W (by omega)
    have t4 := fun W (hW : Below w1.heap.size w1 W) => l1Num_any d W (by omega)
    have t5 := fun W (hW : Below w1.heap.size w1 W) => l1Num_any f W (by omega)
    have T1 := Lib.hid t1
    have T2 := Lib.hid t2
    have T3 := Lib.hid t3
    have T4 := Lib.hid t4
    have T5 := Lib.hid t5
    clear t1 t2 t3 t4 t5
    go_wp2_with fail
    refine wp_region_grow (by kernel_rfl) (by kernel_rfl) ?_
    repeat (go_big_quiet_step ((first | (go_at_call 56; with_reducible exact quiet_below (T1.out _ (plus_below _ _))) | (go_at_call 56; with_reducible exact quiet_below (T2.out _ (plus_below _ _))) | (go_at_call 56; with_reducible exact quiet_below (T3.out _ (plus_below _ _))) | (go_at_call 56; with_reducible exact quiet_below (T4.out _ (plus_below _ _))) | (go_at_call 56; with_reducible exact quiet_below (T5.out _ (plus_below _ _))))))
    refine wpQuiet_nil ?_
    intro w1 hb1
    go_wp2
    refine bodyPost_ret (v := .tuple #[.string (errB a b c d f), .bool true]) (by simp [results, Tryz.results20, go_sem, errB]) rfl ⟨rfl, ext_trans hbw (by assumption)⟩
  · rw [tb_f hq, selt_f hq]
    have HX := HO.out
    rw [tb_f hq] at HX
    have HO2 := Lib.hid HX
    clear HX HO hq
    go_enter Tryz.func20, Tryz.ntmps20
    go_wp2_with fail
    ((with_reducible refine (HO2.out).mono ?_); rintro e w1 ⟨rfl, hb1⟩)
    go_wp2
    refine bodyPost_ret (v := .tuple #[.string ⟨#[]⟩, .bool false]) (by simp [results, Tryz.results20, go_sem]) rfl ⟨rfl, ext_trans hB0 hb1⟩
end Go.Proofs.YtbnlbcbdhmmlgaaGreatDoor
