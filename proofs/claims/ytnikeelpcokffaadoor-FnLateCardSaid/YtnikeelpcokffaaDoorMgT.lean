/- One erratum: is it valid; the words of its text. The text of a loan: the program's side. The text of a loan: the reference's side. No condition. -/
import Derived.Test.YtnikeelpcokffaaDoorProg
import Derived.Test.YtnikeelpcokffaaDoorBase
import Derived.Test.YtnikeelpcokffaaDoorBase2
import Derived.Test.YtnikeelpcokffaaDoorTypes
import Derived.Test.YtnikeelpcokffaaDoorNum
import Derived.Test.YtnikeelpcokffaaDoorLoanD
import Derived.Test.YtnikeelpcokffaaDoorTextI
import Derived.BigQuiet
namespace Go.Proofs.YtnikeelpcokffaaDoor
open Go.RowKit
set_option linter.unusedVariables false
set_option linter.unusedSimpArgs false

noncomputable def selt (p : Prop) (q : ByteArray) : ByteArray := @ite _ p (Classical.propDecidable p) q ⟨#[]⟩
theorem selt_t {p : Prop} {q : ByteArray} (h : p) : selt p q = q := by simp [selt, h]
theorem selt_f {p : Prop} {q : ByteArray} (h : ¬ p) : selt p q = ⟨#[]⟩ := by simp [selt, h]
end Go.Proofs.YtnikeelpcokffaaDoor
namespace Go.Proofs.YtnikeelpcokffaaDoor
open Go.RowKit
set_option linter.unusedVariables false
set_option linter.unusedSimpArgs false

def loanB (a b c d : Nat) : ByteArray := dig a ++ ⟨#[32, 116, 111, 32]⟩ ++ dig b ++ ⟨#[32]⟩ ++ dig c ++ ⟨#[46, 46]⟩ ++ dig d
def loanT (x : Loan) : ByteArray := if x.back < 0 then loanB x.sheet.toNat x.reader.toNat x.out.toNat x.due.toNat else loanB x.sheet.toNat x.reader.toNat x.out.toNat x.due.toNat ++ (⟨#[32, 98, 97, 99, 107, 32]⟩ ++ dig x.back.toNat)
theorem loanB_size (a b c d : Nat) : (loanB a b c d).size ≤ a + b + c + d + 20 := by
  have h1 := dig_size a
  have h2 := dig_size b
  have h3 := dig_size c
  have h4 := dig_size d
  unfold loanB
  simp only [ByteArray.size_append]
  have e1 : ByteArray.size ⟨#[32, 116, 111, 32]⟩ = 4 := rfl
  have e2 : ByteArray.size ⟨#[32]⟩ = 1 := rfl
  have e3 : ByteArray.size ⟨#[46, 46]⟩ = 2 := rfl
  omega
set_option maxHeartbeats 8000000 in
set_option maxRecDepth 100000 in
theorem loanText_any (x : Loan) (w : World) (hT : Pow w.heap.size w) :
    Calls Tryd.prog 22 #[.agg #[.int .i64 x.sheet, .int .i64 x.reader, .int .i64 x.out, .int .i64 x.due, .int .i64 x.back]] w fun e w' => e = .returned (.tuple #[.string (selt (IsLo x) (loanT x)), .bool (tb (IsLo x))]) ∧ Below w.heap.size w w' := by
  obtain ⟨V0, hV0, hB0, hz0, hc0, _⟩ := box_world w #[Value.int .i64 x.sheet, .int .i64 x.reader, .int .i64 x.out, .int .i64 x.due, .int .i64 x.back] 43
  have e0 : World.cell? V0 ⟨w.heap.size, 0, none⟩ = some (.int .i64 x.sheet) := hc0 0
  have e1 : World.cell? V0 ⟨w.heap.size, 1, none⟩ = some (.int .i64 x.reader) := hc0 1
  have e2 : World.cell? V0 ⟨w.heap.size, 2, none⟩ = some (.int .i64 x.out) := hc0 2
  have e3 : World.cell? V0 ⟨w.heap.size, 3, none⟩ = some (.int .i64 x.due) := hc0 3
  have e4 : World.cell? V0 ⟨w.heap.size, 4, none⟩ = some (.int .i64 x.back) := hc0 4
  clear hc0
  have HO := Lib.hid (isLoan_any x V0)
  by_cases hq : IsLo x
  · have hq' := hq
    unfold IsLo at hq'
    obtain ⟨⟨i1, i2⟩, ⟨i3, i4⟩, ⟨i5, i6⟩, ⟨i7, i8⟩, i9, i10⟩ := hq'
    have HQ := Lib.hid hq
    obtain ⟨a, ha⟩ : ∃ a : Nat, x.sheet = a := ⟨x.sheet.toNat, by omega⟩
    obtain ⟨b, hb⟩ : ∃ b : Nat, x.reader = b := ⟨x.reader.toNat, by omega⟩
    obtain ⟨c, hc⟩ : ∃ c : Nat, x.out = c := ⟨x.out.toNat, by omega⟩
    obtain ⟨d, hd⟩ : ∃ d : Nat, x.due = d := ⟨x.due.toNat, by omega⟩
    have htx : loanT x = if x.back < 0 then loanB a b c d else loanB a b c d ++ (⟨#[32, 98, 97, 99, 107, 32]⟩ ++ dig x.back.toNat) := by unfold loanT; rw [ha, hb, hc, hd]; rfl
    rw [tb_t hq, selt_t hq, htx]
    have HX := HO.out
    rw [tb_t hq] at HX
    have hbb : x.back = -1 ∨ (0 ≤ x.back ∧ x.back ≤ 4000) := by omega
    rw [ha] at e0 i1 i2
    rw [hb] at e1 i3 i4
    rw [hc] at e2 i5 i6
    rw [hd] at e3 i7 i8
    rw [ha, hb, hc, hd] at HX hV0 ⊢
    have s1 := dig_size a
    have s2 := dig_size b
    have s3 := dig_size c
    have s4 := dig_size d
    have s5 := loanB_size a b c d
    have hB9 : loanB a b c d = dig a ++ ⟨#[32, 116, 111, 32]⟩ ++ dig b ++ ⟨#[32]⟩ ++ dig c ++ ⟨#[46, 46]⟩ ++ dig d := rfl
    obtain ⟨LB, hLB⟩ : ∃ z, z = loanB a b c d := ⟨_, rfl⟩
    rw [← hLB] at hB9 s5 ⊢
    have HB9 := Lib.hid hB9
    have HO2 := Lib.hid HX
    obtain ⟨bk, hbk⟩ : ∃ z, z = x.back := ⟨_, rfl⟩
    rw [← hbk] at hbb e4 hV0 ⊢
    rw [← hbk] at HO2
    clear HX HO hq ha hb hc hd htx hB9 hLB i9 i10 hbk
    go_enter Tryd.func22, Tryd.ntmps22
    go_wp2_with fail
    ((with_reducible refine (HO2.out).mono ?_); rintro e wa ⟨rfl, hba⟩)
    have hbw := ext_trans hB0 hba
    have k0 := (hba.cell (p := ⟨w.heap.size, 0, none⟩) hz0).trans e0
    have k1 := (hba.cell (p := ⟨w.heap.size, 1, none⟩) hz0).trans e1
    have k2 := (hba.cell (p := ⟨w.heap.size, 2, none⟩) hz0).trans e2
    have k3 := (hba.cell (p := ⟨w.heap.size, 3, none⟩) hz0).trans e3
    have k4 := (hba.cell (p := ⟨w.heap.size, 4, none⟩) hz0).trans e4
    have hlw : w.heap.size < wa.heap.size := Nat.lt_of_lt_of_le hz0 hba.size
    have hpc := plus_cell wa
    have t1 := fun W (hW : Below wa.heap.size wa W) => text_any a w.heap.size W (by omega) (Nat.le_trans hbw.size hW.size) (hT.on (hbw.trans (hW.mono hbw.size)))
    have t2 := fun W (hW : Below wa.heap.size wa W) => text_any b w.heap.size W (by omega) (Nat.le_trans hbw.size hW.size) (hT.on (hbw.trans (hW.mono hbw.size)))
    have t3 := fun W (hW : Below wa.heap.size wa W) => text_any c w.heap.size W (by omega) (Nat.le_trans hbw.size hW.size) (hT.on (hbw.trans (hW.mono hbw.size)))
    have t4 := fun W (hW : Below wa.heap.size wa W) => text_any d w.heap.size W (by omega) (Nat.le_trans hbw.size hW.size) (hT.on (hbw.trans (hW.mono hbw.size)))
    have T5 := Lib.hid (fun (f : Nat) (hf : f ≤ 4000) W (hW : Below wa.heap.size wa W) => text_any f w.heap.size W (by omega) (Nat.le_trans hbw.size hW.size) (hT.on (hbw.trans (hW.mono hbw.size))))
    have T1 := Lib.hid t1
    have T2 := Lib.hid t2
    have T3 := Lib.hid t3
    have T4 := Lib.hid t4
    clear t1 t2 t3 t4 hT
    go_upto_region 3 with fail
    refine wp_region_grow (by kernel_rfl) (by kernel_rfl) ?_
    repeat (go_big_quiet_step ((first | (go_at_call 54; with_reducible exact quiet_below (T1.out _ (plus_below _ _))) | (go_at_call 54; with_reducible exact quiet_below (T2.out _ (plus_below _ _))) | (go_at_call 54; with_reducible exact quiet_below (T3.out _ (plus_below _ _))) | (go_at_call 54; with_reducible exact quiet_below (T4.out _ (plus_below _ _))))))
    refine wpQuiet_nil ?_
    intro w1 hb1
    have m4 := (hb1.cell (p := ⟨w.heap.size, 4, none⟩) hlw).trans k4
    have hl2 := Nat.lt_of_lt_of_le hlw hb1.size
    have hbw2 := ext_trans hbw hb1
    rw [show (dig a ++ ⟨#[32, 116, 111, 32]⟩ ++ dig b ++ ⟨#[32]⟩ ++ dig c ++ ⟨#[46, 46]⟩ ++ dig d) = LB from HB9.out.symm]
    by_cases hbn : bk = -1
    · subst hbn
      go_wp2
      refine bodyPost_ret (v := .tuple #[.string LB, .bool true]) (by simp [results, Tryd.results22, go_sem]) rfl ⟨rfl, hbw2⟩
    · have hb0 : 0 ≤ bk := by omega
      have hb4 : ¬ bk < 0 := by omega
      obtain ⟨f, hf⟩ : ∃ f : Nat, bk = f := ⟨bk.toNat, by omega⟩
      subst hf
      have hbe : ((f : Int) != -1) = true := by simp [hbn]
      have s6 := dig_size f
      have hff : f ≤ 4000 := by omega
      go_wp2_with fail
      ((with_reducible refine (T5.out f hff _ hb1).mono ?_); rintro e w5 ⟨rfl, hb5⟩)
      go_wp2
      refine bodyPost_ret (v := .tuple #[.string (LB ++ (⟨#[32, 98, 97, 99, 107, 32]⟩ ++ dig f)), .bool true]) (by simp [results, Tryd.results22, go_sem, ByteArray.append_assoc]) rfl ⟨by first | rfl | rw [if_neg (show ¬ (f : Int) < 0 by omega), Int.toNat_natCast], ext_trans hbw2 hb5⟩
  · rw [tb_f hq, selt_f hq]
    have HX := HO.out
    rw [tb_f hq] at HX
    have HO2 := Lib.hid HX
    clear HX HO hq
    go_enter Tryd.func22, Tryd.ntmps22
    go_wp2_with fail
    ((with_reducible refine (HO2.out).mono ?_); rintro e w1 ⟨rfl, hb1⟩)
    go_wp2
    refine bodyPost_ret (v := .tuple #[.string ⟨#[]⟩, .bool false]) (by simp [results, Tryd.results22, go_sem]) rfl ⟨rfl, ext_trans hB0 hb1⟩
end Go.Proofs.YtnikeelpcokffaaDoor
namespace Go.Proofs.YtnikeelpcokffaaDoor
open Go.RowKit
set_option linter.unusedVariables false
set_option linter.unusedSimpArgs false

set_option maxHeartbeats 8000000 in
set_option maxRecDepth 100000 in
theorem specLoanText_any (x : Loan) (w : World) :
    Calls Tryd.prog 23 #[.agg #[.int .i64 x.sheet, .int .i64 x.reader, .int .i64 x.out, .int .i64 x.due, .int .i64 x.back]] w fun e w' => e = .returned (.tuple #[.string (selt (IsLo x) (loanT x)), .bool (tb (IsLo x))]) ∧ Below w.heap.size w w' := by
  obtain ⟨V0, hV0, hB0, hz0, hc0, _⟩ := box_world w #[Value.int .i64 x.sheet, .int .i64 x.reader, .int .i64 x.out, .int .i64 x.due, .int .i64 x.back] 43
  have e0 : World.cell? V0 ⟨w.heap.size, 0, none⟩ = some (.int .i64 x.sheet) := hc0 0
  have e1 : World.cell? V0 ⟨w.heap.size, 1, none⟩ = some (.int .i64 x.reader) := hc0 1
  have e2 : World.cell? V0 ⟨w.heap.size, 2, none⟩ = some (.int .i64 x.out) := hc0 2
  have e3 : World.cell? V0 ⟨w.heap.size, 3, none⟩ = some (.int .i64 x.due) := hc0 3
  have e4 : World.cell? V0 ⟨w.heap.size, 4, none⟩ = some (.int .i64 x.back) := hc0 4
  clear hc0
  have HO := Lib.hid (l11One_any x V0)
  by_cases hq : IsLo x
  · have hq' := hq
    unfold IsLo at hq'
    obtain ⟨⟨i1, i2⟩, ⟨i3, i4⟩, ⟨i5, i6⟩, ⟨i7, i8⟩, i9, i10⟩ := hq'
    have HQ := Lib.hid hq
    obtain ⟨a, ha⟩ : ∃ a : Nat, x.sheet = a := ⟨x.sheet.toNat, by omega⟩
    obtain ⟨b, hb⟩ : ∃ b : Nat, x.reader = b := ⟨x.reader.toNat, by omega⟩
    obtain ⟨c, hc⟩ : ∃ c : Nat, x.out = c := ⟨x.out.toNat, by omega⟩
    obtain ⟨d, hd⟩ : ∃ d : Nat, x.due = d := ⟨x.due.toNat, by omega⟩
    have htx : loanT x = if x.back < 0 then loanB a b c d else loanB a b c d ++ (⟨#[32, 98, 97, 99, 107, 32]⟩ ++ dig x.back.toNat) := by unfold loanT; rw [ha, hb, hc, hd]; rfl
    rw [tb_t hq, selt_t hq, htx]
    have HX := HO.out
    rw [tb_t hq] at HX
    have hbb : x.back = -1 ∨ (0 ≤ x.back ∧ x.back ≤ 4000) := by omega
    rw [ha] at e0 i1 i2
    rw [hb] at e1 i3 i4
    rw [hc] at e2 i5 i6
    rw [hd] at e3 i7 i8
    rw [ha, hb, hc, hd] at HX hV0 ⊢
    have s1 := dig_size a
    have s2 := dig_size b
    have s3 := dig_size c
    have s4 := dig_size d
    have s5 := loanB_size a b c d
    have hB9 : loanB a b c d = dig a ++ ⟨#[32, 116, 111, 32]⟩ ++ dig b ++ ⟨#[32]⟩ ++ dig c ++ ⟨#[46, 46]⟩ ++ dig d := rfl
    obtain ⟨LB, hLB⟩ : ∃ z, z = loanB a b c d := ⟨_, rfl⟩
    rw [← hLB] at hB9 s5 ⊢
    have HB9 := Lib.hid hB9
    have HO2 := Lib.hid HX
    obtain ⟨bk, hbk⟩ : ∃ z, z = x.back := ⟨_, rfl⟩
    rw [← hbk] at hbb e4 hV0 ⊢
    rw [← hbk] at HO2
    clear HX HO hq ha hb hc hd htx hB9 hLB i9 i10 hbk
    go_enter Tryd.func23, Tryd.ntmps23
    go_wp2_with fail
    ((with_reducible refine (HO2.out).mono ?_); rintro e wa ⟨rfl, hba⟩)
    have hbw := ext_trans hB0 hba
    have k0 := (hba.cell (p := ⟨w.heap.size, 0, none⟩) hz0).trans e0
    have k1 := (hba.cell (p := ⟨w.heap.size, 1, none⟩) hz0).trans e1
    have k2 := (hba.cell (p := ⟨w.heap.size, 2, none⟩) hz0).trans e2
    have k3 := (hba.cell (p := ⟨w.heap.size, 3, none⟩) hz0).trans e3
    have k4 := (hba.cell (p := ⟨w.heap.size, 4, none⟩) hz0).trans e4
    have hlw : w.heap.size < wa.heap.size := Nat.lt_of_lt_of_le hz0 hba.size
    have hpc := plus_cell wa
    have t1 := fun W (hW : Below wa.heap.size wa W) => l1Num_any a W (by omega)
    have t2 := fun W (hW : Below wa.heap.size wa W) => l1Num_any b W (by omega)
    have t3 := fun W (hW : Below wa.heap.size wa W) => l1Num_any c W (by omega)
    have t4 := fun W (hW : Below wa.heap.size wa W) => l1Num_any d W (by omega)
    have T5 := Lib.hid (fun (f : Nat) (hf : f ≤ 4000) W (hW : Below wa.heap.size wa W) => l1Num_any f W (by omega))
    have T1 := Lib.hid t1
    have T2 := Lib.hid t2
    have T3 := Lib.hid t3
    have T4 := Lib.hid t4
    clear t1 t2 t3 t4
    go_upto_region 3 with fail
    refine wp_region_grow (by kernel_rfl) (by kernel_rfl) ?_
    repeat (go_big_quiet_step ((first | (go_at_call 56; with_reducible exact quiet_below (T1.out _ (plus_below _ _))) | (go_at_call 56; with_reducible exact quiet_below (T2.out _ (plus_below _ _))) | (go_at_call 56; with_reducible exact quiet_below (T3.out _ (plus_below _ _))) | (go_at_call 56; with_reducible exact quiet_below (T4.out _ (plus_below _ _))))))
    refine wpQuiet_nil ?_
    intro w1 hb1
    have m4 := (hb1.cell (p := ⟨w.heap.size, 4, none⟩) hlw).trans k4
    have hl2 := Nat.lt_of_lt_of_le hlw hb1.size
    have hbw2 := ext_trans hbw hb1
    rw [show (dig a ++ ⟨#[32, 116, 111, 32]⟩ ++ dig b ++ ⟨#[32]⟩ ++ dig c ++ ⟨#[46, 46]⟩ ++ dig d) = LB from HB9.out.symm]
    by_cases hbn : bk = -1
    · subst hbn
      go_wp2
      refine bodyPost_ret (v := .tuple #[.string LB, .bool true]) (by simp [results, Tryd.results23, go_sem]) rfl ⟨rfl, hbw2⟩
    · have hb0 : 0 ≤ bk := by omega
      have hb4 : ¬ bk < 0 := by omega
      obtain ⟨f, hf⟩ : ∃ f : Nat, bk = f := ⟨bk.toNat, by omega⟩
      subst hf
      have hbe : ((f : Int) != -1) = true := by simp [hbn]
      have s6 := dig_size f
      have hff : f ≤ 4000 := by omega
      go_wp2_with fail
      ((with_reducible refine (T5.out f hff _ hb1).mono ?_); rintro e w5 ⟨rfl, hb5⟩)
      go_wp2
      refine bodyPost_ret (v := .tuple #[.string (LB ++ (⟨#[32, 98, 97, 99, 107, 32]⟩ ++ dig f)), .bool true]) (by simp [results, Tryd.results23, go_sem, ByteArray.append_assoc]) rfl ⟨by first | rfl | rw [if_neg (show ¬ (f : Int) < 0 by omega), Int.toNat_natCast], ext_trans hbw2 hb5⟩
  · rw [tb_f hq, selt_f hq]
    have HX := HO.out
    rw [tb_f hq] at HX
    have HO2 := Lib.hid HX
    clear HX HO hq
    go_enter Tryd.func23, Tryd.ntmps23
    go_wp2_with fail
    ((with_reducible refine (HO2.out).mono ?_); rintro e w1 ⟨rfl, hb1⟩)
    go_wp2
    refine bodyPost_ret (v := .tuple #[.string ⟨#[]⟩, .bool false]) (by simp [results, Tryd.results23, go_sem]) rfl ⟨rfl, ext_trans hB0 hb1⟩
end Go.Proofs.YtnikeelpcokffaaDoor
