/- The last edition of a sheet taken out of a list: DropLast on both sides. -/
import Derived.Test.YtadcjfbcfiljkaaDelWalk
import Derived.Test.YtadcjfbcfiljkaaDropLaw
import Derived.Test.YtadcjfbcfiljkaaCopyEd
import Derived.Test.YtadcjfbcfiljkaaAreEds
import Derived.Test.YtadcjfbcfiljkaaGoodEds
import Derived.Test.YtadcjfbcfiljkaaNestOwn2
namespace Go.Proofs.Ytadcjfbcfiljkaa
open Go.RowKit
set_option linter.unusedVariables false
set_option linter.unusedSimpArgs false

theorem nv_take {α : Type} {zs : List α} {j i : Nat} {y : α} (h : (zs.take j)[i]? = some y) : zs[i]? = some y := by
  rw [List.getElem?_take] at h
  split at h
  · exact h
  · cases h
/-- a call that hands back new editions and a bool, and leaves what was there -/
def RetNB (w : World) (ys : List Nest) (ok : Bool) (e : Ending) (w' : World) : Prop :=
  ∃ B d, e = .returned (.tuple #[.slice B ys.length d, .bool ok]) ∧ NlO w.heap.size w'.heap.size w' B ys ∧ Below w.heap.size w w'
set_option maxHeartbeats 2000000 in
set_option maxRecDepth 100000 in
theorem dropLast_any (A : Option Addr) (c : Nat) (xs : List Nest) (sheet : Int) (w : World) (hn : wt xs ≤ 1048576) (hcap : xs.length ≤ c) (hcm : c ≤ 9223372036854775807) (hA : Nl w A xs) :
    Calls Try.prog 10 #[.slice A xs.length c, .int .i64 sheet] w (RetNB w (sel (DrOk xs sheet) (dropS sheet xs)) (tb (DrOk xs sheet))) := by
  have hare := fun W hW => areEditions_any A c xs W hn hcap hcm hW
  have hed := fun W hW => editionsOf_any A c xs sheet W (le22 (Nat.le_trans (wt_len xs) hn)) hW
  have hcp := fun W hW => copyEditions_any A c xs W (le22 hn) hW
  have hyl := Nat.le_trans (ofS_len sheet xs) (Nat.le_trans (wt_len xs) hn)
  have hn1 := Nat.le_trans (wt_len xs) hn
  obtain ⟨L, hL⟩ : ∃ L, L = (ofS sheet xs).length := ⟨_, rfl⟩
  obtain ⟨es, hes⟩ : ∃ es, es = ofS sheet xs := ⟨_, rfl⟩
  rw [← hes] at hed hL hyl
  have hmf : ∀ (fn : Fn) (first cap : Array Value) (w : World), (Instr.makeFunc fn first cap).run Try.prog w = .ok (.func fn first cap) w := fun _ _ _ _ => rfl
  obtain ⟨n, hnn⟩ : ∃ n, n = xs.length := ⟨_, rfl⟩
  rw [← hnn] at hare hed hcp hcap hn1 ⊢
  rw [← hL] at hyl
  have HN := Lib.hid hnn
  have HES := Lib.hid hes
  have HL := Lib.hid hL
  have HA := Lib.hid hare
  have HE := Lib.hid hed
  have HP := Lib.hid hcp
  obtain ⟨W0, hW0, hB0, hz0, hc0, hf0⟩ := box_world w #[Value.int .i64 sheet] 3
  have e0 : World.cell? W0 ⟨w.heap.size, 0, none⟩ = some (.int .i64 sheet) := hc0 0
  clear hare hed hcp hnn hes hL hc0
  go_enter Try.func10, Try.ntmps10
  go_wp2_with fail
  refine (HE.out W0 (hA.ext hB0)).mono ?_
  rintro e w1 ⟨B1, d1, rfl, hN1, hb1⟩
  rw [← HL.out]
  have hx1 := ext_trans hB0 hb1
  have e1 : World.cell? w1 ⟨w.heap.size, 0, none⟩ = some (.int .i64 sheet) := (hb1.cell (p := ⟨w.heap.size, 0, none⟩) hz0).trans e0
  have hz1 : w.heap.size < w1.heap.size := Nat.lt_of_lt_of_le hz0 hb1.size
  obtain ⟨W1, hW1, hB1, hzz1, hc1, _⟩ := box_world w1 #[Value.int .i64 (L : Int)] 3
  have i1 : World.cell? W1 ⟨w1.heap.size, 0, none⟩ = some (.int .i64 (L : Int)) := hc1 0
  have e2 : World.cell? W1 ⟨w.heap.size, 0, none⟩ = some (.int .i64 sheet) := (hB1.cell (p := ⟨w.heap.size, 0, none⟩) hz1).trans e1
  have hx2 := ext_trans hx1 hB1
  clear hN1 hc1 hW0
  go_wp2_with fail
  clear hW1
  refine (HA.out W1 (hA.ext hx2)).mono ?_
  rintro e w2 ⟨rfl, hb2⟩
  have hx3 := ext_trans hx2 hb2
  have i3 : World.cell? w2 ⟨w1.heap.size, 0, none⟩ = some (.int .i64 (L : Int)) := (hb2.cell (p := ⟨w1.heap.size, 0, none⟩) hzz1).trans i1
  have e3 : World.cell? w2 ⟨w.heap.size, 0, none⟩ = some (.int .i64 sheet) := (hb2.cell (p := ⟨w.heap.size, 0, none⟩) (Nat.lt_of_lt_of_le hz0 (Nat.le_trans hb1.size hB1.size))).trans e2
  have hz3 : w1.heap.size < w2.heap.size := Nat.lt_of_lt_of_le hzz1 hb2.size
  have hz4 : w.heap.size < w2.heap.size := Nat.lt_trans hz1 hz3
  clear e0 e1 e2 i1
  by_cases h1 : Eds xs
  · rw [tb_t h1]
    have H1 := Lib.hid h1
    clear h1
    by_cases h2 : L = 0
    · have hok : ¬ DrOk xs sheet := fun h => h.2 (by rw [← HES.out]; exact List.length_eq_zero_iff.1 (by rw [← HL.out, h2]))
      have HOK := Lib.hid hok
      clear hok
      subst h2
      go_wp2
      go_ret2
      rw [sel_f HOK.out, tb_f HOK.out]
      exact ⟨none, 0, rfl, NlO.nil, hx3⟩
    · have hok : DrOk xs sheet := ⟨H1.out, fun h => h2 (by rw [HL.out, HES.out, h]; rfl)⟩
      have h3 : ((L : Int) == 0) = false := by rw [beq_eq_false_iff_ne]; omega
      have HOK := Lib.hid hok
      have H2 := Lib.hid h2
      clear hok h2
      go_wp2_with fail
      refine (HP.out w2 (hA.ext hx3)).mono ?_
      rintro e w4 ⟨v4, ys, rfl, hown, hys, hb4⟩
      have hyl4 : ys.length = n := by have h := congrArg List.length hys; rwa [List.length_map, ← HN.out] at h
      have HYS := Lib.hid hys
      clear hys
      go_wp2_with fail
      refine (deleteEd_any sheet (L : Int) w.heap.size w1.heap.size w2.heap.size v4 ys w4 (by omega) hb4.size hown hz4 hz3 ((hb4.cell (p := ⟨w.heap.size, 0, none⟩) hz4).trans e3) ((hb4.cell (p := ⟨w1.heap.size, 0, none⟩) hz3).trans i3)).mono ?_
      rintro e w5 ⟨v5, zs, rfl, hown5, hzs, hb5⟩
      have hx5 : Below w.heap.size w w5 := (ext_trans hx3 hb4).trans (hb5.mono hx3.size)
      obtain ⟨B5, c5, hv5, _, _, hF5⟩ := hown5.full (fun _ => rfl) (by decide)
      subst hv5
      have hre : zs.map GV.x = dropS sheet xs := by rw [hzs, HYS.out]; unfold dropS; rw [← HES.out, ← HL.out]
      rw [hre] at hF5 ⊢
      go_wp2
      go_ret2
      rw [sel_t HOK.out, tb_t HOK.out]
      exact ⟨B5, c5, rfl, hF5.n.mono hx3.size (Nat.le_refl _), hx5⟩
  · rw [tb_f h1]
    have hok : ¬ DrOk xs sheet := fun h => h1 h.1
    have HOK := Lib.hid hok
    clear h1 hok
    go_wp2
    go_ret2
    rw [sel_f HOK.out, tb_f HOK.out]
    exact ⟨none, 0, rfl, NlO.nil, hx3⟩

end Go.Proofs.Ytadcjfbcfiljkaa
