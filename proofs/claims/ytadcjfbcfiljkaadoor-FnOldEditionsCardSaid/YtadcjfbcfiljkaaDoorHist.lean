/- In which editions of a sheet a place was changed: the program's and the reference's. -/
import Derived.Test.YtadcjfbcfiljkaaDoorIdxI
import Derived.Test.YtadcjfbcfiljkaaDoorAreEds
import Derived.Test.YtadcjfbcfiljkaaDoorGoodEds
namespace Go.Proofs.YtadcjfbcfiljkaaDoor
open Go.RowKit
set_option linter.unusedVariables false
set_option linter.unusedSimpArgs false

def hist (place : Int) (ys : List Nest) : List Int := (ys.filter fun e => decide (place ∈ e.l)).map Nest.b
theorem hist_t {place : Int} {ys : List Nest} {x : Nest} (h : place ∈ x.l) : hist place (ys ++ [x]) = hist place ys ++ [x.b] := by simp [hist, h]
theorem hist_f {place : Int} {ys : List Nest} {x : Nest} (h : place ∉ x.l) : hist place (ys ++ [x]) = hist place ys := by simp [hist, h]
theorem hist_len (place : Int) (ys : List Nest) : (hist place ys).length ≤ ys.length := by unfold hist; rw [List.length_map]; exact List.length_filter_le _ _
theorem ofS_mem {a : Int} {xs : List Nest} {x : Nest} (h : x ∈ ofS a xs) : x ∈ xs := (List.mem_filter.1 h).1

set_option maxHeartbeats 1000000 in
set_option maxRecDepth 100000 in
theorem history_any (A : Option Addr) (c : Nat) (xs : List Nest) (sheet place : Int) (w : World) (hn : wt xs ≤ 1048576) (hA : Nl w A xs) :
    Calls Tryd.prog 35 #[.slice A xs.length c, .int .i64 sheet, .int .i64 place] w (RetI w (hist place (ofS sheet xs))) := by
  obtain ⟨i0, hi, hz0, hz1, hz2⟩ := info_parts infoInt
  have hed := fun W hW => editionsOf_any A c xs sheet W (le22 (Nat.le_trans (wt_len xs) hn)) hW
  have hyl := Nat.le_trans (ofS_len sheet xs) (Nat.le_trans (wt_len xs) hn)
  have hin : ∀ y ∈ ofS sheet xs, y.l.length ≤ 1048576 := fun y hy => Nat.le_trans (wt_in (ofS_mem hy)) hn
  generalize ofS sheet xs = ys at hed hyl hin ⊢
  generalize xs.length = m at hed ⊢
  obtain ⟨n, hnn⟩ : ∃ n, n = List.length ys := ⟨_, rfl⟩
  have HE := Lib.hid hed
  have hN := Lib.hid hnn
  rw [← hnn] at hyl
  clear hed hnn
  go_enter Tryd.func35, Tryd.ntmps35
  go_wp2_with fail
  refine (HE.out w hA).mono ?_
  rintro e w1 ⟨B, d, rfl, hB, hb1⟩
  rw [← hN.out]
  go_wp2
  go_loopw [7, 14] (fun v i wr => ∃ k : Nat, k ≤ n ∧ i = .int .i64 k ∧ Below w1.heap.size w1 wr ∧ OwnF one 1 w1.heap.size 3 wr v (hist place (ys.take k))) (fun _ i _ => n - (intOf i).toNat)
  case atStart => exact ⟨0, by omega, rfl, Below.refl _ _, OwnF.none_⟩
  case round =>
    obtain ⟨k, hk, rfl, hbr, hown⟩ := hrel
    have hzr := hbr.size
    by_cases hlt : k < n
    · obtain ⟨x, b, o, A', d', hx, rfl, hb, hc, hfl⟩ := (hB.ext hbr).at_ (k := k) (by rw [← hN.out]; exact hlt)
      have hxl := hin x (List.mem_of_getElem? hx)
      have c0 : World.cell? wr ⟨b, o + k * 4, none⟩ = some (.int .i64 x.a) := hc.ca
      have c1 : World.cell? wr ⟨b, o + k * 4 + 1, none⟩ = some (.int .i64 x.b) := hc.cb
      have c2 : World.cell? wr ⟨b, o + k * 4 + 2, none⟩ = some (.int .i64 x.c) := hc.cc
      have c3 : World.cell? wr ⟨b, o + k * 4 + 3, none⟩ = some (.slice A' x.l.length d') := hc.cl
      have hlen : (hist place (ys.take k)).length ≤ 1048576 := Nat.le_trans (hist_len _ _) (by rw [List.length_take]; omega)
      have htk := take_get hx
      obtain ⟨W0, hW0, hB0, hz0', hg, _⟩ := box_world wr #[Value.int .i64 x.a, .int .i64 x.b, .int .i64 x.c, .slice A' x.l.length d'] 33
      have g1 : World.cell? W0 ⟨wr.heap.size, 1, none⟩ = some (.int .i64 x.b) := hg 1
      have g3 : World.cell? W0 ⟨wr.heap.size, 3, none⟩ = some (.slice A' x.l.length d') := hg 3
      have hown0 := hown.ext hB0
      have hfl0 := hfl.ext hB0
      have hbW := ext_trans hbr hB0
      have HT := Lib.hid htk
      clear hc hB hA hx hg htk hfl
      have hk0 : (0 : Int) ≤ (k : Int) := by omega
      have hk1 : (k : Int) < (n : Int) := by omega
      by_cases hp : place ∈ x.l
      · go_wp2_with fail
        refine (contains_any A' d' x.l place W0 (by omega) hfl0).mono ?_
        rintro e w2 ⟨rfl, rfl⟩
        rw [tb_t hp]
        have HP := Lib.hid hp
        clear hp
        go_wp2_with (at_builtin; refine wpList_append_flat (f := one) (y := x.b) rfl _ _ _ rfl w1.heap.size i0 _ 1 8 Tryd.underlying31 hi hz0 hz1 hz2 rfl (by decide) _ _ rfl rfl hown0 rfl ?_ (by decide) ?_ ?_; omega; exact hbW.size; intro v' w3 hown3 hg3 hb3)
        go_roundw
        case rel => exact ⟨k + 1, by omega, by go_num, hbW.trans hb3, by rw [HT.out, hist_t HP.out]; exact hown3⟩
        case measure => simp [intOf]; omega
      · go_wp2_with fail
        refine (contains_any A' d' x.l place W0 (by omega) hfl0).mono ?_
        rintro e w2 ⟨rfl, rfl⟩
        rw [tb_f hp]
        have HP := Lib.hid hp
        clear hp
        go_wp2
        go_roundw
        case rel => exact ⟨k + 1, by omega, by go_num, hbW, by rw [HT.out, hist_f HP.out]; exact hown0⟩
        case measure => simp [intOf]; omega
    · have hkn : k = n := by omega
      subst hkn
      rw [take_all (by rw [← hN.out]; exact Nat.le_refl _)] at hown
      go_wp2
      go_ret
      obtain ⟨B2, d2, hv, hF⟩ := hown.form one_length
      exact ⟨B2, d2, by rw [hv]; rfl, hF.mono hb1.size (Nat.le_refl _), ext_trans hb1 hbr⟩
end Go.Proofs.YtadcjfbcfiljkaaDoor
