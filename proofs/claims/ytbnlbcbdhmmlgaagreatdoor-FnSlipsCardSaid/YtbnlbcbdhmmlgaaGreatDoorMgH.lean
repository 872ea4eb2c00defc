/- Whether a number is in a list. The laws' comparison of lists. The laws' comparison of held copies. No condition. -/
import Derived.Test.YtbnlbcbdhmmlgaaGreatDoorMgB
import Derived.Test.YtbnlbcbdhmmlgaaGreatDoorMgA
import Derived.Test.YtbnlbcbdhmmlgaaGreatDoorFamErratum
import Derived.Test.YtbnlbcbdhmmlgaaGreatDoorFamHeld
namespace Go.Proofs.YtbnlbcbdhmmlgaaGreatDoor
open Go.RowKit
set_option linter.unusedVariables false
set_option linter.unusedSimpArgs false

set_option maxHeartbeats 1000000 in
set_option maxRecDepth 100000 in
theorem hasI_any (A : Option Addr) (c : Nat) (xs : List Int) (v : Int) (w : World) (hn : xs.length ≤ 1152921504606846976) (hA : Fl one 1 w A xs) :
    Calls Tryz.prog 10 #[.slice A xs.length c, .int .i64 v] w fun e w' => e = .returned (.bool (tb (v ∈ xs))) ∧ Below w.heap.size w w' := by
  obtain ⟨n, hnn⟩ : ∃ n, n = xs.length := ⟨_, rfl⟩
  rw [← hnn] at hn ⊢
  have hN := Lib.hid hnn
  clear hnn
  go_enter Tryz.func10, Tryz.ntmps10
  go_wp2
  go_loopw [5] (fun i wr => ∃ k : Nat, k ≤ n ∧ i = .int .i64 k ∧ Below w.heap.size w wr ∧ Hid (v ∉ xs.take k)) (fun i _ => n - (intOf i).toNat)
  case atStart => exact ⟨0, by omega, rfl, Below.refl _ _, by unfold Hid; simp⟩
  case round =>
    obtain ⟨k, hk, rfl, hbr, hall⟩ := hrel
    by_cases hlt : k < n
    · obtain ⟨x, b, o, hx, rfl, hb, hc⟩ := ((hA.ext hbr).at_ (k := k) (by rw [← hN.out]; exact hlt))
      have hX := Lib.hid hx
      clear hx
      have c0 : World.cell? wr ⟨b, o + k, none⟩ = some (.int .i64 x) := by simpa using hc 0 _ rfl
      clear hc hA
      have hk0 : (0 : Int) ≤ (k : Int) := by omega
      have hk1 : (k : Int) < (n : Int) := by omega
      by_cases hxy : x = v
      · have hxe : (x == v) = true := by simp [hxy]
        have hXY := Lib.hid hxy
        clear hxy
        go_wp2
        go_ret
        refine ⟨ret_bool (tb_t ?_).symm, hbr⟩
        rw [← hXY.out]
        exact List.mem_of_getElem? hX.out
      · have hne : (x == v) = false := by simpa using hxy
        have hXY := Lib.hid hxy
        clear hxy
        go_wp2
        go_roundw
        case rel => exact ⟨k + 1, by omega, by go_num, hbr, by
          unfold Hid
          rw [take_get hX.out, List.mem_append]
          rintro (h | h)
          · exact hall.out h
          · exact hXY.out (List.mem_singleton.1 h).symm⟩
        case measure => simp [intOf]; omega
    · have hkn : k = n := by omega
      subst hkn
      go_wp2
      go_ret
      refine ⟨ret_bool (tb_f ?_).symm, hbr⟩
      have h1 := hall.out
      rwa [take_all (by rw [← hN.out]; exact Nat.le_refl _)] at h1
end Go.Proofs.YtbnlbcbdhmmlgaaGreatDoor
namespace Go.Proofs.YtbnlbcbdhmmlgaaGreatDoor
open Go.RowKit
set_option linter.unusedVariables false
set_option linter.unusedSimpArgs false

set_option maxHeartbeats 1000000 in
set_option maxRecDepth 100000 in
theorem rErrata_same (A B : Option Addr) (c d : Nat) (xs : List Erratum) (w : World) (hn : xs.length ≤ 1152921504606846976) (hA : Fl Erratum.ints 5 w A xs) (hB : Fl Erratum.ints 5 w B xs) :
    Calls Tryz.prog 14 #[.slice A xs.length c, .slice B xs.length d] w fun e w' => e = .returned (.bool true) ∧ Below w.heap.size w w' := by
  obtain ⟨n, hnn⟩ : ∃ n, n = xs.length := ⟨_, rfl⟩
  rw [← hnn] at hn ⊢
  have hN := Lib.hid hnn
  clear hnn
  go_enter Tryz.func14, Tryz.ntmps14
  go_wp2
  go_loopw [5] (fun i wr => ∃ k : Nat, k ≤ n ∧ i = .int .i64 k ∧ Below w.heap.size w wr) (fun i _ => n - (intOf i).toNat)
  case atStart => exact ⟨0, by omega, rfl, Below.refl _ _⟩
  case round =>
    obtain ⟨k, hk, rfl, hbr⟩ := hrel
    by_cases hlt : k < n
    · obtain ⟨x, b, o, hx, rfl, hb, hc⟩ := ((hA.ext hbr).at_ (k := k) (by rw [← hN.out]; exact hlt))
      obtain ⟨y, b', o', hy, rfl, hb', hc'⟩ := ((hB.ext hbr).at_ (k := k) (by rw [← hN.out]; exact hlt))
      obtain rfl : x = y := by rw [hx] at hy; exact Option.some.inj hy
      clear hx hy
      have c0 : World.cell? wr ⟨b, o + k * 5, none⟩ = some (.int .i64 x.id) := hc 0 _ rfl
      have c1 : World.cell? wr ⟨b, o + k * 5 + 1, none⟩ = some (.int .i64 x.sheet) := hc 1 _ rfl
      have c2 : World.cell? wr ⟨b, o + k * 5 + 2, none⟩ = some (.int .i64 x.frm) := hc 2 _ rfl
      have c3 : World.cell? wr ⟨b, o + k * 5 + 3, none⟩ = some (.int .i64 x.til) := hc 3 _ rfl
      have c4 : World.cell? wr ⟨b, o + k * 5 + 4, none⟩ = some (.int .i64 x.day) := hc 4 _ rfl
      have d0 : World.cell? wr ⟨b', o' + k * 5, none⟩ = some (.int .i64 x.id) := hc' 0 _ rfl
      have d1 : World.cell? wr ⟨b', o' + k * 5 + 1, none⟩ = some (.int .i64 x.sheet) := hc' 1 _ rfl
      have d2 : World.cell? wr ⟨b', o' + k * 5 + 2, none⟩ = some (.int .i64 x.frm) := hc' 2 _ rfl
      have d3 : World.cell? wr ⟨b', o' + k * 5 + 3, none⟩ = some (.int .i64 x.til) := hc' 3 _ rfl
      have d4 : World.cell? wr ⟨b', o' + k * 5 + 4, none⟩ = some (.int .i64 x.day) := hc' 4 _ rfl
      clear hc hc' hA hB
      have hpc := plus_cell wr
      have hk0 : (0 : Int) ≤ (k : Int) := by omega
      have hk1 : (k : Int) < (n : Int) := by omega
      go_wp2_with fail
      refine wp_region_grow (by kernel_rfl) (by kernel_rfl) ?_
      repeat (go_big_quiet_step ((first | (fail))))
      refine wpQuiet_nil ?_
      intro w1 hb1
      go_wp2
      go_roundw
      case rel => exact ⟨k + 1, by omega, by go_num, ext_trans hbr hb1⟩
      case measure => simp [intOf]; omega
    · have hkn : k = n := by omega
      subst hkn
      go_wp2
      go_ret
      exact ⟨rfl, hbr⟩
end Go.Proofs.YtbnlbcbdhmmlgaaGreatDoor
namespace Go.Proofs.YtbnlbcbdhmmlgaaGreatDoor
open Go.RowKit
set_option linter.unusedVariables false
set_option linter.unusedSimpArgs false

set_option maxHeartbeats 1000000 in
set_option maxRecDepth 100000 in
theorem rHelds_same (A B : Option Addr) (c d : Nat) (xs : List Nest) (w : World) (hn : wt xs ≤ 1152921504606846976) (hA : Nl w A xs) (hB : Nl w B xs) :
    Calls Tryz.prog 8 #[.slice A xs.length c, .slice B xs.length d] w fun e w' => e = .returned (.bool true) ∧ Below w.heap.size w w' := by
  have hin := fun x (hx : x ∈ xs) => wt_in hx
  have hwl := wt_len xs
  obtain ⟨n, hnn⟩ : ∃ n, n = List.length xs := ⟨_, rfl⟩
  rw [← hnn] at hwl ⊢
  have hN := Lib.hid hnn
  clear hnn
  go_enter Tryz.func8, Tryz.ntmps8
  go_wp2
  go_loopw [5] (fun i wr => ∃ k : Nat, k ≤ n ∧ i = .int .i64 k ∧ Below w.heap.size w wr) (fun i _ => n - (intOf i).toNat)
  case atStart => exact ⟨0, by omega, rfl, Below.refl _ _⟩
  case round =>
    obtain ⟨k, hk, rfl, hbr⟩ := hrel
    by_cases hlt : k < n
    · have hBr := hB.ext hbr
      obtain ⟨x, b, o, A', d', hx, rfl, hb, hc, hfl⟩ := (hA.ext hbr).at_ (k := k) (by rw [← hN.out]; exact hlt)
      obtain ⟨y, b2, o2, A2, d2, hy, rfl, hb2, hc2, hfl2⟩ := hBr.at_ (k := k) (by rw [← hN.out]; exact hlt)
      rw [hx] at hy
      cases hy
      have hxl := hin x (List.mem_of_getElem? hx)
      have c0 : World.cell? wr ⟨b, o + k * 4, none⟩ = some (.int .i64 x.a) := hc.ca
      have c1 : World.cell? wr ⟨b, o + k * 4 + 1, none⟩ = some (.int .i64 x.b) := hc.cb
      have c2 : World.cell? wr ⟨b, o + k * 4 + 2, none⟩ = some (.int .i64 x.c) := hc.cc
      have c3 : World.cell? wr ⟨b, o + k * 4 + 3, none⟩ = some (.slice A' x.l.length d') := hc.cl
      have e0 : World.cell? wr ⟨b2, o2 + k * 4, none⟩ = some (.int .i64 x.a) := hc2.ca
      have e1 : World.cell? wr ⟨b2, o2 + k * 4 + 1, none⟩ = some (.int .i64 x.b) := hc2.cb
      have e2 : World.cell? wr ⟨b2, o2 + k * 4 + 2, none⟩ = some (.int .i64 x.c) := hc2.cc
      have e3 : World.cell? wr ⟨b2, o2 + k * 4 + 3, none⟩ = some (.slice A2 x.l.length d2) := hc2.cl
      clear hc hc2 hA hB hx hBr
      have hpc := plus_cell wr
      have hk0 : (0 : Int) ≤ (k : Int) := by omega
      have hk1 : (k : Int) < (n : Int) := by omega
      have na : (x.a != x.a) = false := by simp
      have nb : (x.b != x.b) = false := by simp
      have nc : (x.c != x.c) = false := by simp
      go_wp2_with fail
      refine wp_region_grow (by kernel_rfl) (by kernel_rfl) ?_
      repeat (go_big_quiet_step ((first | (go_at_call 22; exact quiet_below (rInts_same A' A2 d' d2 x.l _ (by omega) (hfl.ext (plus_below _ _)) (hfl2.ext (plus_below _ _)))))))
      refine wpQuiet_nil ?_
      intro w1 hb1
      go_wp2
      go_roundw
      case rel => exact ⟨k + 1, by omega, by go_num, ext_trans hbr hb1⟩
      case measure => simp [intOf]; omega
    · have hkn : k = n := by omega
      subst hkn
      go_wp2
      go_ret
      exact ⟨rfl, hbr⟩
end Go.Proofs.YtbnlbcbdhmmlgaaGreatDoor
