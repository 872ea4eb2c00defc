/- Whether a number stands in a []int: slices.Contains and the reference's l1Has. -/
import Derived.Test.YtadcjfbcfiljkaaDoorProg
import Derived.Test.YtadcjfbcfiljkaaDoorLst
namespace Go.Proofs.YtadcjfbcfiljkaaDoor
open Go.RowKit
set_option linter.unusedVariables false
set_option linter.unusedSimpArgs false

set_option maxHeartbeats 1000000 in
theorem index_any (A : Option Addr) (c : Nat) (xs : List Int) (v : Int) (w : World) (hn : xs.length ≤ 1152921504606846976) (hA : Fl one 1 w A xs) :
    Calls Tryd.prog 65 #[.slice A xs.length c, .int .i64 v] w fun e w' => e = .returned (.int .i64 (idxF v 0 xs)) ∧ w = w' := by
  obtain ⟨n, hnn⟩ : ∃ n, n = List.length xs := ⟨_, rfl⟩
  rw [← hnn] at hn ⊢
  have hN := Lib.hid hnn
  clear hnn
  go_enter Tryd.func65, Tryd.ntmps65
  go_wp2
  go_loop [8] (fun i => ∃ k : Nat, k ≤ n ∧ i = .int .i64 k ∧ Hid (idxF v k (xs.drop k) = idxF v 0 xs)) (fun i => n - (intOf i).toNat)
  case atStart => exact ⟨0, by omega, rfl, rfl⟩
  case round =>
    obtain ⟨k, hk, rfl, hst⟩ := hrel
    by_cases hlt : k < n
    · obtain ⟨x, b, o, hx, rfl, hb, hc⟩ := hA.at_ (k := k) (by rw [← hN.out]; exact hlt)
      have hX := Lib.hid hx
      clear hx
      have c0 : World.cell? w ⟨b, o + k, none⟩ = some (.int .i64 x) := by have := hc 0 x rfl; simpa using this
      clear hc hA
      have hk0 : (0 : Int) ≤ (k : Int) := by omega
      have hk1 : (k : Int) < (n : Int) := by omega
      by_cases hv : v = x
      · have HV := Lib.hid hv
        go_wp2
        go_ret
        exact ⟨ret_int (by have h := hst.out; rw [idxF_t hX.out HV.out.symm] at h; rw [h, HV.out]), rfl⟩
      · have HV := Lib.hid hv
        go_wp2
        go_round
        case rel => exact ⟨k + 1, by omega, by go_num, (idxF_f hX.out (Ne.symm HV.out)).symm.trans hst.out⟩
        case measure => simp [intOf]; omega
    · have hkn : k = n := by omega
      subst hkn
      go_wp2
      go_ret
      exact ⟨ret_int (by rw [← hst.out, drop_all (by rw [← hN.out]; exact Nat.le_refl _)]; rfl), rfl⟩
set_option maxHeartbeats 400000 in
theorem contains_any (A : Option Addr) (c : Nat) (xs : List Int) (v : Int) (w : World) (hn : xs.length ≤ 1152921504606846976) (hA : Fl one 1 w A xs) :
    Calls Tryd.prog 53 #[.slice A xs.length c, .int .i64 v] w fun e w' => e = .returned (.bool (tb (v ∈ xs))) ∧ w = w' := by
  have h := index_any A c xs v w hn hA
  have hm := idxF_mem v 0 xs
  generalize idxF v 0 xs = r at h hm
  generalize (v ∈ xs) = q at hm ⊢
  generalize xs.length = n at h ⊢
  have H := Lib.hid h
  have HM := Lib.hid hm
  clear h hm
  go_enter Tryd.func53, Tryd.ntmps53
  go_wp2_with fail
  refine (H.out).mono ?_
  rintro e w1 ⟨rfl, rfl⟩
  go_wp2
  go_ret
  exact ⟨ret_bool (tb_dec HM.out.symm), rfl⟩

set_option maxHeartbeats 1000000 in
theorem l1Has_any (A : Option Addr) (c : Nat) (xs : List Int) (v : Int) (w : World) (hn : xs.length ≤ 1152921504606846976) (hA : Fl one 1 w A xs) :
    Calls Tryd.prog 54 #[.slice A xs.length c, .int .i64 v] w fun e w' => e = .returned (.bool (tb (v ∈ xs))) ∧ w = w' := by
  obtain ⟨n, hnn⟩ : ∃ n, n = List.length xs := ⟨_, rfl⟩
  rw [← hnn] at hn ⊢
  have hN := Lib.hid hnn
  clear hnn
  go_enter Tryd.func54, Tryd.ntmps54
  go_wp2
  go_loop [5] (fun i => ∃ k : Nat, k ≤ n ∧ i = .int .i64 k ∧ Hid (v ∈ xs.drop k ↔ v ∈ xs)) (fun i => n - (intOf i).toNat)
  case atStart => exact ⟨0, by omega, rfl, Iff.rfl⟩
  case round =>
    obtain ⟨k, hk, rfl, hst⟩ := hrel
    by_cases hlt : k < n
    · obtain ⟨x, b, o, hx, rfl, hb, hc⟩ := hA.at_ (k := k) (by rw [← hN.out]; exact hlt)
      have hX := Lib.hid hx
      clear hx
      have c0 : World.cell? w ⟨b, o + k, none⟩ = some (.int .i64 x) := by have := hc 0 x rfl; simpa using this
      clear hc hA
      have hk0 : (0 : Int) ≤ (k : Int) := by omega
      have hk1 : (k : Int) < (n : Int) := by omega
      by_cases hv : x = v
      · have HV := Lib.hid hv
        go_wp2
        go_ret
        exact ⟨ret_bool (tb_t (hst.out.1 (by rw [drop_get hX.out, HV.out]; exact List.mem_cons_self))).symm, rfl⟩
      · have HV := Lib.hid hv
        go_wp2
        go_round
        case rel => exact ⟨k + 1, by omega, by go_num, Iff.trans (by rw [drop_get hX.out]; exact ⟨fun h => List.mem_cons_of_mem _ h, fun h => (List.mem_cons.1 h).resolve_left (Ne.symm HV.out)⟩) hst.out⟩
        case measure => simp [intOf]; omega
    · have hkn : k = n := by omega
      subst hkn
      go_wp2
      go_ret
      exact ⟨ret_bool (tb_f (fun h => by have := hst.out.2 h; rw [drop_all (by rw [← hN.out]; exact Nat.le_refl _)] at this; simp at this)).symm, rfl⟩

end Go.Proofs.YtadcjfbcfiljkaaDoor
