/- Whether a number is in a list. No condition. -/
import Derived.Test.YtnikeelpcokffaaDoorFamInt
namespace Go.Proofs.YtnikeelpcokffaaDoor
open Go.RowKit
set_option linter.unusedVariables false
set_option linter.unusedSimpArgs false

set_option maxHeartbeats 1000000 in
set_option maxRecDepth 100000 in
theorem hasI_any (A : Option Addr) (c : Nat) (xs : List Int) (v : Int) (w : World) (hn : xs.length ≤ 1152921504606846976) (hA : Fl one 1 w A xs) :
    Calls Tryd.prog 15 #[.slice A xs.length c, .int .i64 v] w fun e w' => e = .returned (.bool (tb (v ∈ xs))) ∧ Below w.heap.size w w' := by
  obtain ⟨n, hnn⟩ : ∃ n, n = xs.length := ⟨_, rfl⟩
  rw [← hnn] at hn ⊢
  have hN := Lib.hid hnn
  clear hnn
  go_enter Tryd.func15, Tryd.ntmps15
  go_wp2
  go_loopw [5] (fun i wr => ∃ k : Nat, k ≤ n ∧ i = .int .i64 k ∧ Below w.heap.size w wr ∧ Hid (v ∉ xs.take k)) (fun i _ => n - (intOf i).toNat)
  case atStart => exact ⟨0, by omega, rfl, Below.refl _ _, by unfold Hid; simp⟩
  case round =>
    obtain ⟨k, hk, rfl, hbr, hall⟩ := hrel
    by_cases hlt : k < n
    · obtain ⟨x, b, o, hx, rfl, hb, hc⟩ := ((hA.ext hbr).at_ (k := k) (by rw [← hN.out]; exact hlt))
      have hX := Lib.hid hx
      clear hx
      have c0 : World.cell? wr ⟨b, o + k, none⟩ = some (.int .i64 x) := by simpa using hc 0 _ rfl
      clear hc hA
      have hk0 : (0 : Int) ≤ (k : Int) := by omega
      have hk1 : (k : Int) < (n : Int) := by omega
      by_cases hxy : x = v
      · have hxe : (x == v) = true := by simp [hxy]
        have hXY := Lib.hid hxy
        clear hxy
        go_wp2
        go_ret
        refine ⟨ret_bool (tb_t ?_).symm, hbr⟩
        rw [← hXY.out]
        exact List.mem_of_getElem? hX.out
      · have hne : (x == v) = false := by simpa using hxy
        have hXY := Lib.hid hxy
        clear hxy
        go_wp2
        go_roundw
        case rel => exact ⟨k + 1, by omega, by go_num, hbr, by
          unfold Hid
          rw [take_get hX.out, List.mem_append]
          rintro (h | h)
          · exact hall.out h
          · exact hXY.out (List.mem_singleton.1 h).symm⟩
        case measure => simp [intOf]; omega
    · have hkn : k = n := by omega
      subst hkn
      go_wp2
      go_ret
      refine ⟨ret_bool (tb_f ?_).symm, hbr⟩
      have h1 := hall.out
      rwa [take_all (by rw [← hN.out]; exact Nat.le_refl _)] at h1
end Go.Proofs.YtnikeelpcokffaaDoor
