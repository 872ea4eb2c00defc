/- The text of a number: the reference's. No condition. -/
import Derived.Test.YtlagfeccdcjimaaDoorProg
import Derived.Test.YtlagfeccdcjimaaDoorBase
import Derived.Test.YtlagfeccdcjimaaDoorBase2
import Derived.Lib.ItoaNum
import Derived.Lib.Hide
namespace Go.Proofs.YtlagfeccdcjimaaDoor
open Go.RowKit
set_option linter.unusedVariables false
set_option linter.unusedSimpArgs false

def dig (n : Nat) : ByteArray := ⟨(Lib.decDigits n).toArray⟩
theorem dig_small {n : Nat} (h : n < 10) : dig n = ⟨#[UInt8.ofNat (48 + n)]⟩ := by
  unfold dig
  rw [Lib.decDigits, dif_pos h]
theorem dig_step {n : Nat} (h : ¬ n < 10) : dig n = dig (n / 10) ++ ⟨#[UInt8.ofNat (48 + n % 10)]⟩ := by
  unfold dig
  rw [Lib.decDigits, dif_neg h]
  apply ByteArray.ext
  simp
theorem dig_size (n : Nat) : (dig n).size ≤ n + 1 := by
  induction n using Nat.strongRecOn with
  | _ n ih =>
    by_cases h : n < 10
    · rw [dig_small h]; exact Nat.succ_le_succ (Nat.zero_le _)
    · rw [dig_step h, ByteArray.size_append]
      have h1 := ih (n / 10) (by omega)
      have h2 : ByteArray.size ⟨#[UInt8.ofNat (48 + n % 10)]⟩ = 1 := rfl
      omega
theorem one_digit : ∀ n : Nat, n < 10 → (ByteArray.mk #[48, 49, 50, 51, 52, 53, 54, 55, 56, 57]).extract n (n + 1) = ⟨#[UInt8.ofNat (48 + n)]⟩ := by
  intro n hn
  match n, hn with
  | 0, _ => rfl
  | 1, _ => rfl
  | 2, _ => rfl
  | 3, _ => rfl
  | 4, _ => rfl
  | 5, _ => rfl
  | 6, _ => rfl
  | 7, _ => rfl
  | 8, _ => rfl
  | 9, _ => rfl
set_option maxHeartbeats 4000000 in
set_option maxRecDepth 100000 in
theorem l1Num_any : ∀ (n : Nat) (w : World), n ≤ 1048576 → Calls Tryd.prog 60 #[.int .i64 (n : Int)] w fun e w' => e = .returned (.string (dig n)) ∧ Below w.heap.size w w' := by
  intro n
  induction n using Nat.strongRecOn with
  | _ n ih =>
    intro w hn
    have h0 : (0 : Int) ≤ (n : Int) := by omega
    have h0' : ¬ (n : Int) < 0 := by omega
    by_cases h : n < 10
    · have h1 : (n : Int) < 10 := by omega
      have hd := Lib.hid (one_digit n h)
      have hs := Lib.hid (dig_small h)
      clear ih
      go_enter Tryd.func60, Tryd.ntmps60
      go_wp2
      refine bodyPost_ret (v := .string (dig n)) (by rw [hs.out, ← hd.out]; simp [results, Tryd.results60, go_sem]) rfl ⟨rfl, Below.refl _ _⟩
    · have h1 : ¬ (n : Int) < 10 := by omega
      obtain ⟨q, hq⟩ : ∃ q, q = n / 10 := ⟨_, rfl⟩
      obtain ⟨r, hr⟩ : ∃ r, r = n % 10 := ⟨_, rfl⟩
      have hr9 : r < 10 := by omega
      have hnq : n = 10 * q + r := by omega
      have hih := fun w => ih q (by omega) w (by omega)
      have hd := one_digit r hr9
      have hq1 := dig_size q
      have hq2 : q ≤ 104857 := by omega
      have hs := dig_step h
      rw [← hq, ← hr] at hs
      have HS := Lib.hid hs
      have HI := Lib.hid hih
      clear ih hih hs
      have hdv : ((n : Int)).tdiv 10 = (q : Int) := by rw [Int.tdiv_eq_ediv_of_nonneg h0]; omega
      have hmd : ((n : Int)).tmod 10 = (r : Int) := by rw [Int.tmod_eq_emod_of_nonneg h0]; omega
      have hdv2 : (n : Int) / 10 = (q : Int) := by omega
      have hmd2 : (n : Int) % 10 = (r : Int) := by omega
      have hr0 : (0 : Int) ≤ (r : Int) := by omega
      have hr10 : (r : Int) < 10 := by omega
      clear hq hr hnq
      go_enter Tryd.func60, Tryd.ntmps60
      go_wp2_with fail
      refine wp_region_grow (by kernel_rfl) (by kernel_rfl) ?_
      repeat (go_big_quiet_step ((first | (go_at_call 60; with_reducible exact quiet_below (HI.out _)))))
      refine wpQuiet_nil ?_
      intro w1 hb1
      go_wp2
      refine bodyPost_ret (v := .string (dig n)) (by rw [HS.out]; simp [results, Tryd.results60, go_sem]) rfl ⟨rfl, hb1⟩
end Go.Proofs.YtlagfeccdcjimaaDoor
