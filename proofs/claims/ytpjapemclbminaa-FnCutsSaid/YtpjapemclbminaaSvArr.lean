/- Arrays of integers compared: the laws' comparison of lists of them. No condition. -/
import Derived.Test.YtpjapemclbminaaTypes
import Derived.Test.YtpjapemclbminaaFamInt
import Derived.ChangeKeysEq
import Derived.Laws.StructEq
namespace Go.Proofs.Ytpjapemclbminaa
open Go.RowKit
set_option linter.unusedVariables false
set_option linter.unusedSimpArgs false

theorem neq_two (w : World) (a0 a1 : Int) : (binOp .neq 55 (.agg #[.int .i64 a0, .int .i64 a1]) (.agg #[.int .i64 a0, .int .i64 a1])).run Try.prog w = .ok (.bool false) w := by
  obtain ⟨i0, hi, _, _, _⟩ := info_parts infoInt
  have hc : Try.prog.cellsOf 3 = 1 := by kernel_rfl
  have pu : ∀ (q : Array Value) (j : Nat) (v : Value), q[j]? = some v → (part 3 q j).run Try.prog w = .ok v w := fun q j v h => by
    simp [part, isAgg, run_underlying Try.underlying3, h]
  rw [run_neq_struct, run_equalIn_array w 9999 _ _ Try.underlying55 hi, hc]
  rw [show List.range 2 = [0, 1] from rfl]
  simp only [Op.eqItems, Sem.run_bind, Nat.mul_one, pu #[.int .i64 a0, .int .i64 a1] 0 (.int .i64 a0) rfl, pu #[.int .i64 a0, .int .i64 a1] 1 (.int .i64 a1) rfl, Result.andThen_ok, run_equalIn_int w 9998 3 .i64 .i64 _ _ Try.underlying3, beq_self_eq_true, Bool.not_true, Bool.false_eq_true, if_false, Sem.run_pure, Sem.run_ite]
theorem neq_four (w : World) (a0 a1 a2 a3 : Int) : (binOp .neq 50 (.agg #[.int .i64 a0, .int .i64 a1, .int .i64 a2, .int .i64 a3]) (.agg #[.int .i64 a0, .int .i64 a1, .int .i64 a2, .int .i64 a3])).run Try.prog w = .ok (.bool false) w := by
  obtain ⟨i0, hi, _, _, _⟩ := info_parts infoInt
  have hc : Try.prog.cellsOf 3 = 1 := by kernel_rfl
  have pu : ∀ (q : Array Value) (j : Nat) (v : Value), q[j]? = some v → (part 3 q j).run Try.prog w = .ok v w := fun q j v h => by
    simp [part, isAgg, run_underlying Try.underlying3, h]
  rw [run_neq_struct, run_equalIn_array w 9999 _ _ Try.underlying50 hi, hc]
  rw [show List.range 4 = [0, 1, 2, 3] from rfl]
  simp only [Op.eqItems, Sem.run_bind, Nat.mul_one, pu #[.int .i64 a0, .int .i64 a1, .int .i64 a2, .int .i64 a3] 0 (.int .i64 a0) rfl, pu #[.int .i64 a0, .int .i64 a1, .int .i64 a2, .int .i64 a3] 1 (.int .i64 a1) rfl, pu #[.int .i64 a0, .int .i64 a1, .int .i64 a2, .int .i64 a3] 2 (.int .i64 a2) rfl, pu #[.int .i64 a0, .int .i64 a1, .int .i64 a2, .int .i64 a3] 3 (.int .i64 a3) rfl, Result.andThen_ok, run_equalIn_int w 9998 3 .i64 .i64 _ _ Try.underlying3, beq_self_eq_true, Bool.not_true, Bool.false_eq_true, if_false, Sem.run_pure, Sem.run_ite]
set_option maxHeartbeats 1000000 in
set_option maxRecDepth 100000 in
theorem vFours_same (A B : Option Addr) (c d : Nat) (xs : List Four) (w : World) (hn : xs.length ≤ 1152921504606846976) (hA : Fl Four.ints 4 w A xs) (hB : Fl Four.ints 4 w B xs) :
    Calls Try.prog 25 #[.slice A xs.length c, .slice B xs.length d] w fun e w' => e = .returned (.bool true) ∧ Below w.heap.size w w' := by
  obtain ⟨n, hnn⟩ : ∃ n, n = xs.length := ⟨_, rfl⟩
  rw [← hnn] at hn ⊢
  have hN := Lib.hid hnn
  clear hnn
  go_enter Try.func25, Try.ntmps25
  go_wp2
  go_loopw [5] (fun i wr => ∃ k : Nat, k ≤ n ∧ i = .int .i64 k ∧ Below w.heap.size w wr) (fun i _ => n - (intOf i).toNat)
  case atStart => exact ⟨0, by omega, rfl, Below.refl _ _⟩
  case round =>
    obtain ⟨k, hk, rfl, hbr⟩ := hrel
    by_cases hlt : k < n
    · obtain ⟨x, b, o, hx, rfl, hb, hc⟩ := ((hA.ext hbr).at_ (k := k) (by rw [← hN.out]; exact hlt))
      obtain ⟨y, b', o', hy, rfl, hb', hc'⟩ := ((hB.ext hbr).at_ (k := k) (by rw [← hN.out]; exact hlt))
      obtain rfl : x = y := by rw [hx] at hy; exact Option.some.inj hy
      clear hx hy
      have c0 : World.cell? wr ⟨b, o + k * 4, none⟩ = some (.int .i64 x.a) := hc 0 _ rfl
      have c1 : World.cell? wr ⟨b, o + k * 4 + 1, none⟩ = some (.int .i64 x.b) := hc 1 _ rfl
      have c2 : World.cell? wr ⟨b, o + k * 4 + 2, none⟩ = some (.int .i64 x.c) := hc 2 _ rfl
      have c3 : World.cell? wr ⟨b, o + k * 4 + 3, none⟩ = some (.int .i64 x.d) := hc 3 _ rfl
      have d0 : World.cell? wr ⟨b', o' + k * 4, none⟩ = some (.int .i64 x.a) := hc' 0 _ rfl
      have d1 : World.cell? wr ⟨b', o' + k * 4 + 1, none⟩ = some (.int .i64 x.b) := hc' 1 _ rfl
      have d2 : World.cell? wr ⟨b', o' + k * 4 + 2, none⟩ = some (.int .i64 x.c) := hc' 2 _ rfl
      have d3 : World.cell? wr ⟨b', o' + k * 4 + 3, none⟩ = some (.int .i64 x.d) := hc' 3 _ rfl
      clear hc hc' hA hB
      have hpc := plus_cell wr
      have hk0 : (0 : Int) ≤ (k : Int) := by omega
      have hk1 : (k : Int) < (n : Int) := by omega
      have hne := fun W => neq_four W x.a x.b x.c x.d
      go_wp2_with fail
      go_quiet (fail)
      go_wp2
      go_roundw
      case rel => exact ⟨k + 1, by omega, by go_num, by (repeat refine below_drewN ?_ _); exact hbr⟩
      case measure => simp [intOf]; omega
    · have hkn : k = n := by omega
      subst hkn
      go_wp2
      go_ret
      exact ⟨rfl, hbr⟩
set_option maxHeartbeats 1000000 in
set_option maxRecDepth 100000 in
theorem vPairs_same (A B : Option Addr) (c d : Nat) (xs : List Two) (w : World) (hn : xs.length ≤ 1152921504606846976) (hA : Fl Two.ints 2 w A xs) (hB : Fl Two.ints 2 w B xs) :
    Calls Try.prog 31 #[.slice A xs.length c, .slice B xs.length d] w fun e w' => e = .returned (.bool true) ∧ Below w.heap.size w w' := by
  obtain ⟨n, hnn⟩ : ∃ n, n = xs.length := ⟨_, rfl⟩
  rw [← hnn] at hn ⊢
  have hN := Lib.hid hnn
  clear hnn
  go_enter Try.func31, Try.ntmps31
  go_wp2
  go_loopw [5] (fun i wr => ∃ k : Nat, k ≤ n ∧ i = .int .i64 k ∧ Below w.heap.size w wr) (fun i _ => n - (intOf i).toNat)
  case atStart => exact ⟨0, by omega, rfl, Below.refl _ _⟩
  case round =>
    obtain ⟨k, hk, rfl, hbr⟩ := hrel
    by_cases hlt : k < n
    · obtain ⟨x, b, o, hx, rfl, hb, hc⟩ := ((hA.ext hbr).at_ (k := k) (by rw [← hN.out]; exact hlt))
      obtain ⟨y, b', o', hy, rfl, hb', hc'⟩ := ((hB.ext hbr).at_ (k := k) (by rw [← hN.out]; exact hlt))
      obtain rfl : x = y := by rw [hx] at hy; exact Option.some.inj hy
      clear hx hy
      have c0 : World.cell? wr ⟨b, o + k * 2, none⟩ = some (.int .i64 x.a) := hc 0 _ rfl
      have c1 : World.cell? wr ⟨b, o + k * 2 + 1, none⟩ = some (.int .i64 x.b) := hc 1 _ rfl
      have d0 : World.cell? wr ⟨b', o' + k * 2, none⟩ = some (.int .i64 x.a) := hc' 0 _ rfl
      have d1 : World.cell? wr ⟨b', o' + k * 2 + 1, none⟩ = some (.int .i64 x.b) := hc' 1 _ rfl
      clear hc hc' hA hB
      have hpc := plus_cell wr
      have hk0 : (0 : Int) ≤ (k : Int) := by omega
      have hk1 : (k : Int) < (n : Int) := by omega
      have hne := fun W => neq_two W x.a x.b
      go_wp2_with fail
      go_quiet (fail)
      go_wp2
      go_roundw
      case rel => exact ⟨k + 1, by omega, by go_num, by (repeat refine below_drewN ?_ _); exact hbr⟩
      case measure => simp [intOf]; omega
    · have hkn : k = n := by omega
      subst hkn
      go_wp2
      go_ret
      exact ⟨rfl, hbr⟩
end Go.Proofs.Ytpjapemclbminaa
