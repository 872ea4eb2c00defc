/- AreErrata: the reference's side; a bound. No condition. -/
import Derived.Test.YtdicopjoffdnnaaErrataOk
import Derived.Test.YtdicopjoffdnnaaPutD
namespace Go.Proofs.Ytdicopjoffdnnaa
open Go.RowKit
set_option linter.unusedVariables false
set_option linter.unusedSimpArgs false

set_option maxHeartbeats 400000 in
theorem specAreErrata_any (A : Option Addr) (c : Nat) (xs : List Erratum) (w : World) (hn : xs.length ≤ 1152921504606846976) (hA : Fl Erratum.ints 5 w A xs) :
    Calls Try.prog 18 #[.slice A xs.length c] w fun e w' => e = .returned (.bool (tb (Errs xs))) ∧ Below w.heap.size w w' := by
  go_enter Try.func18, Try.ntmps18
  go_wp2_with fail
  refine (l19Errata_any A c xs w hn hA).mono ?_
  rintro e w3 ⟨rfl, hb3⟩
  go_wp2
  go_ret
  exact ⟨rfl, hb3⟩
theorem cnt_bd (xs : List Erratum) (day : Int) (hs : List Nest) : ∀ k, cntTo xs day hs k ≤ k * xs.length
  | 0 => by simp [cntTo]
  | k + 1 => by
    have ih := cnt_bd xs day hs k
    rcases hx : hs[k]? with _ | x
    · have e : hs.take (k + 1) = hs.take k := by rw [List.take_add_one, hx]; simp
      unfold cntTo at *
      rw [e, Nat.succ_mul]
      omega
    · have h1 := cntTo_step (xs := xs) (day := day) hx
      have h2 := miss_len x day xs
      rw [h1, Nat.succ_mul]
      omega
end Go.Proofs.Ytdicopjoffdnnaa
