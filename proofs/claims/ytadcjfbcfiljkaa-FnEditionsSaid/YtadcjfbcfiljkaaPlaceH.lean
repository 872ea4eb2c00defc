/- In which editions of a sheet a place was changed: PlaceHistory on both sides. -/
import Derived.Test.YtadcjfbcfiljkaaHist
namespace Go.Proofs.Ytadcjfbcfiljkaa
open Go.RowKit
set_option linter.unusedVariables false
set_option linter.unusedSimpArgs false

def PhOk (xs : List Nest) (sheet place : Int) : Prop := Eds xs ∧ (1 ≤ sheet ∧ sheet ≤ 999) ∧ (0 ≤ place ∧ place ≤ 999)
set_option maxHeartbeats 1000000 in
set_option maxRecDepth 100000 in
theorem placeHistory_any (A : Option Addr) (c : Nat) (xs : List Nest) (sheet place : Int) (w : World) (hn : wt xs ≤ 1048576) (hcap : xs.length ≤ c) (hcm : c ≤ 9223372036854775807) (hA : Nl w A xs) :
    Calls Try.prog 13 #[.slice A xs.length c, .int .i64 sheet, .int .i64 place] w (RetL one 1 w (sel (PhOk xs sheet place) (hist place (ofS sheet xs))) (tb (PhOk xs sheet place))) := by
  have hare := areEditions_any A c xs w hn hcap hcm hA
  have hhi := fun W hW => history_any A c xs sheet place W hn hW
  generalize hist place (ofS sheet xs) = ys at hhi ⊢
  generalize xs.length = n at hare hhi hcap ⊢
  have HA := Lib.hid hare
  have HH := Lib.hid hhi
  clear hare hhi
  go_enter Try.func13, Try.ntmps13
  go_wp2_with fail
  refine (HA.out).mono ?_
  rintro e w1 ⟨rfl, hb1⟩
  by_cases h1 : Eds xs
  · rw [tb_t h1]
    have H1 := Lib.hid h1
    clear h1
    by_cases h2 : 1 ≤ sheet ∧ sheet ≤ 999
    · go_wp2_with fail
      refine (isId_t sheet _ h2).mono ?_
      rintro e w9 ⟨rfl, rfl⟩
      by_cases h3 : 0 ≤ place ∧ place ≤ 999
      · go_wp2_with fail
        refine (isPlaceOf_t place _ h3).mono ?_
        rintro e w9 ⟨rfl, rfl⟩
        have HO : Hid (PhOk xs sheet place) := ⟨H1.out, h2, h3⟩
        go_wp2_with fail
        refine (HH.out _ (hA.ext hb1)).mono ?_
        rintro e w3 ⟨B, d, rfl, hF, hb3⟩
        go_wp2
        go_ret2
        rw [sel_t HO.out, tb_t HO.out]
        exact ⟨B, d, rfl, hF.mono (hb1).size (Nat.le_refl _), ext_trans hb1 hb3⟩
      · go_wp2_with fail
        refine (isPlaceOf_f place _ h3).mono ?_
        rintro e w9 ⟨rfl, rfl⟩
        go_wp2
        go_ret2
        have hok : ¬ (PhOk xs sheet place) := fun h => h3 h.2.2
        rw [sel_f hok, tb_f hok]
        exact ⟨none, 0, rfl, FlO.nil, hb1⟩
    · go_wp2_with fail
      refine (isId_f sheet _ h2).mono ?_
      rintro e w9 ⟨rfl, rfl⟩
      go_wp2
      go_ret2
      have hok : ¬ (PhOk xs sheet place) := fun h => h2 h.2.1
      rw [sel_f hok, tb_f hok]
      exact ⟨none, 0, rfl, FlO.nil, hb1⟩
  · rw [tb_f h1]
    have H1 := Lib.hid h1
    clear h1
    go_wp2
    go_ret2
    have hok : ¬ (PhOk xs sheet place) := fun h => H1.out h.1
    rw [sel_f hok, tb_f hok]
    exact ⟨none, 0, rfl, FlO.nil, hb1⟩

end Go.Proofs.Ytadcjfbcfiljkaa
