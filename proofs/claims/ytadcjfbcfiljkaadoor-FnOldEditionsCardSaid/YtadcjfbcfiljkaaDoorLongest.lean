/- The edition that was current for the most days: the program's LongestCurrent and the reference's. -/
import Derived.Test.YtadcjfbcfiljkaaDoorLst
import Derived.Test.YtadcjfbcfiljkaaDoorCur
namespace Go.Proofs.YtadcjfbcfiljkaaDoor
open Go.RowKit
set_option linter.unusedVariables false
set_option linter.unusedSimpArgs false

/-- the day from which it is no longer current, as the reference looks for it -/
def endL (sheet day : Int) : List Nest → Int
  | [] => day + 1
  | x :: r => if x.a = sheet ∧ x.c ≤ day then x.c else endL sheet day r
def spL (sheet day : Int) : List Nest → Int × Int → Int × Int
  | [], s => s
  | x :: r, s => spL sheet day r (if (x.a = sheet ∧ x.c ≤ day) ∧ s.2 < endL sheet day r - x.c then (x.b, endL sheet day r - x.c) else s)
/-- the last day on which it is current, as the program looks for it -/
def nxL (day : Int) : List Nest → Int
  | [] => day
  | f :: _ => min day (f.c - 1)
def lgL (day : Int) : List Nest → Int × Int → Int × Int
  | [], s => s
  | e :: r, s => lgL day r (if s.2 < nxL day r - e.c + 1 then (e.b, nxL day r - e.c + 1) else s)
def Mono (xs : List Nest) : Prop := xs.Pairwise fun x y => x.c ≤ y.c
theorem endL_le {sheet day : Int} : ∀ {r : List Nest}, (∀ x ∈ r, 0 ≤ x.c) → -1 ≤ day → 0 ≤ endL sheet day r ∧ endL sheet day r ≤ day + 1
  | [], _, h => by simp [endL]; omega
  | x :: r, h, hd => by
    have ih := endL_le (sheet := sheet) (day := day) (r := r) (fun y hy => h y (List.mem_cons_of_mem _ hy)) hd
    have h0 := h x List.mem_cons_self
    rw [endL]
    split <;> omega
theorem endL_nx (sheet day : Int) : ∀ (r : List Nest), Mono r → endL sheet day r = nxL day (ofS sheet r) + 1
  | [], _ => rfl
  | x :: r, hm => by
    obtain ⟨h1, h2⟩ := List.pairwise_cons.1 hm
    have ih := endL_nx sheet day r h2
    rw [endL]
    by_cases ha : x.a = sheet
    · have ho : ofS sheet (x :: r) = x :: ofS sheet r := by simp [ofS, ha]
      rw [ho, nxL]
      by_cases hc : x.c ≤ day
      · rw [if_pos ⟨ha, hc⟩]
        omega
      · rw [if_neg (fun h => hc h.2)]
        have hall : ∀ (l : List Nest), (∀ y ∈ l, x.c ≤ y.c) → endL sheet day l = day + 1 := fun l => by
          induction l with
          | nil => intro _; rfl
          | cons y l ihl =>
            intro hl
            have hy := hl y List.mem_cons_self
            rw [endL, if_neg (fun h => by have := h.2; omega)]
            exact ihl fun z hz => hl z (List.mem_cons_of_mem _ hz)
        rw [hall r h1]
        omega
    · have ho : ofS sheet (x :: r) = ofS sheet r := by simp [ofS, ha]
      rw [ho, if_neg (fun h => ha h.1)]
      exact ih
theorem nxL_le (day : Int) : ∀ (r : List Nest), nxL day r ≤ day
  | [] => Int.le_refl _
  | f :: _ => by rw [nxL]; omega
theorem sp_lg (sheet day : Int) : ∀ (xs : List Nest) (s : Int × Int), 0 ≤ s.2 → Mono xs → spL sheet day xs s = lgL day (ofS sheet xs) s
  | [], _, _, _ => rfl
  | x :: r, s, hs, hm => by
    obtain ⟨h1, h2⟩ := List.pairwise_cons.1 hm
    have hnx := endL_nx sheet day r h2
    have hle := nxL_le day (ofS sheet r)
    rw [spL]
    by_cases ha : x.a = sheet
    · have ho : ofS sheet (x :: r) = x :: ofS sheet r := by simp [ofS, ha]
      rw [ho, lgL]
      have hst : (if (x.a = sheet ∧ x.c ≤ day) ∧ s.2 < endL sheet day r - x.c then (x.b, endL sheet day r - x.c) else s) = if s.2 < nxL day (ofS sheet r) - x.c + 1 then (x.b, nxL day (ofS sheet r) - x.c + 1) else s := by
        by_cases hc : s.2 < nxL day (ofS sheet r) - x.c + 1
        · rw [if_pos hc, if_pos ⟨⟨ha, by omega⟩, by omega⟩, hnx]
          congr 1
          omega
        · rw [if_neg hc, if_neg (fun h => by have := h.2; omega)]
      rw [hst]
      refine sp_lg sheet day r _ ?_ h2
      split
      · show 0 ≤ nxL day (ofS sheet r) - x.c + 1
        omega
      · exact hs
    · have ho : ofS sheet (x :: r) = ofS sheet r := by simp [ofS, ha]
      rw [ho, if_neg (fun h => ha h.1.1)]
      exact sp_lg sheet day r s hs h2
theorem mono_of_steps : ∀ (xs : List Nest), (∀ (i : Nat) (x y : Nest), xs[i]? = some x → xs[i + 1]? = some y → x.c ≤ y.c) → Mono xs
  | [], _ => List.Pairwise.nil
  | x :: r, h => by
    have hr := mono_of_steps r fun i a b ha hb => h (i + 1) a b (by simpa using ha) (by simpa using hb)
    refine List.pairwise_cons.2 ⟨fun y hy => ?_, hr⟩
    match r, hr, h with
    | z :: l, hr, h =>
      have h0 := h 0 x z rfl rfl
      rcases List.mem_cons.1 hy with rfl | hy'
      · exact h0
      · have := (List.pairwise_cons.1 hr).1 y hy'
        omega
theorem Eds.mono {xs : List Nest} (h : Eds xs) : Mono xs := mono_of_steps xs fun i x y hx hy => (h.1 (i + 1) y hy).2.1 i x rfl hx
theorem Eds.days {xs : List Nest} (h : Eds xs) {x : Nest} (hx : x ∈ xs) : 0 ≤ x.c ∧ x.c ≤ 4000 := by
  obtain ⟨i, hi⟩ := List.mem_iff_getElem?.1 hx
  have := (h.1 i x hi).1
  unfold IsEd at this
  omega
def longS (xs : List Nest) (sheet day : Int) : Int × Int := lgL day (ofS sheet xs) (0, 0)

end Go.Proofs.YtadcjfbcfiljkaaDoor
