/- The fine for the last loan of a sheet: FineOn on both sides. No condition. -/
import Derived.Test.YtnikeelpcokffaaDoorLoF
import Derived.Test.YtnikeelpcokffaaDoorLoanI
import Derived.Test.YtnikeelpcokffaaDoorLoanS
import Derived.Test.YtnikeelpcokffaaDoorWithin
namespace Go.Proofs.YtnikeelpcokffaaDoor
open Go.RowKit
set_option linter.unusedVariables false
set_option linter.unusedSimpArgs false

/-- the last loan of a sheet -/
def lastS (s : Int) (xs : List Loan) : Option Loan := (xs.filter fun x => decide (x.sheet = s)).getLast?
def fineL (s day : Int) (xs : List Loan) : Int := match lastS s xs with
  | some x => fineV day x
  | none => 0
theorem lastS_at {xs : List Loan} {s : Int} {j : Nat} {x : Loan} (hx : xs[j]? = some x) (hs : x.sheet = s) (hno : ∀ (m : Nat) (y : Loan), j < m → xs[m]? = some y → y.sheet ≠ s) : lastS s xs = some x := by
  have hsp : xs = xs.take j ++ x :: xs.drop (j + 1) := by rw [← drop_get hx, List.take_append_drop]
  have hnil : (xs.drop (j + 1)).filter (fun x => decide (x.sheet = s)) = [] := List.filter_eq_nil_iff.2 (fun y hy => by
    obtain ⟨m, hm⟩ := List.getElem?_of_mem hy
    rw [List.getElem?_drop] at hm
    simpa using hno _ y (by omega) hm)
  unfold lastS
  conv => lhs; rw [hsp]
  rw [List.filter_append, List.filter_cons_of_pos (by simpa using hs), hnil]
  simp
def FnOk (xs : List Loan) (s day : Int) : Prop := Lns xs ∧ (0 ≤ day ∧ day ≤ 4000) ∧ ∃ x ∈ xs, x.sheet = s
def FgOk (xs : List Loan) (s day : Int) : Prop := Lns xs ∧ (1 ≤ s ∧ s ≤ 999) ∧ (0 ≤ day ∧ day ≤ 4000)
theorem FnOk.g {xs : List Loan} {s day : Int} (h : FnOk xs s day) : FgOk xs s day := by
  obtain ⟨h1, h2, x, hx, rfl⟩ := h
  obtain ⟨i, hi⟩ := List.getElem?_of_mem hx
  exact ⟨h1, (h1.1 i x hi).1.1, h2⟩
/-- the place of the last loan of a sheet, or -1 -/
def LastIx (s : Int) (xs : List Loan) (r : Int) : Prop := (r = -1 ∧ ∀ x ∈ xs, x.sheet ≠ s) ∨ ∃ (j : Nat) (x : Loan), r = (j : Int) ∧ xs[j]? = some x ∧ x.sheet = s ∧ ∀ (m : Nat) (y : Loan), j < m → xs[m]? = some y → y.sheet ≠ s
set_option maxHeartbeats 1000000 in
set_option maxRecDepth 100000 in
theorem fineOn_any (A : Option Addr) (c : Nat) (xs : List Loan) (s day : Int) (w : World) (hn : xs.length ≤ 1048576) (hcap : xs.length ≤ c) (hcm : c ≤ 9223372036854775807) (hA : Fl Loan.ints 5 w A xs) :
    Calls Tryd.prog 14 #[.slice A xs.length c, .int .i64 s, .int .i64 day] w (fun e w' => e = .returned (.tuple #[.int .i64 (seli (FnOk xs s day) (fineL s day xs)), .bool (tb (FnOk xs s day))]) ∧ Below w.heap.size w w') := by
  have hare := areLoans_any A c xs w hn hcap hcm hA
  obtain ⟨n, hnn⟩ : ∃ n, n = List.length xs := ⟨_, rfl⟩
  rw [← hnn] at hare hn hcap ⊢
  have hN := Lib.hid hnn
  have HA := Lib.hid hare
  clear hare hnn
  go_enter Tryd.func14, Tryd.ntmps14
  go_wp2_with fail
  refine (HA.out).mono ?_
  rintro e w1 ⟨rfl, hb1⟩
  by_cases h1 : Lns xs
  · rw [tb_t h1]
    have H1 := Lib.hid h1
    clear h1
    by_cases h2 : 1 ≤ s ∧ s ≤ 999
    · go_wp2_with fail
      refine (isId_t s _ h2).mono ?_
      rintro e w9 ⟨rfl, rfl⟩
      by_cases h3 : 0 ≤ day ∧ day ≤ 4000
      · go_wp2_with fail
        refine (isDay_t day _ h3).mono ?_
        rintro e w9 ⟨rfl, rfl⟩
        have HO : Hid (FgOk xs s day) := ⟨H1.out, h2, h3⟩
        have hwn : IntKind.i64.wrap ((n : Int) - 1) = (n : Int) - 1 := IntWalk.i64_in _ (by omega)
        go_wp2
        go_loopw [8] (fun i wr => ∃ z : Int, i = .int .i64 z ∧ -1 ≤ z ∧ z < (n : Int) ∧ Below w.heap.size w wr ∧ Hid (∀ (m : Nat) (x : Loan), z < (m : Int) → xs[m]? = some x → x.sheet ≠ s)) (fun i _ => (intOf i + 1).toNat)
        case atStart => exact ⟨(n : Int) - 1, rfl, by omega, by omega, hb1, fun m x h hx => by have h1 := lt_of_get hx; rw [← hN.out] at h1; omega⟩
        case round =>
          obtain ⟨z, rfl, hz1, hzn, hbr, hno⟩ := hrel
          by_cases hz : 0 ≤ z
          · obtain ⟨k, rfl⟩ : ∃ k : Nat, z = k := ⟨z.toNat, by omega⟩
            obtain ⟨x, b, o, hx, hAe, hb, hc⟩ := (hA.ext hbr).at_ (k := k) (by rw [← hN.out]; omega)
            subst hAe
            have c0 : World.cell? wr ⟨b, o + k * 5, none⟩ = some (.int .i64 x.sheet) := hc 0 _ rfl
            have c1 : World.cell? wr ⟨b, o + k * 5 + 1, none⟩ = some (.int .i64 x.reader) := hc 1 _ rfl
            have c2 : World.cell? wr ⟨b, o + k * 5 + 2, none⟩ = some (.int .i64 x.out) := hc 2 _ rfl
            have c3 : World.cell? wr ⟨b, o + k * 5 + 3, none⟩ = some (.int .i64 x.due) := hc 3 _ rfl
            have c4 : World.cell? wr ⟨b, o + k * 5 + 4, none⟩ = some (.int .i64 x.back) := hc 4 _ rfl
            have hlo := (HO.out.1.1 k x hx).1
            have HX := Lib.hid hx
            have HFV := Lib.hid (fine_any x day wr hlo HO.out.2.2)
            have hwk : IntKind.i64.wrap ((k : Int) - 1) = (k : Int) - 1 := IntWalk.i64_in _ (by omega)
            clear hc hx hlo
            by_cases hs : x.sheet = s
            · have es : (x.sheet == s) = true := by simp [hs]
              have HS := Lib.hid hs
              have hok2 : FnOk xs s day := ⟨HO.out.1, HO.out.2.2, x, List.mem_of_getElem? HX.out, hs⟩
              have HK := Lib.hid hok2
              have HL := Lib.hid (show fineL s day xs = fineV day x from by unfold fineL; rw [lastS_at HX.out hs (fun m y hm hy => hno.out m y (by omega) hy)])
              clear hs hok2
              go_wp2_with fail
              ((with_reducible refine (HFV.out).mono ?_); rintro e w5 ⟨rfl, hb5⟩)
              go_wp2
              go_ret2
              exact ⟨by rw [seli_t HK.out, tb_t HK.out, HL.out]; rfl, ext_trans hbr hb5⟩
            · have es : (x.sheet == s) = false := by simp [hs]
              have HS := Lib.hid hs
              clear hs
              go_wp2
              go_roundw
              case rel => exact ⟨(k : Int) - 1, rfl, by omega, by omega, hbr, fun m y hm hy => by
                by_cases e' : m = k
                · subst e'; rw [HX.out] at hy; cases hy; exact HS.out
                · exact hno.out m y (by omega) hy⟩
              case measure => simp [intOf] <;> omega
          · have hok2 : ¬ FnOk xs s day := fun h => by
              obtain ⟨_, _, x, hx, hs⟩ := h
              obtain ⟨m, hm⟩ := List.getElem?_of_mem hx
              exact hno.out m x (by omega) hm hs
            have HK := Lib.hid hok2
            clear hok2
            go_wp2
            go_ret2
            exact ⟨ret_ib (seli_f HK.out).symm (tb_f HK.out).symm, hbr⟩
      · go_wp2_with fail
        refine (isDay_f day _ h3).mono ?_
        rintro e w9 ⟨rfl, rfl⟩
        go_wp2
        go_ret2
        have hok : ¬ (FgOk xs s day) := fun h => h3 h.2.2
        have hok2 : ¬ FnOk xs s day := fun h => hok h.g
        exact ⟨ret_ib (seli_f hok2).symm (tb_f hok2).symm, hb1⟩
    · go_wp2_with fail
      refine (isId_f s _ h2).mono ?_
      rintro e w9 ⟨rfl, rfl⟩
      go_wp2
      go_ret2
      have hok : ¬ (FgOk xs s day) := fun h => h2 h.2.1
      have hok2 : ¬ FnOk xs s day := fun h => hok h.g
      exact ⟨ret_ib (seli_f hok2).symm (tb_f hok2).symm, hb1⟩
  · rw [tb_f h1]
    have H1 := Lib.hid h1
    clear h1
    go_wp2
    go_ret2
    have hok : ¬ (FgOk xs s day) := fun h => H1.out h.1
    have hok2 : ¬ FnOk xs s day := fun h => hok h.g
    exact ⟨ret_ib (seli_f hok2).symm (tb_f hok2).symm, hb1⟩

end Go.Proofs.YtnikeelpcokffaaDoor
