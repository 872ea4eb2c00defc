/- Who has a sheet: WhoHas on both sides. No condition. -/
import Derived.Test.YtnikeelpcokffaaDoorLoF
import Derived.Test.YtnikeelpcokffaaDoorLoanI
import Derived.Test.YtnikeelpcokffaaDoorLoanS
import Derived.Test.YtnikeelpcokffaaDoorWithin
namespace Go.Proofs.YtnikeelpcokffaaDoor
open Go.RowKit
set_option linter.unusedVariables false
set_option linter.unusedSimpArgs false

/-- the reader of the first loan of a sheet that is open on a day, or 0 -/
def Mw (s day : Int) (x : Loan) : Prop := x.sheet = s ∧ OpenL day x
noncomputable def whoL (s day : Int) : List Loan → Int
  | [] => 0
  | x :: r => @ite _ (Mw s day x) (Classical.propDecidable _) x.reader (whoL s day r)
theorem whoL_t {s day : Int} {x : Loan} {r : List Loan} (h : Mw s day x) : whoL s day (x :: r) = x.reader := by unfold whoL; exact if_pos h
theorem whoL_f {s day : Int} {x : Loan} {r : List Loan} (h : ¬ Mw s day x) : whoL s day (x :: r) = whoL s day r := by rw [whoL]; exact if_neg h
noncomputable def whoF (s day : Int) (a : Int) (x : Loan) : Int := @ite _ (Mw s day x) (Classical.propDecidable _) x.reader a
theorem whoF_t {s day a : Int} {x : Loan} (h : Mw s day x) : whoF s day a x = x.reader := if_pos h
theorem whoF_f {s day a : Int} {x : Loan} (h : ¬ Mw s day x) : whoF s day a x = a := if_neg h
theorem whoF_none {s day : Int} : ∀ (r : List Loan) (a : Int), (∀ x ∈ r, ¬ Mw s day x) → r.foldl (whoF s day) a = a
  | [], _, _ => rfl
  | x :: r, a, h => by rw [List.foldl_cons, whoF_f (h x List.mem_cons_self), whoF_none r a fun y hy => h y (List.mem_cons_of_mem _ hy)]
theorem who_fold {s day : Int} : ∀ (xs : List Loan), xs.Pairwise (fun p x => ¬ (Mw s day p ∧ Mw s day x)) → xs.foldl (whoF s day) 0 = whoL s day xs
  | [], _ => rfl
  | x :: r, h => by
    obtain ⟨h1, h2⟩ := List.pairwise_cons.1 h
    rw [List.foldl_cons]
    by_cases q : Mw s day x
    · rw [whoF_t q, whoL_t q, whoF_none r _ fun y hy hm => h1 y hy ⟨q, hm⟩]
    · rw [whoF_f q, whoL_f q, who_fold r h2]
theorem who_one {xs : List Loan} (h : Lns xs) (s day : Int) : xs.Pairwise fun p x => ¬ (Mw s day p ∧ Mw s day x) := by
  rw [List.pairwise_iff_getElem]
  intro i j hi hj hij hm
  have h1 := (h.1 j _ (List.getElem?_eq_getElem hj)).2.2 i _ hij (List.getElem?_eq_getElem hi)
  have h2 := (h.1 i _ (List.getElem?_eq_getElem hi)).1
  obtain ⟨⟨e1, o1⟩, ⟨e2, o2⟩⟩ := hm
  apply h1
  unfold IsLo at h2
  unfold OpenL at o1 o2
  refine ⟨e1.trans e2.symm, ?_⟩
  omega
theorem whoL_drop {s day : Int} : ∀ (xs : List Loan) (k : Nat), (∀ (m : Nat) (x : Loan), m < k → xs[m]? = some x → ¬ Mw s day x) → whoL s day xs = whoL s day (xs.drop k)
  | xs, 0, _ => rfl
  | [], k + 1, _ => by simp
  | x :: r, k + 1, h => by
    rw [whoL_f (h 0 x (by omega) rfl), List.drop_succ_cons]
    exact whoL_drop r k fun m y hm hy => h (m + 1) y (by omega) (by simpa using hy)
def WhOk (xs : List Loan) (s day : Int) : Prop := Lns xs ∧ (1 ≤ s ∧ s ≤ 999) ∧ (0 ≤ day ∧ day ≤ 4000)
set_option maxHeartbeats 1000000 in
set_option maxRecDepth 100000 in
theorem whoHas_any (A : Option Addr) (c : Nat) (xs : List Loan) (s day : Int) (w : World) (hn : xs.length ≤ 1048576) (hcap : xs.length ≤ c) (hcm : c ≤ 9223372036854775807) (hA : Fl Loan.ints 5 w A xs) :
    Calls Tryd.prog 9 #[.slice A xs.length c, .int .i64 s, .int .i64 day] w (fun e w' => e = .returned (.tuple #[.int .i64 (seli (WhOk xs s day) (whoL s day xs)), .bool (tb (WhOk xs s day))]) ∧ Below w.heap.size w w') := by
  have hare := areLoans_any A c xs w hn hcap hcm hA
  obtain ⟨n, hnn⟩ : ∃ n, n = List.length xs := ⟨_, rfl⟩
  rw [← hnn] at hare hn hcap ⊢
  have hN := Lib.hid hnn
  have HA := Lib.hid hare
  clear hare hnn
  go_enter Tryd.func9, Tryd.ntmps9
  go_wp2_with fail
  refine (HA.out).mono ?_
  rintro e w1 ⟨rfl, hb1⟩
  by_cases h1 : Lns xs
  · rw [tb_t h1]
    have H1 := Lib.hid h1
    clear h1
    by_cases h2 : 1 ≤ s ∧ s ≤ 999
    · go_wp2_with fail
      refine (isId_t s _ h2).mono ?_
      rintro e w9 ⟨rfl, rfl⟩
      by_cases h3 : 0 ≤ day ∧ day ≤ 4000
      · go_wp2_with fail
        refine (isDay_t day _ h3).mono ?_
        rintro e w9 ⟨rfl, rfl⟩
        have HO : Hid (WhOk xs s day) := ⟨H1.out, h2, h3⟩
        go_wp2
        go_loopw [9, 25] (fun _ i wr => ∃ k : Nat, k ≤ n ∧ i = .int .i64 (k : Int) ∧ Below w.heap.size w wr ∧ Hid (∀ (m : Nat) (x : Loan), m < k → xs[m]? = some x → ¬ Mw s day x)) (fun _ i _ => n - (intOf i).toNat)
        case atStart => exact ⟨0, by omega, rfl, hb1, fun m x h => by omega⟩
        case round =>
          obtain ⟨k, hk, rfl, hbr, hno⟩ := hrel
          by_cases hlt : k < n
          · obtain ⟨x, b, o, hx, hAe, hb, hc⟩ := (hA.ext hbr).at_ (k := k) (by rw [← hN.out]; exact hlt)
            subst hAe
            have c0 : World.cell? wr ⟨b, o + k * 5, none⟩ = some (.int .i64 x.sheet) := hc 0 _ rfl
            have c1 : World.cell? wr ⟨b, o + k * 5 + 1, none⟩ = some (.int .i64 x.reader) := hc 1 _ rfl
            have c2 : World.cell? wr ⟨b, o + k * 5 + 2, none⟩ = some (.int .i64 x.out) := hc 2 _ rfl
            have c3 : World.cell? wr ⟨b, o + k * 5 + 3, none⟩ = some (.int .i64 x.due) := hc 3 _ rfl
            have c4 : World.cell? wr ⟨b, o + k * 5 + 4, none⟩ = some (.int .i64 x.back) := hc 4 _ rfl
            obtain ⟨W0, hW0, hB0, hz0', hg, _⟩ := box_world wr #[Value.int .i64 x.sheet, .int .i64 x.reader, .int .i64 x.out, .int .i64 x.due, .int .i64 x.back] 43
            have g0 : World.cell? W0 ⟨wr.heap.size, 0, none⟩ = some (.int .i64 x.sheet) := hg 0
            have g1 : World.cell? W0 ⟨wr.heap.size, 1, none⟩ = some (.int .i64 x.reader) := hg 1
            have g2 : World.cell? W0 ⟨wr.heap.size, 2, none⟩ = some (.int .i64 x.out) := hg 2
            have g3 : World.cell? W0 ⟨wr.heap.size, 3, none⟩ = some (.int .i64 x.due) := hg 3
            have g4 : World.cell? W0 ⟨wr.heap.size, 4, none⟩ = some (.int .i64 x.back) := hg 4
            have hbW := ext_trans hbr hB0
            have hlo := (HO.out.1.1 k x hx).1
            have HX := Lib.hid hx
            have HOP := Lib.hid (isOpen_any x day W0 hlo)
            clear hc hg hx hlo
            have hk0 : (0 : Int) ≤ (k : Int) := by omega
            have hk1 : (k : Int) < (n : Int) := by omega
            by_cases hs : x.sheet = s
            · have es : (x.sheet == s) = true := by simp [hs]
              have HS := Lib.hid hs
              clear hs
              go_wp2_with fail
              clear hW0
              ((with_reducible refine (HOP.out).mono ?_); rintro e w5 ⟨rfl, hb5⟩)
              have q1 := (hb5.cell (p := ⟨wr.heap.size, 1, none⟩) hz0').trans g1
              have hz5 := Nat.lt_of_lt_of_le hz0' hb5.size
              by_cases ho : OpenL day x
              · rw [tb_t ho]
                have HW := Lib.hid (show whoL s day xs = x.reader from by rw [whoL_drop xs k hno.out, drop_get HX.out, whoL_t ⟨HS.out, ho⟩])
                clear ho g0 g1 g2 g3 g4
                go_wp2
                go_ret2
                exact ⟨by rw [seli_t HO.out, tb_t HO.out, HW.out]; rfl, ext_trans hbW hb5⟩
              · rw [tb_f ho]
                have HNO := Lib.hid ho
                clear ho
                go_wp2
                go_roundw
                case rel => exact ⟨k + 1, by omega, by go_num, ext_trans hbW hb5, fun m y hm hy => by
                  by_cases e' : m = k
                  · subst e'; rw [HX.out] at hy; cases hy; exact fun q => HNO.out q.2
                  · exact hno.out m y (by omega) hy⟩
                case measure => simp [intOf]; omega
            · have es : (x.sheet == s) = false := by simp [hs]
              have HS := Lib.hid hs
              clear hs
              go_wp2
              go_roundw
              case rel => exact ⟨k + 1, by omega, by go_num, hbW, fun m y hm hy => by
                by_cases e' : m = k
                · subst e'; rw [HX.out] at hy; cases hy; exact fun q => HS.out q.1
                · exact hno.out m y (by omega) hy⟩
              case measure => simp [intOf]; omega
          · have hkn : k = n := by omega
            subst hkn
            have HW := Lib.hid (show whoL s day xs = 0 from by rw [whoL_drop xs k hno.out, List.drop_of_length_le (by rw [← hN.out]; exact Nat.le_refl _)]; rfl)
            go_wp2
            go_ret2
            exact ⟨by rw [seli_t HO.out, tb_t HO.out, HW.out]; rfl, hbr⟩
      · go_wp2_with fail
        refine (isDay_f day _ h3).mono ?_
        rintro e w9 ⟨rfl, rfl⟩
        go_wp2
        go_ret2
        have hok : ¬ (WhOk xs s day) := fun h => h3 h.2.2
        exact ⟨ret_ib (seli_f hok).symm (tb_f hok).symm, hb1⟩
    · go_wp2_with fail
      refine (isId_f s _ h2).mono ?_
      rintro e w9 ⟨rfl, rfl⟩
      go_wp2
      go_ret2
      have hok : ¬ (WhOk xs s day) := fun h => h2 h.2.1
      exact ⟨ret_ib (seli_f hok).symm (tb_f hok).symm, hb1⟩
  · rw [tb_f h1]
    have H1 := Lib.hid h1
    clear h1
    go_wp2
    go_ret2
    have hok : ¬ (WhOk xs s day) := fun h => H1.out h.1
    exact ⟨ret_ib (seli_f hok).symm (tb_f hok).symm, hb1⟩

end Go.Proofs.YtnikeelpcokffaaDoor
