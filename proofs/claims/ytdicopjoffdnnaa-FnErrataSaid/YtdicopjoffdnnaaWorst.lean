/- The copy from which the most slips are missing: WorstCopy on both sides. -/
import Derived.Test.YtdicopjoffdnnaaMiss
import Derived.Test.YtdicopjoffdnnaaHeldI
import Derived.Test.YtdicopjoffdnnaaHeldS
namespace Go.Proofs.Ytdicopjoffdnnaa
open Go.RowKit
set_option linter.unusedVariables false
set_option linter.unusedSimpArgs false

noncomputable def wcL (xs : List Erratum) (day : Int) : List Nest → Int × Int → Int × Int
  | [], s => s
  | x :: r, s => wcL xs day r (if s.2 < ((miss x day xs).length : Int) then (x.a, ((miss x day xs).length : Int)) else s)
noncomputable def worst (xs : List Erratum) (hs : List Nest) (day : Int) : Int × Int := wcL xs day hs (0, -1)
def WcOk (xs : List Erratum) (hs : List Nest) (day : Int) : Prop := HeldOk xs hs ∧ (0 ≤ day ∧ day ≤ 4000) ∧ 0 < hs.length
set_option maxHeartbeats 1000000 in
set_option maxRecDepth 100000 in
theorem worstCopy_any (A : Option Addr) (c : Nat) (xs : List Erratum) (C : Option Addr) (cc : Nat) (hs : List Nest) (day : Int) (w : World) (hne : xs.length ≤ 1048576) (hA : Fl Erratum.ints 5 w A xs) (hn : wt hs ≤ 1048576) (hC : Nl w C hs) :
    Calls Try.prog 11 #[.slice A xs.length c, .slice C hs.length cc, .int .i64 day] w (fun e w' => e = .returned (.tuple #[.int .i64 (seli (WcOk xs hs day) (worst xs hs day).1), .int .i64 (seli (WcOk xs hs day) (worst xs hs day).2), .bool (tb (WcOk xs hs day))]) ∧ Below w.heap.size w w') := by
  have hin := fun x (hx : x ∈ hs) => Nat.le_trans (wt_in hx) hn
  have hn1 := Nat.le_trans (wt_len hs) hn
  have hare := fun W hX hY => areHeld_any A c xs C cc hs W hne hX hn hY
  have hmi := fun x A' d W hl hX hY => missing_any A c xs x A' d day W hne hl hX hY
  have hle := fun x => Nat.le_trans (miss_len x day xs) hne
  obtain ⟨R, hR⟩ : ∃ R, worst xs hs day = R := ⟨_, rfl⟩
  rw [hR]
  unfold worst at hR
  obtain ⟨m, hmm⟩ : ∃ m, m = List.length hs := ⟨_, rfl⟩
  obtain ⟨n, hnn⟩ : ∃ n, n = List.length xs := ⟨_, rfl⟩
  rw [← hmm] at hn1 hare ⊢
  rw [← hnn] at hne hare hmi ⊢
  have hM := Lib.hid hmm
  have hN := Lib.hid hnn
  have HA := Lib.hid hare
  have HMI := Lib.hid hmi
  have HR := Lib.hid hR
  clear hmm hnn hare hmi hR
  go_enter Try.func11, Try.ntmps11
  go_wp2_with fail
  refine (HA.out w hA hC).mono ?_
  rintro e w1 ⟨rfl, hb1⟩
  by_cases h1 : HeldOk xs hs
  · rw [tb_t h1]
    have H1 := Lib.hid h1
    clear h1
    by_cases h2 : 0 ≤ day ∧ day ≤ 4000
    · go_wp2_with fail
      refine (isDay_t day _ h2).mono ?_
      rintro e w9 ⟨rfl, rfl⟩
      by_cases h3 : 0 < hs.length
      · have hmp : ((m : Int) == 0) = false := beq_eq_false_iff_ne.2 (fun e => by have := hM.out; omega)
        have HO : Hid (WcOk xs hs day) := ⟨H1.out, h2, h3⟩
        go_wp2
        go_loopw [9, 10, 30] (fun b' m' i wr => ∃ (k : Nat) (s : Int × Int), k ≤ m ∧ i = .int .i64 k ∧ b' = .int .i64 s.1 ∧ m' = .int .i64 s.2 ∧ Below w1.heap.size w1 wr ∧ Hid (wcL xs day (hs.drop k) s = R)) (fun _ _ i _ => m - (intOf i).toNat)
        case atStart => exact ⟨0, (0, -1), by omega, rfl, rfl, rfl, Below.refl _ _, HR.out⟩
        case round =>
          obtain ⟨k, s, hk, rfl, rfl, rfl, hbr, hst⟩ := hrel
          by_cases hlt : k < m
          · obtain ⟨x, b, o, A', d, hx, rfl, hbx, hc, hfl⟩ := (hC.ext (ext_trans hb1 hbr)).at_ (k := k) (by rw [← hM.out]; exact hlt)
            have hxl := hin x (List.mem_of_getElem? hx)
            have c0 : World.cell? wr ⟨b, o + k * 4, none⟩ = some (.int .i64 x.a) := hc.ca
            have c1 : World.cell? wr ⟨b, o + k * 4 + 1, none⟩ = some (.int .i64 x.b) := hc.cb
            have c2 : World.cell? wr ⟨b, o + k * 4 + 2, none⟩ = some (.int .i64 x.c) := hc.cc
            have c3 : World.cell? wr ⟨b, o + k * 4 + 3, none⟩ = some (.slice A' x.l.length d) := hc.cl
            have HX := Lib.hid hx
            have hml := hle x
            have hstx := hst.out
            rw [drop_get HX.out, wcL] at hstx
            have HST := Lib.hid hstx
            clear hstx
            obtain ⟨W0, hW0, hB0, hz0', hg, _⟩ := box_world wr #[Value.int .i64 x.a, .int .i64 x.b, .int .i64 x.c, .slice A' x.l.length d] 35
            have g0 : World.cell? W0 ⟨wr.heap.size, 0, none⟩ = some (.int .i64 x.a) := hg 0
            have g1 : World.cell? W0 ⟨wr.heap.size, 1, none⟩ = some (.int .i64 x.b) := hg 1
            have g2 : World.cell? W0 ⟨wr.heap.size, 2, none⟩ = some (.int .i64 x.c) := hg 2
            have g3 : World.cell? W0 ⟨wr.heap.size, 3, none⟩ = some (.slice A' x.l.length d) := hg 3
            have hbW := ext_trans hbr hB0
            have hfl0 := hfl.ext hB0
            have hAx := hA.ext (ext_trans hb1 hbW)
            clear hg hc hx
            have hk0 : (0 : Int) ≤ (k : Int) := by omega
            have hk1 : (k : Int) < (m : Int) := by omega
            go_wp2_with fail
            refine (HMI.out x A' d _ (by omega) hAx hfl0).mono ?_
            rintro e w3 ⟨B, e, rfl, hF, hb3⟩
            have r0 : World.cell? w3 ⟨wr.heap.size, 0, none⟩ = some (.int .i64 x.a) := (hb3.cell (p := ⟨wr.heap.size, 0, none⟩) hz0').trans g0
            have hb9 := ext_trans hbW hb3
            generalize (miss x day xs).length = q at HST hml ⊢
            by_cases hq : s.2 < (q : Int)
            · have HS2 : Hid (wcL xs day (hs.drop (k + 1)) (x.a, (q : Int)) = R) := by have h := HST.out; rw [if_pos hq] at h; exact h
              go_wp2
              go_roundw
              case rel => exact ⟨k + 1, (x.a, (q : Int)), by omega, by go_num, rfl, rfl, hb9, HS2⟩
              case measure => simp [intOf]; omega
            · have HS2 : Hid (wcL xs day (hs.drop (k + 1)) s = R) := by have h := HST.out; rw [if_neg hq] at h; exact h
              go_wp2
              go_roundw
              case rel => exact ⟨k + 1, s, by omega, by go_num, rfl, rfl, hb9, HS2⟩
              case measure => simp [intOf]; omega
          · have hkn : k = m := by omega
            subst hkn
            go_wp2
            go_ret3
            have hs := hst.out
            rw [drop_all (by rw [← hM.out]; exact Nat.le_refl _)] at hs
            have hs2 : s = R := hs
            subst hs2
            exact ⟨ret_iib (seli_t HO.out).symm (seli_t HO.out).symm (tb_t HO.out).symm, ext_trans hb1 hbr⟩
      · have hmp : ((m : Int) == 0) = true := beq_iff_eq.2 (by have := hM.out; omega)
        go_wp2
        go_ret3
        have hok : ¬ (WcOk xs hs day) := fun h => (fun (q : 0 < hs.length) => (by omega : False)) h.2.2
        exact ⟨ret_iib (seli_f hok).symm (seli_f hok).symm (tb_f hok).symm, hb1⟩
    · go_wp2_with fail
      refine (isDay_f day _ h2).mono ?_
      rintro e w9 ⟨rfl, rfl⟩
      go_wp2
      go_ret3
      have hok : ¬ (WcOk xs hs day) := fun h => h2 h.2.1
      exact ⟨ret_iib (seli_f hok).symm (seli_f hok).symm (tb_f hok).symm, hb1⟩
  · rw [tb_f h1]
    have H1 := Lib.hid h1
    clear h1
    go_wp2
    go_ret3
    have hok : ¬ (WcOk xs hs day) := fun h => H1.out h.1
    exact ⟨ret_iib (seli_f hok).symm (seli_f hok).symm (tb_f hok).symm, hb1⟩
set_option maxHeartbeats 1000000 in
set_option maxRecDepth 100000 in
theorem specWorstCopy_any (A : Option Addr) (c : Nat) (xs : List Erratum) (C : Option Addr) (cc : Nat) (hs : List Nest) (day : Int) (w : World) (hne : xs.length ≤ 1048576) (hA : Fl Erratum.ints 5 w A xs) (hn : wt hs ≤ 1048576) (hC : Nl w C hs) :
    Calls Try.prog 12 #[.slice A xs.length c, .slice C hs.length cc, .int .i64 day] w (fun e w' => e = .returned (.tuple #[.int .i64 (seli (WcOk xs hs day) (worst xs hs day).1), .int .i64 (seli (WcOk xs hs day) (worst xs hs day).2), .bool (tb (WcOk xs hs day))]) ∧ Below w.heap.size w w') := by
  have hin := fun x (hx : x ∈ hs) => Nat.le_trans (wt_in hx) hn
  have hn1 := Nat.le_trans (wt_len hs) hn
  have hare := fun W hX hY => l19Good_any A c xs C cc hs W hne hX hn hY
  have hmi := fun x A' d W hl hX hY => l19Missing_any A c xs x A' d day W hne hl hX hY
  have hle := fun x => Nat.le_trans (miss_len x day xs) hne
  obtain ⟨R, hR⟩ : ∃ R, worst xs hs day = R := ⟨_, rfl⟩
  rw [hR]
  unfold worst at hR
  obtain ⟨m, hmm⟩ : ∃ m, m = List.length hs := ⟨_, rfl⟩
  obtain ⟨n, hnn⟩ : ∃ n, n = List.length xs := ⟨_, rfl⟩
  rw [← hmm] at hn1 hare ⊢
  rw [← hnn] at hne hare hmi ⊢
  have hM := Lib.hid hmm
  have hN := Lib.hid hnn
  have HA := Lib.hid hare
  have HMI := Lib.hid hmi
  have HR := Lib.hid hR
  clear hmm hnn hare hmi hR
  go_enter Try.func12, Try.ntmps12
  go_wp2_with fail
  refine (HA.out w hA hC).mono ?_
  rintro e w1 ⟨rfl, hb1⟩
  by_cases h1 : HeldOk xs hs
  · rw [tb_t h1]
    have H1 := Lib.hid h1
    clear h1
    by_cases h2 : 0 ≤ day ∧ day ≤ 4000
    · go_wp2_with fail
      refine (l2Day_t day _ h2).mono ?_
      rintro e w9 ⟨rfl, rfl⟩
      by_cases h3 : 0 < hs.length
      · have hmp : ((m : Int) == 0) = false := beq_eq_false_iff_ne.2 (fun e => by have := hM.out; omega)
        have HO : Hid (WcOk xs hs day) := ⟨H1.out, h2, h3⟩
        go_wp2
        go_loopw [9, 10, 11] (fun b' m' i wr => ∃ (k : Nat) (s : Int × Int), k ≤ m ∧ i = .int .i64 k ∧ b' = .int .i64 s.1 ∧ m' = .int .i64 s.2 ∧ Below w1.heap.size w1 wr ∧ Hid (wcL xs day (hs.drop k) s = R)) (fun _ _ i _ => m - (intOf i).toNat)
        case atStart => exact ⟨0, (0, -1), by omega, rfl, rfl, rfl, Below.refl _ _, HR.out⟩
        case round =>
          obtain ⟨k, s, hk, rfl, rfl, rfl, hbr, hst⟩ := hrel
          by_cases hlt : k < m
          · obtain ⟨x, b, o, A', d, hx, rfl, hbx, hc, hfl⟩ := (hC.ext (ext_trans hb1 hbr)).at_ (k := k) (by rw [← hM.out]; exact hlt)
            have hxl := hin x (List.mem_of_getElem? hx)
            have c0 : World.cell? wr ⟨b, o + k * 4, none⟩ = some (.int .i64 x.a) := hc.ca
            have c1 : World.cell? wr ⟨b, o + k * 4 + 1, none⟩ = some (.int .i64 x.b) := hc.cb
            have c2 : World.cell? wr ⟨b, o + k * 4 + 2, none⟩ = some (.int .i64 x.c) := hc.cc
            have c3 : World.cell? wr ⟨b, o + k * 4 + 3, none⟩ = some (.slice A' x.l.length d) := hc.cl
            have HX := Lib.hid hx
            have hml := hle x
            have hstx := hst.out
            rw [drop_get HX.out, wcL] at hstx
            have HST := Lib.hid hstx
            clear hstx
            have hAx := hA.ext (ext_trans hb1 hbr)
            clear hx
            have hk0 : (0 : Int) ≤ (k : Int) := by omega
            have hk1 : (k : Int) < (m : Int) := by omega
            go_wp2_with fail
            refine (HMI.out x A' d _ (by omega) hAx hfl).mono ?_
            rintro e w3 ⟨B, e, rfl, hF, hb3⟩
            have r0 : World.cell? w3 ⟨b, o + k * 4, none⟩ = some (.int .i64 x.a) := (hb3.cell (p := ⟨b, o + k * 4, none⟩) hbx).trans c0
            have hb9 := ext_trans hbr hb3
            clear hc
            generalize (miss x day xs).length = q at HST hml ⊢
            by_cases hq : s.2 < (q : Int)
            · have HS2 : Hid (wcL xs day (hs.drop (k + 1)) (x.a, (q : Int)) = R) := by have h := HST.out; rw [if_pos hq] at h; exact h
              go_wp2
              go_roundw
              case rel => exact ⟨k + 1, (x.a, (q : Int)), by omega, by go_num, rfl, rfl, hb9, HS2⟩
              case measure => simp [intOf]; omega
            · have HS2 : Hid (wcL xs day (hs.drop (k + 1)) s = R) := by have h := HST.out; rw [if_neg hq] at h; exact h
              go_wp2
              go_roundw
              case rel => exact ⟨k + 1, s, by omega, by go_num, rfl, rfl, hb9, HS2⟩
              case measure => simp [intOf]; omega
          · have hkn : k = m := by omega
            subst hkn
            go_wp2
            go_ret3
            have hs := hst.out
            rw [drop_all (by rw [← hM.out]; exact Nat.le_refl _)] at hs
            have hs2 : s = R := hs
            subst hs2
            exact ⟨ret_iib (seli_t HO.out).symm (seli_t HO.out).symm (tb_t HO.out).symm, ext_trans hb1 hbr⟩
      · have hmp : ((m : Int) == 0) = true := beq_iff_eq.2 (by have := hM.out; omega)
        go_wp2
        go_ret3
        have hok : ¬ (WcOk xs hs day) := fun h => (fun (q : 0 < hs.length) => (by omega : False)) h.2.2
        exact ⟨ret_iib (seli_f hok).symm (seli_f hok).symm (tb_f hok).symm, hb1⟩
    · go_wp2_with fail
      refine (l2Day_f day _ h2).mono ?_
      rintro e w9 ⟨rfl, rfl⟩
      go_wp2
      go_ret3
      have hok : ¬ (WcOk xs hs day) := fun h => h2 h.2.1
      exact ⟨ret_iib (seli_f hok).symm (seli_f hok).symm (tb_f hok).symm, hb1⟩
  · rw [tb_f h1]
    have H1 := Lib.hid h1
    clear h1
    go_wp2
    go_ret3
    have hok : ¬ (WcOk xs hs day) := fun h => H1.out h.1
    exact ⟨ret_iib (seli_f hok).symm (seli_f hok).symm (tb_f hok).symm, hb1⟩
end Go.Proofs.Ytdicopjoffdnnaa
