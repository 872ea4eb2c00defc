/- The slips missing from a copy: MissingSlips on both sides. -/
import Derived.Test.YtdicopjoffdnnaaMiss
import Derived.Test.YtdicopjoffdnnaaHeldI
import Derived.Test.YtdicopjoffdnnaaHeldS
namespace Go.Proofs.Ytdicopjoffdnnaa
open Go.RowKit
set_option linter.unusedVariables false
set_option linter.unusedSimpArgs false

def atH (hs : List Nest) (number : Int) : Int := idxB (fun x => decide (x.a = number)) 0 hs
theorem atH_p (hs : List Nest) (number : Int) (h : 0 ≤ atH hs number) : ∃ (j : Nat) (y : Nest), atH hs number = (j : Int) ∧ hs[j]? = some y := by
  rcases idxB_p (fun x : Nest => decide (x.a = number)) hs 0 with ⟨h4, _⟩ | ⟨j', e', h4, h5, h6⟩
  · unfold atH at h; omega
  · exact ⟨j', e', by unfold atH; omega, h5⟩
noncomputable def missAt (xs : List Erratum) (hs : List Nest) (r day : Int) : List Int := match hs[r.toNat]? with | some x => miss x day xs | none => []
theorem missAt_len (xs : List Erratum) (hs : List Nest) (r day : Int) : (missAt xs hs r day).length ≤ xs.length := by
  unfold missAt; split
  · exact miss_len _ _ _
  · simp
theorem missAt_j {xs : List Erratum} {hs : List Nest} {j : Nat} {day : Int} {x : Nest} (h : hs[j]? = some x) : missAt xs hs (j : Int) day = miss x day xs := by simp [missAt, h]
def MsOk (xs : List Erratum) (hs : List Nest) (r day : Int) : Prop := HeldOk xs hs ∧ 0 ≤ r ∧ (0 ≤ day ∧ day ≤ 4000)
set_option maxHeartbeats 1000000 in
set_option maxRecDepth 100000 in
theorem missingSlips_any (A : Option Addr) (c : Nat) (xs : List Erratum) (C : Option Addr) (cc : Nat) (hs : List Nest) (number day : Int) (w : World) (hne : xs.length ≤ 1048576) (hA : Fl Erratum.ints 5 w A xs) (hn : wt hs ≤ 1048576) (hC : Nl w C hs) :
    Calls Try.prog 9 #[.slice A xs.length c, .slice C hs.length cc, .int .i64 number, .int .i64 day] w (RetL one 1 w (sel (MsOk xs hs (atH hs number) day) (missAt xs hs (atH hs number) day)) (tb (MsOk xs hs (atH hs number) day))) := by
  have hin := fun x (hx : x ∈ hs) => Nat.le_trans (wt_in hx) hn
  have hn1 := Nat.le_trans (wt_len hs) hn
  have hare := fun W hX hY => areHeld_any A c xs C cc hs W hne hX hn hY
  have hat := heldAt_any C cc hs number w (by omega) hC
  have hp := atH_p hs number
  have hmi := fun x A' d W hl hX hY => missing_any A c xs x A' d day W hne hl hX hY
  rw [show idxB (fun x : Nest => decide (x.a = number)) 0 hs = atH hs number from rfl] at hat
  generalize atH hs number = r at hat hp ⊢
  obtain ⟨m, hmm⟩ : ∃ m, m = List.length hs := ⟨_, rfl⟩
  obtain ⟨n, hnn⟩ : ∃ n, n = List.length xs := ⟨_, rfl⟩
  rw [← hmm] at hn1 hare hat ⊢
  rw [← hnn] at hne hare hmi ⊢
  have hM := Lib.hid hmm
  have hN := Lib.hid hnn
  have HA := Lib.hid hare
  have HAT := Lib.hid hat
  have HP := Lib.hid hp
  have HMI := Lib.hid hmi
  clear hmm hnn hare hat hp hmi
  go_enter Try.func9, Try.ntmps9
  go_wp2_with fail
  refine (HAT.out).mono ?_
  rintro e w0 ⟨rfl, hb0w⟩
  have hb00 : Below w.heap.size w w0 := hb0w
  clear hb0w
  go_wp2_with fail
  refine (HA.out _ (hA.ext hb00) (hC.ext hb00)).mono ?_
  rintro e w1 ⟨rfl, hb1⟩
  by_cases h1 : HeldOk xs hs
  · rw [tb_t h1]
    have H1 := Lib.hid h1
    clear h1
    by_cases h2 : 0 ≤ r
    · obtain ⟨j, y, rfl, hj⟩ := HP.out h2
      have HJ := Lib.hid hj
      clear hj
      by_cases h3 : 0 ≤ day ∧ day ≤ 4000
      · go_wp2_with fail
        refine (isDay_t day _ h3).mono ?_
        rintro e w9 ⟨rfl, rfl⟩
        have HO : Hid (MsOk xs hs (j : Int) day) := ⟨H1.out, h2, h3⟩
        have hjm := lt_of_get HJ.out
        obtain ⟨x, b, o, A', d, hx, rfl, hbx, hc, hfl⟩ := (hC.ext (ext_trans hb00 hb1)).at_ (k := j) hjm
        have c0 : World.cell? w1 ⟨b, o + j * 4, none⟩ = some (.int .i64 x.a) := hc.ca
        have c1 : World.cell? w1 ⟨b, o + j * 4 + 1, none⟩ = some (.int .i64 x.b) := hc.cb
        have c2 : World.cell? w1 ⟨b, o + j * 4 + 2, none⟩ = some (.int .i64 x.c) := hc.cc
        have c3 : World.cell? w1 ⟨b, o + j * 4 + 3, none⟩ = some (.slice A' x.l.length d) := hc.cl
        have hjm2 : (j : Int) < (m : Int) := by rw [hM.out]; omega
        have hxl := hin x (List.mem_of_getElem? hx)
        have HX := Lib.hid hx
        have hAx := hA.ext (ext_trans hb00 hb1)
        clear hc hx
        go_wp2_with fail
        refine (HMI.out x A' d _ (by omega) hAx hfl).mono ?_
        rintro e w3 ⟨B, e, rfl, hF, hb3⟩
        go_wp2
        go_ret2
        rw [sel_t HO.out, tb_t HO.out, missAt_j HX.out]
        exact ⟨B, e, rfl, hF.mono ((ext_trans hb00 hb1)).size (Nat.le_refl _), ext_trans (ext_trans hb00 hb1) hb3⟩
      · go_wp2_with fail
        refine (isDay_f day _ h3).mono ?_
        rintro e w9 ⟨rfl, rfl⟩
        go_wp2
        go_ret2
        have hok : ¬ (MsOk xs hs (j : Int) day) := fun h => h3 h.2.2
        rw [sel_f hok, tb_f hok]
        exact ⟨none, 0, rfl, FlO.nil, (ext_trans hb00 hb1)⟩
    · have hrlt : r < 0 := by omega
      go_wp2
      go_ret2
      have hok : ¬ (MsOk xs hs r day) := fun h => (fun (q : 0 ≤ r) => (by omega : False)) h.2.1
      rw [sel_f hok, tb_f hok]
      exact ⟨none, 0, rfl, FlO.nil, (ext_trans hb00 hb1)⟩
  · rw [tb_f h1]
    have H1 := Lib.hid h1
    clear h1
    go_wp2
    go_ret2
    have hok : ¬ (MsOk xs hs r day) := fun h => H1.out h.1
    rw [sel_f hok, tb_f hok]
    exact ⟨none, 0, rfl, FlO.nil, (ext_trans hb00 hb1)⟩
set_option maxHeartbeats 1000000 in
set_option maxRecDepth 100000 in
theorem specMissingSlips_any (A : Option Addr) (c : Nat) (xs : List Erratum) (C : Option Addr) (cc : Nat) (hs : List Nest) (number day : Int) (w : World) (hne : xs.length ≤ 1048576) (hA : Fl Erratum.ints 5 w A xs) (hn : wt hs ≤ 1048576) (hC : Nl w C hs) :
    Calls Try.prog 16 #[.slice A xs.length c, .slice C hs.length cc, .int .i64 number, .int .i64 day] w (RetL one 1 w (sel (MsOk xs hs (atH hs number) day) (missAt xs hs (atH hs number) day)) (tb (MsOk xs hs (atH hs number) day))) := by
  have hin := fun x (hx : x ∈ hs) => Nat.le_trans (wt_in hx) hn
  have hn1 := Nat.le_trans (wt_len hs) hn
  have hare := fun W hX hY => l19Good_any A c xs C cc hs W hne hX hn hY
  have hat := l19Copy_any C cc hs number w (by omega) hC
  have hp := atH_p hs number
  have hmi := fun x A' d W hl hX hY => l19Missing_any A c xs x A' d day W hne hl hX hY
  rw [show idxB (fun x : Nest => decide (x.a = number)) 0 hs = atH hs number from rfl] at hat
  generalize atH hs number = r at hat hp ⊢
  obtain ⟨m, hmm⟩ : ∃ m, m = List.length hs := ⟨_, rfl⟩
  obtain ⟨n, hnn⟩ : ∃ n, n = List.length xs := ⟨_, rfl⟩
  rw [← hmm] at hn1 hare hat ⊢
  rw [← hnn] at hne hare hmi ⊢
  have hM := Lib.hid hmm
  have hN := Lib.hid hnn
  have HA := Lib.hid hare
  have HAT := Lib.hid hat
  have HP := Lib.hid hp
  have HMI := Lib.hid hmi
  clear hmm hnn hare hat hp hmi
  go_enter Try.func16, Try.ntmps16
  go_wp2_with fail
  refine (HAT.out).mono ?_
  rintro e w0 ⟨rfl, hb0w⟩
  have hb00 : Below w.heap.size w w0 := by subst hb0w; exact Below.refl _ _
  clear hb0w
  go_wp2_with fail
  refine (HA.out _ (hA.ext hb00) (hC.ext hb00)).mono ?_
  rintro e w1 ⟨rfl, hb1⟩
  by_cases h1 : HeldOk xs hs
  · rw [tb_t h1]
    have H1 := Lib.hid h1
    clear h1
    by_cases h2 : 0 ≤ r
    · obtain ⟨j, y, rfl, hj⟩ := HP.out h2
      have HJ := Lib.hid hj
      clear hj
      by_cases h3 : 0 ≤ day ∧ day ≤ 4000
      · go_wp2_with fail
        refine (l2Day_t day _ h3).mono ?_
        rintro e w9 ⟨rfl, rfl⟩
        have HO : Hid (MsOk xs hs (j : Int) day) := ⟨H1.out, h2, h3⟩
        have hjm := lt_of_get HJ.out
        obtain ⟨x, b, o, A', d, hx, rfl, hbx, hc, hfl⟩ := (hC.ext (ext_trans hb00 hb1)).at_ (k := j) hjm
        have c0 : World.cell? w1 ⟨b, o + j * 4, none⟩ = some (.int .i64 x.a) := hc.ca
        have c1 : World.cell? w1 ⟨b, o + j * 4 + 1, none⟩ = some (.int .i64 x.b) := hc.cb
        have c2 : World.cell? w1 ⟨b, o + j * 4 + 2, none⟩ = some (.int .i64 x.c) := hc.cc
        have c3 : World.cell? w1 ⟨b, o + j * 4 + 3, none⟩ = some (.slice A' x.l.length d) := hc.cl
        have hjm2 : (j : Int) < (m : Int) := by rw [hM.out]; omega
        have hxl := hin x (List.mem_of_getElem? hx)
        have HX := Lib.hid hx
        have hAx := hA.ext (ext_trans hb00 hb1)
        clear hc hx
        go_wp2_with fail
        refine (HMI.out x A' d _ (by omega) hAx hfl).mono ?_
        rintro e w3 ⟨B, e, rfl, hF, hb3⟩
        go_wp2
        go_ret2
        rw [sel_t HO.out, tb_t HO.out, missAt_j HX.out]
        exact ⟨B, e, rfl, hF.mono ((ext_trans hb00 hb1)).size (Nat.le_refl _), ext_trans (ext_trans hb00 hb1) hb3⟩
      · go_wp2_with fail
        refine (l2Day_f day _ h3).mono ?_
        rintro e w9 ⟨rfl, rfl⟩
        go_wp2
        go_ret2
        have hok : ¬ (MsOk xs hs (j : Int) day) := fun h => h3 h.2.2
        obtain ⟨W9, hW9, hB9, _, _, _⟩ := box_world w1 #[] 3
        rw [hW9]
        rw [sel_f hok, tb_f hok]
        exact ⟨some ⟨_, 0, none⟩, 0, rfl, FlO.nil, ext_trans (ext_trans hb00 hb1) hB9⟩
    · have hrlt : r < 0 := by omega
      go_wp2
      go_ret2
      have hok : ¬ (MsOk xs hs r day) := fun h => (fun (q : 0 ≤ r) => (by omega : False)) h.2.1
      obtain ⟨W9, hW9, hB9, _, _, _⟩ := box_world w1 #[] 3
      rw [hW9]
      rw [sel_f hok, tb_f hok]
      exact ⟨some ⟨_, 0, none⟩, 0, rfl, FlO.nil, ext_trans (ext_trans hb00 hb1) hB9⟩
  · rw [tb_f h1]
    have H1 := Lib.hid h1
    clear h1
    go_wp2
    go_ret2
    have hok : ¬ (MsOk xs hs r day) := fun h => H1.out h.1
    obtain ⟨W9, hW9, hB9, _, _, _⟩ := box_world w1 #[] 3
    rw [hW9]
    rw [sel_f hok, tb_f hok]
    exact ⟨some ⟨_, 0, none⟩, 0, rfl, FlO.nil, ext_trans (ext_trans hb00 hb1) hB9⟩
end Go.Proofs.Ytdicopjoffdnnaa
