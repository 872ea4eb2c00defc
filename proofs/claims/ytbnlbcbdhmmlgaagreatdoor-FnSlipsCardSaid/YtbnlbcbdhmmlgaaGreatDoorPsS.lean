/- A slip put: the reference's side. -/
import Derived.Test.YtbnlbcbdhmmlgaaGreatDoorPsI
namespace Go.Proofs.YtbnlbcbdhmmlgaaGreatDoor
open Go.RowKit
set_option linter.unusedVariables false
set_option linter.unusedSimpArgs false

set_option maxHeartbeats 4000000 in
set_option maxRecDepth 100000 in
theorem specPutSlip_any (A : Option Addr) (c : Nat) (xs : List Erratum) (C : Option Addr) (cc : Nat) (hs : List Nest) (number id : Int) (w : World) (hne : xs.length ≤ 1048576) (hA : Fl Erratum.ints 5 w A xs) (hn : wt hs ≤ 1048576) (hC : NlC w C hs) :
    Calls Tryz.prog 7 #[.slice A xs.length c, .slice C hs.length cc, .int .i64 number, .int .i64 id] w (RetHB w (sel (PsOk xs hs (atH hs number) (atE xs id) id) (psRes hs (atH hs number) id)) (tb (PsOk xs hs (atH hs number) (atE xs id) id))) := by
  obtain ⟨i0, hi, hz0, hz1, hz2⟩ := info_parts infoInt
  have hare := fun W hX hY => l19Good_any A c xs C cc hs W hne hX hn hY
  have hin := fun x (hx : x ∈ hs) => Nat.le_trans (wt_in hx) hn
  have hn1 := Nat.le_trans (wt_len hs) hn
  have hak := l19Copy_any C cc hs number w (by omega) (hC.nl)
  have hai := fun W hX => l19Find_any A c xs id W (by omega) hX
  have hpk := atH_p hs number
  have hpi := atE_p xs id
  rw [show idxB (fun x : Nest => decide (x.a = number)) 0 hs = atH hs number from rfl] at hak
  rw [show idxB (fun x : Erratum => decide (x.id = id)) 0 xs = atE xs id from rfl] at hai
  generalize atH hs number = rk at hak hpk ⊢
  generalize atE xs id = ri at hai hpi ⊢
  obtain ⟨m, hmm⟩ : ∃ m, m = List.length hs := ⟨_, rfl⟩
  obtain ⟨ne, hnn⟩ : ∃ n, n = List.length xs := ⟨_, rfl⟩
  rw [← hmm] at hn1 hare hak ⊢
  rw [← hnn] at hne hare hai ⊢
  have hM := Lib.hid hmm
  have hN := Lib.hid hnn
  have HAK := Lib.hid hak
  have HAI := Lib.hid hai
  have HPK := Lib.hid hpk
  have HPI := Lib.hid hpi
  clear hmm hnn hak hai hpk hpi
  by_cases h1 : HeldOk xs hs
  · have har : ∀ W, Fl Erratum.ints 5 W A xs → Nl W C hs → Calls Tryz.prog 37 #[.slice A ne c, .slice C m cc] W fun e w' => e = .returned (.bool true) ∧ Below W.heap.size W w' := fun W hX hY => by have h := hare W hX hY; rwa [tb_t h1] at h
    have HAR := Lib.hid har
    have H1 := Lib.hid h1
    clear hare har h1
    by_cases h2 : 0 ≤ rk
    · obtain ⟨j, y, rfl, hj⟩ := HPK.out h2
      have HJ := Lib.hid hj
      clear hj
      by_cases h3 : 0 ≤ ri
      · obtain ⟨i, e, rfl, he⟩ := HPI.out h3
        have HI := Lib.hid he
        clear he
        go_enter Tryz.func7, Tryz.ntmps7
        go_wp2_with fail
        refine (HAK.out).mono ?_
        rintro e u1 ⟨rfl, hu1⟩
        subst hu1
        go_wp2_with fail
        refine (HAI.out w hA).mono ?_
        rintro e u2 ⟨rfl, hu2⟩
        subst hu2
        have hU := Below.refl w.heap.size w
        have hA2 := hA.ext hU
        have hC2 := hC.ext hU
        have hpc := plus_cell w
        obtain ⟨y', b, o, A', d, hx, hCe, hbx, hc, hfl, hcap⟩ := hC2.at_ (k := j) (lt_of_get HJ.out)
        subst hCe
        have hyy : y' = y := by have h := HJ.out; rw [hx] at h; cases h; rfl
        subst hyy
        have c0 : World.cell? w ⟨b, o + j * 4, none⟩ = some (.int .i64 y'.a) := hc.ca
        have c1 : World.cell? w ⟨b, o + j * 4 + 1, none⟩ = some (.int .i64 y'.b) := hc.cb
        have c2 : World.cell? w ⟨b, o + j * 4 + 2, none⟩ = some (.int .i64 y'.c) := hc.cc
        have c3 : World.cell? w ⟨b, o + j * 4 + 3, none⟩ = some (.slice A' y'.l.length d) := hc.cl
        have hxl : y'.l.length ≤ 1152921504606846976 := by have := hin y' (List.mem_of_getElem? hx); omega
        obtain ⟨be, oe, hAe, hbe, _⟩ := _root_.id hA2 (fun e' => by have h := HI.out; rw [e'] at h; simp at h)
        subst hAe
        have hce := hA2.get HI.out
        have e0 : World.cell? w ⟨be, oe + i * 5, none⟩ = some (.int .i64 e.id) := hce 0 _ rfl
        have e1 : World.cell? w ⟨be, oe + i * 5 + 1, none⟩ = some (.int .i64 e.sheet) := hce 1 _ rfl
        have e2 : World.cell? w ⟨be, oe + i * 5 + 2, none⟩ = some (.int .i64 e.frm) := hce 2 _ rfl
        have e3 : World.cell? w ⟨be, oe + i * 5 + 3, none⟩ = some (.int .i64 e.til) := hce 3 _ rfl
        have e4 : World.cell? w ⟨be, oe + i * 5 + 4, none⟩ = some (.int .i64 e.day) := hce 4 _ rfl
        have hj0 : (0 : Int) ≤ (j : Int) := by omega
        have hj1 : (j : Int) < (m : Int) := by have := lt_of_get hx; rw [← hM.out] at this; omega
        have hj4 : decide ((j : Int) < 0) = false := decide_eq_false (by omega)
        have hi0' : (0 : Int) ≤ (i : Int) := by omega
        have hi1' : (i : Int) < (ne : Int) := by have := lt_of_get HI.out; rw [← hN.out] at this; omega
        have hi4' : decide ((i : Int) < 0) = false := decide_eq_false (by omega)
        clear hx hc hce
        by_cases hhas : id ∈ y'.l
        · go_wp2_with fail
          refine wp_region_grow (by kernel_rfl) (by kernel_rfl) ?_
          repeat (go_big_quiet_step ((first | (go_at_call 37; exact quiet_below (HAR.out _ (hA2.ext (plus_below _ _)) (Nl.ext (hC2.nl) (plus_below _ _)))) | (go_at_call 38; exact quiet_same (l1Has_t A' d y'.l id _ hxl (hfl.ext (plus_below _ _)) hhas)))))
          refine wpQuiet_nil ?_
          intro w1 hb1
          go_wp2
          go_ret2
          have hok : ¬ (PsOk xs hs (j : Int) (i : Int) id) := fun h => ((pairOk_ji HI.out HJ.out).1 h.2.2.2).2 hhas
          rw [sel_f hok, tb_f hok]
          exact ⟨some ⟨_, 0, none⟩, 0, rfl, NlO.nil, ext_trans (ext_trans hU hb1) (ext_alloc _ _)⟩
        · by_cases hcon : Con e y'
          · go_wp2_with fail
            refine wp_region_grow (by kernel_rfl) (by kernel_rfl) ?_
            repeat (go_big_quiet_step ((first | (go_at_call 37; exact quiet_below (HAR.out _ (hA2.ext (plus_below _ _)) (Nl.ext (hC2.nl) (plus_below _ _)))) | (go_at_call 39; exact quiet_below (l19Concerns_t e y' A' d _ hcon)) | (go_at_call 38; exact quiet_same (l1Has_f A' d y'.l id _ hxl (hfl.ext (plus_below _ _)) hhas)))))
            refine wpQuiet_nil ?_
            intro w1 hb1
            have hHok : PsOk xs hs (j : Int) (i : Int) id := ⟨H1.out, by omega, by omega, (pairOk_ji HI.out HJ.out).2 ⟨hcon, hhas⟩⟩
            have HO := Lib.hid hHok
            have hbG : Below w.heap.size w w1 := ext_trans hU hb1
            have hyl := hin y' (List.mem_of_getElem? HJ.out)
            have k3 := (hb1.cell (p := ⟨b, o + j * 4 + 3, none⟩) hbx).trans c3
            have hpu := l1PutFl_any w1.heap.size A' d y'.l id w1 (Nat.le_refl _) (by omega) hcap (hfl.ext hb1) hhas
            have HPU := Lib.hid hpu
            have hpl := putI_len y'.l id
            have hCw := hC2.nl.ext hb1
            clear hHok hcon hhas hpu c0 c1 c2 c3 e0 e1 e2 e3 e4 hpc hC
            go_wp2_with fail
            refine (HPU.out).mono ?_
            rintro e w3 ⟨v3, rfl, hown3, hb3⟩
            obtain ⟨B7, d7, hv7, hF7⟩ := hown3.form one_length
            subst hv7
            have hwt := l19With_any (some ⟨b, o, none⟩) cc hs j y' HJ.out B7 d7 (putI y'.l id) w3 (Nat.le_trans hn (by decide)) (hCw.ext hb3) (by omega) hF7.fl
            rw [← hM.out] at hwt
            have HWT := Lib.hid hwt
            clear hwt hown3 hF7
            go_wp2_with fail
            refine (HWT.out).mono ?_
            rintro e w4 ⟨v4, zs, rfl, hown4, hzs4, hb4⟩
            obtain ⟨A8, c8, hv8, _, _, hG8⟩ := hown4.full (fun _ => rfl) (by decide)
            have hr : withS hs j y' (putI y'.l id) = psRes hs (j : Int) id := (psRes_j HJ.out).symm
            rw [hzs4, hr] at hv8 hG8
            subst hv8
            have HG8 := Lib.hid hG8
            clear hown4 hzs4 hr hG8
            go_wp2
            go_ret2
            rw [sel_t HO.out, tb_t HO.out]
            exact ⟨A8, _, rfl, HG8.out.n.mono (Nat.le_trans hbG.size hb3.size) (Nat.le_refl _), ext_trans hbG (ext_trans hb3 hb4)⟩
          · go_wp2_with fail
            refine wp_region_grow (by kernel_rfl) (by kernel_rfl) ?_
            repeat (go_big_quiet_step ((first | (go_at_call 37; exact quiet_below (HAR.out _ (hA2.ext (plus_below _ _)) (Nl.ext (hC2.nl) (plus_below _ _)))) | (go_at_call 38; exact quiet_same (l1Has_f A' d y'.l id _ hxl (hfl.ext (plus_below _ _)) hhas)) | (go_at_call 39; exact quiet_below (l19Concerns_f e y' A' d _ hcon)))))
            refine wpQuiet_nil ?_
            intro w1 hb1
            go_wp2
            go_ret2
            have hok : ¬ (PsOk xs hs (j : Int) (i : Int) id) := fun h => hcon ((pairOk_ji HI.out HJ.out).1 h.2.2.2).1
            rw [sel_f hok, tb_f hok]
            exact ⟨some ⟨_, 0, none⟩, 0, rfl, NlO.nil, ext_trans (ext_trans hU hb1) (ext_alloc _ _)⟩
      · have h3' : decide (ri < 0) = true := decide_eq_true (by omega)
        have hjn : decide ((j : Int) < 0) = false := decide_eq_false (by omega)
        go_enter Tryz.func7, Tryz.ntmps7
        go_wp2_with fail
        refine (HAK.out).mono ?_
        rintro e u1 ⟨rfl, hu1⟩
        subst hu1
        go_wp2_with fail
        refine (HAI.out w hA).mono ?_
        rintro e u2 ⟨rfl, hu2⟩
        subst hu2
        have hU := Below.refl w.heap.size w
        have hA2 := hA.ext hU
        have hC2 := hC.ext hU
        have hpc := plus_cell w
        go_wp2_with fail
        refine wp_region_grow (by kernel_rfl) (by kernel_rfl) ?_
        repeat (go_big_quiet_step ((first | (go_at_call 37; exact quiet_below (HAR.out _ (hA2.ext (plus_below _ _)) (Nl.ext (hC2.nl) (plus_below _ _)))))))
        refine wpQuiet_nil ?_
        intro w1 hb1
        go_wp2
        go_ret2
        have hok : ¬ (PsOk xs hs (j : Int) ri id) := fun h => by have := h.2.2.1; omega
        rw [sel_f hok, tb_f hok]
        exact ⟨some ⟨_, 0, none⟩, 0, rfl, NlO.nil, ext_trans (ext_trans hU hb1) (ext_alloc _ _)⟩
    · have h2' : decide (rk < 0) = true := decide_eq_true (by omega)
      go_enter Tryz.func7, Tryz.ntmps7
      go_wp2_with fail
      refine (HAK.out).mono ?_
      rintro e u1 ⟨rfl, hu1⟩
      subst hu1
      go_wp2_with fail
      refine (HAI.out w hA).mono ?_
      rintro e u2 ⟨rfl, hu2⟩
      subst hu2
      have hU := Below.refl w.heap.size w
      have hA2 := hA.ext hU
      have hC2 := hC.ext hU
      have hpc := plus_cell w
      go_wp2_with fail
      refine wp_region_grow (by kernel_rfl) (by kernel_rfl) ?_
      repeat (go_big_quiet_step ((first | (go_at_call 37; exact quiet_below (HAR.out _ (hA2.ext (plus_below _ _)) (Nl.ext (hC2.nl) (plus_below _ _)))))))
      refine wpQuiet_nil ?_
      intro w1 hb1
      go_wp2
      go_ret2
      have hok : ¬ (PsOk xs hs rk ri id) := fun h => by have := h.2.1; omega
      rw [sel_f hok, tb_f hok]
      exact ⟨some ⟨_, 0, none⟩, 0, rfl, NlO.nil, ext_trans (ext_trans hU hb1) (ext_alloc _ _)⟩
  · have har : ∀ W, Fl Erratum.ints 5 W A xs → Nl W C hs → Calls Tryz.prog 37 #[.slice A ne c, .slice C m cc] W fun e w' => e = .returned (.bool false) ∧ Below W.heap.size W w' := fun W hX hY => by have h := hare W hX hY; rwa [tb_f h1] at h
    have HAR := Lib.hid har
    have H1 := Lib.hid h1
    clear hare har h1
    go_enter Tryz.func7, Tryz.ntmps7
    go_wp2_with fail
    refine (HAK.out).mono ?_
    rintro e u1 ⟨rfl, hu1⟩
    subst hu1
    go_wp2_with fail
    refine (HAI.out w hA).mono ?_
    rintro e u2 ⟨rfl, hu2⟩
    subst hu2
    have hU := Below.refl w.heap.size w
    have hA2 := hA.ext hU
    have hC2 := hC.ext hU
    have hpc := plus_cell w
    go_wp2_with fail
    refine wp_region_grow (by kernel_rfl) (by kernel_rfl) ?_
    repeat (go_big_quiet_step ((first | (go_at_call 37; exact quiet_below (HAR.out _ (hA2.ext (plus_below _ _)) (Nl.ext (hC2.nl) (plus_below _ _)))))))
    refine wpQuiet_nil ?_
    intro w1 hb1
    go_wp2
    go_ret2
    have hok : ¬ (PsOk xs hs rk ri id) := fun h => H1.out h.1
    rw [sel_f hok, tb_f hok]
    exact ⟨some ⟨_, 0, none⟩, 0, rfl, NlO.nil, ext_trans (ext_trans hU hb1) (ext_alloc _ _)⟩
end Go.Proofs.YtbnlbcbdhmmlgaaGreatDoor
