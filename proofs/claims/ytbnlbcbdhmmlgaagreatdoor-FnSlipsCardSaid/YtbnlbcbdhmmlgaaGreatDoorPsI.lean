/- A slip put: the words, and the program's side. -/
import Derived.Test.YtbnlbcbdhmmlgaaGreatDoorPutD
import Derived.Test.YtbnlbcbdhmmlgaaGreatDoorForW
import Derived.Test.YtbnlbcbdhmmlgaaGreatDoorMsW
import Derived.Test.YtbnlbcbdhmmlgaaGreatDoorHeldCap
namespace Go.Proofs.YtbnlbcbdhmmlgaaGreatDoor
open Go.RowKit
set_option linter.unusedVariables false
set_option linter.unusedSimpArgs false

def pairOk (xs : List Erratum) (hs : List Nest) (rk ri id : Int) : Prop := ∃ e x, xs[ri.toNat]? = some e ∧ hs[rk.toNat]? = some x ∧ Con e x ∧ id ∉ x.l
theorem pairOk_ji {xs : List Erratum} {hs : List Nest} {j i : Nat} {id : Int} {e : Erratum} {x : Nest} (he : xs[i]? = some e) (hx : hs[j]? = some x) : pairOk xs hs (j : Int) (i : Int) id ↔ Con e x ∧ id ∉ x.l := by
  constructor
  · rintro ⟨e', x', h1, h2, h3⟩
    rw [Int.toNat_natCast] at h1 h2
    rw [he] at h1
    rw [hx] at h2
    cases h1
    cases h2
    exact h3
  · intro h
    exact ⟨e, x, by rw [Int.toNat_natCast]; exact he, by rw [Int.toNat_natCast]; exact hx, h⟩
def PsOk (xs : List Erratum) (hs : List Nest) (rk ri id : Int) : Prop := HeldOk xs hs ∧ 0 ≤ rk ∧ 0 ≤ ri ∧ pairOk xs hs rk ri id
def psRes (hs : List Nest) (rk id : Int) : List Nest := match hs[rk.toNat]? with | some x => hs.set rk.toNat { x with l := putI x.l id } | none => hs
theorem psRes_j {hs : List Nest} {j : Nat} {id : Int} {x : Nest} (hx : hs[j]? = some x) : psRes hs (j : Int) id = hs.set j { x with l := putI x.l id } := by simp [psRes, hx]
theorem psRes_len (hs : List Nest) (rk id : Int) : (psRes hs rk id).length = hs.length := by
  unfold psRes
  split
  · simp
  · rfl
def RetHB (w : World) (ys : List Nest) (ok : Bool) (e : Ending) (w' : World) : Prop :=
  ∃ B d, e = .returned (.tuple #[.slice B ys.length d, .bool ok]) ∧ NlO w.heap.size w'.heap.size w' B ys ∧ Below w.heap.size w w'
theorem lsum_set {hs : List Nest} : ∀ {j : Nat} {x z : Nest}, hs[j]? = some x → lsum (hs.set j z) + x.l.length = lsum hs + z.l.length := by
  induction hs with
  | nil => intro j x z h; simp at h
  | cons y r ih =>
    intro j x z h
    rcases j with _ | j
    · simp at h
      subst h
      simp [lsum]
      omega
    · have := ih (j := j) (x := x) (z := z) (by simpa using h)
      simp only [List.set_cons_succ, lsum]
      omega
theorem ps_wt (xs : List Erratum) (hs : List Nest) (rk ri id : Int) : wt (sel (PsOk xs hs rk ri id) (psRes hs rk id)) ≤ 1048576 := by
  by_cases h : PsOk xs hs rk ri id
  · rw [sel_t h]
    have h1 := held_wt h.1
    obtain ⟨e, x, _, hx, _⟩ := h.2.2.2
    unfold psRes
    rw [hx]
    simp only
    have h2 := lsum_set (z := { x with l := putI x.l id }) hx
    have h3 := putI_len x.l id
    simp only at h2
    unfold wt at h1 ⊢
    rw [List.length_set]
    omega
  · rw [sel_f h]
    simp [wt, lsum]
theorem sort_one {l : List Int} {n : Int} (hl : Strict l) (h : n ∉ l) : (l ++ [n]).mergeSort leI = putI l n := by
  have := sort_put (ids := [n]) hl (by simp [Strict]) (fun a ha => by simp at ha; rw [ha]; exact h)
  rw [this]
  rfl
set_option maxHeartbeats 4000000 in
set_option maxRecDepth 100000 in
theorem putSlip_any (A : Option Addr) (c : Nat) (xs : List Erratum) (C : Option Addr) (cc : Nat) (hs : List Nest) (number id : Int) (w : World) (hne : xs.length ≤ 1048576) (hA : Fl Erratum.ints 5 w A xs) (hn : wt hs ≤ 1048576) (hC : Nl w C hs) :
    Calls Tryz.prog 6 #[.slice A xs.length c, .slice C hs.length cc, .int .i64 number, .int .i64 id] w (RetHB w (sel (PsOk xs hs (atH hs number) (atE xs id) id) (psRes hs (atH hs number) id)) (tb (PsOk xs hs (atH hs number) (atE xs id) id))) := by
  obtain ⟨i0, hi, hz0, hz1, hz2⟩ := info_parts infoInt
  have hare := fun W hX hY => areHeld_any A c xs C cc hs W hne hX hn hY
  have hin := fun x (hx : x ∈ hs) => Nat.le_trans (wt_in hx) hn
  have hn1 := Nat.le_trans (wt_len hs) hn
  have hak := heldAt_any C cc hs number w (by omega) (hC)
  have hai := fun W hX => erratumAt_any A c xs id W (by omega) hX
  have hpk := atH_p hs number
  have hpi := atE_p xs id
  rw [show idxB (fun x : Nest => decide (x.a = number)) 0 hs = atH hs number from rfl] at hak
  rw [show idxB (fun x : Erratum => decide (x.id = id)) 0 xs = atE xs id from rfl] at hai
  generalize atH hs number = rk at hak hpk ⊢
  generalize atE xs id = ri at hai hpi ⊢
  obtain ⟨m, hmm⟩ : ∃ m, m = List.length hs := ⟨_, rfl⟩
  obtain ⟨ne, hnn⟩ : ∃ n, n = List.length xs := ⟨_, rfl⟩
  rw [← hmm] at hn1 hare hak ⊢
  rw [← hnn] at hne hare hai ⊢
  have hM := Lib.hid hmm
  have hN := Lib.hid hnn
  have HAK := Lib.hid hak
  have HAI := Lib.hid hai
  have HPK := Lib.hid hpk
  have HPI := Lib.hid hpi
  clear hmm hnn hak hai hpk hpi
  by_cases h1 : HeldOk xs hs
  · have har : ∀ W, Fl Erratum.ints 5 W A xs → Nl W C hs → Calls Tryz.prog 30 #[.slice A ne c, .slice C m cc] W fun e w' => e = .returned (.bool true) ∧ Below W.heap.size W w' := fun W hX hY => by have h := hare W hX hY; rwa [tb_t h1] at h
    have HAR := Lib.hid har
    have H1 := Lib.hid h1
    clear hare har h1
    by_cases h2 : 0 ≤ rk
    · obtain ⟨j, y, rfl, hj⟩ := HPK.out h2
      have HJ := Lib.hid hj
      clear hj
      by_cases h3 : 0 ≤ ri
      · obtain ⟨i, e, rfl, he⟩ := HPI.out h3
        have HI := Lib.hid he
        clear he
        go_enter Tryz.func6, Tryz.ntmps6
        go_wp2_with fail
        refine (HAK.out).mono ?_
        rintro e u1 ⟨rfl, hu1⟩
        go_wp2_with fail
        refine (HAI.out u1 (hA.ext hu1)).mono ?_
        rintro e u2 ⟨rfl, hu2⟩
        have hU := ext_trans hu1 hu2
        have hA2 := hA.ext hU
        have hC2 := hC.ext hU
        have hpc := plus_cell u2
        obtain ⟨y', b, o, A', d, hx, hCe, hbx, hc, hfl⟩ := hC2.at_ (k := j) (lt_of_get HJ.out)
        subst hCe
        have hyy : y' = y := by have h := HJ.out; rw [hx] at h; cases h; rfl
        subst hyy
        have c0 : World.cell? u2 ⟨b, o + j * 4, none⟩ = some (.int .i64 y'.a) := hc.ca
        have c1 : World.cell? u2 ⟨b, o + j * 4 + 1, none⟩ = some (.int .i64 y'.b) := hc.cb
        have c2 : World.cell? u2 ⟨b, o + j * 4 + 2, none⟩ = some (.int .i64 y'.c) := hc.cc
        have c3 : World.cell? u2 ⟨b, o + j * 4 + 3, none⟩ = some (.slice A' y'.l.length d) := hc.cl
        have hxl : y'.l.length ≤ 1152921504606846976 := by have := hin y' (List.mem_of_getElem? hx); omega
        obtain ⟨be, oe, hAe, hbe, _⟩ := _root_.id hA2 (fun e' => by have h := HI.out; rw [e'] at h; simp at h)
        subst hAe
        have hce := hA2.get HI.out
        have e0 : World.cell? u2 ⟨be, oe + i * 5, none⟩ = some (.int .i64 e.id) := hce 0 _ rfl
        have e1 : World.cell? u2 ⟨be, oe + i * 5 + 1, none⟩ = some (.int .i64 e.sheet) := hce 1 _ rfl
        have e2 : World.cell? u2 ⟨be, oe + i * 5 + 2, none⟩ = some (.int .i64 e.frm) := hce 2 _ rfl
        have e3 : World.cell? u2 ⟨be, oe + i * 5 + 3, none⟩ = some (.int .i64 e.til) := hce 3 _ rfl
        have e4 : World.cell? u2 ⟨be, oe + i * 5 + 4, none⟩ = some (.int .i64 e.day) := hce 4 _ rfl
        have hj0 : (0 : Int) ≤ (j : Int) := by omega
        have hj1 : (j : Int) < (m : Int) := by have := lt_of_get hx; rw [← hM.out] at this; omega
        have hj4 : decide ((j : Int) < 0) = false := decide_eq_false (by omega)
        have hi0' : (0 : Int) ≤ (i : Int) := by omega
        have hi1' : (i : Int) < (ne : Int) := by have := lt_of_get HI.out; rw [← hN.out] at this; omega
        have hi4' : decide ((i : Int) < 0) = false := decide_eq_false (by omega)
        clear hx hc hce
        by_cases hcon : Con e y'
        · by_cases hhas : id ∈ y'.l
          · go_wp2_with fail
            refine wp_region_grow (by kernel_rfl) (by kernel_rfl) ?_
            repeat (go_big_quiet_step ((first | (go_at_call 30; exact quiet_below (HAR.out _ (hA2.ext (plus_below _ _)) (Nl.ext (hC2) (plus_below _ _)))) | (go_at_call 31; exact quiet_below (concerns_t e y' A' d _ hcon)) | (go_at_call 32; exact quiet_same (contains_t A' d y'.l id _ hxl (hfl.ext (plus_below _ _)) hhas)))))
            refine wpQuiet_nil ?_
            intro w1 hb1
            go_wp2
            go_ret2
            have hok : ¬ (PsOk xs hs (j : Int) (i : Int) id) := fun h => ((pairOk_ji HI.out HJ.out).1 h.2.2.2).2 hhas
            rw [sel_f hok, tb_f hok]
            exact ⟨none, 0, rfl, NlO.nil, ext_trans hU hb1⟩
          · go_wp2_with fail
            refine wp_region_grow (by kernel_rfl) (by kernel_rfl) ?_
            repeat (go_big_quiet_step ((first | (go_at_call 30; exact quiet_below (HAR.out _ (hA2.ext (plus_below _ _)) (Nl.ext (hC2) (plus_below _ _)))) | (go_at_call 31; exact quiet_below (concerns_t e y' A' d _ hcon)) | (go_at_call 32; exact quiet_same (contains_f A' d y'.l id _ hxl (hfl.ext (plus_below _ _)) hhas)))))
            refine wpQuiet_nil ?_
            intro w1 hb1
            have hHok : PsOk xs hs (j : Int) (i : Int) id := ⟨H1.out, by omega, by omega, (pairOk_ji HI.out HJ.out).2 ⟨hcon, hhas⟩⟩
            have HO := Lib.hid hHok
            have hbG : Below w.heap.size w w1 := ext_trans hU hb1
            have hso1 := sort_one ((H1.out.2.1 j y' HJ.out).2.2.2.1).strict hhas
            have HSO1 := Lib.hid hso1
            have hyl := hin y' (List.mem_of_getElem? HJ.out)
            have hcp := copyHeldI_any (some ⟨b, o, none⟩) cc hs w1 (Nat.le_trans hn (by decide)) (hC2.ext hb1)
            rw [← hM.out] at hcp
            have HCP := Lib.hid hcp
            clear hHok hcon hhas hso1 hcp c0 c1 c2 c3 e0 e1 e2 e3 e4 hpc
            go_wp2_with fail
            refine (HCP.out).mono ?_
            rintro e w3 ⟨v3, ys, rfl, hown3, hys3, hia3, hb3⟩
            have hyl3 : ys.length = m := by have h := congrArg List.length hys3; rwa [List.length_map, ← hM.out] at h
            obtain ⟨z, hz, hzx⟩ := map_get (by rw [hys3]; exact HJ.out : (ys.map GV.x)[j]? = some y')
            subst hzx
            obtain ⟨g, cp, hv, hgl, hgw, hgf, hgc, _⟩ := hown3.blockN (fun e => by rw [e] at hz; simp at hz)
            rw [hyl3] at hv
            subst hv
            have hcc := hgc j z hz
            obtain ⟨W4, hW4, hB4, hz4, _, _⟩ := box_world w3 #[Value.int .i64 id] 3
            have hbox : Fl one 1 W4 (some ⟨w3.heap.size, 0, none⟩) [id] := hW4 ▸ Fl.box (f := one) (e := 3) w3 id
            have c3 : World.cell? w3 ⟨g, j * 4 + 3, none⟩ = some (.slice z.A z.x.l.length z.d) := hcc.cl
            have f3 : World.cell? W4 ⟨g, j * 4 + 3, none⟩ = some (.slice z.A z.x.l.length z.d) := (hB4.cell (p := ⟨g, j * 4 + 3, none⟩) hgw).trans hcc.cl
            have ff : W4.frozen? ⟨g, j * 4 + 3, none⟩ = false := (hB4.frozen (p := ⟨g, j * 4 + 3, none⟩) hgw).trans (hgf _)
            have hgw4 : g < W4.heap.size := Nat.lt_of_lt_of_le hgw hB4.size
            have hown4 := hown3.ext hB4
            have hin4 := hown4.inn j z hz
            have HNR := Lib.hid (hown4.ne_row hz (by decide) z.x.l.length z.d)
            have HLO := Lib.hid (hin4.low z.x.l.length z.d)
            have hzw4 : w1.heap.size ≤ W4.heap.size := Nat.le_trans hb3.size hB4.size
            have hbw4 : Below w1.heap.size w1 W4 := ext_trans hb3 hB4
            have HYS := Lib.hid hys3
            have HZ := Lib.hid hz
            have HYL := Lib.hid hyl3
            have HIN4 := Lib.hid hin4
            have HOW4 := Lib.hid hown4
            have HBX := Lib.hid hbox
            clear hys3 hz hown3 hgf hgc hcc hown4 hin4 hyl3 hbox
            go_wp2_with (at_builtin; refine wpList_append_all_at (f := one) rfl _ _ _ rfl w1.heap.size i0 _ 1 8 Tryz.underlying31 hi hz0 hz1 hz2 rfl (by decide) (.slice z.A z.x.l.length z.d) z.x.l rfl HIN4.out (some ⟨w3.heap.size, 0, none⟩) 1 [id] rfl HBX.out (fun _ => rfl) ?_ (by decide) hzw4 ?_; (simp; omega); intro v5 w5 hown5 hg5 hb5 hat5; (obtain ⟨L, hL⟩ : ∃ L, L = z.x.l ++ [id] := ⟨_, rfl⟩); rw [← hL] at hown5; (obtain ⟨B7, d7, hv7, _⟩ := hown5.form one_length); subst hv7; have HL := Lib.hid hL; clear hL; have hgk : w5.heap[g]? = W4.heap[g]? := hg5.block g hgw4 HNR.out; have r3 : World.cell? w5 ⟨g, j * 4 + 3, none⟩ = some (.slice z.A z.x.l.length z.d) := (World.cell?_of_block (w := W4) (a := ⟨g, j * 4 + 3, none⟩) hgk).trans f3; have rf : w5.frozen? ⟨g, j * 4 + 3, none⟩ = false := (World.frozen?_of_block (w := W4) (a := ⟨g, j * 4 + 3, none⟩) hgk).trans ff; (obtain ⟨W6, hW6⟩ : ∃ W6, w5.setCell ⟨g, j * 4 + 3, none⟩ (.slice B7 L.length d7) = W6 := ⟨_, rfl⟩); have hst6 := HOW4.out.setTail (W := w5) (l := L) (B := B7) (d := d7) (g := g) (c := cp) hia3 HZ.out (by decide) (by rw [HYL.out]) hg5 hown5 (base_at hown5 HIN4.out hat5); rw [hW6] at hst6; have r6 : World.cell? W6 ⟨g, j * 4 + 3, none⟩ = some (.slice B7 L.length d7) := (hW6 ▸ World.cell?_setCell_same w5 _ _ r3); have HST := Lib.hid hst6; clear hst6 hgk f3 ff hown5)
            have hL2 : L.length ≤ 16777216 := by rw [HL.out, List.length_append]; simp; omega
            have hbw5 : Below w1.heap.size w1 w5 := hbw4.grown hg5 hzw4 HLO.out
            have hbw6 : Below w1.heap.size w1 W6 := hbw5.grown HST.out.2.2 hbw5.size (fun q hq => by injection hq with hq; omega)
            have hy6 : (ys.set j (z.put L B7 d7))[j]? = some (z.put L B7 d7) := by rw [List.getElem?_set_self (lt_of_get HZ.out)]
            have HSO := Lib.hid (sortOwn_any w1.heap.size (.slice B7 L.length d7) L W6 hL2 hbw6.size (HST.out.1.inn j _ hy6))
            have HY6 := Lib.hid hy6
            have HLO6 := Lib.hid ((HST.out.1.inn j _ hy6).low L.length d7)
            clear hy6 hg5
            try clear hW6
            go_wp2_with fail
            refine (HSO.out).mono ?_
            rintro e w7 ⟨rfl, hown7, hg7, hb7⟩
            have hl7 : (L.mergeSort leI).length = L.length := List.length_mergeSort L
            have hown7' : OwnF one 1 w1.heap.size 3 w7 (.slice B7 (L.mergeSort leI).length d7) (L.mergeSort leI) := by rw [hl7]; exact hown7
            have ht7 := HST.out.1.turned HST.out.2.1 HY6.out (by decide) (n := L.length) (m := d7) hg7 hown7' hl7
            obtain ⟨A8, c8, hv8, _, _, hG8⟩ := ht7.1.full (fun _ => rfl) (by decide)
            have hm8 : ((ys.set j (z.put L B7 d7)).set j ((z.put L B7 d7).put (L.mergeSort leI) (z.put L B7 d7).A (z.put L B7 d7).d)).map GV.x = psRes hs (j : Int) id := by
              rw [List.set_set, List.map_set, HYS.out, psRes_j HJ.out, HL.out, ← HSO1.out]
              rfl
            rw [hm8] at hv8 hG8
            injection hv8 with e1 e2 e3
            have hbw7 := ext_trans hbG (hbw6.grown hg7 hbw6.size HLO6.out)
            have HG8 := Lib.hid hG8
            have HE1 := Lib.hid e1
            have HE2 := Lib.hid e2
            clear hown7 hown7' ht7 hl7 hm8 hG8 e1 e2 e3
            go_wp2
            go_ret2
            rw [sel_t HO.out, tb_t HO.out]
            exact ⟨A8, _, by rw [← HE1.out, ← HE2.out]; rfl, HG8.out.n.mono hbG.size (Nat.le_refl _), hbw7⟩
        · go_wp2_with fail
          refine wp_region_grow (by kernel_rfl) (by kernel_rfl) ?_
          repeat (go_big_quiet_step ((first | (go_at_call 30; exact quiet_below (HAR.out _ (hA2.ext (plus_below _ _)) (Nl.ext (hC2) (plus_below _ _)))) | (go_at_call 31; exact quiet_below (concerns_f e y' A' d _ hcon)))))
          refine wpQuiet_nil ?_
          intro w1 hb1
          go_wp2
          go_ret2
          have hok : ¬ (PsOk xs hs (j : Int) (i : Int) id) := fun h => hcon ((pairOk_ji HI.out HJ.out).1 h.2.2.2).1
          rw [sel_f hok, tb_f hok]
          exact ⟨none, 0, rfl, NlO.nil, ext_trans hU hb1⟩
      · have h3' : decide (ri < 0) = true := decide_eq_true (by omega)
        have hjn : decide ((j : Int) < 0) = false := decide_eq_false (by omega)
        go_enter Tryz.func6, Tryz.ntmps6
        go_wp2_with fail
        refine (HAK.out).mono ?_
        rintro e u1 ⟨rfl, hu1⟩
        go_wp2_with fail
        refine (HAI.out u1 (hA.ext hu1)).mono ?_
        rintro e u2 ⟨rfl, hu2⟩
        have hU := ext_trans hu1 hu2
        have hA2 := hA.ext hU
        have hC2 := hC.ext hU
        have hpc := plus_cell u2
        go_wp2_with fail
        refine wp_region_grow (by kernel_rfl) (by kernel_rfl) ?_
        repeat (go_big_quiet_step ((first | (go_at_call 30; exact quiet_below (HAR.out _ (hA2.ext (plus_below _ _)) (Nl.ext (hC2) (plus_below _ _)))))))
        refine wpQuiet_nil ?_
        intro w1 hb1
        go_wp2
        go_ret2
        have hok : ¬ (PsOk xs hs (j : Int) ri id) := fun h => by have := h.2.2.1; omega
        rw [sel_f hok, tb_f hok]
        exact ⟨none, 0, rfl, NlO.nil, ext_trans hU hb1⟩
    · have h2' : decide (rk < 0) = true := decide_eq_true (by omega)
      go_enter Tryz.func6, Tryz.ntmps6
      go_wp2_with fail
      refine (HAK.out).mono ?_
      rintro e u1 ⟨rfl, hu1⟩
      go_wp2_with fail
      refine (HAI.out u1 (hA.ext hu1)).mono ?_
      rintro e u2 ⟨rfl, hu2⟩
      have hU := ext_trans hu1 hu2
      have hA2 := hA.ext hU
      have hC2 := hC.ext hU
      have hpc := plus_cell u2
      go_wp2_with fail
      refine wp_region_grow (by kernel_rfl) (by kernel_rfl) ?_
      repeat (go_big_quiet_step ((first | (go_at_call 30; exact quiet_below (HAR.out _ (hA2.ext (plus_below _ _)) (Nl.ext (hC2) (plus_below _ _)))))))
      refine wpQuiet_nil ?_
      intro w1 hb1
      go_wp2
      go_ret2
      have hok : ¬ (PsOk xs hs rk ri id) := fun h => by have := h.2.1; omega
      rw [sel_f hok, tb_f hok]
      exact ⟨none, 0, rfl, NlO.nil, ext_trans hU hb1⟩
  · have har : ∀ W, Fl Erratum.ints 5 W A xs → Nl W C hs → Calls Tryz.prog 30 #[.slice A ne c, .slice C m cc] W fun e w' => e = .returned (.bool false) ∧ Below W.heap.size W w' := fun W hX hY => by have h := hare W hX hY; rwa [tb_f h1] at h
    have HAR := Lib.hid har
    have H1 := Lib.hid h1
    clear hare har h1
    go_enter Tryz.func6, Tryz.ntmps6
    go_wp2_with fail
    refine (HAK.out).mono ?_
    rintro e u1 ⟨rfl, hu1⟩
    go_wp2_with fail
    refine (HAI.out u1 (hA.ext hu1)).mono ?_
    rintro e u2 ⟨rfl, hu2⟩
    have hU := ext_trans hu1 hu2
    have hA2 := hA.ext hU
    have hC2 := hC.ext hU
    have hpc := plus_cell u2
    go_wp2_with fail
    refine wp_region_grow (by kernel_rfl) (by kernel_rfl) ?_
    repeat (go_big_quiet_step ((first | (go_at_call 30; exact quiet_below (HAR.out _ (hA2.ext (plus_below _ _)) (Nl.ext (hC2) (plus_below _ _)))))))
    refine wpQuiet_nil ?_
    intro w1 hb1
    go_wp2
    go_ret2
    have hok : ¬ (PsOk xs hs rk ri id) := fun h => H1.out h.1
    rw [sel_f hok, tb_f hok]
    exact ⟨none, 0, rfl, NlO.nil, ext_trans hU hb1⟩
end Go.Proofs.YtbnlbcbdhmmlgaaGreatDoor
