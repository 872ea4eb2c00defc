/- An erratum taken out, and its slip out of all copies: the words, and the program's side. -/
import Derived.Test.YtbnlbcbdhmmlgaaGreatDoorForW
import Derived.Test.YtbnlbcbdhmmlgaaGreatDoorMgE
import Derived.Test.YtbnlbcbdhmmlgaaGreatDoorMgI
namespace Go.Proofs.YtbnlbcbdhmmlgaaGreatDoor
open Go.RowKit
set_option linter.unusedVariables false
set_option linter.unusedSimpArgs false

def delH (id : Int) (x : Nest) : Nest := { x with l := noV id x.l }
theorem delH_len (id : Int) (x : Nest) : (delH id x).l.length ≤ x.l.length + 0 := noV_len id x.l
def dropAt (xs : List Erratum) (r : Int) : List Erratum := xs.take r.toNat ++ xs.drop (r.toNat + 1)
theorem dropAt_len (xs : List Erratum) (r : Int) : (dropAt xs r).length ≤ xs.length := by unfold dropAt; rw [List.length_append, List.length_take, List.length_drop]; omega
theorem dropAt_j (xs : List Erratum) (j : Nat) : dropAt xs (j : Int) = xs.take j ++ xs.drop (j + 1) := rfl
theorem wd_wt (P : Prop) (hs : List Nest) (id : Int) (hn : wt hs ≤ 1048576) : wt (sel P (hs.map (delH id))) ≤ 1048576 := by
  by_cases h : P
  · rw [sel_t h]
    have h1 := updTo_wt (f := delH id) (hs := hs) 0 hs.length (fun y _ => delH_len id y)
    rw [updTo_all (Nat.le_refl _)] at h1
    omega
  · rw [sel_f h]
    simp [wt, lsum]
def RetWd (w : World) (es : List Erratum) (hs : List Nest) (ok : Bool) (e : Ending) (w' : World) : Prop :=
  ∃ B d C d' mid, e = .returned (.tuple #[.slice B es.length d, .slice C hs.length d', .bool ok]) ∧ w.heap.size ≤ mid ∧ mid ≤ w'.heap.size ∧ FlO Erratum.ints 5 mid w'.heap.size w' B es ∧ NlO w.heap.size mid w' C hs ∧ Below w.heap.size w w'
set_option maxHeartbeats 4000000 in
set_option maxRecDepth 100000 in
theorem withdraw_any (A : Option Addr) (c : Nat) (xs : List Erratum) (C : Option Addr) (cc : Nat) (hs : List Nest) (id : Int) (w : World) (hne : xs.length ≤ 1048576) (hA : Fl Erratum.ints 5 w A xs) (hn : wt hs ≤ 1048576) (hC : Nl w C hs) (hcap : xs.length ≤ c) (hcm : c ≤ 9223372036854775807) :
    Calls Tryz.prog 12 #[.slice A xs.length c, .slice C hs.length cc, .int .i64 id] w (RetWd w (sel (FoOk xs hs (atE xs id)) (dropAt xs (atE xs id))) (sel (FoOk xs hs (atE xs id)) (hs.map (delH id))) (tb (FoOk xs hs (atE xs id)))) := by
  obtain ⟨W0, hW0, hB0, hy0, hv0, _⟩ := box_world w #[Value.int .i64 id] 3
  have hmf : ∀ (fn : Fn) (first cap : Array Value) (w : World), (Instr.makeFunc fn first cap).run Tryz.prog w = .ok (.func fn first cap) w := fun _ _ _ _ => rfl
  have k0 : World.cell? W0 ⟨w.heap.size, 0, none⟩ = some (.int .i64 id) := hv0 0
  have hat := erratumAt_any A c xs id W0 (by omega) (hA.ext hB0)
  have hare := fun W hX hY => areHeld_any A c xs C cc hs W hne hX hn hY
  have hcp := fun W hY => copyHeldI_any C cc hs W (Nat.le_trans hn (by decide)) hY
  have hin := fun x (hx : x ∈ hs) => Nat.le_trans (wt_in hx) hn
  have hn1 := Nat.le_trans (wt_len hs) hn
  have hp := atE_p xs id
  have hnl := fun (j : Nat) (e : Erratum) (h : xs[j]? = some e) => lt_of_get h
  rw [show idxB (fun x : Erratum => decide (x.id = id)) 0 xs = atE xs id from rfl] at hat
  generalize atE xs id = r at hat hp ⊢
  obtain ⟨m, hmm⟩ : ∃ m, m = List.length hs := ⟨_, rfl⟩
  obtain ⟨ne, hnn⟩ : ∃ n, n = List.length xs := ⟨_, rfl⟩
  rw [← hmm] at hn1 hare hcp ⊢
  rw [← hnn] at hne hare hat hnl hcap ⊢
  have hM := Lib.hid hmm
  have hN := Lib.hid hnn
  have HA := Lib.hid hare
  have HAT := Lib.hid hat
  have HP := Lib.hid hp
  have HCP := Lib.hid hcp
  have HNL := Lib.hid hnl
  clear hmm hnn hare hat hp hcp hnl
  go_enter Tryz.func12, Tryz.ntmps12
  go_wp2_with fail
  refine (HAT.out).mono ?_
  rintro e w0 ⟨rfl, hb0⟩
  have hb00 := ext_trans hB0 hb0
  go_wp2_with fail
  refine (HA.out _ (hA.ext hb00) (hC.ext hb00)).mono ?_
  rintro e w1 ⟨rfl, hb1⟩
  by_cases h1 : HeldOk xs hs
  · rw [tb_t h1]
    have H1 := Lib.hid h1
    clear h1
    by_cases h2 : 0 ≤ r
    · obtain ⟨j, y0, rfl, hj⟩ := HP.out h2
      have HJ := Lib.hid hj
      have hjn := HNL.out j y0 hj
      clear hj
      have HO : Hid (FoOk xs hs (j : Int)) := ⟨H1.out, h2⟩
      go_wp2_with fail
      refine (HCP.out _ (hC.ext (ext_trans hb00 hb1))).mono ?_
      rintro e w3 ⟨v3, ys, rfl, hown3, hys3, hia3, hb3⟩
      have hyl3 : ys.length = m := by have h := congrArg List.length hys3; rwa [List.length_map, ← hM.out] at h
      obtain ⟨A5, c5, hv3, _, _⟩ := hown3.caps
      rw [hyl3] at hv3
      subst hv3
      have k1 : World.cell? w1 ⟨w.heap.size, 0, none⟩ = some (.int .i64 id) := ((ext_trans hb0 hb1).cell (p := ⟨w.heap.size, 0, none⟩) hy0).trans k0
      have hzw1 : w.heap.size < w1.heap.size := Nat.lt_of_lt_of_le hy0 (ext_trans hb0 hb1).size
      have HYS := Lib.hid hys3
      have hbG : Below w.heap.size w w1 := (ext_trans hb00 hb1)
      clear hys3 k0 hyl3
      go_wp2
      go_loopw [27] (fun i wr => ∃ (k : Nat) (zs : List (GV Nest)), k ≤ m ∧ i = .int .i64 k ∧ Below w1.heap.size w1 wr ∧ OwnG hdN Nest.l 3 w1.heap.size 41 3 wr (.slice A5 m c5) zs ∧ InjA zs ∧ Hid (zs.map GV.x = updTo (delH id) hs k)) (fun i _ => m - (intOf i).toNat)
      case atStart => exact ⟨0, ys, by omega, rfl, hb3, hown3, hia3, by unfold Hid; rw [updTo_zero]; exact HYS.out⟩
      case round =>
        clear hown3 hia3
        obtain ⟨k, zs, hk, rfl, hbr, hown, hia, hzs⟩ := hrel
        have hzr := hbr.size
        have hzl : zs.length = m := by have h := congrArg List.length hzs.out; rwa [List.length_map, updTo_len, ← hM.out] at h
        have HZL := Lib.hid hzl
        clear hzl
        by_cases hlt : k < m
        · obtain ⟨x, hx⟩ : ∃ x, hs[k]? = some x := ⟨_, List.getElem?_eq_getElem (by rw [← hM.out]; exact hlt)⟩
          obtain ⟨y, hy, hyx⟩ := map_get (by rw [hzs.out]; exact updTo_get hx : (zs.map GV.x)[k]? = some x)
          subst hyx
          obtain ⟨g, cp, hv, hgl, hgw, hgf, hgc, _⟩ := hown.blockN (fun e => by rw [e] at hy; simp at hy)
          rw [HZL.out] at hv
          injection hv with e1 _ e3
          subst e1 e3
          have hc := hgc k y hy
          have c0 : World.cell? wr ⟨g, k * 4, none⟩ = some (.int .i64 y.x.a) := hc.ca
          have c1 : World.cell? wr ⟨g, k * 4 + 1, none⟩ = some (.int .i64 y.x.b) := hc.cb
          have c2 : World.cell? wr ⟨g, k * 4 + 2, none⟩ = some (.int .i64 y.x.c) := hc.cc
          have c3 : World.cell? wr ⟨g, k * 4 + 3, none⟩ = some (.slice y.A y.x.l.length y.d) := hc.cl
          have hyl : y.x.l.length ≤ 16777216 := by have := hin y.x (List.mem_of_getElem? hx); omega
          have kr : World.cell? wr ⟨w.heap.size, 0, none⟩ = some (.int .i64 id) := (hbr.cell (p := ⟨w.heap.size, 0, none⟩) hzw1).trans k1
          have hde := deleteI_any id w.heap.size w1.heap.size y.A y.d y.x.l wr hyl hzr (hown.inn k y hy) hzw1 kr
          have hnr := hown.ne_row hy (by decide) 0 0
          have hlow := (hown.inn k y hy).low 0 0
          have HD := Lib.hid hde
          have HY := Lib.hid hy
          have HX := Lib.hid hx
          have HOW := Lib.hid hown
          have HNR := Lib.hid hnr
          have HLO := Lib.hid hlow
          clear hc hgc hx hy hown hde hnr hlow
          have hk0 : (0 : Int) ≤ (k : Int) := by omega
          have hk1 : (k : Int) < (m : Int) := by omega
          go_wp2_with fail
          refine (HD.out).mono ?_
          rintro e w4 ⟨rfl, hF4, hg4⟩
          have hgk : w4.heap[g]? = wr.heap[g]? := hg4.block g hgw HNR.out
          have r3 : World.cell? w4 ⟨g, k * 4 + 3, none⟩ = some (.slice y.A y.x.l.length y.d) := (World.cell?_of_block (w := wr) (a := ⟨g, k * 4 + 3, none⟩) hgk).trans c3
          have rf : w4.frozen? ⟨g, k * 4 + 3, none⟩ = false := (World.frozen?_of_block (w := wr) (a := ⟨g, k * 4 + 3, none⟩) hgk).trans (hgf _)
          have HST := Lib.hid (HOW.out.setTail (W := w4) (l := noV id y.x.l) (B := y.A) (d := y.d) (g := g) (c := c5) hia HY.out (by decide) (by rw [HZL.out]) hg4 hF4 (.inl rfl))
          have hbw4 : Below w1.heap.size w1 w4 := hbr.grown hg4 hzr HLO.out
          clear hgk hF4 hg4 c0 c1 c2 c3
          go_wp2
          go_roundw
          case rel => exact ⟨k + 1, _, by omega, by go_num, hbw4.grown HST.out.2.2 hbw4.size (fun q hq => by injection hq with hq; omega), HST.out.1, HST.out.2.1, by unfold Hid; rw [map_put HY.out, hzs.out]; exact updTo_step HX.out⟩
          case measure => simp [intOf]; omega
        · have hkn : k = m := by omega
          subst hkn
          have hz := hzs.out
          rw [updTo_all (by rw [← hM.out]; exact Nat.le_refl _)] at hz
          obtain ⟨A6, c6, hv6, _, _, hG6⟩ := hown.full (fun _ => rfl) (by decide)
          rw [hz] at hv6 hG6
          injection hv6 with e1 _ e3
          subst e1 e3
          have hN6 : NlO w.heap.size wr.heap.size wr A5 (hs.map (delH id)) := hG6.n.mono hbG.size (Nat.le_refl _)
          have hbw : Below w.heap.size w wr := ext_trans hbG hbr
          clear hz hG6 hown hia
          have HT1 : Hid ((xs.take j).length = j) := by unfold Hid; rw [List.length_take]; have := hN.out; omega
          have HT2 : Hid ((xs.drop (j + 1)).length = ne - (j + 1)) := by unfold Hid; rw [List.length_drop]; have := hN.out; omega
          have hXA := hA.ext hbw
          obtain ⟨be, oe, hAe, hbe, _⟩ := _root_.id hXA (fun e' => by have h := HJ.out; rw [e'] at h; simp at h)
          subst hAe
          have hwr : IntKind.i64.wrap ((j : Int) + 1) = (j : Int) + 1 := IntWalk.i64_in _ (by omega)
          have hj0 : (0 : Int) ≤ (j : Int) := by omega
          have hj4 : ¬ (j : Int) < 0 := by omega
          have hj1 : (j : Int) ≤ (c : Int) := by omega
          have hj2 : (0 : Int) ≤ (j : Int) + 1 := by omega
          have hj3 : (j : Int) + 1 ≤ (ne : Int) := by omega
          have hj5 : (ne : Int) ≤ (c : Int) := by omega
          have hj6 : (j : Int) + 1 ≤ (c : Int) := by omega
          by_cases hcj : c = j + 1
          · have hnj : ne = j + 1 := by omega
            have hdn : xs.drop (j + 1) = [] := drop_all (by rw [← hN.out]; omega)
            subst hcj hnj
            have HT2 : Hid ((xs.drop (j + 1)).length = 0) := by unfold Hid; rw [hdn]; rfl
            have hj7 : (j : Int) ≤ (j : Int) + 1 := by omega
            go_wp2_with fail
            go_region_held3 (fun w' => Below (World.heap wr).size wr w' ∧ ∀ b o, b < (World.heap wr).size → w'.cell? ⟨b, o, none⟩ = World.cell? wr ⟨b, o, none⟩) (first | exact cls_of (ext_drew _) | exact cls_of (ext_trans (ext_alloc _ _) (ext_drew _)) | exact cls_alloc (by assumption) _ | exact cls_of hx5 | exact cls_grow (by assumption) hb5') ((first | (go_at_call 47; refine (concatErratum_any (World.heap wr).size (some ⟨be, oe, none⟩) ((j + 1)) j (xs.take j) (some ⟨be, oe, none⟩) (0) (0) (xs.drop (j + 1)) _ HT1.out.symm HT2.out.symm ?_ ?_ ?_ ?_ ?_ ?_).mono ?_; (first | exact alloc_drew_lt _ _ | go_loud (fail "A")); (first | omega | go_loud (fail "B")); (first | exact alloc_drew_cell _ _ _ 0 | go_loud (fail "C")); (first | exact alloc_drew_cell _ _ _ 1 | go_loud (fail "D")); (first | exact (hXA.ext (ext_trans (ext_alloc wr _) (ext_drew _))).takeK j | go_loud (fail "E")); (first | exact (by rw [hdn]; exact Fl.nil) | go_loud (fail "F")); rintro e w5 ⟨v5, rfl, hown5, hb5⟩; have hx5 : Below (World.heap wr).size wr w5 := ext_trans (ext_trans (ext_alloc wr _) (ext_drew _)) hb5; have hb5' : Below (World.heap wr).size _ w5 := hb5.mono (by simp); have hown5 := OwnF.from_ (lo' := (World.heap wr).size) hown5 (by simp))))
            all_goals
              go_wp2
              go_ret3
              obtain ⟨B5, d5, hv5, hF5⟩ := hown5.form (fun _ => rfl)
              rw [sel_t HO.out, sel_t HO.out, tb_t HO.out, dropAt_j]
              refine ⟨B5, d5, A5, c5, (World.heap wr).size, ?_, (hbw).size, hx5.size, hF5, hN6.ext hx5, ext_trans hbw hx5⟩
              rw [hv5, List.length_map]
              first | rfl | (rw [← hM.out]; rfl) | (rw [hM.out]; rfl)
          · have hdK := hXA.dropK (j + 1)
            go_wp2_with fail
            go_region_held3 (fun w' => Below (World.heap wr).size wr w' ∧ ∀ b o, b < (World.heap wr).size → w'.cell? ⟨b, o, none⟩ = World.cell? wr ⟨b, o, none⟩) (first | exact cls_of (ext_drew _) | exact cls_of (ext_trans (ext_alloc _ _) (ext_drew _)) | exact cls_alloc (by assumption) _ | exact cls_of hx5 | exact cls_grow (by assumption) hb5') ((first | (go_at_call 47; refine (concatErratum_any (World.heap wr).size (some ⟨be, oe, none⟩) (c) j (xs.take j) (some ⟨be, oe + (j + 1) * 5, none⟩) (c - (j + 1)) (ne - (j + 1)) (xs.drop (j + 1)) _ HT1.out.symm HT2.out.symm ?_ ?_ ?_ ?_ ?_ ?_).mono ?_; (first | exact alloc_drew_lt _ _ | go_loud (fail "A")); (first | omega | go_loud (fail "B")); (first | exact alloc_drew_cell _ _ _ 0 | go_loud (fail "C")); (first | exact alloc_drew_cell _ _ _ 1 | go_loud (fail "D")); (first | exact (hXA.ext (ext_trans (ext_alloc wr _) (ext_drew _))).takeK j | go_loud (fail "E")); (first | exact (hdK.ext (ext_trans (ext_alloc wr _) (ext_drew _))) | go_loud (fail "F")); rintro e w5 ⟨v5, rfl, hown5, hb5⟩; have hx5 : Below (World.heap wr).size wr w5 := ext_trans (ext_trans (ext_alloc wr _) (ext_drew _)) hb5; have hb5' : Below (World.heap wr).size _ w5 := hb5.mono (by simp); have hown5 := OwnF.from_ (lo' := (World.heap wr).size) hown5 (by simp))))
            all_goals
              go_wp2
              go_ret3
              obtain ⟨B5, d5, hv5, hF5⟩ := hown5.form (fun _ => rfl)
              rw [sel_t HO.out, sel_t HO.out, tb_t HO.out, dropAt_j]
              refine ⟨B5, d5, A5, c5, (World.heap wr).size, ?_, (hbw).size, hx5.size, hF5, hN6.ext hx5, ext_trans hbw hx5⟩
              rw [hv5, List.length_map]
              first | rfl | (rw [← hM.out]; rfl) | (rw [hM.out]; rfl)
    · have hrlt : r < 0 := by omega
      go_wp2
      go_ret3
      have hok : ¬ (FoOk xs hs r) := fun h => (fun (q : 0 ≤ r) => (by omega : False)) h.2
      rw [sel_f hok, sel_f hok, tb_f hok]
      exact ⟨none, 0, none, 0, w.heap.size, rfl, Nat.le_refl _, ((ext_trans hb00 hb1)).size, FlO.nil, NlO.nil, (ext_trans hb00 hb1)⟩
  · rw [tb_f h1]
    have H1 := Lib.hid h1
    clear h1
    go_wp2
    go_ret3
    have hok : ¬ (FoOk xs hs r) := fun h => H1.out h.1
    rw [sel_f hok, sel_f hok, tb_f hok]
    exact ⟨none, 0, none, 0, w.heap.size, rfl, Nat.le_refl _, ((ext_trans hb00 hb1)).size, FlO.nil, NlO.nil, (ext_trans hb00 hb1)⟩
end Go.Proofs.YtbnlbcbdhmmlgaaGreatDoor
