/- The copies that need a slip: CopiesFor on both sides. -/
import Derived.Test.YtbnlbcbdhmmlgaaGreatDoorMgB
import Derived.Test.YtbnlbcbdhmmlgaaGreatDoorCopW
namespace Go.Proofs.YtbnlbcbdhmmlgaaGreatDoor
open Go.RowKit
set_option linter.unusedVariables false
set_option linter.unusedSimpArgs false

def atE (xs : List Erratum) (id : Int) : Int := idxB (fun x => decide (x.id = id)) 0 xs
theorem atE_p (xs : List Erratum) (id : Int) (h : 0 ≤ atE xs id) : ∃ (j : Nat) (y : Erratum), atE xs id = (j : Int) ∧ xs[j]? = some y := by
  rcases idxB_p (fun x : Erratum => decide (x.id = id)) xs 0 with ⟨h4, _⟩ | ⟨j', e', h4, h5, h6⟩
  · unfold atE at h; omega
  · exact ⟨j', e', by unfold atE; omega, h5⟩
def Need (e : Erratum) (id : Int) (x : Nest) : Prop := Con e x ∧ id ∉ x.l
def needAt (xs : List Erratum) (r id : Int) : Nest → Prop := match xs[r.toNat]? with | some e => Need e id | none => fun _ => False
theorem needAt_j {xs : List Erratum} {j : Nat} {id : Int} {e : Erratum} (h : xs[j]? = some e) : needAt xs (j : Int) id = Need e id := by simp [needAt, h]
def FoOk (xs : List Erratum) (hs : List Nest) (r : Int) : Prop := HeldOk xs hs ∧ 0 ≤ r
set_option maxHeartbeats 1000000 in
set_option maxRecDepth 100000 in
theorem copiesF_any (A : Option Addr) (c : Nat) (hs : List Nest) (P : Nest → Prop) (b1 b2 b3 : Nat) (w : World) (hn : wt hs ≤ 1048576) (hA : Nl w A hs)
    (hcall : ∀ (W : World) (x : Nest) (A' : Option Addr) (d : Nat), Below w.heap.size w W → x ∈ hs → Fl one 1 W A' x.l → Calls Tryz.prog 43 #[.agg #[.int .i64 x.a, .int .i64 x.b, .int .i64 x.c, .slice A' x.l.length d], .pointer (some ⟨b1, 0, none⟩), .pointer (some ⟨b2, 0, none⟩), .pointer (some ⟨b3, 0, none⟩)] W fun e w' => e = .returned (.bool (tb (P x))) ∧ Below W.heap.size W w') :
    Calls Tryz.prog 42 #[.slice A hs.length c, .func (.func 43) #[] #[.pointer (some ⟨b1, 0, none⟩), .pointer (some ⟨b2, 0, none⟩), .pointer (some ⟨b3, 0, none⟩)]] w (RetI w (cw P hs)) := by
  obtain ⟨i0, hi, hz0, hz1, hz2⟩ := info_parts infoInt
  have hn1 := Nat.le_trans (wt_len hs) hn
  obtain ⟨n, hnn⟩ : ∃ n, n = List.length hs := ⟨_, rfl⟩
  rw [← hnn] at hn1 ⊢
  have hN := Lib.hid hnn
  have HC := Lib.hid hcall
  clear hnn hcall
  go_enter Tryz.func42, Tryz.ntmps42
  go_wp2
  go_loopw [5, 10] (fun v i wr => ∃ k : Nat, k ≤ n ∧ i = .int .i64 k ∧ Below w.heap.size w wr ∧ OwnF one 1 w.heap.size 3 wr v (cw P (hs.take k))) (fun _ i _ => n - (intOf i).toNat)
  case atStart => exact ⟨0, by omega, rfl, Below.refl _ _, OwnF.none_⟩
  case round =>
    obtain ⟨k, hk, rfl, hbr, hown⟩ := hrel
    have hzr := hbr.size
    by_cases hlt : k < n
    · obtain ⟨x, b, o, A', d, hx, rfl, hb, hc, hfl⟩ := (hA.ext hbr).at_ (k := k) (by rw [← hN.out]; exact hlt)
      have c0 : World.cell? wr ⟨b, o + k * 4, none⟩ = some (.int .i64 x.a) := hc.ca
      have c1 : World.cell? wr ⟨b, o + k * 4 + 1, none⟩ = some (.int .i64 x.b) := hc.cb
      have c2 : World.cell? wr ⟨b, o + k * 4 + 2, none⟩ = some (.int .i64 x.c) := hc.cc
      have c3 : World.cell? wr ⟨b, o + k * 4 + 3, none⟩ = some (.slice A' x.l.length d) := hc.cl
      have hlen : (cw P (hs.take k)).length ≤ 1048576 := Nat.le_trans (cw_len _ _) (by rw [List.length_take]; omega)
      have HT := Lib.hid (take_get hx)
      have hmem := List.mem_of_getElem? hx
      obtain ⟨W0, hW0, hB0, hz0', hg, _⟩ := box_world wr #[Value.int .i64 x.a, .int .i64 x.b, .int .i64 x.c, .slice A' x.l.length d] 41
      have g0 : World.cell? W0 ⟨wr.heap.size, 0, none⟩ = some (.int .i64 x.a) := hg 0
      have g1 : World.cell? W0 ⟨wr.heap.size, 1, none⟩ = some (.int .i64 x.b) := hg 1
      have g2 : World.cell? W0 ⟨wr.heap.size, 2, none⟩ = some (.int .i64 x.c) := hg 2
      have g3 : World.cell? W0 ⟨wr.heap.size, 3, none⟩ = some (.slice A' x.l.length d) := hg 3
      have hown0 := hown.ext hB0
      have hbW := ext_trans hbr hB0
      have hcl := HC.out W0 x A' d hbW hmem (hfl.ext hB0)
      have HCL := Lib.hid hcl
      clear hc hg hx hcl hmem
      have hk0 : (0 : Int) ≤ (k : Int) := by omega
      have hk1 : (k : Int) < (n : Int) := by omega
      go_wp2_with fail
      refine (HCL.out).mono ?_
      rintro e w1 ⟨rfl, hb1⟩
      have r0 : World.cell? w1 ⟨wr.heap.size, 0, none⟩ = some (.int .i64 x.a) := (hb1.cell (p := ⟨wr.heap.size, 0, none⟩) hz0').trans g0
      have hownA := hown0.ext hb1
      have hbA := ext_trans hbW hb1
      clear g0 g1 g2 g3
      by_cases hP : P x
      · rw [tb_t hP]
        have HP := Lib.hid hP
        clear hP
        go_wp2_with (at_builtin; refine wpList_append_flat (f := one) (y := x.a) rfl _ _ _ rfl w.heap.size i0 _ 1 8 Tryz.underlying31 hi hz0 hz1 hz2 rfl (by decide) _ _ rfl rfl hownA rfl ?_ (by decide) ?_ ?_; omega; exact hbA.size; intro v' w3 hown3 hg3 hb3)
        go_roundw
        case rel => exact ⟨k + 1, by omega, by go_num, hbA.trans hb3, by rw [HT.out, cw_t HP.out]; exact hown3⟩
        case measure => simp [intOf]; omega
      · rw [tb_f hP]
        have HP := Lib.hid hP
        clear hP
        go_wp2
        go_roundw
        case rel => exact ⟨k + 1, by omega, by go_num, hbA, by rw [HT.out, cw_f HP.out]; exact hownA⟩
        case measure => simp [intOf]; omega
    · have hkn : k = n := by omega
      subst hkn
      rw [take_all (by rw [← hN.out]; exact Nat.le_refl _)] at hown
      go_wp2
      go_ret
      obtain ⟨B2, d2, hv, hF⟩ := hown.form one_length
      exact ⟨B2, d2, by rw [hv]; rfl, hF, hbr⟩
set_option maxHeartbeats 2000000 in
set_option maxRecDepth 100000 in
theorem forC_any (A : Option Addr) (c : Nat) (xs : List Erratum) (e : Erratum) (j : Nat) (he : xs[j]? = some e) (x : Nest) (A' : Option Addr) (d : Nat) (id : Int) (b1 b2 b3 : Nat) (w : World) (hn : xs.length ≤ 1048576) (hxl : x.l.length ≤ 1152921504606846976) (hA : Fl Erratum.ints 5 w A xs) (hF : Fl one 1 w A' x.l)
    (hz1 : b1 < w.heap.size) (hz2 : b2 < w.heap.size) (hz3 : b3 < w.heap.size) (h1 : w.cell? ⟨b1, 0, none⟩ = some (.slice A xs.length c)) (h2 : w.cell? ⟨b2, 0, none⟩ = some (.int .i64 j)) (h3 : w.cell? ⟨b3, 0, none⟩ = some (.int .i64 id)) :
    Calls Tryz.prog 43 #[.agg #[.int .i64 x.a, .int .i64 x.b, .int .i64 x.c, .slice A' x.l.length d], .pointer (some ⟨b1, 0, none⟩), .pointer (some ⟨b2, 0, none⟩), .pointer (some ⟨b3, 0, none⟩)] w fun r w' => r = .returned (.bool (tb (Need e id x))) ∧ Below w.heap.size w w' := by
  obtain ⟨V0, hV0, hC0, hy0, hv, _⟩ := box_world w #[Value.int .i64 x.a, .int .i64 x.b, .int .i64 x.c, .slice A' x.l.length d] 41
  have v0 : World.cell? V0 ⟨w.heap.size, 0, none⟩ = some (.int .i64 x.a) := hv 0
  have v1 : World.cell? V0 ⟨w.heap.size, 1, none⟩ = some (.int .i64 x.b) := hv 1
  have v2 : World.cell? V0 ⟨w.heap.size, 2, none⟩ = some (.int .i64 x.c) := hv 2
  have v3 : World.cell? V0 ⟨w.heap.size, 3, none⟩ = some (.slice A' x.l.length d) := hv 3
  have k1 := (hC0.cell (p := ⟨b1, 0, none⟩) hz1).trans h1
  have k2 := (hC0.cell (p := ⟨b2, 0, none⟩) hz2).trans h2
  have k3 := (hC0.cell (p := ⟨b3, 0, none⟩) hz3).trans h3
  have hzz1 := Nat.lt_of_lt_of_le hz1 hC0.size
  have hzz2 := Nat.lt_of_lt_of_le hz2 hC0.size
  have hzz3 := Nat.lt_of_lt_of_le hz3 hC0.size
  have hX := hA.ext hC0
  have hF1 := hF.ext hC0
  have hj0 : (0 : Int) ≤ (j : Int) := by omega
  have hj1 : (j : Int) < (xs.length : Int) := by have := lt_of_get he; omega
  obtain ⟨be, oe, hAe, hbe, _⟩ := _root_.id hX (fun e' => by rw [e'] at he; simp at he)
  subst hAe
  have hce := hX.get he
  have e0 : World.cell? V0 ⟨be, oe + j * 5, none⟩ = some (.int .i64 e.id) := hce 0 _ rfl
  have e1 : World.cell? V0 ⟨be, oe + j * 5 + 1, none⟩ = some (.int .i64 e.sheet) := hce 1 _ rfl
  have e2 : World.cell? V0 ⟨be, oe + j * 5 + 2, none⟩ = some (.int .i64 e.frm) := hce 2 _ rfl
  have e3 : World.cell? V0 ⟨be, oe + j * 5 + 3, none⟩ = some (.int .i64 e.til) := hce 3 _ rfl
  have e4 : World.cell? V0 ⟨be, oe + j * 5 + 4, none⟩ = some (.int .i64 e.day) := hce 4 _ rfl
  generalize xs.length = n at *
  have hpc := plus_cell V0
  clear hv hA hF hX hce he h1 h2 h3
  by_cases hcon : Con e x
  · by_cases hhas : id ∈ x.l
    · go_enter Tryz.func43, Tryz.ntmps43
      go_wp2_with fail
      refine wp_region_grow (by kernel_rfl) (by kernel_rfl) ?_
      repeat (go_big_quiet_step ((first | (go_at_call 31; exact quiet_below (concerns_t e x A' d _ hcon)) | (go_at_call 32; exact quiet_same (contains_t A' d x.l id _ hxl (hF1.ext (plus_below _ _)) hhas)))))
      refine wpQuiet_nil ?_
      intro w1 hb1
      go_wp2
      go_ret
      exact ⟨ret_bool (tb_f (fun h => h.2 hhas)).symm, ext_trans hC0 hb1⟩
    · go_enter Tryz.func43, Tryz.ntmps43
      go_wp2_with fail
      refine wp_region_grow (by kernel_rfl) (by kernel_rfl) ?_
      repeat (go_big_quiet_step ((first | (go_at_call 31; exact quiet_below (concerns_t e x A' d _ hcon)) | (go_at_call 32; exact quiet_same (contains_f A' d x.l id _ hxl (hF1.ext (plus_below _ _)) hhas)))))
      refine wpQuiet_nil ?_
      intro w1 hb1
      go_wp2
      go_ret
      exact ⟨ret_bool (tb_t ⟨hcon, hhas⟩).symm, ext_trans hC0 hb1⟩
  · go_enter Tryz.func43, Tryz.ntmps43
    go_wp2_with fail
    refine wp_region_grow (by kernel_rfl) (by kernel_rfl) ?_
    repeat (go_big_quiet_step ((first | (go_at_call 31; exact quiet_below (concerns_f e x A' d _ hcon)))))
    refine wpQuiet_nil ?_
    intro w1 hb1
    go_wp2
    go_ret
    exact ⟨ret_bool (tb_f (fun h => hcon h.1)).symm, ext_trans hC0 hb1⟩
set_option maxHeartbeats 1000000 in
set_option maxRecDepth 100000 in
theorem copiesFor_any (A : Option Addr) (c : Nat) (xs : List Erratum) (C : Option Addr) (cc : Nat) (hs : List Nest) (id : Int) (w : World) (hne : xs.length ≤ 1048576) (hA : Fl Erratum.ints 5 w A xs) (hn : wt hs ≤ 1048576) (hC : Nl w C hs) :
    Calls Tryz.prog 9 #[.slice A xs.length c, .slice C hs.length cc, .int .i64 id] w (RetL one 1 w (sel (FoOk xs hs (atE xs id)) (cw (needAt xs (atE xs id) id) hs)) (tb (FoOk xs hs (atE xs id)))) := by
  obtain ⟨W1, hW1, hD1, hy1, hv1, _⟩ := box_world w #[Value.slice A xs.length c] 24
  obtain ⟨W2, hW2, hD2, hy2, hv2, _⟩ := box_world W1 #[Value.int .i64 id] 3
  have hmf : ∀ (fn : Fn) (first cap : Array Value) (w : World), (Instr.makeFunc fn first cap).run Tryz.prog w = .ok (.func fn first cap) w := fun _ _ _ _ => rfl
  have hB2 := ext_trans hD1 hD2
  have k1 : World.cell? W2 ⟨w.heap.size, 0, none⟩ = some (.slice A xs.length c) := (hD2.cell (p := ⟨w.heap.size, 0, none⟩) hy1).trans (hv1 0)
  have k2 : World.cell? W2 ⟨W1.heap.size, 0, none⟩ = some (.int .i64 id) := hv2 0
  have hz1 : w.heap.size < W2.heap.size := Nat.lt_of_lt_of_le hy1 hD2.size
  have hin := fun x (hx : x ∈ hs) => Nat.le_trans (wt_in hx) hn
  have hare := fun W hX hY => areHeld_any A c xs C cc hs W hne hX hn hY
  have hat := erratumAt_any A c xs id W2 (by omega) (hA.ext hB2)
  have hp := atE_p xs id
  have hcw := fun (j : Nat) (e : Erratum) (he : xs[j]? = some e) (b2 : Nat) (W : World) (hW : Below W2.heap.size W2 W) (hzb : b2 < W.heap.size) (hcb : W.cell? ⟨b2, 0, none⟩ = some (.int .i64 j)) => copiesF_any C cc hs (Need e id) w.heap.size b2 W1.heap.size W hn ((hC.ext hB2).ext hW)
    (fun V x A' d hV hx hF => forC_any A c xs e j he x A' d id _ _ _ V hne (by have := hin x hx; omega) (((hA.ext hB2).ext hW).ext hV) hF (Nat.lt_of_lt_of_le (Nat.lt_of_lt_of_le hz1 hW.size) hV.size) (Nat.lt_of_lt_of_le hzb hV.size) (Nat.lt_of_lt_of_le (Nat.lt_of_lt_of_le hy2 hW.size) hV.size)
      ((hV.cell (p := ⟨w.heap.size, 0, none⟩) (Nat.lt_of_lt_of_le hz1 hW.size)).trans ((hW.cell (p := ⟨w.heap.size, 0, none⟩) hz1).trans k1)) ((hV.cell (p := ⟨b2, 0, none⟩) hzb).trans hcb) ((hV.cell (p := ⟨W1.heap.size, 0, none⟩) (Nat.lt_of_lt_of_le hy2 hW.size)).trans ((hW.cell (p := ⟨W1.heap.size, 0, none⟩) hy2).trans k2)))
  rw [show idxB (fun x : Erratum => decide (x.id = id)) 0 xs = atE xs id from rfl] at hat
  generalize atE xs id = r at hat hp ⊢
  obtain ⟨m, hmm⟩ : ∃ m, m = List.length hs := ⟨_, rfl⟩
  obtain ⟨n, hnn⟩ : ∃ n, n = List.length xs := ⟨_, rfl⟩
  rw [← hmm] at hare hcw ⊢
  rw [← hnn] at hW1 k1 hare hat ⊢
  have HA := Lib.hid hare
  have HAT := Lib.hid hat
  have HP := Lib.hid hp
  have HCW := Lib.hid hcw
  clear hmm hnn hare hcw hv1 hv2 hat hp
  go_enter Tryz.func9, Tryz.ntmps9
  go_wp2_with fail
  refine (HAT.out).mono ?_
  rintro e w0 ⟨rfl, hb0⟩
  obtain ⟨W3, hW3, hB3, hy3, hv3, _⟩ := box_world w0 #[Value.int .i64 r] 3
  have k03 : World.cell? W3 ⟨w0.heap.size, 0, none⟩ = some (.int .i64 r) := hv3 0
  have k13 : World.cell? W3 ⟨w.heap.size, 0, none⟩ = some (.slice A n c) := ((ext_trans hb0 hB3).cell (p := ⟨w.heap.size, 0, none⟩) hz1).trans k1
  have hb00 := ext_trans hB2 (ext_trans hb0 hB3)
  clear hv3
  go_wp2_with fail
  refine (HA.out _ (hA.ext hb00) (hC.ext hb00)).mono ?_
  rintro e w1 ⟨rfl, hb1⟩
  have k01 : World.cell? w1 ⟨w0.heap.size, 0, none⟩ = some (.int .i64 r) := (hb1.cell (p := ⟨w0.heap.size, 0, none⟩) hy3).trans k03
  have hz01 := Nat.lt_of_lt_of_le hy3 hb1.size
  by_cases h1 : HeldOk xs hs
  · rw [tb_t h1]
    have H1 := Lib.hid h1
    clear h1
    by_cases h2 : 0 ≤ r
    · obtain ⟨j, y, rfl, hj⟩ := HP.out h2
      have HJ := Lib.hid hj
      clear hj
      have HO : Hid (FoOk xs hs (j : Int)) := ⟨H1.out, h2⟩
      have hbX : Below W2.heap.size W2 w1 := ext_trans hb0 (ext_trans hB3 hb1)
      go_wp2_with fail
      refine (HCW.out j y HJ.out w0.heap.size w1 hbX hz01 k01).mono ?_
      rintro e w3 ⟨B, e, rfl, hF, hb3⟩
      go_wp2
      go_ret2
      rw [sel_t HO.out, tb_t HO.out, needAt_j HJ.out]
      exact ⟨B, e, rfl, hF.mono ((ext_trans hb00 hb1)).size (Nat.le_refl _), ext_trans (ext_trans hb00 hb1) hb3⟩
    · have hrlt : r < 0 := by omega
      go_wp2
      go_ret2
      have hok : ¬ (FoOk xs hs r) := fun h => (fun (q : 0 ≤ r) => (by omega : False)) h.2
      rw [sel_f hok, tb_f hok]
      exact ⟨none, 0, rfl, FlO.nil, (ext_trans hb00 hb1)⟩
  · rw [tb_f h1]
    have H1 := Lib.hid h1
    clear h1
    go_wp2
    go_ret2
    have hok : ¬ (FoOk xs hs r) := fun h => H1.out h.1
    rw [sel_f hok, tb_f hok]
    exact ⟨none, 0, rfl, FlO.nil, (ext_trans hb00 hb1)⟩
set_option maxHeartbeats 1000000 in
set_option maxRecDepth 100000 in
theorem specCopiesFor_any (A : Option Addr) (c : Nat) (xs : List Erratum) (C : Option Addr) (cc : Nat) (hs : List Nest) (id : Int) (w : World) (hne : xs.length ≤ 1048576) (hA : Fl Erratum.ints 5 w A xs) (hn : wt hs ≤ 1048576) (hC : Nl w C hs) :
    Calls Tryz.prog 21 #[.slice A xs.length c, .slice C hs.length cc, .int .i64 id] w (RetL one 1 w (sel (FoOk xs hs (atE xs id)) (cw (needAt xs (atE xs id) id) hs)) (tb (FoOk xs hs (atE xs id)))) := by
  obtain ⟨i0, hi, hz0, hz1, hz2⟩ := info_parts infoInt
  obtain ⟨W0, hW0, hB0, hzw, _, _⟩ := box_world w #[] 3
  have hown0 : OwnF one 1 w.heap.size 3 W0 (.slice (some ⟨w.heap.size, 0, none⟩) 0 0) [] := hW0 ▸ OwnF.empty (Nat.le_refl _)
  have hin := fun x (hx : x ∈ hs) => Nat.le_trans (wt_in hx) hn
  have hn1 := Nat.le_trans (wt_len hs) hn
  have hare := l19Good_any A c xs C cc hs W0 hne (hA.ext hB0) hn (hC.ext hB0)
  have hat := l19Find_any A c xs id W0 (by omega) (hA.ext hB0)
  have hp := atE_p xs id
  have hnl := fun (j : Nat) (e : Erratum) (h : xs[j]? = some e) => lt_of_get h
  rw [show idxB (fun x : Erratum => decide (x.id = id)) 0 xs = atE xs id from rfl] at hat
  generalize atE xs id = r at hat hp ⊢
  obtain ⟨n, hmm⟩ : ∃ m, m = List.length hs := ⟨_, rfl⟩
  obtain ⟨ne, hnn⟩ : ∃ n, n = List.length xs := ⟨_, rfl⟩
  rw [← hmm] at hn1 hare ⊢
  rw [← hnn] at hne hare hat hnl ⊢
  have hN := Lib.hid hmm
  have HNE := Lib.hid hnn
  have HA := Lib.hid hare
  have HAT := Lib.hid hat
  have HP := Lib.hid hp
  have HNL := Lib.hid hnl
  clear hmm hnn hare hat hp hnl
  go_enter Tryz.func21, Tryz.ntmps21
  go_wp2_with fail
  refine (HAT.out).mono ?_
  rintro e w0 ⟨rfl, hw0⟩
  subst hw0
  go_wp2_with fail
  refine (HA.out).mono ?_
  rintro e w1 ⟨rfl, hb1⟩
  by_cases h1 : HeldOk xs hs
  · rw [tb_t h1]
    have H1 := Lib.hid h1
    clear h1
    by_cases h2 : 0 ≤ r
    · obtain ⟨j, y, rfl, hj⟩ := HP.out h2
      have HJ := Lib.hid hj
      have hjn := HNL.out j y hj
      clear hj
      have HO : Hid (FoOk xs hs (j : Int)) := ⟨H1.out, h2⟩
      have hjr : ¬ (j : Int) < 0 := by omega
      go_wp2
      go_loopw [8, 10] (fun v i wr => ∃ k : Nat, k ≤ n ∧ i = .int .i64 k ∧ Below w.heap.size w wr ∧ OwnF one 1 w.heap.size 3 wr v (cw (Need y id) (hs.take k))) (fun _ i _ => n - (intOf i).toNat)
      case atStart => exact ⟨0, by omega, rfl, (ext_trans hB0 hb1), hown0.ext hb1⟩
      case round =>
        clear hjr
        obtain ⟨k, hk, rfl, hbr, hown⟩ := hrel
        have hzr := hbr.size
        by_cases hlt : k < n
        · obtain ⟨x, b, o, A', d, hx, rfl, hb, hc, hfl⟩ := (hC.ext hbr).at_ (k := k) (by rw [← hN.out]; exact hlt)
          have hxl : x.l.length ≤ 1152921504606846976 := by have := hin x (List.mem_of_getElem? hx); omega
          have c0 : World.cell? wr ⟨b, o + k * 4, none⟩ = some (.int .i64 x.a) := hc.ca
          have c1 : World.cell? wr ⟨b, o + k * 4 + 1, none⟩ = some (.int .i64 x.b) := hc.cb
          have c2 : World.cell? wr ⟨b, o + k * 4 + 2, none⟩ = some (.int .i64 x.c) := hc.cc
          have c3 : World.cell? wr ⟨b, o + k * 4 + 3, none⟩ = some (.slice A' x.l.length d) := hc.cl
          have hX := hA.ext hbr
          obtain ⟨be, oe, hAe, hbe, _⟩ := _root_.id hX (fun e' => by have h := HJ.out; rw [e'] at h; simp at h)
          subst hAe
          have hce := hX.get HJ.out
          have e0 : World.cell? wr ⟨be, oe + j * 5, none⟩ = some (.int .i64 y.id) := hce 0 _ rfl
          have e1 : World.cell? wr ⟨be, oe + j * 5 + 1, none⟩ = some (.int .i64 y.sheet) := hce 1 _ rfl
          have e2 : World.cell? wr ⟨be, oe + j * 5 + 2, none⟩ = some (.int .i64 y.frm) := hce 2 _ rfl
          have e3 : World.cell? wr ⟨be, oe + j * 5 + 3, none⟩ = some (.int .i64 y.til) := hce 3 _ rfl
          have e4 : World.cell? wr ⟨be, oe + j * 5 + 4, none⟩ = some (.int .i64 y.day) := hce 4 _ rfl
          have hlen : (cw (Need y id) (hs.take k)).length ≤ 1048576 := Nat.le_trans (cw_len _ _) (by rw [List.length_take]; omega)
          have HT := Lib.hid (take_get hx)
          have hpc := plus_cell wr
          have hj0 : (0 : Int) ≤ (j : Int) := by omega
          have hj1 : (j : Int) < (ne : Int) := by omega
          clear hc hx hX hce
          have hk0 : (0 : Int) ≤ (k : Int) := by omega
          have hk1 : (k : Int) < (n : Int) := by omega
          by_cases hcon : Con y x
          · by_cases hhas : id ∈ x.l
            · have HP : Hid (¬ Need y id x) := fun h => h.2 hhas
              go_wp2_with fail
              refine wp_region_grow (by kernel_rfl) (by kernel_rfl) ?_
              repeat (go_big_quiet_step ((first | (go_at_call 39; exact quiet_below (l19Concerns_t y x A' d _ hcon)) | (go_at_call 38; exact quiet_same (l1Has_t A' d x.l id _ hxl (hfl.ext (plus_below _ _)) hhas)))))
              refine wpQuiet_nil ?_
              intro w1 hb1
              have hbA := ext_trans hbr hb1
              go_wp2
              go_roundw
              case rel => exact ⟨k + 1, by omega, by go_num, hbA, by rw [HT.out, cw_f HP.out]; exact hown.ext hb1⟩
              case measure => simp [intOf]; omega
            · have HP : Hid (Need y id x) := ⟨hcon, hhas⟩
              go_wp2_with fail
              refine wp_region_grow (by kernel_rfl) (by kernel_rfl) ?_
              repeat (go_big_quiet_step ((first | (go_at_call 39; exact quiet_below (l19Concerns_t y x A' d _ hcon)) | (go_at_call 38; exact quiet_same (l1Has_f A' d x.l id _ hxl (hfl.ext (plus_below _ _)) hhas)))))
              refine wpQuiet_nil ?_
              intro w1 hb1
              have r0 : World.cell? w1 ⟨b, o + k * 4, none⟩ = some (.int .i64 x.a) := (hb1.cell (p := ⟨b, o + k * 4, none⟩) hb).trans c0
              have hownA := hown.ext hb1
              have hbA := ext_trans hbr hb1
              go_wp2_with (at_builtin; refine wpList_append_flat (f := one) (y := x.a) rfl _ _ _ rfl w.heap.size i0 _ 1 8 Tryz.underlying31 hi hz0 hz1 hz2 rfl (by decide) _ _ rfl rfl hownA rfl ?_ (by decide) ?_ ?_; omega; exact hbA.size; intro v' w4 hown4 hg4 hb4)
              go_roundw
              case rel => exact ⟨k + 1, by omega, by go_num, hbA.trans hb4, by rw [HT.out, cw_t HP.out]; exact hown4⟩
              case measure => simp [intOf]; omega
          · have HP : Hid (¬ Need y id x) := fun h => hcon h.1
            go_wp2_with fail
            refine wp_region_grow (by kernel_rfl) (by kernel_rfl) ?_
            repeat (go_big_quiet_step ((first | (go_at_call 39; exact quiet_below (l19Concerns_f y x A' d _ hcon)))))
            refine wpQuiet_nil ?_
            intro w1 hb1
            have hbA := ext_trans hbr hb1
            go_wp2
            go_roundw
            case rel => exact ⟨k + 1, by omega, by go_num, hbA, by rw [HT.out, cw_f HP.out]; exact hown.ext hb1⟩
            case measure => simp [intOf]; omega
        · have hkn : k = n := by omega
          subst hkn
          go_wp2
          go_ret2
          rw [take_all (by rw [← hN.out]; exact Nat.le_refl _)] at hown
          obtain ⟨B, d, hv, hF⟩ := hown.form one_length
          rw [sel_t HO.out, tb_t HO.out, needAt_j HJ.out]
          exact ⟨B, d, by rw [hv]; rfl, hF, hbr⟩
    · have hrlt : r < 0 := by omega
      go_wp2
      go_ret2
      have hok : ¬ (FoOk xs hs r) := fun h => (fun (q : 0 ≤ r) => (by omega : False)) h.2
      rw [sel_f hok, tb_f hok]
      exact ⟨some ⟨w.heap.size, 0, none⟩, 0, rfl, FlO.nil, (ext_trans hB0 hb1)⟩
  · rw [tb_f h1]
    have H1 := Lib.hid h1
    clear h1
    go_wp2
    go_ret2
    have hok : ¬ (FoOk xs hs r) := fun h => H1.out h.1
    rw [sel_f hok, tb_f hok]
    exact ⟨some ⟨w.heap.size, 0, none⟩, 0, rfl, FlO.nil, (ext_trans hB0 hb1)⟩
end Go.Proofs.YtbnlbcbdhmmlgaaGreatDoor
