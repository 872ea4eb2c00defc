/- The loans of a reader that are open: the program's OpenLoans. The loans of a reader that are open: the reference's OpenLoans. No condition. -/
import Derived.Test.YtnikeelpcokffaaDoorLoF
import Derived.Test.YtnikeelpcokffaaDoorLoanI
import Derived.Test.YtnikeelpcokffaaDoorCloL
import Derived.Test.YtnikeelpcokffaaDoorWithin
import Derived.Test.YtnikeelpcokffaaDoorLoanS
import Derived.Test.YtnikeelpcokffaaDoorPut
namespace Go.Proofs.YtnikeelpcokffaaDoor
open Go.RowKit
set_option linter.unusedVariables false
set_option linter.unusedSimpArgs false

def Ol (r day : Int) (x : Loan) : Prop := x.reader = r ∧ OpenL day x
noncomputable def openS (r day : Int) (xs : List Loan) : List Int := (xs.filter fun x => tb (Ol r day x)).map fun x => x.sheet
theorem openS_t {r day : Int} {ys : List Loan} {x : Loan} (h : Ol r day x) : openS r day (ys ++ [x]) = openS r day ys ++ [x.sheet] := by simp [openS, tb_t h]
theorem openS_f {r day : Int} {ys : List Loan} {x : Loan} (h : ¬ Ol r day x) : openS r day (ys ++ [x]) = openS r day ys := by simp [openS, tb_f h]
theorem openS_len (r day : Int) (ys : List Loan) : (openS r day ys).length ≤ ys.length := by unfold openS; rw [List.length_map]; exact List.length_filter_le _ _
theorem openS_mem {r day : Int} {xs : List Loan} {x : Loan} (hx : x ∈ xs) (h : Ol r day x) : x.sheet ∈ openS r day xs := List.mem_map.2 ⟨x, List.mem_filter.2 ⟨hx, tb_t h⟩, rfl⟩
def OlOk (xs : List Loan) (r day : Int) : Prop := Lns xs ∧ (1 ≤ r ∧ r ≤ 999) ∧ (0 ≤ day ∧ day ≤ 4000)
set_option maxHeartbeats 1000000 in
theorem openC_any (x : Loan) (r day : Int) (b1 b2 : Nat) (w : World) (hz1 : b1 < w.heap.size) (h1 : w.cell? ⟨b1, 0, none⟩ = some (.int .i64 r)) (hz2 : b2 < w.heap.size) (h2 : w.cell? ⟨b2, 0, none⟩ = some (.int .i64 day)) (hlo : IsLo x) :
    Calls Tryd.prog 57 #[.agg #[.int .i64 x.sheet, .int .i64 x.reader, .int .i64 x.out, .int .i64 x.due, .int .i64 x.back], .pointer (some ⟨b1, 0, none⟩), .pointer (some ⟨b2, 0, none⟩)] w fun e w' => e = .returned (.bool (tb (Ol r day x))) ∧ Below w.heap.size w w' := by
  obtain ⟨V0, hV0, hC0, hy0, hv, _⟩ := box_world w #[Value.int .i64 x.sheet, .int .i64 x.reader, .int .i64 x.out, .int .i64 x.due, .int .i64 x.back] 43
  have v0 : World.cell? V0 ⟨w.heap.size, 0, none⟩ = some (.int .i64 x.sheet) := hv 0
  have v1 : World.cell? V0 ⟨w.heap.size, 1, none⟩ = some (.int .i64 x.reader) := hv 1
  have v2 : World.cell? V0 ⟨w.heap.size, 2, none⟩ = some (.int .i64 x.out) := hv 2
  have v3 : World.cell? V0 ⟨w.heap.size, 3, none⟩ = some (.int .i64 x.due) := hv 3
  have v4 : World.cell? V0 ⟨w.heap.size, 4, none⟩ = some (.int .i64 x.back) := hv 4
  have e1 := (hC0.cell (p := ⟨b1, 0, none⟩) hz1).trans h1
  have e2 := (hC0.cell (p := ⟨b2, 0, none⟩) hz2).trans h2
  have HL := Lib.hid (isOpen_any x day V0 hlo)
  clear hv
  by_cases hr : x.reader = r
  · have er : (x.reader == r) = true := by simp [hr]
    have HE := Lib.hid (show tb (Ol r day x) = tb (OpenL day x) from by by_cases q : OpenL day x; rw [tb_t q, tb_t ⟨hr, q⟩]; rw [tb_f q, tb_f fun h => q h.2])
    clear hr
    go_enter Tryd.func57, Tryd.ntmps57
    go_wp2_with fail
    refine (HL.out).mono ?_
    rintro e w3 ⟨rfl, hb3⟩
    go_wp2
    go_ret
    exact ⟨by rw [HE.out]; rfl, ext_trans hC0 hb3⟩
  · have er : (x.reader == r) = false := by simp [hr]
    have HE := Lib.hid (show tb (Ol r day x) = false from tb_f fun h => hr h.1)
    clear hr
    go_enter Tryd.func57, Tryd.ntmps57
    go_wp2
    go_ret
    exact ⟨by rw [HE.out]; rfl, hC0⟩
set_option maxHeartbeats 1000000 in
set_option maxRecDepth 100000 in
theorem sheetsOpen_any (A : Option Addr) (c : Nat) (xs : List Loan) (r day : Int) (b1 b2 : Nat) (w : World) (hn : xs.length ≤ 1048576) (hA : Fl Loan.ints 5 w A xs) (hz1 : b1 < w.heap.size) (h1 : w.cell? ⟨b1, 0, none⟩ = some (.int .i64 r)) (hz2b : b2 < w.heap.size) (h2b : w.cell? ⟨b2, 0, none⟩ = some (.int .i64 day)) (hlo : ∀ (i : Nat) (x : Loan), xs[i]? = some x → IsLo x) :
    Calls Tryd.prog 31 #[.slice A xs.length c, .func (.func 57) #[] #[.pointer (some ⟨b1, 0, none⟩), .pointer (some ⟨b2, 0, none⟩)]] w (RetI w ((openS r day xs).mergeSort leI)) := by
  obtain ⟨i0, hi, hy0, hy1, hy2⟩ := info_parts infoInt
  obtain ⟨n, hnn⟩ : ∃ n, n = List.length xs := ⟨_, rfl⟩
  rw [← hnn] at hn ⊢
  have hN := Lib.hid hnn
  have HLO := Lib.hid hlo
  clear hlo
  clear hnn
  go_enter Tryd.func31, Tryd.ntmps31
  go_wp2
  go_loopw [5, 10] (fun v i wr => ∃ k : Nat, k ≤ n ∧ i = .int .i64 k ∧ Below w.heap.size w wr ∧ OwnF one 1 w.heap.size 3 wr v (openS r day (xs.take k))) (fun _ i _ => n - (intOf i).toNat)
  case atStart => exact ⟨0, by omega, rfl, Below.refl _ _, OwnF.none_⟩
  case round =>
    obtain ⟨k, hk, rfl, hbr, hown⟩ := hrel
    have hzr := hbr.size
    by_cases hlt : k < n
    · obtain ⟨x, b, o, hx, hAe, hb, hc⟩ := (hA.ext hbr).at_ (k := k) (by rw [← hN.out]; exact hlt)
      subst hAe
      have c0 : World.cell? wr ⟨b, o + k * 5, none⟩ = some (.int .i64 x.sheet) := hc 0 _ rfl
      have c1 : World.cell? wr ⟨b, o + k * 5 + 1, none⟩ = some (.int .i64 x.reader) := hc 1 _ rfl
      have c2 : World.cell? wr ⟨b, o + k * 5 + 2, none⟩ = some (.int .i64 x.out) := hc 2 _ rfl
      have c3 : World.cell? wr ⟨b, o + k * 5 + 3, none⟩ = some (.int .i64 x.due) := hc 3 _ rfl
      have c4 : World.cell? wr ⟨b, o + k * 5 + 4, none⟩ = some (.int .i64 x.back) := hc 4 _ rfl
      have hlen : (openS r day (xs.take k)).length ≤ 1048576 := Nat.le_trans (openS_len _ _ _) (by rw [List.length_take]; omega)
      have HT := Lib.hid (take_get hx)
      obtain ⟨W0, hW0, hB0, hz0', hg, _⟩ := box_world wr #[Value.int .i64 x.sheet, .int .i64 x.reader, .int .i64 x.out, .int .i64 x.due, .int .i64 x.back] 43
      have g0 : World.cell? W0 ⟨wr.heap.size, 0, none⟩ = some (.int .i64 x.sheet) := hg 0
      have g1 : World.cell? W0 ⟨wr.heap.size, 1, none⟩ = some (.int .i64 x.reader) := hg 1
      have g2 : World.cell? W0 ⟨wr.heap.size, 2, none⟩ = some (.int .i64 x.out) := hg 2
      have g3 : World.cell? W0 ⟨wr.heap.size, 3, none⟩ = some (.int .i64 x.due) := hg 3
      have g4 : World.cell? W0 ⟨wr.heap.size, 4, none⟩ = some (.int .i64 x.back) := hg 4
      have hown0 := hown.ext hB0
      have hbW := ext_trans hbr hB0
      have HCL := Lib.hid (openC_any x r day b1 b2 W0 (Nat.lt_of_lt_of_le hz1 hbW.size) ((hbW.cell (p := ⟨b1, 0, none⟩) hz1).trans h1) (Nat.lt_of_lt_of_le hz2b hbW.size) ((hbW.cell (p := ⟨b2, 0, none⟩) hz2b).trans h2b) (HLO.out k x hx))
      clear hc hg hx
      have hk0 : (0 : Int) ≤ (k : Int) := by omega
      have hk1 : (k : Int) < (n : Int) := by omega
      go_wp2_with fail
      refine (HCL.out).mono ?_
      rintro e w1 ⟨rfl, hb1⟩
      have r0 : World.cell? w1 ⟨wr.heap.size, 0, none⟩ = some (.int .i64 x.sheet) := (hb1.cell (p := ⟨wr.heap.size, 0, none⟩) hz0').trans g0
      have hownA := hown0.ext hb1
      have hbA := ext_trans hbW hb1
      clear g0 g1 g2 g3 g4
      by_cases hP : Ol r day x
      · rw [tb_t hP]
        have HP := Lib.hid hP
        clear hP
        go_wp2_with (at_builtin; refine wpList_append_flat (f := one) (y := x.sheet) rfl _ _ _ rfl w.heap.size i0 _ 1 8 Tryd.underlying27 hi hy0 hy1 hy2 rfl (by decide) _ _ rfl rfl hownA rfl ?_ (by decide) ?_ ?_; omega; exact hbA.size; intro v' w3 hown3 hg3 hb3)
        go_roundw
        case rel => exact ⟨k + 1, by omega, by go_num, hbA.trans hb3, by rw [HT.out, openS_t HP.out]; exact hown3⟩
        case measure => simp [intOf]; omega
      · rw [tb_f hP]
        have HP := Lib.hid hP
        clear hP
        go_wp2
        go_roundw
        case rel => exact ⟨k + 1, by omega, by go_num, hbA, by rw [HT.out, openS_f HP.out]; exact hownA⟩
        case measure => simp [intOf]; omega
    · have hkn : k = n := by omega
      subst hkn
      rw [take_all (by rw [← hN.out]; exact Nat.le_refl _)] at hown
      have hll : (openS r day xs).length ≤ 16777216 := Nat.le_trans (openS_len _ _ _) (by rw [← hN.out]; omega)
      obtain ⟨L, hL⟩ : ∃ L, openS r day xs = L := ⟨_, rfl⟩
      rw [hL] at hown hll
      have HL := Lib.hid hL
      clear hL
      obtain ⟨A1, c1, hv, _⟩ := hown.formL one_length
      subst hv
      go_wp2_with fail
      refine (sortOwn_any w.heap.size _ L wr hll hzr hown).mono ?_
      rintro e w4 ⟨rfl, hown4, _, hb4⟩
      go_wp2
      go_ret
      have hl2 : (L.mergeSort leI).length = L.length := List.length_mergeSort L
      obtain ⟨A2, c2, hv2, hF2⟩ := hown4.form one_length
      rw [hl2] at hv2
      injection hv2 with e1 e2 e3
      rw [HL.out]
      refine ⟨A2, c1, ?_, hF2, hbr.trans hb4⟩
      rw [← e1, hl2]
      rfl
set_option maxHeartbeats 1000000 in
set_option maxRecDepth 100000 in
theorem openLoans_any (A : Option Addr) (c : Nat) (xs : List Loan) (r day : Int) (w : World) (hn : xs.length ≤ 1048576) (hcap : xs.length ≤ c) (hcm : c ≤ 9223372036854775807) (hA : Fl Loan.ints 5 w A xs) :
    Calls Tryd.prog 25 #[.slice A xs.length c, .int .i64 r, .int .i64 day] w (RetL one 1 w (sel (OlOk xs r day) ((openS r day xs).mergeSort leI)) (tb (OlOk xs r day))) := by
  obtain ⟨W1, hW1, hD1, hy1, hv1, _⟩ := box_world w #[Value.int .i64 r] 3
  obtain ⟨W2, hW2, hD2, hy2, hv2, _⟩ := box_world W1 #[Value.int .i64 day] 3
  have hmf : ∀ (fn : Fn) (first cap : Array Value) (w : World), (Instr.makeFunc fn first cap).run Tryd.prog w = .ok (.func fn first cap) w := fun _ _ _ _ => rfl
  have hDD := ext_trans hD1 hD2
  have hy1' : w.heap.size < W2.heap.size := Nat.lt_of_lt_of_le hy1 hD2.size
  have k1 : World.cell? W2 ⟨w.heap.size, 0, none⟩ = some (.int .i64 r) := (hD2.cell (p := ⟨w.heap.size, 0, none⟩) hy1).trans (hv1 0)
  have k2 : World.cell? W2 ⟨W1.heap.size, 0, none⟩ = some (.int .i64 day) := hv2 0
  have hare := areLoans_any A c xs W2 hn hcap hcm (hA.ext hDD)
  have hcw := fun (h : Lns xs) (W : World) (hW : Below W2.heap.size W2 W) => sheetsOpen_any A c xs r day w.heap.size W1.heap.size W hn ((hA.ext hDD).ext hW) (Nat.lt_of_lt_of_le hy1' hW.size) ((hW.cell (p := ⟨w.heap.size, 0, none⟩) hy1').trans k1) (Nat.lt_of_lt_of_le hy2 hW.size) ((hW.cell (p := ⟨W1.heap.size, 0, none⟩) hy2).trans k2) fun i x hx => (h.1 i x hx).1
  generalize (openS r day xs).mergeSort leI = ys at hcw ⊢
  obtain ⟨n, hnn⟩ : ∃ n, n = List.length xs := ⟨_, rfl⟩
  rw [← hnn] at hare hcw hn hcap ⊢
  have HA := Lib.hid hare
  have HCW := Lib.hid hcw
  clear hnn hare hcw hv1 hv2
  go_enter Tryd.func25, Tryd.ntmps25
  go_wp2_with fail
  refine (HA.out).mono ?_
  rintro e w1 ⟨rfl, hb1⟩
  have k3 : World.cell? w1 ⟨w.heap.size, 0, none⟩ = some (.int .i64 r) := (hb1.cell (p := ⟨w.heap.size, 0, none⟩) hy1').trans k1
  have k4 : World.cell? w1 ⟨W1.heap.size, 0, none⟩ = some (.int .i64 day) := (hb1.cell (p := ⟨W1.heap.size, 0, none⟩) hy2).trans k2
  by_cases h1 : Lns xs
  · rw [tb_t h1]
    have H1 := Lib.hid h1
    clear h1
    by_cases h2 : 1 ≤ r ∧ r ≤ 999
    · go_wp2_with fail
      refine (isId_t r _ h2).mono ?_
      rintro e w9 ⟨rfl, rfl⟩
      by_cases h3 : 0 ≤ day ∧ day ≤ 4000
      · go_wp2_with fail
        refine (isDay_t day _ h3).mono ?_
        rintro e w9 ⟨rfl, rfl⟩
        have HO : Hid (OlOk xs r day) := ⟨H1.out, h2, h3⟩
        go_wp2_with fail
        refine (HCW.out HO.out.1 _ hb1).mono ?_
        rintro e w3 ⟨B, e, rfl, hF, hb3⟩
        go_wp2
        go_ret2
        rw [sel_t HO.out, tb_t HO.out]
        exact ⟨B, e, rfl, hF.mono ((ext_trans hDD hb1)).size (Nat.le_refl _), ext_trans (ext_trans hDD hb1) hb3⟩
      · go_wp2_with fail
        refine (isDay_f day _ h3).mono ?_
        rintro e w9 ⟨rfl, rfl⟩
        go_wp2
        go_ret2
        have hok : ¬ (OlOk xs r day) := fun h => h3 h.2.2
        rw [sel_f hok, tb_f hok]
        exact ⟨none, 0, rfl, FlO.nil, (ext_trans hDD hb1)⟩
    · go_wp2_with fail
      refine (isId_f r _ h2).mono ?_
      rintro e w9 ⟨rfl, rfl⟩
      go_wp2
      go_ret2
      have hok : ¬ (OlOk xs r day) := fun h => h2 h.2.1
      rw [sel_f hok, tb_f hok]
      exact ⟨none, 0, rfl, FlO.nil, (ext_trans hDD hb1)⟩
  · rw [tb_f h1]
    have H1 := Lib.hid h1
    clear h1
    go_wp2
    go_ret2
    have hok : ¬ (OlOk xs r day) := fun h => H1.out h.1
    rw [sel_f hok, tb_f hok]
    exact ⟨none, 0, rfl, FlO.nil, (ext_trans hDD hb1)⟩
end Go.Proofs.YtnikeelpcokffaaDoor
namespace Go.Proofs.YtnikeelpcokffaaDoor
open Go.RowKit
set_option linter.unusedVariables false
set_option linter.unusedSimpArgs false

theorem openS_nodup {xs : List Loan} (h : Lns xs) (r day : Int) : (openS r day xs).Nodup := by
  unfold openS
  have hp : xs.Pairwise fun p x => ¬ Cl p x := by
    rw [List.pairwise_iff_getElem]
    intro i j hi hj hij
    exact (h.1 j _ (List.getElem?_eq_getElem hj)).2.2 i _ hij (List.getElem?_eq_getElem hi)
  unfold List.Nodup
  rw [List.pairwise_map]
  refine (hp.filter _).imp_of_mem ?_
  intro a b ha hb hcl e
  have h1 := (tb_true (List.mem_filter.1 ha).2).2
  have h2 := (tb_true (List.mem_filter.1 hb).2).2
  obtain ⟨i, hi⟩ := List.mem_iff_getElem?.1 (List.mem_filter.1 ha).1
  have h3 := (h.1 i a hi).1
  unfold IsLo at h3
  unfold OpenL at h1 h2
  apply hcl
  refine ⟨e, ?_⟩
  omega
theorem open_sorted {xs : List Loan} (h : Lns xs) (r day : Int) : (openS r day xs).mergeSort leI = putAll (openS r day xs) := by
  refine (putAll_of_strict ?_ fun a => (sort_perm _).mem_iff).symm
  have hs := sort_sorted (openS r day xs)
  have hn2 : ((openS r day xs).mergeSort leI).Nodup := (sort_perm _).nodup_iff.2 (openS_nodup h r day)
  unfold Strict
  rw [List.pairwise_iff_getElem] at hs ⊢
  unfold List.Nodup at hn2
  rw [List.pairwise_iff_getElem] at hn2
  intro i j hi hj hij
  have h1 := hs i j hi hj hij
  have h2 := hn2 i j hi hj hij
  omega
set_option maxHeartbeats 1000000 in
set_option maxRecDepth 100000 in
theorem specOpenLoans_any (A : Option Addr) (c : Nat) (xs : List Loan) (r day : Int) (w : World) (hn : xs.length ≤ 1048576) (hcap : xs.length ≤ c) (hcm : c ≤ 9223372036854775807) (hA : Fl Loan.ints 5 w A xs) :
    Calls Tryd.prog 26 #[.slice A xs.length c, .int .i64 r, .int .i64 day] w (RetL one 1 w (sel (OlOk xs r day) ((openS r day xs).mergeSort leI)) (tb (OlOk xs r day))) := by
  obtain ⟨W0, hW0, hB0, hzw, _, _⟩ := box_world w #[] 3
  have hown0 : OwnF one 1 w.heap.size 3 W0 (.slice (some ⟨w.heap.size, 0, none⟩) 0 0) [] := hW0 ▸ OwnF.empty (Nat.le_refl _)
  have hare := l11Good_any A c xs W0 hn hcap hcm (hA.ext hB0)
  have hls := fun h : Lns xs => open_sorted h r day
  generalize (openS r day xs).mergeSort leI = zs at hls ⊢
  obtain ⟨n, hnn⟩ : ∃ n, n = List.length xs := ⟨_, rfl⟩
  rw [← hnn] at hare hn hcap ⊢
  have hN := Lib.hid hnn
  have HA := Lib.hid hare
  have HLS := Lib.hid hls
  clear hnn hare hls
  go_enter Tryd.func26, Tryd.ntmps26
  go_wp2_with fail
  refine (HA.out).mono ?_
  rintro e w1 ⟨rfl, hb1⟩
  by_cases h1 : Lns xs
  · rw [tb_t h1]
    have H1 := Lib.hid h1
    clear h1
    by_cases h2 : 1 ≤ r ∧ r ≤ 999
    · go_wp2_with fail
      refine (l11Id_t r _ h2).mono ?_
      rintro e w9 ⟨rfl, rfl⟩
      by_cases h3 : 0 ≤ day ∧ day ≤ 4000
      · go_wp2_with fail
        refine (l2Day_t day _ h3).mono ?_
        rintro e w9 ⟨rfl, rfl⟩
        have HO : Hid (OlOk xs r day) := ⟨H1.out, h2, h3⟩
        go_wp2
        go_loopw [8, 9] (fun v i wr => ∃ k : Nat, k ≤ n ∧ i = .int .i64 k ∧ Below w.heap.size w wr ∧ OwnF one 1 w.heap.size 3 wr v (putAll (openS r day (xs.take k)))) (fun _ i _ => n - (intOf i).toNat)
        case atStart => exact ⟨0, by omega, rfl, (ext_trans hB0 hb1), hown0.ext hb1⟩
        case round =>
          obtain ⟨k, hk, rfl, hbr, hown⟩ := hrel
          clear hb1
          have hzr := hbr.size
          by_cases hlt : k < n
          · obtain ⟨x, b, o, hx, hAe, hb, hc⟩ := (hA.ext hbr).at_ (k := k) (by rw [← hN.out]; exact hlt)
            subst hAe
            have c0 : World.cell? wr ⟨b, o + k * 5, none⟩ = some (.int .i64 x.sheet) := hc 0 _ rfl
            have c1 : World.cell? wr ⟨b, o + k * 5 + 1, none⟩ = some (.int .i64 x.reader) := hc 1 _ rfl
            have c2 : World.cell? wr ⟨b, o + k * 5 + 2, none⟩ = some (.int .i64 x.out) := hc 2 _ rfl
            have c3 : World.cell? wr ⟨b, o + k * 5 + 3, none⟩ = some (.int .i64 x.due) := hc 3 _ rfl
            have c4 : World.cell? wr ⟨b, o + k * 5 + 4, none⟩ = some (.int .i64 x.back) := hc 4 _ rfl
            have hlen : (putAll (openS r day (xs.take k))).length ≤ 1048576 := Nat.le_trans (putAll_len _) (Nat.le_trans (openS_len _ _ _) (by rw [List.length_take]; omega))
            have HT := Lib.hid (take_get hx)
            have hpc := plus_cell wr
            clear hx hc
            have hk0 : (0 : Int) ≤ (k : Int) := by omega
            have hk1 : (k : Int) < (n : Int) := by omega
            by_cases hr : x.reader = r
            · have er : (x.reader == r) = true := by simp [hr]
              by_cases hop : OpenL day x
              · have HLT := Lib.hid (show Ol r day x from ⟨hr, hop⟩)
                clear hr
                go_wp2_with fail
                refine (l11IsOpen_t x day wr hop).mono ?_
                rintro e w1 ⟨rfl, hb1⟩
                have r0 : World.cell? w1 ⟨b, o + k * 5, none⟩ = some (.int .i64 x.sheet) := (hb1.cell (p := ⟨b, o + k * 5, none⟩) hb).trans c0
                have hownA := hown.ext hb1
                have hbA := ext_trans hbr hb1
                go_wp2_with fail
                refine (l1PutOwn_any w.heap.size _ (putAll (openS r day (xs.take k))) x.sheet w1 (by omega) hbA.size hownA).mono ?_
                rintro e w3 ⟨v3, rfl, hown3, hb3⟩
                go_wp2
                go_roundw
                case rel => exact ⟨k + 1, by omega, by go_num, hbA.trans hb3, by rw [HT.out, openS_t HLT.out, putAll_snoc]; exact hown3⟩
                case measure => simp [intOf]; omega
              · have HNL : Hid (¬ Ol r day x) := fun h => hop h.2
                clear hr
                go_wp2_with fail
                refine (l11IsOpen_f x day wr hop).mono ?_
                rintro e w1 ⟨rfl, hb1⟩
                go_wp2
                go_roundw
                case rel => exact ⟨k + 1, by omega, by go_num, ext_trans hbr hb1, by rw [HT.out, openS_f HNL.out]; exact hown.ext hb1⟩
                case measure => simp [intOf]; omega
            · have er : (x.reader == r) = false := by simp [hr]
              have HNL : Hid (¬ Ol r day x) := fun h => hr h.1
              clear hr
              go_wp2
              go_roundw
              case rel => exact ⟨k + 1, by omega, by go_num, hbr, by rw [HT.out, openS_f HNL.out]; exact hown⟩
              case measure => simp [intOf]; omega
          · have hkn : k = n := by omega
            subst hkn
            rw [take_all (by rw [← hN.out]; exact Nat.le_refl _)] at hown
            go_wp2
            go_ret2
            obtain ⟨B, d, hv, hF⟩ := hown.form one_length
            rw [sel_t HO.out, tb_t HO.out, HLS.out HO.out.1]
            exact ⟨B, d, by rw [hv]; rfl, hF, hbr⟩
      · go_wp2_with fail
        refine (l2Day_f day _ h3).mono ?_
        rintro e w9 ⟨rfl, rfl⟩
        go_wp2
        go_ret2
        have hok : ¬ (OlOk xs r day) := fun h => h3 h.2.2
        rw [sel_f hok, tb_f hok]
        exact ⟨some ⟨w.heap.size, 0, none⟩, 0, rfl, FlO.nil, (ext_trans hB0 hb1)⟩
    · go_wp2_with fail
      refine (l11Id_f r _ h2).mono ?_
      rintro e w9 ⟨rfl, rfl⟩
      go_wp2
      go_ret2
      have hok : ¬ (OlOk xs r day) := fun h => h2 h.2.1
      rw [sel_f hok, tb_f hok]
      exact ⟨some ⟨w.heap.size, 0, none⟩, 0, rfl, FlO.nil, (ext_trans hB0 hb1)⟩
  · rw [tb_f h1]
    have H1 := Lib.hid h1
    clear h1
    go_wp2
    go_ret2
    have hok : ¬ (OlOk xs r day) := fun h => H1.out h.1
    rw [sel_f hok, tb_f hok]
    exact ⟨some ⟨w.heap.size, 0, none⟩, 0, rfl, FlO.nil, (ext_trans hB0 hb1)⟩
end Go.Proofs.YtnikeelpcokffaaDoor
