/- The laws' own functions over []Edition: the size, the copy, the comparison. -/
import Derived.Test.YtaojamioongahaaProg
import Derived.Test.YtaojamioongahaaFamInt
import Derived.Test.YtaojamioongahaaNest
namespace Go.Proofs.Ytaojamioongahaa
open Go.RowKit
set_option linter.unusedVariables false
set_option linter.unusedSimpArgs false
theorem infoEdition : (Try.prog.info? 58).map (fun i => (i.zero, i.size, i.bytes)) = some (some (.agg #[.int .i64 0, .int .i64 0, .int .i64 0, .slice none 0 0]), 4, 48) := by kernel_rfl

theorem szEdition_no (x : Nest) (A : Option Addr) (d : Nat) (w : World) (left : Int) (h0 : 0 ≤ left) (h1 : left ≤ 1048576) (hn : x.l.length ≤ 9223372036854775807) (h : left < (x.l.length : Int)) :
    Calls Try.prog 45 #[.agg #[.int .i64 x.a, .int .i64 x.b, .int .i64 x.c, .slice A x.l.length d], .int .i64 left] w fun e w' => e = .returned (.int .i64 (-1)) ∧ Below w.heap.size w w' := by
  go_enter Try.func45, Try.ntmps45
  go_wp2_with fail
  refine (szIntS_no A x.l.length d _ left h0 h1 hn h).mono ?_
  rintro e w1 ⟨rfl, rfl⟩
  go_wp2
  go_ret
  exact ⟨rfl, by go_grown⟩
theorem szEdition_ok (x : Nest) (A : Option Addr) (d : Nat) (w : World) (left : Int) (h0 : 0 ≤ left) (h1 : left ≤ 1048576) (hn : x.l.length ≤ 9223372036854775807) (h : (x.l.length : Int) ≤ left) :
    Calls Try.prog 45 #[.agg #[.int .i64 x.a, .int .i64 x.b, .int .i64 x.c, .slice A x.l.length d], .int .i64 left] w fun e w' => e = .returned (.int .i64 (left - x.l.length)) ∧ Below w.heap.size w w' := by
  have hd : ¬ left - (x.l.length : Int) < 0 := by omega
  go_enter Try.func45, Try.ntmps45
  go_wp2_with fail
  refine (szIntS_ok A x.l.length d _ left h0 h1 hn h).mono ?_
  rintro e w1 ⟨rfl, rfl⟩
  go_wp2
  go_ret
  exact ⟨rfl, by go_grown⟩

set_option maxHeartbeats 1000000 in
theorem szEditionS_any (A : Option Addr) (c : Nat) (xs : List Nest) (w : World) (left : Int) (h0 : 0 ≤ left) (h1 : left ≤ 1048576) (hn : xs.length ≤ 9223372036854775807) (hi : ∀ x ∈ xs, x.l.length ≤ 9223372036854775807) (hA : Nl w A xs) :
    Calls Try.prog 13 #[.slice A xs.length c, .int .i64 left] w fun e w' => e = .returned (.int .i64 (szR (wt xs) left)) ∧ Below w.heap.size w w' := by
  by_cases hl : left < (xs.length : Int)
  · have hw : ¬ (wt xs : Int) ≤ left := by unfold wt; omega
    rw [szR_no hw]
    have hd : left - (xs.length : Int) < 0 := by omega
    clear hw
    go_enter Try.func13, Try.ntmps13
    go_wp2
    go_ret
    exact ⟨rfl, Below.refl _ _⟩
  · have hd : ¬ left - (xs.length : Int) < 0 := by omega
    have hwt : (wt xs : Int) = (xs.length : Int) + lsum xs := by unfold wt; omega
    obtain ⟨n, hnn⟩ : ∃ n, n = List.length xs := ⟨_, rfl⟩
    rw [← hnn] at hn ⊢
    have hN := Lib.hid hnn
    clear hnn
    rw [← hN.out] at hwt hl hd
    have HW := Lib.hid hwt
    clear hwt
    go_enter Try.func13, Try.ntmps13
    go_wp2
    go_loopw [1, 5] (fun q i wr => ∃ k : Nat, k ≤ n ∧ i = .int .i64 k ∧ q = .int .i64 (left - n - lsum (xs.take k)) ∧ (n : Int) + lsum (xs.take k) ≤ left ∧ Below w.heap.size w wr) (fun _ i _ => n - (intOf i).toNat)
    case atStart => exact ⟨0, by omega, rfl, by simp [lsum], by simp [lsum]; omega, Below.refl _ _⟩
    case round =>
      obtain ⟨k, hk, rfl, rfl, hle, hbr⟩ := hrel
      by_cases hlt : k < n
      · obtain ⟨x, b, o, A', d, hx, rfl, hb, hc, _⟩ := (hA.ext hbr).at_ (k := k) (by rw [← hN.out]; exact hlt)
        have hxl := hi x (List.mem_of_getElem? hx)
        have hst := lsum_take hx
        have hlx := lsum_le xs (k + 1)
        generalize lsum (xs.take k) = p at hle hst ⊢
        obtain ⟨q, hq⟩ : ∃ q, q = left - (n : Int) - (p : Int) := ⟨_, rfl⟩
        rw [← hq]
        have hq0 : 0 ≤ q := by omega
        have hq1 : q ≤ 1048576 := by omega
        have c0 : World.cell? wr ⟨b, o + k * 4, none⟩ = some (.int .i64 x.a) := hc.ca
        have c1 : World.cell? wr ⟨b, o + k * 4 + 1, none⟩ = some (.int .i64 x.b) := hc.cb
        have c2 : World.cell? wr ⟨b, o + k * 4 + 2, none⟩ = some (.int .i64 x.c) := hc.cc
        have c3 : World.cell? wr ⟨b, o + k * 4 + 3, none⟩ = some (.slice A' x.l.length d) := hc.cl
        have HST := Lib.hid hst
        have HQ := Lib.hid hq
        have HLE := Lib.hid hle
        have HLX := Lib.hid hlx
        clear hc hA hx hst hq hle hlx
        have hk0 : (0 : Int) ≤ (k : Int) := by omega
        have hk1 : (k : Int) < (n : Int) := by omega
        by_cases hf : (x.l.length : Int) ≤ q
        · have hd2 : ¬ q - (x.l.length : Int) < 0 := by omega
          go_wp2_with fail
          refine (szEdition_ok x A' d _ q hq0 hq1 hxl hf).mono ?_
          rintro e w1 ⟨rfl, hb1⟩
          go_wp2
          go_roundw
          case rel => exact ⟨k + 1, by omega, by go_num, by rw [HST.out]; have := HQ.out; congr 1; omega, by rw [HST.out]; have := HQ.out; omega, ext_trans hbr hb1⟩
          case measure => simp [intOf]; omega
        · go_wp2_with fail
          refine (szEdition_no x A' d _ q hq0 hq1 hxl (by omega)).mono ?_
          rintro e w1 ⟨rfl, hb1⟩
          go_wp2
          go_ret
          have hw : ¬ (wt xs : Int) ≤ left := by
            have h1 := HW.out
            have h2 := HLX.out
            have h3 := HST.out
            have h4 := HQ.out
            omega
          rw [szR_no hw]
          exact ⟨rfl, ext_trans hbr hb1⟩
      · have hkn : k = n := by omega
        subst hkn
        rw [take_all (by rw [← hN.out]; exact Nat.le_refl _)] at hle ⊢
        go_wp2
        go_ret
        have hw : (wt xs : Int) ≤ left := by have h1 := HW.out; omega
        rw [szR_ok hw]
        exact ⟨ret_int (by have h1 := HW.out; omega), hbr⟩

set_option maxHeartbeats 1000000 in
theorem toEdition_any (x : Nest) (A : Option Addr) (d : Nat) (w : World) (hn : x.l.length ≤ 1048576) (hA : Fl one 1 w A x.l) :
    Calls Try.prog 47 #[.agg #[.int .i64 x.a, .int .i64 x.b, .int .i64 x.c, .slice A x.l.length d]] w fun e w' => ∃ B, e = .returned (.agg #[.int .i64 x.a, .int .i64 x.b, .int .i64 x.c, .slice (some ⟨B, 0, none⟩) x.l.length x.l.length]) ∧ FlO one 1 w.heap.size w'.heap.size w' (some ⟨B, 0, none⟩) x.l ∧ Below w.heap.size w w' := by
  obtain ⟨n, hnn⟩ : ∃ n, n = x.l.length := ⟨_, rfl⟩
  have hto := fun W hW => toIntS_any A d x.l W hn hW
  rw [← hnn] at hn hto ⊢
  clear hnn
  have HT := Lib.hid hto
  clear hto
  go_enter Try.func47, Try.ntmps47
  go_wp2_with fail
  refine (HT.out _ (hA.ext (by go_grown))).mono ?_
  rintro e w1 ⟨B, rfl, hF, hb1⟩
  have hx1 : Below w.heap.size w w1 := ext_trans (by go_grown) hb1
  have hz1 : w.heap.size + 3 ≤ w1.heap.size := by have := hb1.size; simp at this; omega
  have hzz : w.heap.size + 1 + 1 < w1.heap.size := by omega
  have hzy : w.heap.size + 1 < w1.heap.size := by omega
  have hzx : w.heap.size < w1.heap.size := by omega
  have hc1 := bcell hb1
  have hf1 : ∀ b o, b < w.heap.size + 1 + 1 + 1 → w1.frozen? ⟨b, o, none⟩ = World.frozen? _ ⟨b, o, none⟩ := fun b o h => hb1.frozen (p := ⟨b, o, none⟩) (by simpa using h)
  go_wp2
  have hT : Touch (w.heap.size + 1) (w.heap.size + 3) w1 w1 := Touch.refl _ _ _
  have hT2 : Touch (w.heap.size + 1) (w.heap.size + 3) w1 _ := ((((hT.set (p := ⟨w.heap.size + 1 + 1, 3, none⟩) (by simp <;> omega) (by simp <;> omega) (Value.slice (some { block := B, off := 0 }) n n)).set
    (p := ⟨w.heap.size + 1, 0, none⟩) (by simp) (by simp) (Value.int IntKind.i64 x.a)).set
    (p := ⟨w.heap.size + 1, 1, none⟩) (by simp) (by simp) (Value.int IntKind.i64 x.b)).set
    (p := ⟨w.heap.size + 1, 2, none⟩) (by simp) (by simp) (Value.int IntKind.i64 x.c)).set (p := ⟨w.heap.size + 1, 3, none⟩) (by simp) (by simp) (Value.slice (some { block := B, off := 0 }) n n)
  refine bodyPost_ret (v := .agg #[.int .i64 x.a, .int .i64 x.b, .int .i64 x.c, .slice (some ⟨B, 0, none⟩) n n]) (by simp [results, Try.results47, go_sem, hc1, hzx, hzy, hzz]) rfl ⟨B, rfl, ?_, ?_⟩
  · exact (hF.touch hT2 (Or.inr (by simp <;> omega))).mono (by simp <;> omega) (by simp [setCell_size])
  · exact hT2.below hx1 (by omega)

set_option maxHeartbeats 1000000 in
set_option maxRecDepth 100000 in
theorem toEditionS_any (A : Option Addr) (c : Nat) (xs : List Nest) (w : World) (hn : wt xs ≤ 1048576) (hA : Nl w A xs) :
    Calls Try.prog 15 #[.slice A xs.length c] w fun e w' => ∃ B, e = .returned (.slice (some ⟨B, 0, none⟩) xs.length xs.length) ∧ NlO w.heap.size w'.heap.size w' (some ⟨B, 0, none⟩) xs ∧ Below w.heap.size w w' := by
  have hin := fun x (hx : x ∈ xs) => wt_in hx
  have hwl := wt_len xs
  obtain ⟨i0, hi, hz0, hz1, hz2⟩ := info_parts infoEdition
  obtain ⟨n, hnn⟩ : ∃ n, n = xs.length := ⟨_, rfl⟩
  rw [← hnn] at hwl ⊢
  have hmk := run_make_rowN (P := Try.prog) 25 58 i0 _ Try.underlying25 hi hz0 .i64 .i64 n n (Nat.le_refl _) (by rw [hz2]; omega) (by omega)
  rw [hz1] at hmk
  obtain ⟨cells, hcells⟩ : ∃ cs, cs = madeCells (Value.agg #[.int .i64 0, .int .i64 0, .int .i64 0, .slice none 0 0]).cells (n * 4) := ⟨_, rfl⟩
  rw [← hcells] at hmk
  have hcs : cells.size = n * 4 := by rw [hcells]; exact size_madeCells _ _
  clear hcells hz0 hz1 hz2 hi
  have hN := Lib.hid hnn
  have hC := Lib.hid hcs
  have hn' : n ≤ 1048576 := by omega
  clear hnn hcs
  go_enter Try.func15, Try.ntmps15
  go_wp2
  go_loopw [4] (fun i wr => ∃ (k : Nat) (g : Nat → Nat) (S : Nat → Option Addr) (D : Nat → Nat), k ≤ n ∧ i = .int .i64 k ∧ Below w.heap.size w wr ∧ NFill w.heap.size n xs g S D k wr) (fun i _ => n - (intOf i).toNat)
  case atStart => exact ⟨0, fun _ => 0, fun _ => none, fun _ => 0, by omega, rfl, by go_grown, NFill.start rfl hC.out⟩
  case round =>
    obtain ⟨k, g, S, D, hk, rfl, hbr, hF⟩ := hrel
    by_cases hlt : k < n
    · obtain ⟨x, b, o, A', d, hx, rfl, hb, hc, hfl⟩ := (hA.ext hbr).at_ (k := k) (by rw [← hN.out]; exact hlt)
      have hxl := hin x (List.mem_of_getElem? hx)
      have hX := Lib.hid hx
      clear hx
      have c0 : World.cell? wr ⟨b, o + k * 4, none⟩ = some (.int .i64 x.a) := hc.ca
      have c1 : World.cell? wr ⟨b, o + k * 4 + 1, none⟩ = some (.int .i64 x.b) := hc.cb
      have c2 : World.cell? wr ⟨b, o + k * 4 + 2, none⟩ = some (.int .i64 x.c) := hc.cc
      have c3 : World.cell? wr ⟨b, o + k * 4 + 3, none⟩ = some (.slice A' x.l.length d) := hc.cl
      clear hc hA
      have hk0 : (0 : Int) ≤ (k : Int) := by omega
      have hk1 : (k : Int) < (n : Int) := by omega
      go_wp2_with fail
      refine (toEdition_any x A' d _ (by omega) hfl).mono ?_
      rintro e w1 ⟨B, rfl, hFo, hb1⟩
      have hF1 := hF.ext hb1
      have hsz := hF1.size
      have hfz := hF1.frozen
      obtain ⟨z0, hz0⟩ : ∃ u, World.cell? w1 ⟨w.heap.size, k * 4, none⟩ = some u := hF1.there _ (by omega)
      obtain ⟨z1, hz1⟩ : ∃ u, World.cell? w1 ⟨w.heap.size, k * 4 + 1, none⟩ = some u := hF1.there _ (by omega)
      obtain ⟨z2, hz2⟩ : ∃ u, World.cell? w1 ⟨w.heap.size, k * 4 + 2, none⟩ = some u := hF1.there _ (by omega)
      obtain ⟨z3, hz3⟩ : ∃ u, World.cell? w1 ⟨w.heap.size, k * 4 + 3, none⟩ = some u := hF1.there _ (by omega)
      go_wp2
      go_roundw
      case rel =>
        refine ⟨k + 1, _, _, _, by omega, by go_num, ?_, (hF.step (d := x.l.length) hb1 hlt hX.out hFo : NFill _ _ _ _ _ _ _ (setRow w1 w.heap.size (k * 4) _))⟩
        exact ((setRow_touch w.heap.size (lo := w.heap.size) (hi := w.heap.size + 1) (Nat.le_refl _) (by omega) [Value.int .i64 x.a, .int .i64 x.b, .int .i64 x.c, .slice (some ⟨B, 0, none⟩) x.l.length x.l.length] w1 (k * 4)).below (ext_trans hbr hb1) (Nat.le_refl _) : Below _ w (setRow w1 w.heap.size (k * 4) _))
      case measure => simp [intOf]; omega
    · have hkn : k = n := by omega
      subst hkn
      go_wp2
      go_ret
      exact ⟨_, rfl, hF.nlo (by rw [← hN.out]; exact Nat.le_refl _) (Nat.le_refl _), hbr⟩
set_option maxHeartbeats 1000000 in
theorem eqEdition_same (x : Nest) (A B : Option Addr) (d e : Nat) (w : World) (hn : x.l.length ≤ 1152921504606846976) (hA : Fl one 1 w A x.l) (hB : Fl one 1 w B x.l) :
    Calls Try.prog 50 #[.agg #[.int .i64 x.a, .int .i64 x.b, .int .i64 x.c, .slice A x.l.length d], .agg #[.int .i64 x.a, .int .i64 x.b, .int .i64 x.c, .slice B x.l.length e]] w fun e w' => e = .returned (.bool true) ∧ Below w.heap.size w w' := by
  go_enter Try.func50, Try.ntmps50
  go_wp2_with fail
  refine (eqIntS_same A B d e x.l _ hn (hA.ext (by go_grown)) (hB.ext (by go_grown))).mono ?_
  rintro e w1 ⟨rfl, hb1⟩
  have hx1 : Below w.heap.size w w1 := ext_trans (by go_grown) hb1
  have hz1 : w.heap.size + 2 ≤ w1.heap.size := by have := hb1.size; simp at this; omega
  have hc1 := bcell hb1
  go_wp2
  go_ret
  exact ⟨rfl, hx1⟩

set_option maxHeartbeats 1000000 in
set_option maxRecDepth 100000 in
theorem eqEditionS_same (A B : Option Addr) (c d : Nat) (xs : List Nest) (w : World) (hn : wt xs ≤ 1152921504606846976) (hA : Nl w A xs) (hB : Nl w B xs) :
    Calls Try.prog 17 #[.slice A xs.length c, .slice B xs.length d] w fun e w' => e = .returned (.bool true) ∧ Below w.heap.size w w' := by
  have hin := fun x (hx : x ∈ xs) => wt_in hx
  have hwl := wt_len xs
  obtain ⟨n, hnn⟩ : ∃ n, n = List.length xs := ⟨_, rfl⟩
  rw [← hnn] at hwl ⊢
  have hN := Lib.hid hnn
  clear hnn
  go_enter Try.func17, Try.ntmps17
  go_wp2
  go_loopw [5] (fun i wr => ∃ k : Nat, k ≤ n ∧ i = .int .i64 k ∧ Below w.heap.size w wr) (fun i _ => n - (intOf i).toNat)
  case atStart => exact ⟨0, by omega, rfl, Below.refl _ _⟩
  case round =>
    obtain ⟨k, hk, rfl, hbr⟩ := hrel
    by_cases hlt : k < n
    · have hBr := hB.ext hbr
      obtain ⟨x, b, o, A', d', hx, rfl, hb, hc, hfl⟩ := (hA.ext hbr).at_ (k := k) (by rw [← hN.out]; exact hlt)
      obtain ⟨y, b2, o2, A2, d2, hy, rfl, hb2, hc2, hfl2⟩ := hBr.at_ (k := k) (by rw [← hN.out]; exact hlt)
      rw [hx] at hy
      cases hy
      have hxl := hin x (List.mem_of_getElem? hx)
      have c0 : World.cell? wr ⟨b, o + k * 4, none⟩ = some (.int .i64 x.a) := hc.ca
      have c1 : World.cell? wr ⟨b, o + k * 4 + 1, none⟩ = some (.int .i64 x.b) := hc.cb
      have c2 : World.cell? wr ⟨b, o + k * 4 + 2, none⟩ = some (.int .i64 x.c) := hc.cc
      have c3 : World.cell? wr ⟨b, o + k * 4 + 3, none⟩ = some (.slice A' x.l.length d') := hc.cl
      have e0 : World.cell? wr ⟨b2, o2 + k * 4, none⟩ = some (.int .i64 x.a) := hc2.ca
      have e1 : World.cell? wr ⟨b2, o2 + k * 4 + 1, none⟩ = some (.int .i64 x.b) := hc2.cb
      have e2 : World.cell? wr ⟨b2, o2 + k * 4 + 2, none⟩ = some (.int .i64 x.c) := hc2.cc
      have e3 : World.cell? wr ⟨b2, o2 + k * 4 + 3, none⟩ = some (.slice A2 x.l.length d2) := hc2.cl
      clear hc hc2 hA hB hx hBr
      have hpc := plus_cell wr
      have hk0 : (0 : Int) ≤ (k : Int) := by omega
      have hk1 : (k : Int) < (n : Int) := by omega
      go_wp2_with fail
      refine wp_region_grow (by kernel_rfl) (by kernel_rfl) ?_
      repeat (go_big_quiet_step ((first | (go_at_call 50; exact quiet_below (eqEdition_same x A' A2 d' d2 _ (by omega) (hfl.ext (plus_below _ _)) (hfl2.ext (plus_below _ _)))))))
      refine wpQuiet_nil ?_
      intro w1 hb1
      go_wp2
      go_roundw
      case rel => exact ⟨k + 1, by omega, by go_num, ext_trans hbr hb1⟩
      case measure => simp [intOf]; omega
    · have hkn : k = n := by omega
      subst hkn
      go_wp2
      go_ret
      exact ⟨rfl, hbr⟩
end Go.Proofs.Ytaojamioongahaa
