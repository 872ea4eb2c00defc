/- Which slips are missing from a copy: missing and l19Missing. -/
import Derived.Test.YtdicopjoffdnnaaHeldOk
import Derived.Test.YtdicopjoffdnnaaIdxI
import Derived.Test.YtdicopjoffdnnaaFamInt
import Derived.Test.YtdicopjoffdnnaaOwn2
namespace Go.Proofs.Ytdicopjoffdnnaa
open Go.RowKit
set_option linter.unusedVariables false
set_option linter.unusedSimpArgs false

def Mis (x : Nest) (day : Int) (e : Erratum) : Prop := Con e x ∧ e.day ≤ day ∧ e.id ∉ x.l
noncomputable def miss (x : Nest) (day : Int) (xs : List Erratum) : List Int := (xs.filter fun e => tb (Mis x day e)).map fun e => e.id
theorem miss_t {x : Nest} {day : Int} {ys : List Erratum} {e : Erratum} (h : Mis x day e) : miss x day (ys ++ [e]) = miss x day ys ++ [e.id] := by simp [miss, tb_t h]
theorem miss_f {x : Nest} {day : Int} {ys : List Erratum} {e : Erratum} (h : ¬ Mis x day e) : miss x day (ys ++ [e]) = miss x day ys := by simp [miss, tb_f h]
theorem miss_len (x : Nest) (day : Int) (ys : List Erratum) : (miss x day ys).length ≤ ys.length := by unfold miss; rw [List.length_map]; exact List.length_filter_le _ _
theorem contains_t (A : Option Addr) (c : Nat) (xs : List Int) (v : Int) (w : World) (hn : xs.length ≤ 1152921504606846976) (hA : Fl one 1 w A xs) (h : v ∈ xs) :
    Calls Try.prog 53 #[.slice A xs.length c, .int .i64 v] w fun e w' => e = .returned (.bool true) ∧ w = w' := by
  have := contains_any A c xs v w hn hA; rwa [tb_t h] at this
theorem contains_f (A : Option Addr) (c : Nat) (xs : List Int) (v : Int) (w : World) (hn : xs.length ≤ 1152921504606846976) (hA : Fl one 1 w A xs) (h : v ∉ xs) :
    Calls Try.prog 53 #[.slice A xs.length c, .int .i64 v] w fun e w' => e = .returned (.bool false) ∧ w = w' := by
  have := contains_any A c xs v w hn hA; rwa [tb_f h] at this
theorem l1Has_t (A : Option Addr) (c : Nat) (xs : List Int) (v : Int) (w : World) (hn : xs.length ≤ 1152921504606846976) (hA : Fl one 1 w A xs) (h : v ∈ xs) :
    Calls Try.prog 59 #[.slice A xs.length c, .int .i64 v] w fun e w' => e = .returned (.bool true) ∧ w = w' := by
  have := l1Has_any A c xs v w hn hA; rwa [tb_t h] at this
theorem l1Has_f (A : Option Addr) (c : Nat) (xs : List Int) (v : Int) (w : World) (hn : xs.length ≤ 1152921504606846976) (hA : Fl one 1 w A xs) (h : v ∉ xs) :
    Calls Try.prog 59 #[.slice A xs.length c, .int .i64 v] w fun e w' => e = .returned (.bool false) ∧ w = w' := by
  have := l1Has_any A c xs v w hn hA; rwa [tb_f h] at this
set_option maxHeartbeats 2000000 in
set_option maxRecDepth 100000 in
theorem missing_any (A : Option Addr) (c : Nat) (xs : List Erratum) (x : Nest) (A' : Option Addr) (d : Nat) (day : Int) (w : World) (hn : xs.length ≤ 1048576) (hxl : x.l.length ≤ 1152921504606846976) (hA : Fl Erratum.ints 5 w A xs) (hF : Fl one 1 w A' x.l) :
    Calls Try.prog 26 #[.slice A xs.length c, .agg #[.int .i64 x.a, .int .i64 x.b, .int .i64 x.c, .slice A' x.l.length d], .int .i64 day] w (RetI w (miss x day xs)) := by
  obtain ⟨i0, hi, hz0, hz1, hz2⟩ := info_parts infoInt
  obtain ⟨n, hnn⟩ : ∃ n, n = List.length xs := ⟨_, rfl⟩
  rw [← hnn] at hn ⊢
  have hN := Lib.hid hnn
  clear hnn
  obtain ⟨V0, hV0, hC0, hy0, hv, _⟩ := box_world w #[Value.int .i64 x.a, .int .i64 x.b, .int .i64 x.c, .slice A' x.l.length d] 35
  have v3 : World.cell? V0 ⟨w.heap.size, 3, none⟩ = some (.slice A' x.l.length d) := hv 3
  have v0 : World.cell? V0 ⟨w.heap.size, 0, none⟩ = some (.int .i64 x.a) := hv 0
  have v1 : World.cell? V0 ⟨w.heap.size, 1, none⟩ = some (.int .i64 x.b) := hv 1
  have v2 : World.cell? V0 ⟨w.heap.size, 2, none⟩ = some (.int .i64 x.c) := hv 2
  have hA0 := hA.ext hC0
  have hF0 := hF.ext hC0
  clear hv hA hF
  go_enter Try.func26, Try.ntmps26
  go_wp2
  go_loopw [7, 12] (fun v i wr => ∃ k : Nat, k ≤ n ∧ i = .int .i64 k ∧ Below V0.heap.size V0 wr ∧ OwnF one 1 V0.heap.size 3 wr v (miss x day (xs.take k))) (fun _ i _ => n - (intOf i).toNat)
  case atStart => exact ⟨0, by omega, rfl, Below.refl _ _, OwnF.none_⟩
  case round =>
    obtain ⟨k, hk, rfl, hbr, hown⟩ := hrel
    have hzr := hbr.size
    by_cases hlt : k < n
    · obtain ⟨e, b, o, hx, rfl, hb, hc⟩ := (hA0.ext hbr).at_ (k := k) (by rw [← hN.out]; exact hlt)
      have c0 : World.cell? wr ⟨b, o + k * 5, none⟩ = some (.int .i64 e.id) := hc 0 _ rfl
      have c1 : World.cell? wr ⟨b, o + k * 5 + 1, none⟩ = some (.int .i64 e.sheet) := hc 1 _ rfl
      have c2 : World.cell? wr ⟨b, o + k * 5 + 2, none⟩ = some (.int .i64 e.frm) := hc 2 _ rfl
      have c3 : World.cell? wr ⟨b, o + k * 5 + 3, none⟩ = some (.int .i64 e.til) := hc 3 _ rfl
      have c4 : World.cell? wr ⟨b, o + k * 5 + 4, none⟩ = some (.int .i64 e.day) := hc 4 _ rfl
      have hlen : (miss x day (xs.take k)).length ≤ 1048576 := Nat.le_trans (miss_len _ _ _) (by rw [List.length_take]; omega)
      have HT := Lib.hid (take_get hx)
      obtain ⟨W0, hW0, hB0, hz0', hg, _⟩ := box_world wr #[Value.int .i64 e.id, .int .i64 e.sheet, .int .i64 e.frm, .int .i64 e.til, .int .i64 e.day] 63
      have g0 : World.cell? W0 ⟨wr.heap.size, 0, none⟩ = some (.int .i64 e.id) := hg 0
      have g1 : World.cell? W0 ⟨wr.heap.size, 1, none⟩ = some (.int .i64 e.sheet) := hg 1
      have g2 : World.cell? W0 ⟨wr.heap.size, 2, none⟩ = some (.int .i64 e.frm) := hg 2
      have g3 : World.cell? W0 ⟨wr.heap.size, 3, none⟩ = some (.int .i64 e.til) := hg 3
      have g4 : World.cell? W0 ⟨wr.heap.size, 4, none⟩ = some (.int .i64 e.day) := hg 4
      have hown0 := hown.ext hB0
      have hbW := ext_trans hbr hB0
      have q0 : World.cell? W0 ⟨w.heap.size, 0, none⟩ = some (.int .i64 x.a) := (hbW.cell (p := ⟨w.heap.size, 0, none⟩) hy0).trans v0
      have q1 : World.cell? W0 ⟨w.heap.size, 1, none⟩ = some (.int .i64 x.b) := (hbW.cell (p := ⟨w.heap.size, 1, none⟩) hy0).trans v1
      have q2 : World.cell? W0 ⟨w.heap.size, 2, none⟩ = some (.int .i64 x.c) := (hbW.cell (p := ⟨w.heap.size, 2, none⟩) hy0).trans v2
      have q3 : World.cell? W0 ⟨w.heap.size, 3, none⟩ = some (.slice A' x.l.length d) := (hbW.cell (p := ⟨w.heap.size, 3, none⟩) hy0).trans v3
      have hF1 := hF0.ext hbW
      have hyW : w.heap.size < W0.heap.size := Nat.lt_of_lt_of_le hy0 hbW.size
      clear hc hg hx v0 v1 v2 v3 hA0 hF0
      have hk0 : (0 : Int) ≤ (k : Int) := by omega
      have hk1 : (k : Int) < (n : Int) := by omega
      by_cases hcon : Con e x
      · go_wp2_with fail
        refine (concerns_t e x A' d W0 hcon).mono ?_
        rintro e w1 ⟨rfl, hb1⟩
        have r0 : World.cell? w1 ⟨wr.heap.size, 0, none⟩ = some (.int .i64 e.id) := (hb1.cell (p := ⟨wr.heap.size, 0, none⟩) hz0').trans g0
        have r4 : World.cell? w1 ⟨wr.heap.size, 4, none⟩ = some (.int .i64 e.day) := (hb1.cell (p := ⟨wr.heap.size, 4, none⟩) hz0').trans g4
        have p3 : World.cell? w1 ⟨w.heap.size, 3, none⟩ = some (.slice A' x.l.length d) := (hb1.cell (p := ⟨w.heap.size, 3, none⟩) hyW).trans q3
        have hownA := hown0.ext hb1
        have hbA := ext_trans hbW hb1
        have hF2 := hF1.ext hb1
        clear g0 g1 g2 g3 g4 q0 q1 q2 q3 hF1
        by_cases hday : e.day ≤ day
        · by_cases hhas : e.id ∈ x.l
          · have HNM : Hid (¬ Mis x day e) := fun h => h.2.2 hhas
            go_wp2_with fail
            refine (contains_t A' d x.l e.id w1 hxl hF2 hhas).mono ?_
            rintro e w2 ⟨rfl, rfl⟩
            go_wp2
            go_roundw
            case rel => exact ⟨k + 1, by omega, by go_num, hbA, by rw [HT.out, miss_f HNM.out]; exact hownA⟩
            case measure => simp [intOf]; omega
          · have HMI : Hid (Mis x day e) := ⟨hcon, hday, hhas⟩
            go_wp2_with fail
            refine (contains_f A' d x.l e.id w1 hxl hF2 hhas).mono ?_
            rintro e w2 ⟨rfl, rfl⟩
            go_wp2_with (at_builtin; refine wpList_append_flat (f := one) (y := e.id) rfl _ _ _ rfl V0.heap.size i0 _ 1 8 Try.underlying31 hi hz0 hz1 hz2 rfl (by decide) _ _ rfl rfl hownA rfl ?_ (by decide) ?_ ?_; omega; exact hbA.size; intro v' w3 hown3 hg3 hb3)
            go_roundw
            case rel => exact ⟨k + 1, by omega, by go_num, hbA.trans hb3, by rw [HT.out, miss_t HMI.out]; exact hown3⟩
            case measure => simp [intOf]; omega
        · have HNM : Hid (¬ Mis x day e) := fun h => hday h.2.1
          go_wp2
          go_roundw
          case rel => exact ⟨k + 1, by omega, by go_num, hbA, by rw [HT.out, miss_f HNM.out]; exact hownA⟩
          case measure => simp [intOf]; omega
      · have HNM : Hid (¬ Mis x day e) := fun h => hcon h.1
        go_wp2_with fail
        refine (concerns_f e x A' d W0 hcon).mono ?_
        rintro e w1 ⟨rfl, hb1⟩
        have r0 : World.cell? w1 ⟨wr.heap.size, 0, none⟩ = some (.int .i64 e.id) := (hb1.cell (p := ⟨wr.heap.size, 0, none⟩) hz0').trans g0
        have r4 : World.cell? w1 ⟨wr.heap.size, 4, none⟩ = some (.int .i64 e.day) := (hb1.cell (p := ⟨wr.heap.size, 4, none⟩) hz0').trans g4
        have p3 : World.cell? w1 ⟨w.heap.size, 3, none⟩ = some (.slice A' x.l.length d) := (hb1.cell (p := ⟨w.heap.size, 3, none⟩) hyW).trans q3
        have hownA := hown0.ext hb1
        have hbA := ext_trans hbW hb1
        have hF2 := hF1.ext hb1
        clear g0 g1 g2 g3 g4 q0 q1 q2 q3 hF1
        go_wp2
        go_roundw
        case rel => exact ⟨k + 1, by omega, by go_num, hbA, by rw [HT.out, miss_f HNM.out]; exact hownA⟩
        case measure => simp [intOf]; omega
    · have hkn : k = n := by omega
      subst hkn
      rw [take_all (by rw [← hN.out]; exact Nat.le_refl _)] at hown
      go_wp2
      go_ret
      obtain ⟨B2, d2, hv, hF⟩ := hown.form one_length
      exact ⟨B2, d2, by rw [hv]; rfl, hF.mono hC0.size (Nat.le_refl _), ext_trans hC0 hbr⟩
set_option maxHeartbeats 2000000 in
set_option maxRecDepth 100000 in
theorem l19Missing_any (A : Option Addr) (c : Nat) (xs : List Erratum) (x : Nest) (A' : Option Addr) (d : Nat) (day : Int) (w : World) (hn : xs.length ≤ 1048576) (hxl : x.l.length ≤ 1152921504606846976) (hA : Fl Erratum.ints 5 w A xs) (hF : Fl one 1 w A' x.l) :
    Calls Try.prog 31 #[.slice A xs.length c, .agg #[.int .i64 x.a, .int .i64 x.b, .int .i64 x.c, .slice A' x.l.length d], .int .i64 day] w (RetI w (miss x day xs)) := by
  obtain ⟨i0, hi, hz0, hz1, hz2⟩ := info_parts infoInt
  obtain ⟨n, hnn⟩ : ∃ n, n = List.length xs := ⟨_, rfl⟩
  rw [← hnn] at hn ⊢
  have hN := Lib.hid hnn
  clear hnn
  obtain ⟨V0, hV0, hC0, hy0, hv, _⟩ := box_world w #[Value.int .i64 x.a, .int .i64 x.b, .int .i64 x.c, .slice A' x.l.length d] 35
  have v3 : World.cell? V0 ⟨w.heap.size, 3, none⟩ = some (.slice A' x.l.length d) := hv 3
  have v0 : World.cell? V0 ⟨w.heap.size, 0, none⟩ = some (.int .i64 x.a) := hv 0
  have v1 : World.cell? V0 ⟨w.heap.size, 1, none⟩ = some (.int .i64 x.b) := hv 1
  have v2 : World.cell? V0 ⟨w.heap.size, 2, none⟩ = some (.int .i64 x.c) := hv 2
  obtain ⟨V1, hV1, hC1, hy1, _, _⟩ := box_world V0 #[] 3
  have hown1 : OwnF one 1 V0.heap.size 3 V1 (.slice (some ⟨V0.heap.size, 0, none⟩) 0 0) [] := hV1 ▸ OwnF.empty (Nat.le_refl _)
  have hA0 := hA.ext hC0
  have hF0 := hF.ext hC0
  clear hv hA hF
  go_enter Try.func31, Try.ntmps31
  go_wp2
  go_loopw [7, 8] (fun v i wr => ∃ k : Nat, k ≤ n ∧ i = .int .i64 k ∧ Below V0.heap.size V0 wr ∧ OwnF one 1 V0.heap.size 3 wr v (miss x day (xs.take k))) (fun _ i _ => n - (intOf i).toNat)
  case atStart => exact ⟨0, by omega, rfl, hC1, hown1⟩
  case round =>
    obtain ⟨k, hk, rfl, hbr, hown⟩ := hrel
    have hzr := hbr.size
    by_cases hlt : k < n
    · obtain ⟨e, b, o, hx, rfl, hb, hc⟩ := (hA0.ext hbr).at_ (k := k) (by rw [← hN.out]; exact hlt)
      have c0 : World.cell? wr ⟨b, o + k * 5, none⟩ = some (.int .i64 e.id) := hc 0 _ rfl
      have c1 : World.cell? wr ⟨b, o + k * 5 + 1, none⟩ = some (.int .i64 e.sheet) := hc 1 _ rfl
      have c2 : World.cell? wr ⟨b, o + k * 5 + 2, none⟩ = some (.int .i64 e.frm) := hc 2 _ rfl
      have c3 : World.cell? wr ⟨b, o + k * 5 + 3, none⟩ = some (.int .i64 e.til) := hc 3 _ rfl
      have c4 : World.cell? wr ⟨b, o + k * 5 + 4, none⟩ = some (.int .i64 e.day) := hc 4 _ rfl
      have hlen : (miss x day (xs.take k)).length ≤ 1048576 := Nat.le_trans (miss_len _ _ _) (by rw [List.length_take]; omega)
      have HT := Lib.hid (take_get hx)
      obtain ⟨W0, hW0, hB0, hz0', hg, _⟩ := box_world wr #[Value.int .i64 e.id, .int .i64 e.sheet, .int .i64 e.frm, .int .i64 e.til, .int .i64 e.day] 63
      have g0 : World.cell? W0 ⟨wr.heap.size, 0, none⟩ = some (.int .i64 e.id) := hg 0
      have g1 : World.cell? W0 ⟨wr.heap.size, 1, none⟩ = some (.int .i64 e.sheet) := hg 1
      have g2 : World.cell? W0 ⟨wr.heap.size, 2, none⟩ = some (.int .i64 e.frm) := hg 2
      have g3 : World.cell? W0 ⟨wr.heap.size, 3, none⟩ = some (.int .i64 e.til) := hg 3
      have g4 : World.cell? W0 ⟨wr.heap.size, 4, none⟩ = some (.int .i64 e.day) := hg 4
      have hown0 := hown.ext hB0
      have hbW := ext_trans hbr hB0
      have q0 : World.cell? W0 ⟨w.heap.size, 0, none⟩ = some (.int .i64 x.a) := (hbW.cell (p := ⟨w.heap.size, 0, none⟩) hy0).trans v0
      have q1 : World.cell? W0 ⟨w.heap.size, 1, none⟩ = some (.int .i64 x.b) := (hbW.cell (p := ⟨w.heap.size, 1, none⟩) hy0).trans v1
      have q2 : World.cell? W0 ⟨w.heap.size, 2, none⟩ = some (.int .i64 x.c) := (hbW.cell (p := ⟨w.heap.size, 2, none⟩) hy0).trans v2
      have q3 : World.cell? W0 ⟨w.heap.size, 3, none⟩ = some (.slice A' x.l.length d) := (hbW.cell (p := ⟨w.heap.size, 3, none⟩) hy0).trans v3
      have hF1 := hF0.ext hbW
      have hyW : w.heap.size < W0.heap.size := Nat.lt_of_lt_of_le hy0 hbW.size
      clear hc hg hx v0 v1 v2 v3 hA0 hF0
      have hk0 : (0 : Int) ≤ (k : Int) := by omega
      have hk1 : (k : Int) < (n : Int) := by omega
      by_cases hcon : Con e x
      · go_wp2_with fail
        refine (l19Concerns_t e x A' d W0 hcon).mono ?_
        rintro e w1 ⟨rfl, hb1⟩
        have r0 : World.cell? w1 ⟨wr.heap.size, 0, none⟩ = some (.int .i64 e.id) := (hb1.cell (p := ⟨wr.heap.size, 0, none⟩) hz0').trans g0
        have r4 : World.cell? w1 ⟨wr.heap.size, 4, none⟩ = some (.int .i64 e.day) := (hb1.cell (p := ⟨wr.heap.size, 4, none⟩) hz0').trans g4
        have p3 : World.cell? w1 ⟨w.heap.size, 3, none⟩ = some (.slice A' x.l.length d) := (hb1.cell (p := ⟨w.heap.size, 3, none⟩) hyW).trans q3
        have hownA := hown0.ext hb1
        have hbA := ext_trans hbW hb1
        have hF2 := hF1.ext hb1
        clear g0 g1 g2 g3 g4 q0 q1 q2 q3 hF1
        by_cases hday : e.day ≤ day
        · by_cases hhas : e.id ∈ x.l
          · have HNM : Hid (¬ Mis x day e) := fun h => h.2.2 hhas
            go_wp2_with fail
            refine (l1Has_t A' d x.l e.id w1 hxl hF2 hhas).mono ?_
            rintro e w2 ⟨rfl, rfl⟩
            go_wp2
            go_roundw
            case rel => exact ⟨k + 1, by omega, by go_num, hbA, by rw [HT.out, miss_f HNM.out]; exact hownA⟩
            case measure => simp [intOf]; omega
          · have HMI : Hid (Mis x day e) := ⟨hcon, hday, hhas⟩
            go_wp2_with fail
            refine (l1Has_f A' d x.l e.id w1 hxl hF2 hhas).mono ?_
            rintro e w2 ⟨rfl, rfl⟩
            go_wp2_with (at_builtin; refine wpList_append_flat (f := one) (y := e.id) rfl _ _ _ rfl V0.heap.size i0 _ 1 8 Try.underlying31 hi hz0 hz1 hz2 rfl (by decide) _ _ rfl rfl hownA rfl ?_ (by decide) ?_ ?_; omega; exact hbA.size; intro v' w3 hown3 hg3 hb3)
            go_roundw
            case rel => exact ⟨k + 1, by omega, by go_num, hbA.trans hb3, by rw [HT.out, miss_t HMI.out]; exact hown3⟩
            case measure => simp [intOf]; omega
        · have HNM : Hid (¬ Mis x day e) := fun h => hday h.2.1
          go_wp2
          go_roundw
          case rel => exact ⟨k + 1, by omega, by go_num, hbA, by rw [HT.out, miss_f HNM.out]; exact hownA⟩
          case measure => simp [intOf]; omega
      · have HNM : Hid (¬ Mis x day e) := fun h => hcon h.1
        go_wp2_with fail
        refine (l19Concerns_f e x A' d W0 hcon).mono ?_
        rintro e w1 ⟨rfl, hb1⟩
        have r0 : World.cell? w1 ⟨wr.heap.size, 0, none⟩ = some (.int .i64 e.id) := (hb1.cell (p := ⟨wr.heap.size, 0, none⟩) hz0').trans g0
        have r4 : World.cell? w1 ⟨wr.heap.size, 4, none⟩ = some (.int .i64 e.day) := (hb1.cell (p := ⟨wr.heap.size, 4, none⟩) hz0').trans g4
        have p3 : World.cell? w1 ⟨w.heap.size, 3, none⟩ = some (.slice A' x.l.length d) := (hb1.cell (p := ⟨w.heap.size, 3, none⟩) hyW).trans q3
        have hownA := hown0.ext hb1
        have hbA := ext_trans hbW hb1
        have hF2 := hF1.ext hb1
        clear g0 g1 g2 g3 g4 q0 q1 q2 q3 hF1
        go_wp2
        go_roundw
        case rel => exact ⟨k + 1, by omega, by go_num, hbA, by rw [HT.out, miss_f HNM.out]; exact hownA⟩
        case measure => simp [intOf]; omega
    · have hkn : k = n := by omega
      subst hkn
      rw [take_all (by rw [← hN.out]; exact Nat.le_refl _)] at hown
      go_wp2
      go_ret
      obtain ⟨B2, d2, hv, hF⟩ := hown.form one_length
      exact ⟨B2, d2, by rw [hv]; rfl, hF.mono hC0.size (Nat.le_refl _), ext_trans hC0 hbr⟩
end Go.Proofs.Ytdicopjoffdnnaa
