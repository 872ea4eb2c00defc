/- The place of an erratum, and of a copy. Which errata are valid: the program's AreErrata and the reference's. Which copies are valid: what an erratum concerns, and the words of the law. No condition. -/
import Derived.Test.YtbnlbcbdhmmlgaaGreatDoorMgA
import Derived.Test.YtbnlbcbdhmmlgaaGreatDoorFamErratum
import Derived.Test.YtbnlbcbdhmmlgaaGreatDoorMgB
import Derived.Test.YtbnlbcbdhmmlgaaGreatDoorProg
namespace Go.Proofs.YtbnlbcbdhmmlgaaGreatDoor
open Go.RowKit
set_option linter.unusedVariables false
set_option linter.unusedSimpArgs false

/-- the place, counted from i, of the first element that is meant, or -1 -/
def idxB {α : Type} (p : α → Bool) : Nat → List α → Int
  | _, [] => -1
  | i, x :: r => if p x = true then (i : Int) else idxB p (i + 1) r
theorem idxB_p {α : Type} (p : α → Bool) : ∀ (xs : List α) (i : Nat), (idxB p i xs = -1 ∧ ∀ x ∈ xs, p x = false) ∨ ∃ (j : Nat) (x : α), idxB p i xs = ((i + j : Nat) : Int) ∧ xs[j]? = some x ∧ p x = true
  | [], _ => .inl ⟨rfl, fun x h => by simp at h⟩
  | y :: r, i => by
    rw [idxB]
    by_cases h : p y = true
    · rw [if_pos h]
      exact .inr ⟨0, y, rfl, rfl, h⟩
    · rw [if_neg h]
      rcases idxB_p p r (i + 1) with ⟨h1, h2⟩ | ⟨j, x, h1, h2, h3⟩
      · refine .inl ⟨h1, fun x hx => ?_⟩
        rcases List.mem_cons.1 hx with rfl | hx
        · simpa using h
        · exact h2 x hx
      · exact .inr ⟨j + 1, x, by rw [h1]; congr 1; omega, by simpa using h2, h3⟩
set_option maxHeartbeats 400000 in
theorem isE_any (x : Erratum) (v : Int) (b1 : Nat) (w : World) (hb1 : b1 < w.heap.size) (h1 : w.cell? ⟨b1, 0, none⟩ = some (.int .i64 v)) :
    Calls Tryz.prog 63 #[.agg #[.int .i64 x.id, .int .i64 x.sheet, .int .i64 x.frm, .int .i64 x.til, .int .i64 x.day], .pointer (some ⟨b1, 0, none⟩)] w fun e w' => e = .returned (.bool (decide (x.id = v))) ∧ Below w.heap.size w w' := by
  go_enter Tryz.func63, Tryz.ntmps63
  go_wp2
  go_ret
  exact ⟨ret_bool (by first | rfl | (by_cases h : x.id = v <;> simp [h])), by go_grown⟩
set_option maxHeartbeats 1000000 in
set_option maxRecDepth 100000 in
theorem isEF_any (A : Option Addr) (c : Nat) (xs : List Erratum) (v : Int) (b1 : Nat) (w : World) (hn : xs.length ≤ 16777216) (hA : Fl Erratum.ints 5 w A xs) (hb1 : b1 < w.heap.size) (h1 : w.cell? ⟨b1, 0, none⟩ = some (.int .i64 v)) :
    Calls Tryz.prog 62 #[.slice A xs.length c, .func (.func 63) #[] #[.pointer (some ⟨b1, 0, none⟩)]] w fun e w' => e = .returned (.int .i64 (idxB (fun x => decide (x.id = v)) 0 xs)) ∧ Below w.heap.size w w' := by
  obtain ⟨n, hnn⟩ : ∃ n, n = List.length xs := ⟨_, rfl⟩
  rw [← hnn] at hn ⊢
  have hN := Lib.hid hnn
  clear hnn
  go_enter Tryz.func62, Tryz.ntmps62
  go_wp2
  go_loopw [8] (fun i wr => ∃ k : Nat, k ≤ n ∧ i = .int .i64 k ∧ Below w.heap.size w wr ∧ Hid (idxB (fun x => decide (x.id = v)) k (xs.drop k) = idxB (fun x => decide (x.id = v)) 0 xs)) (fun i _ => n - (intOf i).toNat)
  case atStart => exact ⟨0, by omega, rfl, Below.refl _ _, rfl⟩
  case round =>
    obtain ⟨k, hk, rfl, hbr, hst⟩ := hrel
    by_cases hlt : k < n
    · obtain ⟨x, b, o, hx, rfl, hb, hc⟩ := (hA.ext hbr).at_ (k := k) (by rw [← hN.out]; exact hlt)
      have c0 : World.cell? wr ⟨b, o + k * 5, none⟩ = some (.int .i64 x.id) := hc 0 _ rfl
      have c1 : World.cell? wr ⟨b, o + k * 5 + 1, none⟩ = some (.int .i64 x.sheet) := hc 1 _ rfl
      have c2 : World.cell? wr ⟨b, o + k * 5 + 2, none⟩ = some (.int .i64 x.frm) := hc 2 _ rfl
      have c3 : World.cell? wr ⟨b, o + k * 5 + 3, none⟩ = some (.int .i64 x.til) := hc 3 _ rfl
      have c4 : World.cell? wr ⟨b, o + k * 5 + 4, none⟩ = some (.int .i64 x.day) := hc 4 _ rfl
      have HX := Lib.hid hx
      have e1 := (hbr.cell (p := ⟨b1, 0, none⟩) hb1).trans h1
      clear hc hx hA
      have hk0 : (0 : Int) ≤ (k : Int) := by omega
      have hk1 : (k : Int) < (n : Int) := by omega
      go_wp2_with fail
      refine (isE_any x v b1 wr (Nat.lt_of_lt_of_le hb1 hbr.size) e1).mono ?_
      rintro e w2 ⟨rfl, hb2'⟩
      have hx2 := ext_trans hbr hb2'
      by_cases hv : x.id = v
      · have HV := Lib.hid hv
        have hd : decide (x.id = v) = true := by simp [hv]
        rw [hd]
        clear hd hv
        go_wp2
        go_ret
        exact ⟨ret_int (by rw [← hst.out, drop_get HX.out, idxB, if_pos (by simp [HV.out])]), hx2⟩
      · have HV := Lib.hid hv
        have hd : decide (x.id = v) = false := by simp [hv]
        rw [hd]
        clear hd hv
        go_wp2
        go_roundw
        case rel => exact ⟨k + 1, by omega, by go_num, hx2, by unfold Hid; rw [← hst.out, drop_get HX.out, idxB, if_neg (by simp [HV.out])]⟩
        case measure => simp [intOf]; omega
    · have hkn : k = n := by omega
      subst hkn
      go_wp2
      go_ret
      exact ⟨ret_int (by rw [← hst.out, drop_all (by rw [← hN.out]; exact Nat.le_refl _)]; rfl), hbr⟩
set_option maxHeartbeats 400000 in
theorem erratumAt_any (A : Option Addr) (c : Nat) (xs : List Erratum) (v : Int) (w : World) (hn : xs.length ≤ 16777216) (hA : Fl Erratum.ints 5 w A xs) :
    Calls Tryz.prog 29 #[.slice A xs.length c, .int .i64 v] w fun e w' => e = .returned (.int .i64 (idxB (fun x => decide (x.id = v)) 0 xs)) ∧ Below w.heap.size w w' := by
  have hmf : ∀ (fn : Fn) (first cap : Array Value) (w : World), (Instr.makeFunc fn first cap).run Tryz.prog w = .ok (.func fn first cap) w := fun _ _ _ _ => rfl
  obtain ⟨W0, hW0, hB0, hz0, hc0, _⟩ := box_world w #[Value.int .i64 v] 3
  have h := isEF_any A c xs v w.heap.size W0 hn (hA.ext hB0) hz0 (hc0 0)
  generalize idxB (fun x => decide (x.id = v)) 0 xs = r at h ⊢
  generalize xs.length = n at h ⊢
  have H := Lib.hid h
  clear h hc0
  go_enter Tryz.func29, Tryz.ntmps29
  go_wp2_with fail
  refine (H.out).mono ?_
  rintro e w1 ⟨rfl, hb1⟩
  go_wp2
  go_ret
  exact ⟨rfl, ext_trans hB0 hb1⟩
set_option maxHeartbeats 400000 in
theorem isH_any (x : Nest) (A : Option Addr) (d : Nat) (v : Int) (b1 : Nat) (w : World) (hb1 : b1 < w.heap.size) (h1 : w.cell? ⟨b1, 0, none⟩ = some (.int .i64 v)) :
    Calls Tryz.prog 61 #[.agg #[.int .i64 x.a, .int .i64 x.b, .int .i64 x.c, .slice A x.l.length d], .pointer (some ⟨b1, 0, none⟩)] w fun e w' => e = .returned (.bool (decide (x.a = v))) ∧ Below w.heap.size w w' := by
  go_enter Tryz.func61, Tryz.ntmps61
  go_wp2
  go_ret
  exact ⟨ret_bool (by first | rfl | (by_cases h : x.a = v <;> simp [h])), by go_grown⟩
set_option maxHeartbeats 1000000 in
set_option maxRecDepth 100000 in
theorem isHF_any (A : Option Addr) (c : Nat) (xs : List Nest) (v : Int) (b1 : Nat) (w : World) (hn : xs.length ≤ 16777216) (hA : Nl w A xs) (hb1 : b1 < w.heap.size) (h1 : w.cell? ⟨b1, 0, none⟩ = some (.int .i64 v)) :
    Calls Tryz.prog 60 #[.slice A xs.length c, .func (.func 61) #[] #[.pointer (some ⟨b1, 0, none⟩)]] w fun e w' => e = .returned (.int .i64 (idxB (fun x => decide (x.a = v)) 0 xs)) ∧ Below w.heap.size w w' := by
  obtain ⟨n, hnn⟩ : ∃ n, n = List.length xs := ⟨_, rfl⟩
  rw [← hnn] at hn ⊢
  have hN := Lib.hid hnn
  clear hnn
  go_enter Tryz.func60, Tryz.ntmps60
  go_wp2
  go_loopw [8] (fun i wr => ∃ k : Nat, k ≤ n ∧ i = .int .i64 k ∧ Below w.heap.size w wr ∧ Hid (idxB (fun x => decide (x.a = v)) k (xs.drop k) = idxB (fun x => decide (x.a = v)) 0 xs)) (fun i _ => n - (intOf i).toNat)
  case atStart => exact ⟨0, by omega, rfl, Below.refl _ _, rfl⟩
  case round =>
    obtain ⟨k, hk, rfl, hbr, hst⟩ := hrel
    by_cases hlt : k < n
    · obtain ⟨x, b, o, A', d, hx, rfl, hb, hc, _⟩ := (hA.ext hbr).at_ (k := k) (by rw [← hN.out]; exact hlt)
      have c0 : World.cell? wr ⟨b, o + k * 4, none⟩ = some (.int .i64 x.a) := hc.ca
      have c1 : World.cell? wr ⟨b, o + k * 4 + 1, none⟩ = some (.int .i64 x.b) := hc.cb
      have c2 : World.cell? wr ⟨b, o + k * 4 + 2, none⟩ = some (.int .i64 x.c) := hc.cc
      have c3 : World.cell? wr ⟨b, o + k * 4 + 3, none⟩ = some (.slice A' x.l.length d) := hc.cl
      have HX := Lib.hid hx
      have e1 := (hbr.cell (p := ⟨b1, 0, none⟩) hb1).trans h1
      clear hc hx hA
      have hk0 : (0 : Int) ≤ (k : Int) := by omega
      have hk1 : (k : Int) < (n : Int) := by omega
      go_wp2_with fail
      refine (isH_any x A' d v b1 wr (Nat.lt_of_lt_of_le hb1 hbr.size) e1).mono ?_
      rintro e w2 ⟨rfl, hb2'⟩
      have hx2 := ext_trans hbr hb2'
      by_cases hv : x.a = v
      · have HV := Lib.hid hv
        have hd : decide (x.a = v) = true := by simp [hv]
        rw [hd]
        clear hd hv
        go_wp2
        go_ret
        exact ⟨ret_int (by rw [← hst.out, drop_get HX.out, idxB, if_pos (by simp [HV.out])]), hx2⟩
      · have HV := Lib.hid hv
        have hd : decide (x.a = v) = false := by simp [hv]
        rw [hd]
        clear hd hv
        go_wp2
        go_roundw
        case rel => exact ⟨k + 1, by omega, by go_num, hx2, by unfold Hid; rw [← hst.out, drop_get HX.out, idxB, if_neg (by simp [HV.out])]⟩
        case measure => simp [intOf]; omega
    · have hkn : k = n := by omega
      subst hkn
      go_wp2
      go_ret
      exact ⟨ret_int (by rw [← hst.out, drop_all (by rw [← hN.out]; exact Nat.le_refl _)]; rfl), hbr⟩
set_option maxHeartbeats 400000 in
theorem heldAt_any (A : Option Addr) (c : Nat) (xs : List Nest) (v : Int) (w : World) (hn : xs.length ≤ 16777216) (hA : Nl w A xs) :
    Calls Tryz.prog 28 #[.slice A xs.length c, .int .i64 v] w fun e w' => e = .returned (.int .i64 (idxB (fun x => decide (x.a = v)) 0 xs)) ∧ Below w.heap.size w w' := by
  have hmf : ∀ (fn : Fn) (first cap : Array Value) (w : World), (Instr.makeFunc fn first cap).run Tryz.prog w = .ok (.func fn first cap) w := fun _ _ _ _ => rfl
  obtain ⟨W0, hW0, hB0, hz0, hc0, _⟩ := box_world w #[Value.int .i64 v] 3
  have h := isHF_any A c xs v w.heap.size W0 hn (hA.ext hB0) hz0 (hc0 0)
  generalize idxB (fun x => decide (x.a = v)) 0 xs = r at h ⊢
  generalize xs.length = n at h ⊢
  have H := Lib.hid h
  clear h hc0
  go_enter Tryz.func28, Tryz.ntmps28
  go_wp2_with fail
  refine (H.out).mono ?_
  rintro e w1 ⟨rfl, hb1⟩
  go_wp2
  go_ret
  exact ⟨rfl, ext_trans hB0 hb1⟩
set_option maxHeartbeats 1000000 in
set_option maxRecDepth 100000 in
theorem l19Find_any (A : Option Addr) (c : Nat) (xs : List Erratum) (v : Int) (w : World) (hn : xs.length ≤ 16777216) (hA : Fl Erratum.ints 5 w A xs) :
    Calls Tryz.prog 36 #[.slice A xs.length c, .int .i64 v] w fun e w' => e = .returned (.int .i64 (idxB (fun x => decide (x.id = v)) 0 xs)) ∧ w = w' := by
  obtain ⟨n, hnn⟩ : ∃ n, n = List.length xs := ⟨_, rfl⟩
  rw [← hnn] at hn ⊢
  have hN := Lib.hid hnn
  clear hnn
  go_enter Tryz.func36, Tryz.ntmps36
  go_wp2
  go_loop [5] (fun i => ∃ k : Nat, k ≤ n ∧ i = .int .i64 k ∧ Hid (idxB (fun x => decide (x.id = v)) k (xs.drop k) = idxB (fun x => decide (x.id = v)) 0 xs)) (fun i => n - (intOf i).toNat)
  case atStart => exact ⟨0, by omega, rfl, rfl⟩
  case round =>
    obtain ⟨k, hk, rfl, hst⟩ := hrel
    by_cases hlt : k < n
    · obtain ⟨x, b, o, hx, rfl, hb, hc⟩ := hA.at_ (k := k) (by rw [← hN.out]; exact hlt)
      have c0 : World.cell? w ⟨b, o + k * 5, none⟩ = some (.int .i64 x.id) := hc 0 _ rfl
      have c1 : World.cell? w ⟨b, o + k * 5 + 1, none⟩ = some (.int .i64 x.sheet) := hc 1 _ rfl
      have c2 : World.cell? w ⟨b, o + k * 5 + 2, none⟩ = some (.int .i64 x.frm) := hc 2 _ rfl
      have c3 : World.cell? w ⟨b, o + k * 5 + 3, none⟩ = some (.int .i64 x.til) := hc 3 _ rfl
      have c4 : World.cell? w ⟨b, o + k * 5 + 4, none⟩ = some (.int .i64 x.day) := hc 4 _ rfl
      have HX := Lib.hid hx
      clear hc hx hA
      have hk0 : (0 : Int) ≤ (k : Int) := by omega
      have hk1 : (k : Int) < (n : Int) := by omega
      by_cases hv : x.id = v
      · have HV := Lib.hid hv
        go_wp2
        go_ret
        exact ⟨ret_int (by rw [← hst.out, drop_get HX.out, idxB, if_pos (by simp [HV.out])]), rfl⟩
      · have HV := Lib.hid hv
        go_wp2
        go_round
        case rel => exact ⟨k + 1, by omega, by go_num, by unfold Hid; rw [← hst.out, drop_get HX.out, idxB, if_neg (by simp [HV.out])]⟩
        case measure => simp [intOf]; omega
    · have hkn : k = n := by omega
      subst hkn
      go_wp2
      go_ret
      exact ⟨ret_int (by rw [← hst.out, drop_all (by rw [← hN.out]; exact Nat.le_refl _)]; rfl), rfl⟩
set_option maxHeartbeats 1000000 in
set_option maxRecDepth 100000 in
theorem l19Copy_any (A : Option Addr) (c : Nat) (xs : List Nest) (v : Int) (w : World) (hn : xs.length ≤ 16777216) (hA : Nl w A xs) :
    Calls Tryz.prog 35 #[.slice A xs.length c, .int .i64 v] w fun e w' => e = .returned (.int .i64 (idxB (fun x => decide (x.a = v)) 0 xs)) ∧ w = w' := by
  obtain ⟨n, hnn⟩ : ∃ n, n = List.length xs := ⟨_, rfl⟩
  rw [← hnn] at hn ⊢
  have hN := Lib.hid hnn
  clear hnn
  go_enter Tryz.func35, Tryz.ntmps35
  go_wp2
  go_loop [5] (fun i => ∃ k : Nat, k ≤ n ∧ i = .int .i64 k ∧ Hid (idxB (fun x => decide (x.a = v)) k (xs.drop k) = idxB (fun x => decide (x.a = v)) 0 xs)) (fun i => n - (intOf i).toNat)
  case atStart => exact ⟨0, by omega, rfl, rfl⟩
  case round =>
    obtain ⟨k, hk, rfl, hst⟩ := hrel
    by_cases hlt : k < n
    · obtain ⟨x, b, o, A', d, hx, rfl, hb, hc, _⟩ := hA.at_ (k := k) (by rw [← hN.out]; exact hlt)
      have c0 : World.cell? w ⟨b, o + k * 4, none⟩ = some (.int .i64 x.a) := hc.ca
      have c1 : World.cell? w ⟨b, o + k * 4 + 1, none⟩ = some (.int .i64 x.b) := hc.cb
      have c2 : World.cell? w ⟨b, o + k * 4 + 2, none⟩ = some (.int .i64 x.c) := hc.cc
      have c3 : World.cell? w ⟨b, o + k * 4 + 3, none⟩ = some (.slice A' x.l.length d) := hc.cl
      have HX := Lib.hid hx
      clear hc hx hA
      have hk0 : (0 : Int) ≤ (k : Int) := by omega
      have hk1 : (k : Int) < (n : Int) := by omega
      by_cases hv : x.a = v
      · have HV := Lib.hid hv
        go_wp2
        go_ret
        exact ⟨ret_int (by rw [← hst.out, drop_get HX.out, idxB, if_pos (by simp [HV.out])]), rfl⟩
      · have HV := Lib.hid hv
        go_wp2
        go_round
        case rel => exact ⟨k + 1, by omega, by go_num, by unfold Hid; rw [← hst.out, drop_get HX.out, idxB, if_neg (by simp [HV.out])]⟩
        case measure => simp [intOf]; omega
    · have hkn : k = n := by omega
      subst hkn
      go_wp2
      go_ret
      exact ⟨ret_int (by rw [← hst.out, drop_all (by rw [← hN.out]; exact Nat.le_refl _)]; rfl), rfl⟩
end Go.Proofs.YtbnlbcbdhmmlgaaGreatDoor
namespace Go.Proofs.YtbnlbcbdhmmlgaaGreatDoor
open Go.RowKit
set_option linter.unusedVariables false
set_option linter.unusedSimpArgs false

def IsErr (e : Erratum) : Prop := 1 ≤ e.id ∧ e.id ≤ 99 ∧ 1 ≤ e.sheet ∧ e.sheet ≤ 999 ∧ 1 ≤ e.frm ∧ e.frm ≤ e.til ∧ e.til ≤ 9 ∧ 0 ≤ e.day ∧ e.day ≤ 4000
def ErrLt (x y : Erratum) : Prop := x.id < y.id
def Errs (xs : List Erratum) : Prop := Good IsErr ErrLt xs ∧ xs.length ≤ 10

set_option maxHeartbeats 400000 in
theorem isErratum_any (x : Erratum) (w : World) :
    Calls Tryz.prog 53 #[.agg #[.int .i64 x.id, .int .i64 x.sheet, .int .i64 x.frm, .int .i64 x.til, .int .i64 x.day]] w fun e w' => e = .returned (.bool (tb (IsErr x))) ∧ Below w.heap.size w w' := by
  go_enter Tryz.func53, Tryz.ntmps53
  go_wp2
  all_goals
    go_ret
    refine ⟨ret_bool ?_, by go_grown⟩
    first | exact (tb_t (by unfold IsErr; omega)).symm | exact (tb_f (by unfold IsErr; omega)).symm | exact tb_dec (by unfold IsErr; omega)
theorem isErratum_t (x : Erratum) (h : IsErr x) (w : World) :
    Calls Tryz.prog 53 #[.agg #[.int .i64 x.id, .int .i64 x.sheet, .int .i64 x.frm, .int .i64 x.til, .int .i64 x.day]] w fun e w' => e = .returned (.bool true) ∧ Below w.heap.size w w' := by
  have := isErratum_any x w; rwa [tb_t h] at this
theorem isErratum_f (x : Erratum) (h : ¬ IsErr x) (w : World) :
    Calls Tryz.prog 53 #[.agg #[.int .i64 x.id, .int .i64 x.sheet, .int .i64 x.frm, .int .i64 x.til, .int .i64 x.day]] w fun e w' => e = .returned (.bool false) ∧ Below w.heap.size w w' := by
  have := isErratum_any x w; rwa [tb_f h] at this
set_option maxHeartbeats 400000 in
theorem l19One_any (x : Erratum) (w : World) :
    Calls Tryz.prog 55 #[.agg #[.int .i64 x.id, .int .i64 x.sheet, .int .i64 x.frm, .int .i64 x.til, .int .i64 x.day]] w fun e w' => e = .returned (.bool (tb (IsErr x))) ∧ Below w.heap.size w w' := by
  go_enter Tryz.func55, Tryz.ntmps55
  go_wp2
  all_goals
    go_ret
    refine ⟨ret_bool ?_, by go_grown⟩
    first | exact (tb_t (by unfold IsErr; omega)).symm | exact (tb_f (by unfold IsErr; omega)).symm | exact tb_dec (by unfold IsErr; omega)
theorem l19One_t (x : Erratum) (h : IsErr x) (w : World) :
    Calls Tryz.prog 55 #[.agg #[.int .i64 x.id, .int .i64 x.sheet, .int .i64 x.frm, .int .i64 x.til, .int .i64 x.day]] w fun e w' => e = .returned (.bool true) ∧ Below w.heap.size w w' := by
  have := l19One_any x w; rwa [tb_t h] at this
theorem l19One_f (x : Erratum) (h : ¬ IsErr x) (w : World) :
    Calls Tryz.prog 55 #[.agg #[.int .i64 x.id, .int .i64 x.sheet, .int .i64 x.frm, .int .i64 x.til, .int .i64 x.day]] w fun e w' => e = .returned (.bool false) ∧ Below w.heap.size w w' := by
  have := l19One_any x w; rwa [tb_f h] at this

set_option maxHeartbeats 1000000 in
set_option maxRecDepth 100000 in
theorem areErrata_any (A : Option Addr) (c : Nat) (xs : List Erratum) (w : World) (hn : xs.length ≤ 1152921504606846976) (hA : Fl Erratum.ints 5 w A xs) :
    Calls Tryz.prog 23 #[.slice A xs.length c] w fun e w' => e = .returned (.bool (tb (Errs xs))) ∧ Below w.heap.size w w' := by
  obtain ⟨n, hnn⟩ : ∃ n, n = List.length xs := ⟨_, rfl⟩
  rw [← hnn] at hn ⊢
  have hN := Lib.hid hnn
  clear hnn
  go_enter Tryz.func23, Tryz.ntmps23
  go_wp2
  go_loopw [7] (fun i wr => ∃ k : Nat, k ≤ n ∧ i = .int .i64 k ∧ Below w.heap.size w wr ∧ Hid (GoodTo IsErr ErrLt xs k)) (fun i _ => n - (intOf i).toNat)
  case atStart => exact ⟨0, by omega, rfl, Below.refl _ _, GoodTo.zero⟩
  case round =>
    obtain ⟨k, hk, rfl, hbr, hall⟩ := hrel
    have hz := hbr.size
    by_cases hlt : k < n
    · have hAr := hA.ext hbr
      obtain ⟨x, b, o, hx, rfl, hb, hc⟩ := hAr.at_ (k := k) (by rw [← hN.out]; exact hlt)
      have hX := Lib.hid hx
      clear hx
      have hb2 : b < wr.heap.size + 1 := by omega
      have c0 : World.cell? wr ⟨b, o + k * 5, none⟩ = some (.int .i64 x.id) := hc 0 _ rfl
      have c1 : World.cell? wr ⟨b, o + k * 5 + 1, none⟩ = some (.int .i64 x.sheet) := hc 1 _ rfl
      have c2 : World.cell? wr ⟨b, o + k * 5 + 2, none⟩ = some (.int .i64 x.frm) := hc 2 _ rfl
      have c3 : World.cell? wr ⟨b, o + k * 5 + 3, none⟩ = some (.int .i64 x.til) := hc 3 _ rfl
      have c4 : World.cell? wr ⟨b, o + k * 5 + 4, none⟩ = some (.int .i64 x.day) := hc 4 _ rfl
      clear hc
      have hpc := plus_cell
      have hk0 : (0 : Int) ≤ (k : Int) := by omega
      have hk1 : (k : Int) < (n : Int) := by omega
      by_cases hP : IsErr x
      · rcases Nat.eq_zero_or_pos k with h0 | hpos
        · have hd : decide ((0 : Int) < (k : Int)) = false := by simp; omega
          have hd2 : decide (0 < k) = false := by simp; omega
          have H0 := Lib.hid h0
          clear hA hAr h0
          go_wp2_with fail
          refine wp_region_grow (by kernel_rfl) (by kernel_rfl) ?_
          repeat (go_big_quiet_step ((first | (go_at_call 53; exact quiet_below (isErratum_t x hP _)))))
          refine wpQuiet_nil ?_
          intro w1 hb1
          have hB1 : Below w.heap.size w w1 := ext_trans (by go_grown) hb1
          go_wp2
          go_roundw
          case rel => exact ⟨k + 1, by omega, by go_num, hB1, hall.out.step hX.out hP (fun m z hm => by have := H0.out; omega)⟩
          case measure => simp [intOf]; omega
        · obtain ⟨m, rfl⟩ : ∃ m, k = m + 1 := ⟨k - 1, by omega⟩
          obtain ⟨y, hy⟩ : ∃ y, xs[m]? = some y := ⟨_, List.getElem?_eq_getElem (by rw [← hN.out]; omega)⟩
          have hdy := hAr.get hy
          have d0 : World.cell? wr ⟨b, o + m * 5, none⟩ = some (.int .i64 y.id) := hdy 0 _ rfl
          have d1 : World.cell? wr ⟨b, o + m * 5 + 1, none⟩ = some (.int .i64 y.sheet) := hdy 1 _ rfl
          have d2 : World.cell? wr ⟨b, o + m * 5 + 2, none⟩ = some (.int .i64 y.frm) := hdy 2 _ rfl
          have d3 : World.cell? wr ⟨b, o + m * 5 + 3, none⟩ = some (.int .i64 y.til) := hdy 3 _ rfl
          have d4 : World.cell? wr ⟨b, o + m * 5 + 4, none⟩ = some (.int .i64 y.day) := hdy 4 _ rfl
          have hY := Lib.hid hy
          have hPy : IsErr y := hall.out.1 m y (by omega) hy
          clear hA hAr hy hdy
          have hm0 : (0 : Int) ≤ (m : Int) := by omega
          have hm1 : (m : Int) < (n : Int) := by omega
          have hm2 : (0 : Int) < (m : Int) + 1 := by omega
          by_cases hR : ErrLt y x
          · have hR1 : y.id < x.id := hR
            go_wp2_with fail
            refine wp_region_grow (by kernel_rfl) (by kernel_rfl) ?_
            repeat (go_big_quiet_step ((first | (go_at_call 53; exact quiet_below (isErratum_t x hP _)) | (fail))))
            refine wpQuiet_nil ?_
            intro w1 hb1
            have hB1 : Below w.heap.size w w1 := ext_trans (by go_grown) hb1
            go_wp2
            go_roundw
            case rel => exact ⟨m + 1 + 1, by omega, by go_num, hB1, hall.out.step hX.out hP (fun m' z hm hz => by
              obtain rfl : m = m' := by omega
              rw [hY.out] at hz; cases hz; exact hR)⟩
            case measure => simp [intOf]; omega
          · have hR1 : x.id ≤ y.id := by unfold ErrLt at hR; omega
            go_wp2_with fail
            refine wp_region_grow (by kernel_rfl) (by kernel_rfl) ?_
            repeat (go_big_quiet_step ((first | (go_at_call 53; exact quiet_below (isErratum_t x hP _)) | (fail))))
            refine wpQuiet_nil ?_
            intro w1 hb1
            have hB1 : Below w.heap.size w w1 := ext_trans (by go_grown) hb1
            go_wp2
            go_ret
            exact ⟨ret_bool (tb_f (fun h => Good.not_pair hY.out hX.out hR h.1)).symm, hB1⟩
      · clear hA hAr
        go_wp2_with fail
        refine wp_region_grow (by kernel_rfl) (by kernel_rfl) ?_
        repeat (go_big_quiet_step ((first | (go_at_call 53; exact quiet_below (isErratum_f x hP _)))))
        refine wpQuiet_nil ?_
        intro w1 hb1
        have hB1 : Below w.heap.size w w1 := ext_trans (by go_grown) hb1
        go_wp2
        go_ret
        exact ⟨ret_bool (tb_f (fun h => Good.not_elem hX.out hP h.1)).symm, hB1⟩
    · have hkn : k = n := by omega
      subst hkn
      go_wp2
      go_ret
      exact ⟨ret_bool (tb_dec ⟨fun h => by have := h.2; rw [← hN.out] at this; omega, fun h => ⟨hall.out.all (by rw [← hN.out]; exact Nat.le_refl _), by rw [← hN.out]; omega⟩⟩), hbr⟩
set_option maxHeartbeats 1000000 in
set_option maxRecDepth 100000 in
theorem l19Errata_any (A : Option Addr) (c : Nat) (xs : List Erratum) (w : World) (hn : xs.length ≤ 1152921504606846976) (hA : Fl Erratum.ints 5 w A xs) :
    Calls Tryz.prog 51 #[.slice A xs.length c] w fun e w' => e = .returned (.bool (tb (Errs xs))) ∧ Below w.heap.size w w' := by
  obtain ⟨n, hnn⟩ : ∃ n, n = List.length xs := ⟨_, rfl⟩
  rw [← hnn] at hn ⊢
  have hN := Lib.hid hnn
  clear hnn
  go_enter Tryz.func51, Tryz.ntmps51
  go_wp2
  go_loopw [3] (fun i wr => ∃ k : Nat, k ≤ n ∧ i = .int .i64 k ∧ Below w.heap.size w wr ∧ Hid (GoodTo IsErr ErrLt xs k)) (fun i _ => n - (intOf i).toNat)
  case atStart => exact ⟨0, by omega, rfl, Below.refl _ _, GoodTo.zero⟩
  case round =>
    obtain ⟨k, hk, rfl, hbr, hall⟩ := hrel
    have hz := hbr.size
    by_cases hlt : k < n
    · have hAr := hA.ext hbr
      obtain ⟨x, b, o, hx, rfl, hb, hc⟩ := hAr.at_ (k := k) (by rw [← hN.out]; exact hlt)
      have hX := Lib.hid hx
      clear hx
      have hb2 : b < wr.heap.size + 1 := by omega
      have c0 : World.cell? wr ⟨b, o + k * 5, none⟩ = some (.int .i64 x.id) := hc 0 _ rfl
      have c1 : World.cell? wr ⟨b, o + k * 5 + 1, none⟩ = some (.int .i64 x.sheet) := hc 1 _ rfl
      have c2 : World.cell? wr ⟨b, o + k * 5 + 2, none⟩ = some (.int .i64 x.frm) := hc 2 _ rfl
      have c3 : World.cell? wr ⟨b, o + k * 5 + 3, none⟩ = some (.int .i64 x.til) := hc 3 _ rfl
      have c4 : World.cell? wr ⟨b, o + k * 5 + 4, none⟩ = some (.int .i64 x.day) := hc 4 _ rfl
      clear hc
      have hpc := plus_cell
      have hk0 : (0 : Int) ≤ (k : Int) := by omega
      have hk1 : (k : Int) < (n : Int) := by omega
      by_cases hP : IsErr x
      · rcases Nat.eq_zero_or_pos k with h0 | hpos
        · have hd : decide ((0 : Int) < (k : Int)) = false := by simp; omega
          have hd2 : decide (0 < k) = false := by simp; omega
          have H0 := Lib.hid h0
          clear hA hAr h0
          go_wp2_with fail
          refine wp_region_grow (by kernel_rfl) (by kernel_rfl) ?_
          repeat (go_big_quiet_step ((first | (go_at_call 55; exact quiet_below (l19One_t x hP _)))))
          refine wpQuiet_nil ?_
          intro w1 hb1
          have hB1 : Below w.heap.size w w1 := ext_trans (by go_grown) hb1
          go_wp2
          go_roundw
          case rel => exact ⟨k + 1, by omega, by go_num, hB1, hall.out.step hX.out hP (fun m z hm => by have := H0.out; omega)⟩
          case measure => simp [intOf]; omega
        · obtain ⟨m, rfl⟩ : ∃ m, k = m + 1 := ⟨k - 1, by omega⟩
          obtain ⟨y, hy⟩ : ∃ y, xs[m]? = some y := ⟨_, List.getElem?_eq_getElem (by rw [← hN.out]; omega)⟩
          have hdy := hAr.get hy
          have d0 : World.cell? wr ⟨b, o + m * 5, none⟩ = some (.int .i64 y.id) := hdy 0 _ rfl
          have d1 : World.cell? wr ⟨b, o + m * 5 + 1, none⟩ = some (.int .i64 y.sheet) := hdy 1 _ rfl
          have d2 : World.cell? wr ⟨b, o + m * 5 + 2, none⟩ = some (.int .i64 y.frm) := hdy 2 _ rfl
          have d3 : World.cell? wr ⟨b, o + m * 5 + 3, none⟩ = some (.int .i64 y.til) := hdy 3 _ rfl
          have d4 : World.cell? wr ⟨b, o + m * 5 + 4, none⟩ = some (.int .i64 y.day) := hdy 4 _ rfl
          have hY := Lib.hid hy
          have hPy : IsErr y := hall.out.1 m y (by omega) hy
          clear hA hAr hy hdy
          have hm0 : (0 : Int) ≤ (m : Int) := by omega
          have hm1 : (m : Int) < (n : Int) := by omega
          have hm2 : (0 : Int) < (m : Int) + 1 := by omega
          by_cases hR : ErrLt y x
          · have hR1 : y.id < x.id := hR
            go_wp2_with fail
            refine wp_region_grow (by kernel_rfl) (by kernel_rfl) ?_
            repeat (go_big_quiet_step ((first | (go_at_call 55; exact quiet_below (l19One_t x hP _)) | (fail))))
            refine wpQuiet_nil ?_
            intro w1 hb1
            have hB1 : Below w.heap.size w w1 := ext_trans (by go_grown) hb1
            go_wp2
            go_roundw
            case rel => exact ⟨m + 1 + 1, by omega, by go_num, hB1, hall.out.step hX.out hP (fun m' z hm hz => by
              obtain rfl : m = m' := by omega
              rw [hY.out] at hz; cases hz; exact hR)⟩
            case measure => simp [intOf]; omega
          · have hR1 : x.id ≤ y.id := by unfold ErrLt at hR; omega
            go_wp2_with fail
            refine wp_region_grow (by kernel_rfl) (by kernel_rfl) ?_
            repeat (go_big_quiet_step ((first | (go_at_call 55; exact quiet_below (l19One_t x hP _)) | (fail))))
            refine wpQuiet_nil ?_
            intro w1 hb1
            have hB1 : Below w.heap.size w w1 := ext_trans (by go_grown) hb1
            go_wp2
            go_ret
            exact ⟨ret_bool (tb_f (fun h => Good.not_pair hY.out hX.out hR h.1)).symm, hB1⟩
      · clear hA hAr
        go_wp2_with fail
        refine wp_region_grow (by kernel_rfl) (by kernel_rfl) ?_
        repeat (go_big_quiet_step ((first | (go_at_call 55; exact quiet_below (l19One_f x hP _)))))
        refine wpQuiet_nil ?_
        intro w1 hb1
        have hB1 : Below w.heap.size w w1 := ext_trans (by go_grown) hb1
        go_wp2
        go_ret
        exact ⟨ret_bool (tb_f (fun h => Good.not_elem hX.out hP h.1)).symm, hB1⟩
    · have hkn : k = n := by omega
      subst hkn
      go_wp2
      go_ret
      exact ⟨ret_bool (tb_dec ⟨fun h => by have := h.2; rw [← hN.out] at this; omega, fun h => ⟨hall.out.all (by rw [← hN.out]; exact Nat.le_refl _), by rw [← hN.out]; omega⟩⟩), hbr⟩
end Go.Proofs.YtbnlbcbdhmmlgaaGreatDoor
namespace Go.Proofs.YtbnlbcbdhmmlgaaGreatDoor
open Go.RowKit
set_option linter.unusedVariables false
set_option linter.unusedSimpArgs false

def Con (e : Erratum) (x : Nest) : Prop := e.sheet = x.b ∧ (e.frm ≤ x.c ∧ x.c ≤ e.til)
def SlipOk (xs : List Erratum) (h : Nest) (id : Int) : Prop := ∃ (j : Nat) (e : Erratum), idxB (fun x => decide (x.id = id)) 0 xs = (j : Int) ∧ xs[j]? = some e ∧ Con e h
def HI (xs : List Erratum) (hs : List Nest) (k : Nat) (h : Nest) : Prop :=
  (1 ≤ h.a ∧ h.a ≤ 999) ∧ (1 ≤ h.b ∧ h.b ≤ 999) ∧ (1 ≤ h.c ∧ h.c ≤ 9) ∧ Rising h.l ∧ (∀ m p, k = m + 1 → hs[m]? = some p → p.a < h.a) ∧ ∀ (m : Nat) (id : Int), h.l[m]? = some id → SlipOk xs h id
def HeldOk (xs : List Erratum) (hs : List Nest) : Prop := Errs xs ∧ (∀ k h, hs[k]? = some h → HI xs hs k h) ∧ hs.length ≤ 10
theorem slip_range {xs : List Erratum} (h : Errs xs) {x : Nest} {id : Int} (hs : SlipOk xs x id) : 1 ≤ id ∧ id ≤ 99 := by
  obtain ⟨j, e, h1, h2, h3⟩ := hs
  rcases idxB_p (fun x : Erratum => decide (x.id = id)) xs 0 with ⟨h4, _⟩ | ⟨j', e', h4, h5, h6⟩
  · omega
  · have hj : j = j' := by omega
    subst hj
    rw [h2] at h5
    cases h5
    have h7 : e.id = id := by simpa using h6
    have h8 := h.1.1 j e h2
    unfold IsErr at h8
    omega
theorem HI.range {xs : List Erratum} (h : Errs xs) {hs : List Nest} {k : Nat} {x : Nest} (hi : HI xs hs k x) : AllR 1 99 x.l := fun i id hid => slip_range h (hi.2.2.2.2.2 i id hid)
theorem isRising_t (A : Option Addr) (c : Nat) (xs : List Int) (w : World) (hn : xs.length ≤ 1152921504606846976) (hA : Fl one 1 w A xs) (h : Rising xs) :
    Calls Tryz.prog 66 #[.slice A xs.length c] w fun e w' => e = .returned (.bool true) ∧ Below w.heap.size w w' := by
  have := isRising_any A c xs w hn hA; rwa [tb_t h] at this
theorem isRising_f (A : Option Addr) (c : Nat) (xs : List Int) (w : World) (hn : xs.length ≤ 1152921504606846976) (hA : Fl one 1 w A xs) (h : ¬ Rising xs) :
    Calls Tryz.prog 66 #[.slice A xs.length c] w fun e w' => e = .returned (.bool false) ∧ Below w.heap.size w w' := by
  have := isRising_any A c xs w hn hA; rwa [tb_f h] at this
theorem l1Ris_t (A : Option Addr) (c : Nat) (xs : List Int) (w : World) (hn : xs.length ≤ 1152921504606846976) (hA : Fl one 1 w A xs) (h : Good (InR 1 99) Lt xs) :
    Calls Tryz.prog 72 #[.slice A xs.length c, .int .i64 1, .int .i64 99] w fun e w' => e = .returned (.bool true) ∧ Below w.heap.size w w' := by
  have := l1Rising_any A c xs 1 99 w hn hA; rwa [tb_t h] at this
theorem l1Ris_f (A : Option Addr) (c : Nat) (xs : List Int) (w : World) (hn : xs.length ≤ 1152921504606846976) (hA : Fl one 1 w A xs) (h : ¬ Good (InR 1 99) Lt xs) :
    Calls Tryz.prog 72 #[.slice A xs.length c, .int .i64 1, .int .i64 99] w fun e w' => e = .returned (.bool false) ∧ Below w.heap.size w w' := by
  have := l1Rising_any A c xs 1 99 w hn hA; rwa [tb_f h] at this
set_option maxHeartbeats 400000 in
theorem concerns_any (e : Erratum) (x : Nest) (A : Option Addr) (d : Nat) (w : World) :
    Calls Tryz.prog 31 #[.agg #[.int .i64 e.id, .int .i64 e.sheet, .int .i64 e.frm, .int .i64 e.til, .int .i64 e.day], .agg #[.int .i64 x.a, .int .i64 x.b, .int .i64 x.c, .slice A x.l.length d]] w fun r w' => r = .returned (.bool (tb (Con e x))) ∧ Below w.heap.size w w' := by
  by_cases hs : e.sheet = x.b
  · have HS := Lib.hid hs
    by_cases hw : e.frm ≤ x.c ∧ x.c ≤ e.til
    · go_enter Tryz.func31, Tryz.ntmps31
      go_wp2_with fail
      refine (within_t x.c e.frm e.til _ hw).mono ?_
      rintro e w1 ⟨rfl, rfl⟩
      go_wp2
      go_ret
      exact ⟨ret_bool (tb_t ⟨HS.out, hw⟩).symm, by go_grown⟩
    · go_enter Tryz.func31, Tryz.ntmps31
      go_wp2_with fail
      refine (within_f x.c e.frm e.til _ hw).mono ?_
      rintro e w1 ⟨rfl, rfl⟩
      go_wp2
      go_ret
      exact ⟨ret_bool (tb_f (fun h => hw h.2)).symm, by go_grown⟩
  · have HS := Lib.hid hs
    go_enter Tryz.func31, Tryz.ntmps31
    go_wp2
    go_ret
    exact ⟨ret_bool (tb_f (fun h => HS.out h.1)).symm, by go_grown⟩
theorem concerns_t (e : Erratum) (x : Nest) (A : Option Addr) (d : Nat) (w : World) (h : Con e x) :
    Calls Tryz.prog 31 #[.agg #[.int .i64 e.id, .int .i64 e.sheet, .int .i64 e.frm, .int .i64 e.til, .int .i64 e.day], .agg #[.int .i64 x.a, .int .i64 x.b, .int .i64 x.c, .slice A x.l.length d]] w fun r w' => r = .returned (.bool true) ∧ Below w.heap.size w w' := by
  have := concerns_any e x A d w; rwa [tb_t h] at this
theorem concerns_f (e : Erratum) (x : Nest) (A : Option Addr) (d : Nat) (w : World) (h : ¬ Con e x) :
    Calls Tryz.prog 31 #[.agg #[.int .i64 e.id, .int .i64 e.sheet, .int .i64 e.frm, .int .i64 e.til, .int .i64 e.day], .agg #[.int .i64 x.a, .int .i64 x.b, .int .i64 x.c, .slice A x.l.length d]] w fun r w' => r = .returned (.bool false) ∧ Below w.heap.size w w' := by
  have := concerns_any e x A d w; rwa [tb_f h] at this
set_option maxHeartbeats 400000 in
theorem l19Concerns_any (e : Erratum) (x : Nest) (A : Option Addr) (d : Nat) (w : World) :
    Calls Tryz.prog 39 #[.agg #[.int .i64 e.id, .int .i64 e.sheet, .int .i64 e.frm, .int .i64 e.til, .int .i64 e.day], .agg #[.int .i64 x.a, .int .i64 x.b, .int .i64 x.c, .slice A x.l.length d]] w fun r w' => r = .returned (.bool (tb (Con e x))) ∧ Below w.heap.size w w' := by
  by_cases hs : e.sheet = x.b
  · have HS := Lib.hid hs
    by_cases hw : e.frm ≤ x.c ∧ x.c ≤ e.til
    · go_enter Tryz.func39, Tryz.ntmps39
      go_wp2_with fail
      refine (l1In_t x.c e.frm e.til _ hw).mono ?_
      rintro e w1 ⟨rfl, rfl⟩
      go_wp2
      go_ret
      exact ⟨ret_bool (tb_t ⟨HS.out, hw⟩).symm, by go_grown⟩
    · go_enter Tryz.func39, Tryz.ntmps39
      go_wp2_with fail
      refine (l1In_f x.c e.frm e.til _ hw).mono ?_
      rintro e w1 ⟨rfl, rfl⟩
      go_wp2
      go_ret
      exact ⟨ret_bool (tb_f (fun h => hw h.2)).symm, by go_grown⟩
  · have HS := Lib.hid hs
    go_enter Tryz.func39, Tryz.ntmps39
    go_wp2
    go_ret
    exact ⟨ret_bool (tb_f (fun h => HS.out h.1)).symm, by go_grown⟩
theorem l19Concerns_t (e : Erratum) (x : Nest) (A : Option Addr) (d : Nat) (w : World) (h : Con e x) :
    Calls Tryz.prog 39 #[.agg #[.int .i64 e.id, .int .i64 e.sheet, .int .i64 e.frm, .int .i64 e.til, .int .i64 e.day], .agg #[.int .i64 x.a, .int .i64 x.b, .int .i64 x.c, .slice A x.l.length d]] w fun r w' => r = .returned (.bool true) ∧ Below w.heap.size w w' := by
  have := l19Concerns_any e x A d w; rwa [tb_t h] at this
theorem l19Concerns_f (e : Erratum) (x : Nest) (A : Option Addr) (d : Nat) (w : World) (h : ¬ Con e x) :
    Calls Tryz.prog 39 #[.agg #[.int .i64 e.id, .int .i64 e.sheet, .int .i64 e.frm, .int .i64 e.til, .int .i64 e.day], .agg #[.int .i64 x.a, .int .i64 x.b, .int .i64 x.c, .slice A x.l.length d]] w fun r w' => r = .returned (.bool false) ∧ Below w.heap.size w w' := by
  have := l19Concerns_any e x A d w; rwa [tb_f h] at this
end Go.Proofs.YtbnlbcbdhmmlgaaGreatDoor
