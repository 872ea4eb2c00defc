/- The loan of a sheet that is not returned: its place. No condition. -/
import Derived.Test.YtnikeelpcokffaaDoorLoanD
namespace Go.Proofs.YtnikeelpcokffaaDoor
open Go.RowKit
set_option linter.unusedVariables false
set_option linter.unusedSimpArgs false

/-- the place, counted from i, of the first element that is meant, or -1 -/
def idxB {α : Type} (p : α → Bool) : Nat → List α → Int
  | _, [] => -1
  | i, x :: r => if p x = true then (i : Int) else idxB p (i + 1) r
theorem idxB_p {α : Type} (p : α → Bool) : ∀ (xs : List α) (i : Nat), (idxB p i xs = -1 ∧ ∀ x ∈ xs, p x = false) ∨ ∃ (j : Nat) (x : α), idxB p i xs = ((i + j : Nat) : Int) ∧ xs[j]? = some x ∧ p x = true
  | [], _ => .inl ⟨rfl, fun x h => by simp at h⟩
  | y :: r, i => by
    rw [idxB]
    by_cases h : p y = true
    · rw [if_pos h]
      exact .inr ⟨0, y, rfl, rfl, h⟩
    · rw [if_neg h]
      rcases idxB_p p r (i + 1) with ⟨h1, h2⟩ | ⟨j, x, h1, h2, h3⟩
      · refine .inl ⟨h1, fun x hx => ?_⟩
        rcases List.mem_cons.1 hx with rfl | hx
        · simpa using h
        · exact h2 x hx
      · exact .inr ⟨j + 1, x, by rw [h1]; congr 1; omega, by simpa using h2, h3⟩
def opB (v : Int) (x : Loan) : Bool := decide (x.sheet = v ∧ x.back = -1)
def opS (v : Int) (x : Loan) : Bool := decide (x.sheet = v ∧ x.back < 0)
theorem idxB_congr {α : Type} {p q : α → Bool} : ∀ (xs : List α) (i : Nat), (∀ x ∈ xs, p x = q x) → idxB p i xs = idxB q i xs
  | [], _, _ => rfl
  | x :: r, i, h => by
    simp only [idxB]
    rw [h x List.mem_cons_self, idxB_congr r (i + 1) fun y hy => h y (List.mem_cons_of_mem _ hy)]
theorem opS_lns {xs : List Loan} (h : Lns xs) (v : Int) : idxB (opS v) 0 xs = idxB (opB v) 0 xs := idxB_congr xs 0 fun x hx => by
  obtain ⟨i, hi⟩ := List.mem_iff_getElem?.1 hx
  have h1 := (h.1 i x hi).1
  unfold IsLo at h1
  unfold opS opB
  have : (x.sheet = v ∧ x.back < 0) ↔ (x.sheet = v ∧ x.back = -1) := by constructor <;> (rintro ⟨a, b⟩; exact ⟨a, by omega⟩)
  simp [this]
set_option maxHeartbeats 400000 in
theorem lent_any (x : Loan) (v : Int) (b1 : Nat) (w : World) (hb1 : b1 < w.heap.size) (h1 : w.cell? ⟨b1, 0, none⟩ = some (.int .i64 v)) :
    Calls Tryd.prog 65 #[.agg #[.int .i64 x.sheet, .int .i64 x.reader, .int .i64 x.out, .int .i64 x.due, .int .i64 x.back], .pointer (some ⟨b1, 0, none⟩)] w fun e w' => e = .returned (.bool (opB v x)) ∧ Below w.heap.size w w' := by
  by_cases hs : x.sheet = v
  · have es : (x.sheet == v) = true := by simp [hs]
    by_cases hk : x.back = -1
    · have ek : (x.back == -1) = true := by simp [hk]
      have HE := Lib.hid (show opB v x = true from decide_eq_true ⟨hs, hk⟩)
      clear hs hk
      go_enter Tryd.func65, Tryd.ntmps65
      go_wp2
      go_ret
      exact ⟨ret_bool HE.out.symm, by go_grown⟩
    · have ek : (x.back == -1) = false := by simp [hk]
      have HE := Lib.hid (show opB v x = false from decide_eq_false fun h => hk h.2)
      clear hs hk
      go_enter Tryd.func65, Tryd.ntmps65
      go_wp2
      go_ret
      exact ⟨ret_bool HE.out.symm, by go_grown⟩
  · have es : (x.sheet == v) = false := by simp [hs]
    have HE := Lib.hid (show opB v x = false from decide_eq_false fun h => hs h.1)
    clear hs
    go_enter Tryd.func65, Tryd.ntmps65
    go_wp2
    go_ret
    exact ⟨ret_bool HE.out.symm, by go_grown⟩
set_option maxHeartbeats 1000000 in
set_option maxRecDepth 100000 in
theorem lentF_any (A : Option Addr) (c : Nat) (xs : List Loan) (v : Int) (b1 : Nat) (w : World) (hn : xs.length ≤ 16777216) (hA : Fl Loan.ints 5 w A xs) (hb1 : b1 < w.heap.size) (h1 : w.cell? ⟨b1, 0, none⟩ = some (.int .i64 v)) :
    Calls Tryd.prog 64 #[.slice A xs.length c, .func (.func 65) #[] #[.pointer (some ⟨b1, 0, none⟩)]] w fun e w' => e = .returned (.int .i64 (idxB (opB v) 0 xs)) ∧ Below w.heap.size w w' := by
  obtain ⟨n, hnn⟩ : ∃ n, n = List.length xs := ⟨_, rfl⟩
  rw [← hnn] at hn ⊢
  have hN := Lib.hid hnn
  clear hnn
  go_enter Tryd.func64, Tryd.ntmps64
  go_wp2
  go_loopw [8] (fun i wr => ∃ k : Nat, k ≤ n ∧ i = .int .i64 k ∧ Below w.heap.size w wr ∧ Hid (idxB (opB v) k (xs.drop k) = idxB (opB v) 0 xs)) (fun i _ => n - (intOf i).toNat)
  case atStart => exact ⟨0, by omega, rfl, Below.refl _ _, rfl⟩
  case round =>
    obtain ⟨k, hk, rfl, hbr, hst⟩ := hrel
    by_cases hlt : k < n
    · obtain ⟨x, b, o, hx, rfl, hb, hc⟩ := (hA.ext hbr).at_ (k := k) (by rw [← hN.out]; exact hlt)
      have c0 : World.cell? wr ⟨b, o + k * 5, none⟩ = some (.int .i64 x.sheet) := hc 0 _ rfl
      have c1 : World.cell? wr ⟨b, o + k * 5 + 1, none⟩ = some (.int .i64 x.reader) := hc 1 _ rfl
      have c2 : World.cell? wr ⟨b, o + k * 5 + 2, none⟩ = some (.int .i64 x.out) := hc 2 _ rfl
      have c3 : World.cell? wr ⟨b, o + k * 5 + 3, none⟩ = some (.int .i64 x.due) := hc 3 _ rfl
      have c4 : World.cell? wr ⟨b, o + k * 5 + 4, none⟩ = some (.int .i64 x.back) := hc 4 _ rfl
      have HX := Lib.hid hx
      have e1 := (hbr.cell (p := ⟨b1, 0, none⟩) hb1).trans h1
      clear hc hx hA
      have hk0 : (0 : Int) ≤ (k : Int) := by omega
      have hk1 : (k : Int) < (n : Int) := by omega
      go_wp2_with fail
      refine (lent_any x v b1 wr (Nat.lt_of_lt_of_le hb1 hbr.size) e1).mono ?_
      rintro e w2 ⟨rfl, hb2'⟩
      have hx2 := ext_trans hbr hb2'
      by_cases hv : opB v x = true
      · have HV := Lib.hid hv
        have hd := hv
        rw [hd]
        clear hd hv
        go_wp2
        go_ret
        exact ⟨ret_int (by rw [← hst.out, drop_get HX.out, idxB, if_pos (by simp [HV.out])]), hx2⟩
      · have HV := Lib.hid hv
        have hd : opB v x = false := by simpa using hv
        rw [hd]
        clear hd hv
        go_wp2
        go_roundw
        case rel => exact ⟨k + 1, by omega, by go_num, hx2, by unfold Hid; rw [← hst.out, drop_get HX.out, idxB, if_neg (by simp [HV.out])]⟩
        case measure => simp [intOf]; omega
    · have hkn : k = n := by omega
      subst hkn
      go_wp2
      go_ret
      exact ⟨ret_int (by rw [← hst.out, drop_all (by rw [← hN.out]; exact Nat.le_refl _)]; rfl), hbr⟩
set_option maxHeartbeats 400000 in
theorem lentAt_any (A : Option Addr) (c : Nat) (xs : List Loan) (v : Int) (w : World) (hn : xs.length ≤ 16777216) (hA : Fl Loan.ints 5 w A xs) :
    Calls Tryd.prog 43 #[.slice A xs.length c, .int .i64 v] w fun e w' => e = .returned (.int .i64 (idxB (opB v) 0 xs)) ∧ Below w.heap.size w w' := by
  have hmf : ∀ (fn : Fn) (first cap : Array Value) (w : World), (Instr.makeFunc fn first cap).run Tryd.prog w = .ok (.func fn first cap) w := fun _ _ _ _ => rfl
  obtain ⟨W0, hW0, hB0, hz0, hc0, _⟩ := box_world w #[Value.int .i64 v] 3
  have h := lentF_any A c xs v w.heap.size W0 hn (hA.ext hB0) hz0 (hc0 0)
  generalize idxB (opB v) 0 xs = r at h ⊢
  generalize xs.length = n at h ⊢
  have H := Lib.hid h
  clear h hc0
  go_enter Tryd.func43, Tryd.ntmps43
  go_wp2_with fail
  refine (H.out).mono ?_
  rintro e w1 ⟨rfl, hb1⟩
  go_wp2
  go_ret
  exact ⟨rfl, ext_trans hB0 hb1⟩
set_option maxHeartbeats 1000000 in
set_option maxRecDepth 100000 in
theorem l11Open_any (A : Option Addr) (c : Nat) (xs : List Loan) (v : Int) (w : World) (hn : xs.length ≤ 16777216) (hA : Fl Loan.ints 5 w A xs) :
    Calls Tryd.prog 46 #[.slice A xs.length c, .int .i64 v] w fun e w' => e = .returned (.int .i64 (idxB (opS v) 0 xs)) ∧ w = w' := by
  obtain ⟨n, hnn⟩ : ∃ n, n = List.length xs := ⟨_, rfl⟩
  rw [← hnn] at hn ⊢
  have hN := Lib.hid hnn
  clear hnn
  go_enter Tryd.func46, Tryd.ntmps46
  go_wp2
  go_loop [5] (fun i => ∃ k : Nat, k ≤ n ∧ i = .int .i64 k ∧ Hid (idxB (opS v) k (xs.drop k) = idxB (opS v) 0 xs)) (fun i => n - (intOf i).toNat)
  case atStart => exact ⟨0, by omega, rfl, rfl⟩
  case round =>
    obtain ⟨k, hk, rfl, hst⟩ := hrel
    by_cases hlt : k < n
    · obtain ⟨x, b, o, hx, rfl, hb, hc⟩ := hA.at_ (k := k) (by rw [← hN.out]; exact hlt)
      have c0 : World.cell? w ⟨b, o + k * 5, none⟩ = some (.int .i64 x.sheet) := hc 0 _ rfl
      have c1 : World.cell? w ⟨b, o + k * 5 + 1, none⟩ = some (.int .i64 x.reader) := hc 1 _ rfl
      have c2 : World.cell? w ⟨b, o + k * 5 + 2, none⟩ = some (.int .i64 x.out) := hc 2 _ rfl
      have c3 : World.cell? w ⟨b, o + k * 5 + 3, none⟩ = some (.int .i64 x.due) := hc 3 _ rfl
      have c4 : World.cell? w ⟨b, o + k * 5 + 4, none⟩ = some (.int .i64 x.back) := hc 4 _ rfl
      have HX := Lib.hid hx
      clear hc hx hA
      have hk0 : (0 : Int) ≤ (k : Int) := by omega
      have hk1 : (k : Int) < (n : Int) := by omega
      by_cases hs : x.sheet = v
      · have es : (x.sheet == v) = true := by simp [hs]
        by_cases hk : x.back < 0
        · have HV := Lib.hid (show opS v x = true from decide_eq_true ⟨hs, hk⟩)
          clear hs
          go_wp2
          go_ret
          exact ⟨ret_int (by rw [← hst.out, drop_get HX.out, idxB, if_pos HV.out]), rfl⟩
        · have HM := Lib.hid (show ¬ opS v x = true from (by unfold opS; simp; intro _; omega))
          go_wp2
          go_round
          case rel => exact ⟨k + 1, by omega, by go_num, by unfold Hid; rw [← hst.out, drop_get HX.out, idxB, if_neg HM.out]⟩
          case measure => simp [intOf]; omega
      · have es : (x.sheet == v) = false := by simp [hs]
        have HM := Lib.hid (show ¬ opS v x = true from (by unfold opS; simp; intro h; exact absurd h hs))
        go_wp2
        go_round
        case rel => exact ⟨k + 1, by omega, by go_num, by unfold Hid; rw [← hst.out, drop_get HX.out, idxB, if_neg HM.out]⟩
        case measure => simp [intOf]; omega
    · have hkn : k = n := by omega
      subst hkn
      go_wp2
      go_ret
      exact ⟨ret_int (by rw [← hst.out, drop_all (by rw [← hN.out]; exact Nat.le_refl _)]; rfl), rfl⟩
end Go.Proofs.YtnikeelpcokffaaDoor
