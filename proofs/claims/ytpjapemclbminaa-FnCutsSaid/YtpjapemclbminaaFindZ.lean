/- The place of a zone. -/
import Derived.Test.YtpjapemclbminaaLst
import Derived.Test.YtpjapemclbminaaFamZone
import Derived.Test.YtpjapemclbminaaWithin
namespace Go.Proofs.Ytpjapemclbminaa
open Go.RowKit
set_option linter.unusedVariables false
set_option linter.unusedSimpArgs false

/-- the place, counted from i, of the first element that is meant, or -1 -/
def idxB {α : Type} (p : α → Bool) : Nat → List α → Int
  | _, [] => -1
  | i, x :: r => if p x = true then (i : Int) else idxB p (i + 1) r
theorem idxB_p {α : Type} (p : α → Bool) : ∀ (xs : List α) (i : Nat), (idxB p i xs = -1 ∧ ∀ x ∈ xs, p x = false) ∨ ∃ (j : Nat) (x : α), idxB p i xs = ((i + j : Nat) : Int) ∧ xs[j]? = some x ∧ p x = true
  | [], _ => .inl ⟨rfl, fun x h => by simp at h⟩
  | y :: r, i => by
    rw [idxB]
    by_cases h : p y = true
    · rw [if_pos h]
      exact .inr ⟨0, y, rfl, rfl, h⟩
    · rw [if_neg h]
      rcases idxB_p p r (i + 1) with ⟨h1, h2⟩ | ⟨j, x, h1, h2, h3⟩
      · refine .inl ⟨h1, fun x hx => ?_⟩
        rcases List.mem_cons.1 hx with rfl | hx
        · simpa using h
        · exact h2 x hx
      · exact .inr ⟨j + 1, x, by rw [h1]; congr 1; omega, by simpa using h2, h3⟩
set_option maxHeartbeats 400000 in
theorem isZ_any (x : Zone) (v : Int) (b1 : Nat) (w : World) (hb1 : b1 < w.heap.size) (h1 : w.cell? ⟨b1, 0, none⟩ = some (.int .i64 v)) :
    Calls Try.prog 66 #[.agg #[.int .i64 x.id, .int .i64 x.west, .int .i64 x.south, .int .i64 x.east, .int .i64 x.north], .pointer (some ⟨b1, 0, none⟩)] w fun e w' => e = .returned (.bool (decide (x.id = v))) ∧ Below w.heap.size w w' := by
  go_enter Try.func66, Try.ntmps66
  go_wp2
  go_ret
  exact ⟨ret_bool (by first | rfl | (by_cases h : x.id = v <;> simp [h])), by go_grown⟩
set_option maxHeartbeats 1000000 in
set_option maxRecDepth 100000 in
theorem isZF_any (A : Option Addr) (c : Nat) (xs : List Zone) (v : Int) (b1 : Nat) (w : World) (hn : xs.length ≤ 16777216) (hA : Fl Zone.ints 5 w A xs) (hb1 : b1 < w.heap.size) (h1 : w.cell? ⟨b1, 0, none⟩ = some (.int .i64 v)) :
    Calls Try.prog 65 #[.slice A xs.length c, .func (.func 66) #[] #[.pointer (some ⟨b1, 0, none⟩)]] w fun e w' => e = .returned (.int .i64 (idxB (fun x => decide (x.id = v)) 0 xs)) ∧ Below w.heap.size w w' := by
  obtain ⟨n, hnn⟩ : ∃ n, n = List.length xs := ⟨_, rfl⟩
  rw [← hnn] at hn ⊢
  have hN := Lib.hid hnn
  clear hnn
  go_enter Try.func65, Try.ntmps65
  go_wp2
  go_loopw [8] (fun i wr => ∃ k : Nat, k ≤ n ∧ i = .int .i64 k ∧ Below w.heap.size w wr ∧ Hid (idxB (fun x => decide (x.id = v)) k (xs.drop k) = idxB (fun x => decide (x.id = v)) 0 xs)) (fun i _ => n - (intOf i).toNat)
  case atStart => exact ⟨0, by omega, rfl, Below.refl _ _, rfl⟩
  case round =>
    obtain ⟨k, hk, rfl, hbr, hst⟩ := hrel
    by_cases hlt : k < n
    · obtain ⟨x, b, o, hx, rfl, hb, hc⟩ := (hA.ext hbr).at_ (k := k) (by rw [← hN.out]; exact hlt)
      have c0 : World.cell? wr ⟨b, o + k * 5, none⟩ = some (.int .i64 x.id) := hc 0 _ rfl
      have c1 : World.cell? wr ⟨b, o + k * 5 + 1, none⟩ = some (.int .i64 x.west) := hc 1 _ rfl
      have c2 : World.cell? wr ⟨b, o + k * 5 + 2, none⟩ = some (.int .i64 x.south) := hc 2 _ rfl
      have c3 : World.cell? wr ⟨b, o + k * 5 + 3, none⟩ = some (.int .i64 x.east) := hc 3 _ rfl
      have c4 : World.cell? wr ⟨b, o + k * 5 + 4, none⟩ = some (.int .i64 x.north) := hc 4 _ rfl
      have HX := Lib.hid hx
      have e1 := (hbr.cell (p := ⟨b1, 0, none⟩) hb1).trans h1
      clear hc hx hA
      have hk0 : (0 : Int) ≤ (k : Int) := by omega
      have hk1 : (k : Int) < (n : Int) := by omega
      go_wp2_with fail
      refine (isZ_any x v b1 wr (Nat.lt_of_lt_of_le hb1 hbr.size) e1).mono ?_
      rintro e w2 ⟨rfl, hb2'⟩
      have hx2 := ext_trans hbr hb2'
      by_cases hv : x.id = v
      · have HV := Lib.hid hv
        have hd : decide (x.id = v) = true := by simp [hv]
        rw [hd]
        clear hd hv
        go_wp2
        go_ret
        exact ⟨ret_int (by rw [← hst.out, drop_get HX.out, idxB, if_pos (by simp [HV.out])]), hx2⟩
      · have HV := Lib.hid hv
        have hd : decide (x.id = v) = false := by simp [hv]
        rw [hd]
        clear hd hv
        go_wp2
        go_roundw
        case rel => exact ⟨k + 1, by omega, by go_num, hx2, by unfold Hid; rw [← hst.out, drop_get HX.out, idxB, if_neg (by simp [HV.out])]⟩
        case measure => simp [intOf]; omega
    · have hkn : k = n := by omega
      subst hkn
      go_wp2
      go_ret
      exact ⟨ret_int (by rw [← hst.out, drop_all (by rw [← hN.out]; exact Nat.le_refl _)]; rfl), hbr⟩
set_option maxHeartbeats 400000 in
theorem zoneAt_any (A : Option Addr) (c : Nat) (xs : List Zone) (v : Int) (w : World) (hn : xs.length ≤ 16777216) (hA : Fl Zone.ints 5 w A xs) :
    Calls Try.prog 42 #[.slice A xs.length c, .int .i64 v] w fun e w' => e = .returned (.int .i64 (idxB (fun x => decide (x.id = v)) 0 xs)) ∧ Below w.heap.size w w' := by
  have hmf : ∀ (fn : Fn) (first cap : Array Value) (w : World), (Instr.makeFunc fn first cap).run Try.prog w = .ok (.func fn first cap) w := fun _ _ _ _ => rfl
  obtain ⟨W0, hW0, hB0, hz0, hc0, _⟩ := box_world w #[Value.int .i64 v] 3
  have h := isZF_any A c xs v w.heap.size W0 hn (hA.ext hB0) hz0 (hc0 0)
  generalize idxB (fun x => decide (x.id = v)) 0 xs = r at h ⊢
  generalize xs.length = n at h ⊢
  have H := Lib.hid h
  clear h hc0
  go_enter Try.func42, Try.ntmps42
  go_wp2_with fail
  refine (H.out).mono ?_
  rintro e w1 ⟨rfl, hb1⟩
  go_wp2
  go_ret
  exact ⟨rfl, ext_trans hB0 hb1⟩
set_option maxHeartbeats 1000000 in
set_option maxRecDepth 100000 in
theorem l6Find_any (A : Option Addr) (c : Nat) (xs : List Zone) (v : Int) (w : World) (hn : xs.length ≤ 16777216) (hA : Fl Zone.ints 5 w A xs) :
    Calls Try.prog 62 #[.slice A xs.length c, .int .i64 v] w fun e w' => e = .returned (.int .i64 (idxB (fun x => decide (x.id = v)) 0 xs)) ∧ w = w' := by
  obtain ⟨n, hnn⟩ : ∃ n, n = List.length xs := ⟨_, rfl⟩
  rw [← hnn] at hn ⊢
  have hN := Lib.hid hnn
  clear hnn
  go_enter Try.func62, Try.ntmps62
  go_wp2
  go_loop [5] (fun i => ∃ k : Nat, k ≤ n ∧ i = .int .i64 k ∧ Hid (idxB (fun x => decide (x.id = v)) k (xs.drop k) = idxB (fun x => decide (x.id = v)) 0 xs)) (fun i => n - (intOf i).toNat)
  case atStart => exact ⟨0, by omega, rfl, rfl⟩
  case round =>
    obtain ⟨k, hk, rfl, hst⟩ := hrel
    by_cases hlt : k < n
    · obtain ⟨x, b, o, hx, rfl, hb, hc⟩ := hA.at_ (k := k) (by rw [← hN.out]; exact hlt)
      have c0 : World.cell? w ⟨b, o + k * 5, none⟩ = some (.int .i64 x.id) := hc 0 _ rfl
      have c1 : World.cell? w ⟨b, o + k * 5 + 1, none⟩ = some (.int .i64 x.west) := hc 1 _ rfl
      have c2 : World.cell? w ⟨b, o + k * 5 + 2, none⟩ = some (.int .i64 x.south) := hc 2 _ rfl
      have c3 : World.cell? w ⟨b, o + k * 5 + 3, none⟩ = some (.int .i64 x.east) := hc 3 _ rfl
      have c4 : World.cell? w ⟨b, o + k * 5 + 4, none⟩ = some (.int .i64 x.north) := hc 4 _ rfl
      have HX := Lib.hid hx
      clear hc hx hA
      have hk0 : (0 : Int) ≤ (k : Int) := by omega
      have hk1 : (k : Int) < (n : Int) := by omega
      by_cases hv : x.id = v
      · have HV := Lib.hid hv
        go_wp2
        go_ret
        exact ⟨ret_int (by rw [← hst.out, drop_get HX.out, idxB, if_pos (by simp [HV.out])]), rfl⟩
      · have HV := Lib.hid hv
        go_wp2
        go_round
        case rel => exact ⟨k + 1, by omega, by go_num, by unfold Hid; rw [← hst.out, drop_get HX.out, idxB, if_neg (by simp [HV.out])]⟩
        case measure => simp [intOf]; omega
    · have hkn : k = n := by omega
      subst hkn
      go_wp2
      go_ret
      exact ⟨ret_int (by rw [← hst.out, drop_all (by rw [← hN.out]; exact Nat.le_refl _)]; rfl), rfl⟩
end Go.Proofs.Ytpjapemclbminaa
