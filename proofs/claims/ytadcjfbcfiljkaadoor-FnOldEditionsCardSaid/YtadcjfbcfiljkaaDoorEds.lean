/- Which lists of editions are valid: the program's AreEditions and the reference's. -/
import Derived.Test.YtadcjfbcfiljkaaDoorEdOk
import Derived.Test.YtadcjfbcfiljkaaDoorNestOwn
import Derived.Test.YtadcjfbcfiljkaaDoorFamEdition
namespace Go.Proofs.YtadcjfbcfiljkaaDoor
open Go.RowKit
set_option linter.unusedVariables false
set_option linter.unusedSimpArgs false

theorem le22 {n : Nat} (h : n ≤ 1048576) : n ≤ 4194304 := by omega
def ofS (a : Int) (xs : List Nest) : List Nest := xs.filter fun e => decide (e.a = a)
theorem ofS_snoc_t {a : Int} {xs : List Nest} {x : Nest} (h : x.a = a) : ofS a (xs ++ [x]) = ofS a xs ++ [x] := by simp [ofS, h]
theorem ofS_snoc_f {a : Int} {xs : List Nest} {x : Nest} (h : x.a ≠ a) : ofS a (xs ++ [x]) = ofS a xs := by simp [ofS, h]
theorem ofS_len (a : Int) (xs : List Nest) : (ofS a xs).length ≤ xs.length := List.length_filter_le _ _
theorem Nl.take {w : World} {A : Option Addr} {xs : List Nest} (h : Nl w A xs) (k : Nat) : Nl w A (xs.take k) := fun hn => by
  obtain ⟨b, o, h1, h2, h3⟩ := h (fun e => hn (by rw [e]; simp))
  refine ⟨b, o, h1, h2, fun i x hx => h3 i x ?_⟩
  rw [List.getElem?_take] at hx
  split at hx
  · exact hx
  · cases hx
/-- a call that hands back a list that can be read, and leaves what was there -/
def RetN (w : World) (ys : List Nest) (e : Ending) (w' : World) : Prop :=
  ∃ B d, e = .returned (.slice B ys.length d) ∧ Nl w' B ys ∧ Below w.heap.size w w'

set_option maxHeartbeats 1000000 in
set_option maxRecDepth 100000 in
theorem editionsOf_any (A : Option Addr) (c : Nat) (xs : List Nest) (sheet : Int) (w : World) (hn : xs.length ≤ 4194304) (hA : Nl w A xs) :
    Calls Tryd.prog 28 #[.slice A xs.length c, .int .i64 sheet] w (RetN w (ofS sheet xs)) := by
  obtain ⟨i0, hi, hz0, hz1, hz2⟩ := info_parts infoEdition
  obtain ⟨n, hnn⟩ : ∃ n, n = List.length xs := ⟨_, rfl⟩
  rw [← hnn] at hn ⊢
  have hN := Lib.hid hnn
  clear hnn
  go_enter Tryd.func28, Tryd.ntmps28
  go_wp2
  go_loopw [5, 10] (fun v i wr => ∃ (k : Nat) (ys : List NV), k ≤ n ∧ i = .int .i64 k ∧ Below w.heap.size w wr ∧ OwnV w.heap.size 33 wr v ys ∧ Hid (ys.map NV.x = ofS sheet (xs.take k)) ∧ ys.length ≤ k ∧ Hid (∀ y ∈ ys, Fl one 1 w y.A y.x.l)) (fun _ i _ => n - (intOf i).toNat)
  case atStart => exact ⟨0, [], by omega, rfl, Below.refl _ _, OwnV.none_, rfl, by simp, fun y h => by simp at h⟩
  case round =>
    obtain ⟨k, ys, hk, rfl, hbr, hown, hys, hyl, hfl⟩ := hrel
    have hzr := hbr.size
    by_cases hlt : k < n
    · obtain ⟨x, b, o, A', d, hx, rfl, hb0, hc0, hf0⟩ := hA.at_ (k := k) (by rw [← hN.out]; exact hlt)
      have hb : b < wr.heap.size := Nat.lt_of_lt_of_le hb0 hbr.size
      have hc : NAt wr b (o + k * 4) x A' d := hc0.cells fun j => hbr.cell (p := ⟨b, j, none⟩) hb0
      have c0 : World.cell? wr ⟨b, o + k * 4, none⟩ = some (.int .i64 x.a) := hc.ca
      have c1 : World.cell? wr ⟨b, o + k * 4 + 1, none⟩ = some (.int .i64 x.b) := hc.cb
      have c2 : World.cell? wr ⟨b, o + k * 4 + 2, none⟩ = some (.int .i64 x.c) := hc.cc
      have c3 : World.cell? wr ⟨b, o + k * 4 + 3, none⟩ = some (.slice A' x.l.length d) := hc.cl
      have HX := Lib.hid hx
      have HF := Lib.hid hf0
      clear hx hc hc0 hA hf0
      have hk0 : (0 : Int) ≤ (k : Int) := by omega
      have hk1 : (k : Int) < (n : Int) := by omega
      obtain ⟨W0, hW0, hB0, hz0', hg, _⟩ := box_world wr #[Value.int .i64 x.a, .int .i64 x.b, .int .i64 x.c, .slice A' x.l.length d] 33
      have g0 : World.cell? W0 ⟨wr.heap.size, 0, none⟩ = some (.int .i64 x.a) := hg 0
      have g1 : World.cell? W0 ⟨wr.heap.size, 1, none⟩ = some (.int .i64 x.b) := hg 1
      have g2 : World.cell? W0 ⟨wr.heap.size, 2, none⟩ = some (.int .i64 x.c) := hg 2
      have g3 : World.cell? W0 ⟨wr.heap.size, 3, none⟩ = some (.slice A' x.l.length d) := hg 3
      clear hg
      have hbW := ext_trans hbr hB0
      by_cases hs : x.a = sheet
      · subst hs
        have hown2 := hown.ext hB0
        go_wp2_with (at_builtin; (refine wpList_append_nv (y := ⟨x, A', d⟩) rfl _ _ _ rfl w.heap.size i0 _ 48 Tryd.underlying24 hi hz0 hz1 hz2 rfl _ ys rfl rfl hown2 (by omega) (by decide) hbW.size ?_); intro v' w3 hown3 hg3 hb3)
        go_roundw
        case rel => exact ⟨k + 1, _, by omega, by go_num, hbW.trans hb3, hown3, by
          show List.map NV.x (ys ++ [_]) = _
          rw [take_get HX.out, ofS_snoc_t rfl, List.map_append, hys.out]; rfl, by simp; omega, fun y hy => by
          rcases List.mem_append.1 hy with h | h
          · exact hfl.out y h
          · simp at h; subst h; exact HF.out⟩
        case measure => simp [intOf]; omega
      · go_wp2
        go_roundw
        case rel => exact ⟨k + 1, ys, by omega, by go_num, hbW, hown.ext hB0, by
          show List.map NV.x ys = _
          rw [take_get HX.out, ofS_snoc_f hs, hys.out], by omega, hfl⟩
        case measure => simp [intOf]; omega
    · have hkn : k = n := by omega
      subst hkn
      go_wp2
      go_ret
      have hys' := hys.out
      rw [take_all (by rw [← hN.out]; exact Nat.le_refl _)] at hys'
      obtain ⟨B, d, hv, hF⟩ := hown.nl (fun y hy => (hfl.out y hy).ext hbr)
      rw [hys'] at hv hF
      exact ⟨B, d, by rw [hv]; rfl, hF, hbr⟩

/-! ### the plain law -/
def StI (xs : List Nest) (k : Nat) (e : Nest) : Prop :=
  IsEd e ∧ (∀ m p, k = m + 1 → xs[m]? = some p → p.c ≤ e.c) ∧ e.b = ((ofS e.a (xs.take k)).length : Int) + 1 ∧ ∀ l, (ofS e.a (xs.take k)).getLast? = some l → l.c ≠ e.c
def StTo (xs : List Nest) (k : Nat) : Prop := ∀ j e, j < k → xs[j]? = some e → StI xs j e
def Eds (xs : List Nest) : Prop := (∀ k e, xs[k]? = some e → StI xs k e) ∧ xs.length ≤ 15
theorem StTo.zero {xs : List Nest} : StTo xs 0 := fun j e h => by omega
theorem StTo.step {xs : List Nest} {k : Nat} {e : Nest} (h : StTo xs k) (hx : xs[k]? = some e) (he : StI xs k e) : StTo xs (k + 1) := fun j e' hj hx' => by
  by_cases h1 : j = k
  · subst h1
    rw [hx] at hx'
    cases hx'
    exact he
  · exact h j e' (by omega) hx'
theorem StTo.all {xs : List Nest} {k : Nat} (h : StTo xs k) (hk : xs.length ≤ k) : ∀ j e, xs[j]? = some e → StI xs j e := fun j e hx => h j e (Nat.lt_of_lt_of_le (lt_of_get hx) hk) hx
/-- the last edition of a sheet has as its number how many there are -/
theorem StTo.last {xs : List Nest} : ∀ {k : Nat}, StTo xs k → ∀ (a : Int) (l : Nest), (ofS a (xs.take k)).getLast? = some l → l.b = ((ofS a (xs.take k)).length : Int) ∧ l.a = a
  | 0, _, a, l, h => by simp [ofS] at h
  | k + 1, hs, a, l, h => by
    have ih := StTo.last (k := k) (fun j e hj hx => hs j e (by omega) hx) a l
    rcases hx : xs[k]? with _ | x
    · have : xs.take (k + 1) = xs.take k := by rw [List.take_add_one, hx]; simp
      rw [this] at h ⊢
      exact ih h
    · rw [take_get hx] at h ⊢
      by_cases ha : x.a = a
      · rw [ofS_snoc_t ha] at h ⊢
        simp at h
        subst h
        have := (hs k x (by omega) hx).2.2.1
        rw [ha] at this
        exact ⟨by rw [this]; simp, ha⟩
      · rw [ofS_snoc_f ha] at h ⊢
        exact ih h

def LastP (a : Int) (xs : List Nest) (k : Nat) (r : Int) : Prop :=
  (r = -1 ∧ ofS a (xs.take k) = []) ∨ ∃ (j : Nat) (l : Nest), r = j ∧ j < k ∧ xs[j]? = some l ∧ (ofS a (xs.take k)).getLast? = some l
theorem LastP.step_t {a : Int} {xs : List Nest} {k : Nat} {x : Nest} (hx : xs[k]? = some x) (h : x.a = a) : LastP a xs (k + 1) k :=
  .inr ⟨k, x, rfl, by omega, hx, by rw [take_get hx, ofS_snoc_t h]; simp⟩
theorem LastP.step_f {a : Int} {xs : List Nest} {k : Nat} {x : Nest} {r : Int} (hp : LastP a xs k r) (hx : xs[k]? = some x) (h : x.a ≠ a) : LastP a xs (k + 1) r := by
  unfold LastP
  rw [take_get hx, ofS_snoc_f h]
  rcases hp with ⟨h1, h2⟩ | ⟨j, l, h1, h2, h3, h4⟩
  · exact .inl ⟨h1, h2⟩
  · exact .inr ⟨j, l, h1, by omega, h3, h4⟩
def lastI (a : Int) (xs : List Nest) : Nat → Int
  | 0 => -1
  | k + 1 => match xs[k]? with
    | none => lastI a xs k
    | some x => if x.a = a then k else lastI a xs k
theorem lastI_t {a : Int} {xs : List Nest} {k : Nat} {x : Nest} (hx : xs[k]? = some x) (h : x.a = a) : lastI a xs (k + 1) = k := by
  rw [lastI, hx]
  simp [h]
theorem lastI_f {a : Int} {xs : List Nest} {k : Nat} {x : Nest} (hx : xs[k]? = some x) (h : x.a ≠ a) : lastI a xs (k + 1) = lastI a xs k := by
  rw [lastI, hx]
  simp [h]
theorem lastI_p (a : Int) (xs : List Nest) : ∀ k, k ≤ xs.length → LastP a xs k (lastI a xs k)
  | 0, _ => .inl ⟨rfl, rfl⟩
  | k + 1, hk => by
    have hx : xs[k]? = some (xs[k]'(by omega)) := List.getElem?_eq_getElem (by omega)
    by_cases h : (xs[k]'(by omega)).a = a
    · rw [lastI_t hx h]
      exact LastP.step_t hx h
    · rw [lastI_f hx h]
      exact (lastI_p a xs k (by omega)).step_f hx h
theorem lastI_take (a : Int) (xs : List Nest) (n : Nat) : ∀ k, k ≤ n → lastI a (xs.take n) k = lastI a xs k
  | 0, _ => rfl
  | k + 1, hk => by
    have : (xs.take n)[k]? = xs[k]? := by rw [List.getElem?_take]; simp; omega
    rw [lastI, lastI, this, lastI_take a xs n k (by omega)]
set_option maxHeartbeats 1000000 in
set_option maxRecDepth 100000 in
theorem l18Last_any (A : Option Addr) (c : Nat) (xs : List Nest) (sheet : Int) (w : World) (hn : xs.length ≤ 4194304) (hA : Nl w A xs) :
    Calls Tryd.prog 51 #[.slice A xs.length c, .int .i64 sheet] w fun e w' => e = .returned (.int .i64 (lastI sheet xs xs.length)) ∧ w = w' := by
  obtain ⟨n, hnn⟩ : ∃ n, n = List.length xs := ⟨_, rfl⟩
  rw [← hnn] at hn ⊢
  have hN := Lib.hid hnn
  clear hnn
  go_enter Tryd.func51, Tryd.ntmps51
  go_wp2
  go_loop [5, 6] (fun v i => ∃ (k : Nat), k ≤ n ∧ i = .int .i64 k ∧ v = .int .i64 (lastI sheet xs k)) (fun _ i => n - (intOf i).toNat)
  case atStart => exact ⟨0, by omega, rfl, rfl⟩
  case round =>
    obtain ⟨k, hk, rfl, rfl⟩ := hrel
    by_cases hlt : k < n
    · obtain ⟨x, b, o, A', d, hx, rfl, hb, hc, _⟩ := hA.at_ (k := k) (by rw [← hN.out]; exact hlt)
      have c0 : World.cell? w ⟨b, o + k * 4, none⟩ = some (.int .i64 x.a) := hc.ca
      have c1 : World.cell? w ⟨b, o + k * 4 + 1, none⟩ = some (.int .i64 x.b) := hc.cb
      have c2 : World.cell? w ⟨b, o + k * 4 + 2, none⟩ = some (.int .i64 x.c) := hc.cc
      have c3 : World.cell? w ⟨b, o + k * 4 + 3, none⟩ = some (.slice A' x.l.length d) := hc.cl
      have HX := Lib.hid hx
      clear hx hc hA
      have hk0 : (0 : Int) ≤ (k : Int) := by omega
      have hk1 : (k : Int) < (n : Int) := by omega
      by_cases hs : x.a = sheet
      · have HS := Lib.hid hs
        go_wp2
        go_round
        case rel => exact ⟨k + 1, by omega, by go_num, by rw [lastI_t HX.out HS.out]⟩
        case measure => simp [intOf]; omega
      · have HS := Lib.hid hs
        go_wp2
        go_round
        case rel => exact ⟨k + 1, by omega, by go_num, by rw [lastI_f HX.out HS.out]⟩
        case measure => simp [intOf]; omega
    · have hkn : k = n := by omega
      subst hkn
      go_wp2
      go_ret
      exact ⟨rfl, rfl⟩

theorem isEdition_t (x : Nest) (A : Option Addr) (d : Nat) (w : World) (hn : x.l.length ≤ 4194304) (hA : Fl one 1 w A x.l) (h : IsEd x) :
    Calls Tryd.prog 47 #[.agg #[.int .i64 x.a, .int .i64 x.b, .int .i64 x.c, .slice A x.l.length d]] w fun e w' => e = .returned (.bool true) ∧ Below w.heap.size w w' := by
  have := isEdition_any x A d w hn hA; rwa [tb_t h] at this
theorem isEdition_f (x : Nest) (A : Option Addr) (d : Nat) (w : World) (hn : x.l.length ≤ 4194304) (hA : Fl one 1 w A x.l) (h : ¬ IsEd x) :
    Calls Tryd.prog 47 #[.agg #[.int .i64 x.a, .int .i64 x.b, .int .i64 x.c, .slice A x.l.length d]] w fun e w' => e = .returned (.bool false) ∧ Below w.heap.size w w' := by
  have := isEdition_any x A d w hn hA; rwa [tb_f h] at this
theorem l18One_t (x : Nest) (A : Option Addr) (d : Nat) (w : World) (hn : x.l.length ≤ 4194304) (hA : Fl one 1 w A x.l) (h : IsEd x) :
    Calls Tryd.prog 49 #[.agg #[.int .i64 x.a, .int .i64 x.b, .int .i64 x.c, .slice A x.l.length d]] w fun e w' => e = .returned (.bool true) ∧ Below w.heap.size w w' := by
  have := l18One_any x A d w hn hA; rwa [tb_t h] at this
theorem l18One_f (x : Nest) (A : Option Addr) (d : Nat) (w : World) (hn : x.l.length ≤ 4194304) (hA : Fl one 1 w A x.l) (h : ¬ IsEd x) :
    Calls Tryd.prog 49 #[.agg #[.int .i64 x.a, .int .i64 x.b, .int .i64 x.c, .slice A x.l.length d]] w fun e w' => e = .returned (.bool false) ∧ Below w.heap.size w w' := by
  have := l18One_any x A d w hn hA; rwa [tb_f h] at this

end Go.Proofs.YtadcjfbcfiljkaaDoor
