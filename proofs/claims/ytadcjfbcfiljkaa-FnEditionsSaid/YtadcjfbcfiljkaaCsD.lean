/- The places that later editions changed: the words. -/
import Derived.Test.YtadcjfbcfiljkaaCompI
import Derived.Test.YtadcjfbcfiljkaaNestOwn
import Derived.Test.YtadcjfbcfiljkaaPut
import Derived.Test.YtadcjfbcfiljkaaEds
import Derived.Test.YtadcjfbcfiljkaaGoodEds
import Derived.Test.YtadcjfbcfiljkaaAreEds
namespace Go.Proofs.Ytadcjfbcfiljkaa
open Go.RowKit
set_option linter.unusedVariables false
set_option linter.unusedSimpArgs false

def RetNC (w : World) (ys : List Nest) (e : Ending) (w' : World) : Prop :=
  ∃ B d, e = .returned (.slice B ys.length d) ∧ Nl w' B ys ∧ Cap B ys.length d ∧ Below w.heap.size w w'
theorem OwnV.cap {lo : Nat} {e : TypeId} {w : World} {v : Value} {ys : List NV} (h : OwnV lo e w v ys) : ∀ (B : Option Addr) (n d : Nat), v = .slice B n d → Cap B n d := fun B n d hv => by
  rcases h.2 with ⟨hv', h0⟩ | ⟨g, cap, cur, hv', hg, hh, hnc, hcm, hcs, htk⟩
  · rw [hv'] at hv
    injection hv with h1 h2 h3
    exact ⟨by omega, by omega, .inl ⟨h1.symm, h3.symm⟩⟩
  · rw [hv'] at hv
    injection hv with h1 h2 h3
    unfold maxLen at hcm
    exact ⟨by omega, by omega, .inr ⟨g, 0, h1.symm⟩⟩
set_option maxHeartbeats 1000000 in
set_option maxRecDepth 100000 in
theorem editionsOf_cap (A : Option Addr) (c : Nat) (xs : List Nest) (sheet : Int) (w : World) (hn : xs.length ≤ 4194304) (hA : Nl w A xs) :
    Calls Try.prog 27 #[.slice A xs.length c, .int .i64 sheet] w (RetNC w (ofS sheet xs)) := by
  obtain ⟨i0, hi, hz0, hz1, hz2⟩ := info_parts infoEdition
  obtain ⟨n, hnn⟩ : ∃ n, n = List.length xs := ⟨_, rfl⟩
  rw [← hnn] at hn ⊢
  have hN := Lib.hid hnn
  clear hnn
  go_enter Try.func27, Try.ntmps27
  go_wp2
  go_loopw [5, 10] (fun v i wr => ∃ (k : Nat) (ys : List NV), k ≤ n ∧ i = .int .i64 k ∧ Below w.heap.size w wr ∧ OwnV w.heap.size 53 wr v ys ∧ Hid (ys.map NV.x = ofS sheet (xs.take k)) ∧ ys.length ≤ k ∧ Hid (∀ y ∈ ys, Fl one 1 w y.A y.x.l)) (fun _ i _ => n - (intOf i).toNat)
  case atStart => exact ⟨0, [], by omega, rfl, Below.refl _ _, OwnV.none_, rfl, by simp, fun y h => by simp at h⟩
  case round =>
    obtain ⟨k, ys, hk, rfl, hbr, hown, hys, hyl, hfl⟩ := hrel
    have hzr := hbr.size
    by_cases hlt : k < n
    · obtain ⟨x, b, o, A', d, hx, rfl, hb0, hc0, hf0⟩ := hA.at_ (k := k) (by rw [← hN.out]; exact hlt)
      have hb : b < wr.heap.size := Nat.lt_of_lt_of_le hb0 hbr.size
      have hc : NAt wr b (o + k * 4) x A' d := hc0.cells fun j => hbr.cell (p := ⟨b, j, none⟩) hb0
      have c0 : World.cell? wr ⟨b, o + k * 4, none⟩ = some (.int .i64 x.a) := hc.ca
      have c1 : World.cell? wr ⟨b, o + k * 4 + 1, none⟩ = some (.int .i64 x.b) := hc.cb
      have c2 : World.cell? wr ⟨b, o + k * 4 + 2, none⟩ = some (.int .i64 x.c) := hc.cc
      have c3 : World.cell? wr ⟨b, o + k * 4 + 3, none⟩ = some (.slice A' x.l.length d) := hc.cl
      have HX := Lib.hid hx
      have HF := Lib.hid hf0
      clear hx hc hc0 hA hf0
      have hk0 : (0 : Int) ≤ (k : Int) := by omega
      have hk1 : (k : Int) < (n : Int) := by omega
      obtain ⟨W0, hW0, hB0, hz0', hg, _⟩ := box_world wr #[Value.int .i64 x.a, .int .i64 x.b, .int .i64 x.c, .slice A' x.l.length d] 53
      have g0 : World.cell? W0 ⟨wr.heap.size, 0, none⟩ = some (.int .i64 x.a) := hg 0
      have g1 : World.cell? W0 ⟨wr.heap.size, 1, none⟩ = some (.int .i64 x.b) := hg 1
      have g2 : World.cell? W0 ⟨wr.heap.size, 2, none⟩ = some (.int .i64 x.c) := hg 2
      have g3 : World.cell? W0 ⟨wr.heap.size, 3, none⟩ = some (.slice A' x.l.length d) := hg 3
      clear hg
      have hbW := ext_trans hbr hB0
      by_cases hs : x.a = sheet
      · subst hs
        have hown2 := hown.ext hB0
        go_wp2_with (at_builtin; (refine wpList_append_nv (y := ⟨x, A', d⟩) rfl _ _ _ rfl w.heap.size i0 _ 48 Try.underlying24 hi hz0 hz1 hz2 rfl _ ys rfl rfl hown2 (by omega) (by decide) hbW.size ?_); intro v' w3 hown3 hg3 hb3)
        go_roundw
        case rel => exact ⟨k + 1, _, by omega, by go_num, hbW.trans hb3, hown3, by
          show List.map NV.x (ys ++ [_]) = _
          rw [take_get HX.out, ofS_snoc_t rfl, List.map_append, hys.out]; rfl, by simp; omega, fun y hy => by
          rcases List.mem_append.1 hy with h | h
          · exact hfl.out y h
          · simp at h; subst h; exact HF.out⟩
        case measure => simp [intOf]; omega
      · go_wp2
        go_roundw
        case rel => exact ⟨k + 1, ys, by omega, by go_num, hbW, hown.ext hB0, by
          show List.map NV.x ys = _
          rw [take_get HX.out, ofS_snoc_f hs, hys.out], by omega, hfl⟩
        case measure => simp [intOf]; omega
    · have hkn : k = n := by omega
      subst hkn
      go_wp2
      go_ret
      have hys' := hys.out
      rw [take_all (by rw [← hN.out]; exact Nat.le_refl _)] at hys'
      have hcc := hown.cap
      obtain ⟨B, d, hv, hF⟩ := hown.nl (fun y hy => (hfl.out y hy).ext hbr)
      rw [hys'] at hv hF
      exact ⟨B, d, by rw [hv]; rfl, hF, hcc B _ d hv, hbr⟩

def catC (day : Int) (ys : List Nest) : List Int := (ys.filter fun e => decide (e.c ≤ day)).flatMap Nest.l
theorem catC_t {day : Int} {ys : List Nest} {x : Nest} (h : x.c ≤ day) : catC day (ys ++ [x]) = catC day ys ++ x.l := by simp [catC, h]
theorem catC_f {day : Int} {ys : List Nest} {x : Nest} (h : ¬ x.c ≤ day) : catC day (ys ++ [x]) = catC day ys := by simp [catC, h]
theorem catC_len (day : Int) : ∀ ys : List Nest, (catC day ys).length ≤ lsum ys
  | [] => by simp [catC]
  | x :: r => by
    have ih := catC_len day r
    unfold catC at ih ⊢
    rw [lsum, List.filter_cons]
    split
    · rw [List.flatMap_cons, List.length_append]; omega
    · omega
theorem lsum_filter (p : Nest → Bool) : ∀ ys : List Nest, lsum (ys.filter p) ≤ lsum ys
  | [] => by simp [lsum]
  | x :: r => by
    have ih := lsum_filter p r
    rw [List.filter_cons]
    split
    · simp only [lsum]; omega
    · simp only [lsum]; omega
theorem lsum_drop (ys : List Nest) (k : Nat) : lsum (ys.drop k) ≤ lsum ys := by
  have : lsum (ys.take k) + lsum (ys.drop k) = lsum ys := by rw [← lsum_append, List.take_append_drop]
  omega
/-- the editions of a sheet bear their own places as numbers -/
theorem ofS_num {xs : List Nest} (a : Int) : ∀ k, StTo xs k → ∀ (i : Nat) (y : Nest), (ofS a (xs.take k))[i]? = some y → y.b = (i : Int) + 1
  | 0, _, i, y, h => by simp [ofS] at h
  | k + 1, hs, i, y, h => by
    have ih := ofS_num a k (fun j e hj hx => hs j e (by omega) hx) i y
    rcases hx : xs[k]? with _ | x
    · have : xs.take (k + 1) = xs.take k := by rw [List.take_add_one, hx]; simp
      rw [this] at h
      exact ih h
    · rw [take_get hx] at h
      by_cases ha : x.a = a
      · rw [ofS_snoc_t ha] at h
        rcases Nat.lt_or_ge i (ofS a (xs.take k)).length with hi | hi
        · rw [List.getElem?_append_left hi] at h
          exact ih h
        · rw [List.getElem?_append_right hi] at h
          have hl := lt_of_get h
          simp at hl
          rw [hl] at h
          simp at h
          subst h
          have := (hs k x (by omega) hx).2.2.1
          rw [ha] at this
          omega
      · rw [ofS_snoc_f ha] at h
        exact ih h
theorem ofS_num' {xs : List Nest} (h : Eds xs) (a : Int) {i : Nat} {y : Nest} (hy : (ofS a xs)[i]? = some y) : y.b = (i : Int) + 1 :=
  ofS_num a xs.length (fun j e _ hx => h.1 j e hx) i y (by rw [List.take_length]; exact hy)
/-- with numbers that are the places, those beyond a number are those behind a place -/
theorem drop_filter : ∀ (ys : List Nest) (s q : Nat), (∀ (i : Nat) (y : Nest), ys[i]? = some y → y.b = ((s + i : Nat) : Int) + 1) → ys.drop (q - s) = ys.filter (fun e => decide ((q : Int) < e.b)) ∨ q < s
  | [], s, q, _ => .inl (by simp)
  | y :: r, s, q, h => by
    have hy := h 0 y rfl
    have hr : ∀ (i : Nat) (z : Nest), r[i]? = some z → z.b = ((s + 1 + i : Nat) : Int) + 1 := fun i z hz => by
      have := h (i + 1) z (by simpa using hz)
      rw [this]
      congr 2
      omega
    rcases Nat.lt_or_ge q s with h1 | h1
    · exact .inr h1
    · left
      rcases Nat.eq_or_lt_of_le h1 with h2 | h2
      · subst h2
        rw [Nat.sub_self, List.drop_zero, Eq.comm, List.filter_eq_self]
        intro z hz
        obtain ⟨i, hi⟩ := List.mem_iff_getElem?.1 hz
        have := h i z hi
        simp
        omega
      · have hsub : q - s = (q - (s + 1)) + 1 := by omega
        rw [hsub, List.drop_succ_cons]
        rcases drop_filter r (s + 1) q hr with h3 | h3
        · rw [h3, List.filter_cons_of_neg (by simp; omega)]
        · omega
def sinceF (sheet number day : Int) (xs : List Nest) : List Nest := xs.filter fun e => decide (e.a = sheet ∧ number < e.b ∧ e.c ≤ day)
def sinceL (sheet number day : Int) (xs : List Nest) : List Int := putAll ((sinceF sheet number day xs).flatMap Nest.l)
theorem since_eq {xs : List Nest} (h : Eds xs) (sheet day : Int) (q : Nat) : catC day ((ofS sheet xs).drop q) = (sinceF sheet (q : Int) day xs).flatMap Nest.l := by
  rcases drop_filter (ofS sheet xs) 0 q (fun i y hy => by rw [Nat.zero_add]; exact ofS_num' h sheet hy) with h1 | h1
  · rw [Nat.sub_zero] at h1
    rw [h1]
    unfold catC sinceF ofS
    rw [List.filter_filter, List.filter_filter]
    congr 1
    apply List.filter_congr
    intro e _
    by_cases h2 : e.c ≤ day <;> by_cases h3 : (q : Int) < e.b <;> by_cases h4 : e.a = sheet <;> simp [h2, h3, h4]
  · omega
def CsOk (xs : List Nest) (sheet number day : Int) : Prop := Eds xs ∧ (0 ≤ day ∧ day ≤ 4000) ∧ (1 ≤ number ∧ number ≤ ((ofS sheet xs).length : Int))
theorem cs_found {xs : List Nest} (h : Eds xs) (sheet number : Int) : (1 ≤ number ∧ number ≤ ((ofS sheet xs).length : Int)) ↔ ∃ e ∈ xs, e.a = sheet ∧ e.b = number := by
  constructor
  · rintro ⟨h1, h2⟩
    obtain ⟨q, rfl⟩ : ∃ q : Nat, number = (q : Int) + 1 := ⟨(number - 1).toNat, by omega⟩
    obtain ⟨y, hy⟩ : ∃ y, (ofS sheet xs)[q]? = some y := ⟨_, List.getElem?_eq_getElem (by omega)⟩
    have hm := List.mem_of_getElem? hy
    unfold ofS at hm
    obtain ⟨hm1, hm2⟩ := List.mem_filter.1 hm
    exact ⟨y, hm1, by simpa using hm2, ofS_num' h sheet hy⟩
  · rintro ⟨e, he, ha, hb⟩
    have hm : e ∈ ofS sheet xs := List.mem_filter.2 ⟨he, by simpa using ha⟩
    obtain ⟨i, hi⟩ := List.mem_iff_getElem?.1 hm
    have h1 := ofS_num' h sheet hi
    have h2 := lt_of_get hi
    omega
theorem cs_id {xs : List Nest} (h : Eds xs) {sheet : Int} (hs : ∃ e ∈ xs, e.a = sheet) : 1 ≤ sheet ∧ sheet ≤ 999 := by
  obtain ⟨e, he, rfl⟩ := hs
  obtain ⟨i, hi⟩ := List.mem_iff_getElem?.1 he
  exact (h.1 i e hi).1.2.2.2.1
theorem sinceF_len (sheet number day : Int) (xs : List Nest) : ((sinceF sheet number day xs).flatMap Nest.l).length ≤ lsum xs := by
  unfold sinceF
  have : ∀ l : List Nest, (l.flatMap Nest.l).length = lsum l := fun l => by
    induction l with
    | nil => rfl
    | cons x r ih => rw [List.flatMap_cons, List.length_append, ih]; rfl
  rw [this]
  exact lsum_filter _ xs
theorem sinceL_len (sheet number day : Int) (xs : List Nest) : (sinceL sheet number day xs).length ≤ lsum xs := Nat.le_trans (putAll_len _) (sinceF_len sheet number day xs)
theorem wt_in' {xs : List Nest} {x : Nest} (h : x ∈ xs) : x.l.length ≤ lsum xs := by
  induction xs with
  | nil => simp at h
  | cons y r ih =>
    rcases List.mem_cons.1 h with rfl | h
    · simp [lsum]
    · have := ih h
      simp only [lsum]
      omega
end Go.Proofs.Ytadcjfbcfiljkaa
