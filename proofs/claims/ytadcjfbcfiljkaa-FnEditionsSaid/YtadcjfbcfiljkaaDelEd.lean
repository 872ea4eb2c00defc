/- slices.DeleteFunc over editions that the call itself has made. -/
import Derived.Test.YtadcjfbcfiljkaaOwn2
import Derived.Test.YtadcjfbcfiljkaaFamEdition
import Derived.Lib.SliceRun
namespace Go.Proofs.Ytadcjfbcfiljkaa
open Go.RowKit
set_option linter.unusedVariables false
set_option linter.unusedSimpArgs false

def delB (sheet cnt : Int) (x : Nest) : Bool := decide (x.a = sheet ∧ x.b = cnt)
theorem delB_t {sheet cnt : Int} {x : Nest} (h : x.a = sheet) (k : x.b = cnt) : delB sheet cnt x = true := by simp [delB, h, k]
theorem delB_f1 {sheet cnt : Int} {x : Nest} (h : x.a ≠ sheet) : delB sheet cnt x = false := by simp [delB, h]
theorem delB_f2 {sheet cnt : Int} {x : Nest} (h : x.b ≠ cnt) : delB sheet cnt x = false := by simp [delB, h]
set_option maxHeartbeats 400000 in
theorem delEd_any (x : Nest) (A : Option Addr) (d : Nat) (sheet cnt : Int) (b1 b2 : Nat) (w : World) (hb1 : b1 < w.heap.size) (hb2 : b2 < w.heap.size)
    (h1 : w.cell? ⟨b1, 0, none⟩ = some (.int .i64 sheet)) (h2 : w.cell? ⟨b2, 0, none⟩ = some (.int .i64 cnt)) :
    Calls Try.prog 38 #[.agg #[.int .i64 x.a, .int .i64 x.b, .int .i64 x.c, .slice A x.l.length d], .pointer (some ⟨b1, 0, none⟩), .pointer (some ⟨b2, 0, none⟩)] w fun e w' => e = .returned (.bool (delB sheet cnt x)) ∧ Below w.heap.size w w' := by
  by_cases ha : x.a = sheet
  · have HA := Lib.hid ha
    by_cases hb : x.b = cnt
    · have HB := Lib.hid hb
      go_enter Try.func38, Try.ntmps38
      go_wp2
      go_ret
      exact ⟨ret_bool (delB_t HA.out HB.out).symm, by go_grown⟩
    · have HB := Lib.hid hb
      go_enter Try.func38, Try.ntmps38
      go_wp2
      go_ret
      exact ⟨ret_bool (by rw [delB_f2 HB.out]; simpa using HB.out), by go_grown⟩
  · have HA := Lib.hid ha
    go_enter Try.func38, Try.ntmps38
    go_wp2
    go_ret
    exact ⟨ret_bool (delB_f1 HA.out).symm, by go_grown⟩

def IdxD (sheet cnt : Int) (xs : List Nest) (r : Int) : Prop :=
  (∃ (j : Nat) (y : Nest), r = j ∧ xs[j]? = some y ∧ delB sheet cnt y = true ∧ ∀ (i : Nat) (x : Nest), i < j → xs[i]? = some x → delB sheet cnt x = false) ∨
  (r = -1 ∧ ∀ (i : Nat) (x : Nest), xs[i]? = some x → delB sheet cnt x = false)
set_option maxHeartbeats 1000000 in
set_option maxRecDepth 100000 in
theorem idxDel_any (A : Option Addr) (c : Nat) (xs : List Nest) (sheet cnt : Int) (b1 b2 : Nat) (w : World) (hn : xs.length ≤ 16777216) (hA : Nl w A xs) (hb1 : b1 < w.heap.size) (hb2 : b2 < w.heap.size)
    (h1 : w.cell? ⟨b1, 0, none⟩ = some (.int .i64 sheet)) (h2 : w.cell? ⟨b2, 0, none⟩ = some (.int .i64 cnt)) :
    Calls Try.prog 54 #[.slice A xs.length c, .func (.func 38) #[] #[.pointer (some ⟨b1, 0, none⟩), .pointer (some ⟨b2, 0, none⟩)]] w fun e w' =>
      ∃ r, e = .returned (.int .i64 r) ∧ IdxD sheet cnt xs r ∧ Below w.heap.size w w' := by
  obtain ⟨n, hnn⟩ : ∃ n, n = List.length xs := ⟨_, rfl⟩
  rw [← hnn] at hn ⊢
  have hN := Lib.hid hnn
  clear hnn
  go_enter Try.func54, Try.ntmps54
  go_wp2
  go_loopw [8] (fun i wr => ∃ k : Nat, k ≤ n ∧ i = .int .i64 k ∧ Below w.heap.size w wr ∧ Hid (∀ (i : Nat) (x : Nest), i < k → xs[i]? = some x → delB sheet cnt x = false)) (fun i _ => n - (intOf i).toNat)
  case atStart => exact ⟨0, by omega, rfl, Below.refl _ _, fun i x h => by omega⟩
  case round =>
    obtain ⟨k, hk, rfl, hbr, hall⟩ := hrel
    by_cases hlt : k < n
    · obtain ⟨x, b, o, A', d, hx, rfl, hb, hc, _⟩ := (hA.ext hbr).at_ (k := k) (by rw [← hN.out]; exact hlt)
      have c0 : World.cell? wr ⟨b, o + k * 4, none⟩ = some (.int .i64 x.a) := hc.ca
      have c1 : World.cell? wr ⟨b, o + k * 4 + 1, none⟩ = some (.int .i64 x.b) := hc.cb
      have c2 : World.cell? wr ⟨b, o + k * 4 + 2, none⟩ = some (.int .i64 x.c) := hc.cc
      have c3 : World.cell? wr ⟨b, o + k * 4 + 3, none⟩ = some (.slice A' x.l.length d) := hc.cl
      have HX := Lib.hid hx
      have e1 := (hbr.cell (p := ⟨b1, 0, none⟩) hb1).trans h1
      have e2 := (hbr.cell (p := ⟨b2, 0, none⟩) hb2).trans h2
      clear hc hx hA
      have hk0 : (0 : Int) ≤ (k : Int) := by omega
      have hk1 : (k : Int) < (n : Int) := by omega
      go_wp2_with fail
      refine (delEd_any x A' d sheet cnt b1 b2 wr (Nat.lt_of_lt_of_le hb1 hbr.size) (Nat.lt_of_lt_of_le hb2 hbr.size) e1 e2).mono ?_
      rintro e w2 ⟨rfl, hb2'⟩
      have hx2 := ext_trans hbr hb2'
      rcases hd : delB sheet cnt x with _ | _
      · have HD := Lib.hid hd
        clear hd
        go_wp2
        go_roundw
        case rel => exact ⟨k + 1, by omega, by go_num, hx2, fun i y hi hy => by
          by_cases e : i = k
          · subst e; rw [HX.out] at hy; cases hy; exact HD.out
          · exact hall.out i y (by omega) hy⟩
        case measure => simp [intOf]; omega
      · have HD := Lib.hid hd
        clear hd
        go_wp2
        go_ret
        exact ⟨k, rfl, .inl ⟨k, x, rfl, HX.out, HD.out, hall.out⟩, hx2⟩
    · have hkn : k = n := by omega
      subst hkn
      go_wp2
      go_ret
      exact ⟨-1, rfl, .inr ⟨rfl, fun i x hx => hall.out i x (by rw [hN.out]; exact lt_of_get hx) hx⟩, hbr⟩

/-! ### a row whose elements are moved to the front -/
structure DelSt (g cap : Nat) (e : TypeId) (ys zs : List (GV Nest)) (jj : Nat) (w wr : World) : Prop where
  blk : ∃ cur : Array Value, wr.heap[g]? = some (.cells cur e (0, 0)) ∧ cur.size = cap * 4
  A : ∀ (m : Nat) (y : GV Nest), zs[m]? = some y → NAt wr g (m * 4) y.x y.A y.d
  B : ∀ (m : Nat) (y : GV Nest), jj ≤ m → ys[m]? = some y → NAt wr g (m * 4) y.x y.A y.d
  touch : Touch g (g + 1) w wr
section
variable {g cap jj : Nat} {e et : TypeId} {ys zs : List (GV Nest)} {w wr w1 : World}
theorem DelSt.lt (h : DelSt g cap e ys zs jj w wr) : g < wr.heap.size := by
  obtain ⟨cur, hc, _⟩ := h.blk
  rcases Nat.lt_or_ge g wr.heap.size with hlt | hge
  · exact hlt
  · rw [Array.getElem?_eq_none hge] at hc; cases hc
theorem DelSt.frozen (h : DelSt g cap e ys zs jj w wr) (j : Nat) : wr.frozen? ⟨g, j, none⟩ = false := by
  obtain ⟨cur, hc, _⟩ := h.blk
  simp [World.frozen?, hc]
theorem DelSt.there (h : DelSt g cap e ys zs jj w wr) {j : Nat} (hj : j < cap * 4) : ∃ u, wr.cell? ⟨g, j, none⟩ = some u := by
  obtain ⟨cur, hc, hs⟩ := h.blk
  rw [cell_of_row wr g _ cur e (0, 0) hc]
  exact ⟨_, Array.getElem?_eq_getElem (by omega)⟩
theorem DelSt.ext (h : DelSt g cap e ys zs jj w wr) (hb : Below wr.heap.size wr w1) : DelSt g cap e ys zs jj w w1 := by
  have hl := h.lt
  obtain ⟨cur, hc, hs⟩ := h.blk
  exact ⟨⟨cur, (hb.block g hl).trans hc, hs⟩, fun m y hy => (h.A m y hy).cells fun j => hb.cell (p := ⟨g, j, none⟩) hl, fun m y hm hy => (h.B m y hm hy).cells fun j => hb.cell (p := ⟨g, j, none⟩) hl, h.touch.trans (Touch.of_ext hb)⟩
theorem DelSt.skip (h : DelSt g cap e ys zs jj w wr) : DelSt g cap e ys zs (jj + 1) w wr := ⟨h.blk, h.A, fun m y hm hy => h.B m y (by omega) hy, h.touch⟩
theorem heap_setRow_blk (g : Nat) (e : TypeId) : ∀ (vs : List Value) (w : World) (off : Nat) (cur : Array Value), w.heap[g]? = some (.cells cur e (0, 0)) → ∃ cur' : Array Value, (setRow w g off vs).heap[g]? = some (.cells cur' e (0, 0)) ∧ cur'.size = cur.size
  | [], w, off, cur, h => ⟨cur, h, rfl⟩
  | v :: vs, w, off, cur, h => by
    have h1 : (w.setCell ⟨g, off, none⟩ v).heap[g]? = some (.cells (cur.setIfInBounds off v) e (0, 0)) := by
      simp [World.setCell, Array.getElem?_modify, h]
    obtain ⟨cur', h2, h3⟩ := heap_setRow_blk g e vs _ (off + 1) _ h1
    exact ⟨cur', h2, by rw [h3]; simp⟩
theorem DelSt.keep {y : GV Nest} (h : DelSt g cap e ys zs jj w wr) (hy : ys[jj]? = some y) (hl : zs.length ≤ jj) (hcap : zs.length < cap) :
    DelSt g cap e ys (zs ++ [y]) (jj + 1) w (setRow wr g (zs.length * 4) [.int .i64 y.x.a, .int .i64 y.x.b, .int .i64 y.x.c, .slice y.A y.x.l.length y.d]) := by
  have hth : ∀ j, j < ([.int .i64 y.x.a, .int .i64 y.x.b, .int .i64 y.x.c, .slice y.A y.x.l.length y.d] : List Value).length → ∃ u, wr.cell? ⟨g, zs.length * 4 + j, none⟩ = some u := fun j hj => h.there (by simp at hj; omega)
  have hsame := setRow_same g _ wr (zs.length * 4) hth
  have hother := fun o => setRow_other g g o [.int .i64 y.x.a, .int .i64 y.x.b, .int .i64 y.x.c, .slice y.A y.x.l.length y.d] wr (zs.length * 4)
  have hT := setRow_touch g (Nat.le_refl g) (Nat.lt_succ_self g) [.int .i64 y.x.a, .int .i64 y.x.b, .int .i64 y.x.c, .slice y.A y.x.l.length y.d] wr (zs.length * 4)
  obtain ⟨cur, hc, hs⟩ := h.blk
  obtain ⟨cur', hc', hs'⟩ := heap_setRow_blk g e [.int .i64 y.x.a, .int .i64 y.x.b, .int .i64 y.x.c, .slice y.A y.x.l.length y.d] wr (zs.length * 4) cur hc
  have s0 := hsame 0 _ rfl
  have s1 := hsame 1 _ rfl
  have s2 := hsame 2 _ rfl
  have s3 := hsame 3 _ rfl
  have hc4 : ∀ m, (m + 1) * 4 ≤ zs.length * 4 ∨ zs.length * 4 + 4 ≤ m * 4 → ∀ {z : GV Nest}, NAt wr g (m * 4) z.x z.A z.d → NAt (setRow wr g (zs.length * 4) [.int .i64 y.x.a, .int .i64 y.x.b, .int .i64 y.x.c, .slice y.A y.x.l.length y.d]) g (m * 4) z.x z.A z.d := fun m hm z hz =>
    ⟨(hother _ (by simp only [List.length_cons, List.length_nil]; omega)).trans hz.ca, (hother _ (by simp only [List.length_cons, List.length_nil]; omega)).trans hz.cb, (hother _ (by simp only [List.length_cons, List.length_nil]; omega)).trans hz.cc, (hother _ (by simp only [List.length_cons, List.length_nil]; omega)).trans hz.cl⟩
  refine ⟨⟨cur', hc', by rw [hs', hs]⟩, fun m z hz => ?_, fun m z hm hz => hc4 m (.inr (by omega)) (h.B m z (by omega) hz), h.touch.trans hT⟩
  rcases Nat.lt_or_ge m zs.length with hi | hi
  · rw [List.getElem?_append_left hi] at hz
    exact hc4 m (.inl (by omega)) (h.A m z hz)
  · rw [List.getElem?_append_right hi] at hz
    have h0 := lt_of_get hz
    simp at h0
    rw [h0] at hz
    simp at hz
    subst hz
    have : m = zs.length := by omega
    subst this
    exact ⟨s0, s1, s2, s3⟩
/-- what lies in the row's first places is owned -/
theorem ownsRow_of_cells {lo : Nat} (hl : lo ≤ g) (hb : ∃ cur : Array Value, wr.heap[g]? = some (.cells cur e (0, 0)) ∧ cur.size = cap * 4) (hA : ∀ (m : Nat) (y : GV Nest), zs[m]? = some y → NAt wr g (m * 4) y.x y.A y.d) (hz : zs.length ≤ cap) (hcm : cap ≤ maxLen) :
    wr.ownsRow lo e (3 + 1) (.slice (some ⟨g, 0, none⟩) zs.length cap) zs.length (rowG hdN Nest.l zs) := by
  obtain ⟨cur, hc, hs⟩ := hb
  have hlen : ∀ l : List (GV Nest), (rowG hdN Nest.l l).length = l.length * 4 := fun l => by
    induction l with
    | nil => rfl
    | cons y r ih => simp only [rowG, List.flatMap_cons, List.length_append, List.length_cons] at ih ⊢; rw [ih, GV.cells_length (p := 3) (fun _ => rfl)]; omega
  refine ⟨hlen zs, .inr ⟨g, cap, cur, rfl, hl, hc, hz, hcm, hs, ?_⟩⟩
  apply List.ext_getElem?
  intro j
  rcases Nat.lt_or_ge j (zs.length * 4) with hj | hj
  · rw [List.getElem?_take_of_lt hj]
    have hd : j / 4 < zs.length := by omega
    have hy : zs[j / 4]? = some zs[j / 4] := List.getElem?_eq_getElem hd
    have hm : j % 4 < (zs[j / 4].cells hdN Nest.l).length := by rw [GV.cells_length (p := 3) (fun _ => rfl)]; omega
    have hq := List.getElem?_eq_getElem hm
    have hr := rowG_get (hd := hdN) (tl := Nest.l) (p := 3) (fun _ => rfl) zs (j / 4) _ hy (j % 4) _ hq
    rw [show j / 4 * (3 + 1) + j % 4 = j from by omega] at hr
    rw [hr]
    have hN := hA (j / 4) _ hy
    have hcell : wr.cell? ⟨g, j / 4 * 4 + j % 4, none⟩ = some ((zs[j / 4].cells hdN Nest.l)[j % 4]) := by
      have h4 : j % 4 < 4 := Nat.mod_lt _ (by decide)
      have hcs : ∀ q (hq : q < (zs[j / 4].cells hdN Nest.l).length), wr.cell? ⟨g, j / 4 * 4 + q, none⟩ = some ((zs[j / 4].cells hdN Nest.l)[q]) := fun q hq => by
        rw [GV.cells_length (p := 3) (fun _ => rfl)] at hq
        match q, hq with
        | 0, _ => exact hN.ca
        | 1, _ => exact hN.cb
        | 2, _ => exact hN.cc
        | 3, _ => exact hN.cl
      exact hcs _ hm
    rw [cell_of_row wr g _ cur e (0, 0) hc, show j / 4 * 4 + j % 4 = j from by omega] at hcell
    simpa using hcell
  · rw [List.getElem?_take_eq_none hj, List.getElem?_eq_none (by rw [hlen]; exact hj)]
theorem pw_of_inj {l : List (GV Nest)} (h : ∀ (i j : Nat) (y z : GV Nest), l[i]? = some y → l[j]? = some z → Nest.l y.x ≠ [] → Nest.l z.x ≠ [] → y.A = z.A → i = j) : l.Pairwise fun y z => Nest.l y.x ≠ [] → Nest.l z.x ≠ [] → y.A ≠ z.A := by
  rw [List.pairwise_iff_getElem]
  intro i j hi hj hij hy hz hA
  have := h i j _ _ (List.getElem?_eq_getElem hi) (List.getElem?_eq_getElem hj) hy hz hA
  omega
theorem inj_of_pw {l : List (GV Nest)} (h : l.Pairwise fun y z => Nest.l y.x ≠ [] → Nest.l z.x ≠ [] → y.A ≠ z.A) : ∀ (i j : Nat) (y z : GV Nest), l[i]? = some y → l[j]? = some z → Nest.l y.x ≠ [] → Nest.l z.x ≠ [] → y.A = z.A → i = j := by
  rw [List.pairwise_iff_getElem] at h
  intro i j y z hy hz hyl hzl hA
  have hi := lt_of_get hy
  have hj := lt_of_get hz
  rw [List.getElem?_eq_getElem hi] at hy
  rw [List.getElem?_eq_getElem hj] at hz
  injection hy with hy
  injection hz with hz
  subst hy hz
  rcases Nat.lt_trichotomy i j with hlt | he | hgt
  · exact absurd hA (h i j hi hj hlt hyl hzl)
  · exact he
  · exact absurd hA.symm (h j i hj hi hgt hzl hyl)
theorem OwnG.moved {lo : Nat} {v : Value} (h : OwnG hdN Nest.l 3 lo e et w v ys) (hee : e ≠ et) (hv : v.ownBlock = some g) (hs : zs.Sublist ys) (hT : Touch g (g + 1) w wr)
    (ho : wr.ownsRow lo e (3 + 1) (.slice (some ⟨g, 0, none⟩) zs.length cap) zs.length (rowG hdN Nest.l zs)) : OwnG hdN Nest.l 3 lo e et wr (.slice (some ⟨g, 0, none⟩) zs.length cap) zs := by
  refine ⟨ho, fun i y hy => ?_, inj_of_pw ((pw_of_inj h.inj).sublist hs)⟩
  obtain ⟨j, hj⟩ := List.mem_iff_getElem?.1 (hs.subset (List.mem_of_getElem? hy))
  have h1 := h.inn j y hj
  refine World.ownsRow.kept (row := v.ownBlock) h1 ⟨hT.os, hT.tape, hT.output, hT.size, fun k hk hne => ?_⟩ (h1.blk_ne h.out hee)
  rw [hv] at hne
  exact hT.block k hk (by have : k ≠ g := fun e => hne (by rw [e]); omega)
end
/-- 'clear(s)', s a slice of n > 0 elements of some cells: the cells hold something -/
theorem run_clear_rows {P : Program} (w : World) (t e : TypeId) (z : Value) (ht : P.underlying t = some (.slice e)) (hv : ∀ w, (zeroValue e).run P w = .ok z w) (h1 : ∀ v ∈ z.cells, v.oneCell' = true) (hp : 0 < z.cells.size) (b o n c : Nat) (hn : 0 < n)
    (hc : ∀ j, j < n * z.cells.size → (w.cell? ⟨b, o + j, none⟩).isSome = true) (hf : ∀ j, j < n * z.cells.size → w.frozen? ⟨b, o + j, none⟩ = false) :
    ∃ vs : List Value, vs.length = n * z.cells.size ∧ ∀ ty, (Builtin.clear_ #[t] ty #[.slice (some ⟨b, o, none⟩) n c]).run P w = .ok (.tuple #[]) (w.setCells b o vs) := by
  refine ⟨(Builtin.zeroCells z.cells n).toList, by simp [Builtin.zeroCells], fun ty => ?_⟩
  have hlen : (Builtin.zeroCells z.cells n).toList.length = n * z.cells.size := by simp [Builtin.zeroCells]
  have hst := run_storeCells_cells (P := P) b o (Builtin.zeroCells z.cells n).toList 0 w (by simpa [hlen] using hc) (by simpa [hlen] using hf) (by
    intro v hv'
    simp only [Builtin.zeroCells, Array.toList_map, List.mem_map] at hv'
    obtain ⟨i, _, rfl⟩ := hv'
    have hm : i % z.cells.size < z.cells.size := Nat.mod_lt _ hp
    rw [getElem!_pos z.cells _ hm]
    exact h1 _ (Array.getElem_mem hm))
  simp only [Nat.add_zero] at hst
  obtain ⟨m, rfl⟩ : ∃ m, n = m + 1 := ⟨n - 1, by omega⟩
  simp [Builtin.clear_, run_underlying ht, hv, hst]
theorem Touch.belowLo {lo l u : Nat} {w w' : World} (h : Touch l u w w') (hl : lo ≤ l) (hw : lo ≤ w.heap.size) : Below lo w w' := ⟨h.os, h.tape, h.output, h.size, fun k hk => h.block k (by omega) (Or.inl (by omega))⟩
theorem setCells_setRow (b : Nat) : ∀ (vs : List Value) (w : World) (o : Nat), w.setCells b o vs = setRow w b o vs
  | [], _, _ => rfl
  | v :: vs, w, o => setCells_setRow b vs _ (o + 1)
end Go.Proofs.Ytadcjfbcfiljkaa
