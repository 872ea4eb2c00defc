/- slices.DeleteFunc over integers that the call itself has made. -/
import Derived.Test.YtnpnggnoaodobaaFamInt
import Derived.Test.YtnpnggnoaodobaaLst
import Derived.Test.YtnpnggnoaodobaaOwn2
import Derived.Lib.SliceRun
import Derived.Laws.OwnMore
namespace Go.Proofs.Ytnpnggnoaodobaa
open Go.RowKit
set_option linter.unusedVariables false
set_option linter.unusedSimpArgs false

theorem heap_setRow_blk (g : Nat) (e : TypeId) : ∀ (vs : List Value) (w : World) (off : Nat) (cur : Array Value), w.heap[g]? = some (.cells cur e (0, 0)) → ∃ cur' : Array Value, (setRow w g off vs).heap[g]? = some (.cells cur' e (0, 0)) ∧ cur'.size = cur.size
  | [], w, off, cur, h => ⟨cur, h, rfl⟩
  | v :: vs, w, off, cur, h => by
    have h1 : (w.setCell ⟨g, off, none⟩ v).heap[g]? = some (.cells (cur.setIfInBounds off v) e (0, 0)) := by
      simp [World.setCell, Array.getElem?_modify, h]
    obtain ⟨cur', h2, h3⟩ := heap_setRow_blk g e vs _ (off + 1) _ h1
    exact ⟨cur', h2, by rw [h3]; simp⟩
theorem setCells_setRow (b : Nat) : ∀ (vs : List Value) (w : World) (o : Nat), w.setCells b o vs = setRow w b o vs
  | [], _, _ => rfl
  | v :: vs, w, o => setCells_setRow b vs _ (o + 1)
set_option maxHeartbeats 400000 in
theorem isV_any (x v : Int) (b1 : Nat) (w : World) (h1 : w.cell? ⟨b1, 0, none⟩ = some (.int .i64 v)) :
    Calls Try.prog 74 #[.int .i64 x, .pointer (some ⟨b1, 0, none⟩)] w fun e w' => e = .returned (.bool (decide (x = v))) ∧ w = w' := by
  go_enter Try.func74, Try.ntmps74
  go_wp2
  go_ret
  exact ⟨ret_bool (by first | rfl | (by_cases h : x = v <;> simp [h])), rfl⟩
/-- the place, counted from k, of the first of them that is v, or -1 -/
def idxV (v : Int) : Nat → List Int → Int
  | _, [] => -1
  | i, x :: r => if x = v then (i : Int) else idxV v (i + 1) r
theorem idxV_p (v : Int) : ∀ (xs : List Int) (i : Nat), (idxV v i xs = -1 ∧ ∀ x ∈ xs, x ≠ v) ∨ ∃ j : Nat, idxV v i xs = ((i + j : Nat) : Int) ∧ xs[j]? = some v ∧ ∀ x ∈ xs.take j, x ≠ v
  | [], _ => .inl ⟨rfl, fun x h => by simp at h⟩
  | y :: r, i => by
    rw [idxV]
    by_cases h : y = v
    · rw [if_pos h]
      exact .inr ⟨0, rfl, by rw [h]; rfl, fun x hx => by simp at hx⟩
    · rw [if_neg h]
      rcases idxV_p v r (i + 1) with ⟨h1, h2⟩ | ⟨j, h1, h2, h3⟩
      · refine .inl ⟨h1, fun x hx => ?_⟩
        rcases List.mem_cons.1 hx with rfl | hx
        · exact h
        · exact h2 x hx
      · refine .inr ⟨j + 1, by rw [h1]; congr 1; omega, by simpa using h2, fun x hx => ?_⟩
        rw [List.take_succ_cons] at hx
        rcases List.mem_cons.1 hx with rfl | hx
        · exact h
        · exact h3 x hx
set_option maxHeartbeats 1000000 in
set_option maxRecDepth 100000 in
theorem idxVF_any (A : Option Addr) (c : Nat) (xs : List Int) (v : Int) (b1 : Nat) (w : World) (hn : xs.length ≤ 16777216) (hA : Fl one 1 w A xs) (h1 : w.cell? ⟨b1, 0, none⟩ = some (.int .i64 v)) :
    Calls Try.prog 91 #[.slice A xs.length c, .func (.func 74) #[] #[.pointer (some ⟨b1, 0, none⟩)]] w fun e w' => e = .returned (.int .i64 (idxV v 0 xs)) ∧ w = w' := by
  obtain ⟨n, hnn⟩ : ∃ n, n = List.length xs := ⟨_, rfl⟩
  rw [← hnn] at hn ⊢
  have hN := Lib.hid hnn
  clear hnn
  go_enter Try.func91, Try.ntmps91
  go_wp2
  go_loop [8] (fun i => ∃ k : Nat, k ≤ n ∧ i = .int .i64 k ∧ Hid (idxV v k (xs.drop k) = idxV v 0 xs)) (fun i => n - (intOf i).toNat)
  case atStart => exact ⟨0, by omega, rfl, rfl⟩
  case round =>
    obtain ⟨k, hk, rfl, hst⟩ := hrel
    by_cases hlt : k < n
    · obtain ⟨x, b, o, hx, rfl, hb, hc⟩ := hA.at_ (k := k) (by rw [← hN.out]; exact hlt)
      have c0 : World.cell? w ⟨b, o + k, none⟩ = some (.int .i64 x) := by have := hc 0 x rfl; simpa using this
      have HX := Lib.hid hx
      clear hc hx hA
      have hk0 : (0 : Int) ≤ (k : Int) := by omega
      have hk1 : (k : Int) < (n : Int) := by omega
      go_wp2_with fail
      refine (isV_any x v b1 w h1).mono ?_
      rintro e w2 ⟨rfl, rfl⟩
      by_cases hv : x = v
      · have HV := Lib.hid hv
        have hd : decide (x = v) = true := by simp [hv]
        rw [hd]
        clear hd hv
        go_wp2
        go_ret
        exact ⟨ret_int (by rw [← hst.out, drop_get HX.out, idxV, if_pos HV.out]), rfl⟩
      · have HV := Lib.hid hv
        have hd : decide (x = v) = false := by simp [hv]
        rw [hd]
        clear hd hv
        go_wp2
        go_round
        case rel => exact ⟨k + 1, by omega, by go_num, by unfold Hid; rw [← hst.out, drop_get HX.out, idxV, if_neg HV.out]⟩
        case measure => simp [intOf]; omega
    · have hkn : k = n := by omega
      subst hkn
      go_wp2
      go_ret
      exact ⟨ret_int (by rw [← hst.out, drop_all (by rw [← hN.out]; exact Nat.le_refl _)]; rfl), rfl⟩
/-- those that are not v -/
def noV (v : Int) (l : List Int) : List Int := l.filter fun x => !decide (x = v)
theorem noV_t {v x : Int} {l : List Int} (h : x = v) : noV v (l ++ [x]) = noV v l := by simp [noV, h]
theorem noV_f {v x : Int} {l : List Int} (h : x ≠ v) : noV v (l ++ [x]) = noV v l ++ [x] := by simp [noV, h]
theorem noV_self {v : Int} {l : List Int} (h : ∀ x ∈ l, x ≠ v) : noV v l = l := by
  unfold noV
  rw [List.filter_eq_self]
  intro x hx
  simp [h x hx]
theorem noV_len (v : Int) (l : List Int) : (noV v l).length ≤ l.length := List.length_filter_le _ _
structure DelI (g cap : Nat) (e : TypeId) (ys zs : List Int) (jj : Nat) (w wr : World) : Prop where
  blk : ∃ cur : Array Value, wr.heap[g]? = some (.cells cur e (0, 0)) ∧ cur.size = cap
  A : ∀ (m : Nat) (y : Int), zs[m]? = some y → wr.cell? ⟨g, m, none⟩ = some (.int .i64 y)
  B : ∀ (m : Nat) (y : Int), jj ≤ m → ys[m]? = some y → wr.cell? ⟨g, m, none⟩ = some (.int .i64 y)
  grown : w.grownBy wr (some g)
section
variable {g cap jj : Nat} {e : TypeId} {ys zs : List Int} {w wr : World}
theorem DelI.there (h : DelI g cap e ys zs jj w wr) {j : Nat} (hj : j < cap) : ∃ u, wr.cell? ⟨g, j, none⟩ = some u := by
  obtain ⟨cur, hc, hs⟩ := h.blk
  rw [cell_of_row wr g _ cur e (0, 0) hc]
  exact ⟨_, Array.getElem?_eq_getElem (by omega)⟩
theorem DelI.frozen (h : DelI g cap e ys zs jj w wr) (j : Nat) : wr.frozen? ⟨g, j, none⟩ = false := by
  obtain ⟨cur, hc, _⟩ := h.blk
  simp [World.frozen?, hc]
theorem DelI.skip (h : DelI g cap e ys zs jj w wr) : DelI g cap e ys zs (jj + 1) w wr := ⟨h.blk, h.A, fun m y hm hy => h.B m y (by omega) hy, h.grown⟩
theorem grown_set {w : World} (g j : Nat) (u : Value) : w.grownBy (w.setCell ⟨g, j, none⟩ u) (some g) := ⟨rfl, rfl, rfl, by simp [World.setCell], fun k _ hk => heap_setCell_other w ⟨g, j, none⟩ k u (fun e => hk (by simp [e]))⟩
theorem grown_trans {a b c : World} {r : Option Nat} (h : a.grownBy b r) (k : b.grownBy c r) : a.grownBy c r :=
  ⟨k.os.trans h.os, k.tape.trans h.tape, k.output.trans h.output, Nat.le_trans h.size k.size, fun i hi hn => (k.block i (Nat.lt_of_lt_of_le hi h.size) hn).trans (h.block i hi hn)⟩
theorem DelI.keep {y : Int} (h : DelI g cap e ys zs jj w wr) (hy : ys[jj]? = some y) (hl : zs.length ≤ jj) (hcap : zs.length < cap) :
    DelI g cap e ys (zs ++ [y]) (jj + 1) w (wr.setCell ⟨g, zs.length, none⟩ (.int .i64 y)) := by
  obtain ⟨u, hu⟩ := h.there hcap
  obtain ⟨cur, hc, hs⟩ := h.blk
  refine ⟨⟨cur.setIfInBounds zs.length (.int .i64 y), heap_setCell_same wr g zs.length cur e (.int .i64 y) hc, by simpa using hs⟩, fun m z hz => ?_, fun m z hm hz => ?_, grown_trans h.grown (grown_set g _ _)⟩
  · rcases Nat.lt_or_ge m zs.length with hi | hi
    · rw [List.getElem?_append_left hi] at hz
      rw [World.cell?_setCell_other wr _ _ _ (fun e' => by injection e' with _ e2; omega)]
      exact h.A m z hz
    · rw [List.getElem?_append_right hi] at hz
      have h0 := lt_of_get hz
      simp at h0
      rw [h0] at hz
      simp at hz
      subst hz
      obtain rfl : m = zs.length := by omega
      exact World.cell?_setCell_same wr _ _ hu
  · rw [World.cell?_setCell_other wr _ _ _ (fun e' => by injection e' with _ e2; omega)]
    exact h.B m z (by omega) hz
theorem DelI.owned {lo : Nat} (h : DelI g cap e ys zs jj w wr) (hl : lo ≤ g) (hz : zs.length ≤ cap) (hcm : cap ≤ maxLen) : OwnF one 1 lo e wr (.slice (some ⟨g, 0, none⟩) zs.length cap) zs := by
  obtain ⟨cur, hc, hs⟩ := h.blk
  have hr : ∀ l : List Int, row one l = l.map (Value.int .i64) := fun l => by
    induction l with
    | nil => rfl
    | cons x r ih => simp only [row, one, List.flatMap_cons, List.map_cons, List.map_nil, List.singleton_append] at ih ⊢; rw [ih]
  unfold OwnF
  rw [hr]
  refine ⟨by simp, .inr ⟨g, cap, cur, rfl, hl, hc, hz, hcm, by omega, ?_⟩⟩
  apply List.ext_getElem?
  intro j
  rcases Nat.lt_or_ge j zs.length with hj | hj
  · rw [List.getElem?_take_of_lt (by omega), List.getElem?_map, List.getElem?_eq_getElem hj]
    have hcell := h.A j _ (List.getElem?_eq_getElem hj)
    rw [cell_of_row wr g _ cur e (0, 0) hc] at hcell
    simpa using hcell
  · rw [List.getElem?_take_eq_none (by omega), List.getElem?_eq_none (by simpa using hj)]
end
theorem zero_int : ∀ w, (zeroValue 3).run Try.prog w = .ok (.int .i64 0) w := fun w => by
  obtain ⟨i0, hi, hz0, _, _⟩ := info_parts infoInt
  simp [zeroValue, typeInfo, hi, hz0]
set_option maxHeartbeats 2000000 in
set_option maxRecDepth 100000 in
theorem deleteI_any (v : Int) (b1 lo : Nat) (A : Option Addr) (cp : Nat) (ys : List Int) (w : World) (hlen : ys.length ≤ 16777216) (hlo : lo ≤ w.heap.size) (hown : OwnF one 1 lo 3 w (.slice A ys.length cp) ys) (hb1 : b1 < lo)
    (h1 : w.cell? ⟨b1, 0, none⟩ = some (.int .i64 v)) :
    Calls Try.prog 73 #[.slice A ys.length cp, .func (.func 74) #[] #[.pointer (some ⟨b1, 0, none⟩)]] w fun e w' =>
      e = .returned (.slice A (noV v ys).length cp) ∧ OwnF one 1 lo 3 w' (.slice A (noV v ys).length cp) (noV v ys) ∧ w.grownBy w' (Value.slice A 0 0).ownBlock := by
  obtain ⟨A1, c1, hv1, hF⟩ := hown.form one_length
  injection hv1 with e1 _ e2
  subst e1 e2
  have hidx := idxVF_any A cp ys v b1 w hlen hF.fl h1
  have hp := idxV_p v ys 0
  obtain ⟨n, hnn⟩ : ∃ n, n = List.length ys := ⟨_, rfl⟩
  rw [← hnn] at hidx hlen ⊢
  have hN := Lib.hid hnn
  have HO := Lib.hid hown
  generalize idxV v 0 ys = r at hidx hp
  have HI := Lib.hid hidx
  clear hidx hF hown hnn
  go_enter Try.func73, Try.ntmps73
  go_wp2_with fail
  refine (HI.out).mono ?_
  rintro e w1 ⟨rfl, rfl⟩
  rcases hp with ⟨rfl, hno⟩ | ⟨j, hr, hj, hno⟩
  · have hs : noV v ys = ys := noV_self hno
    have HS := Lib.hid hs
    clear hs hno
    go_wp2
    go_ret
    rw [HS.out, ← hN.out]
    exact ⟨rfl, by rw [hN.out]; exact HO.out, World.grownBy.refl _ _⟩
  · rw [Nat.zero_add] at hr
    subst hr
    have hjn : j < n := by rw [hN.out]; exact lt_of_get hj
    obtain ⟨g, hA0, hgl, hblk, hB0, hcapn, hcm1⟩ : ∃ g, A = some ⟨g, 0, none⟩ ∧ lo ≤ g ∧ (∃ cur : Array Value, w.heap[g]? = some (.cells cur 3 (0, 0)) ∧ cur.size = cp) ∧ (∀ (m : Nat) (z : Int), ys[m]? = some z → w.cell? ⟨g, m, none⟩ = some (.int .i64 z)) ∧ n ≤ cp ∧ cp ≤ maxLen := by
      rcases HO.out.2 with ⟨hv, h0⟩ | ⟨g, cap, cur, hv, hg, hh, hnc, hcm, hcs, htk⟩
      · rw [← hN.out] at h0; omega
      · injection hv with e1 e2 e3
        subst e1 e3
        refine ⟨g, rfl, hg, ⟨cur, hh, by omega⟩, fun m z hz => ?_, by rw [hN.out]; exact hnc, hcm⟩
        have hF := (HO.out.form one_length)
        obtain ⟨A2, c2, hv2, hF2⟩ := hF
        injection hv2 with e4 _ _
        subst e4
        have := hF2.fl.get hz 0 z rfl
        simpa using this
    subst hA0
    have hgw : g < w.heap.size := by
      obtain ⟨cur, hc, _⟩ := hblk
      exact (Array.getElem?_eq_some_iff.1 hc).1
    have hS0 : DelI g cp 3 ys (ys.take j) (j + 1) w w := ⟨hblk, (fun m z hz => by
        rw [List.getElem?_take] at hz
        split at hz
        · exact hB0 m z hz
        · cases hz), fun m z _ hz => hB0 m z hz, World.grownBy.refl _ _⟩
    have hz0 : ys.take j = noV v (ys.take (j + 1)) := by rw [take_get hj, noV_t rfl, noV_self hno]
    have HZ0 := Lib.hid hz0
    have hjl : (ys.take j).length = j := by rw [List.length_take, ← hN.out]; omega
    have hnb : ∀ (wr : World), w.grownBy wr (some g) → wr.cell? ⟨b1, 0, none⟩ = some (.int .i64 v) := fun wr hT => (World.cell?_of_block (w := w) (hT.block b1 (by omega) (by simp; omega))).trans h1
    have HNB := Lib.hid hnb
    have hjne : ((j : Int) == -1) = false := by rw [beq_eq_false_iff_ne]; omega
    clear hno hB0 hblk hz0 hnb h1 hj
    go_wp2
    go_loopw [5, 6] (fun i q wr => ∃ (jj : Nat) (zs : List Int), jj ≤ n ∧ q = .int .i64 jj ∧ i = .int .i64 zs.length ∧ zs.length < jj ∧ Hid (zs = noV v (ys.take jj)) ∧ DelI g cp 3 ys zs jj w wr) (fun _ q _ => n - (intOf q).toNat)
    case atStart => exact ⟨j + 1, ys.take j, by omega, by go_num, by rw [hjl], by omega, HZ0.out, hS0⟩
    case round =>
      clear hS0 hjl HZ0
      obtain ⟨jj, zs, hjj, rfl, rfl, hzl, hzs, hS⟩ := hrel
      by_cases hlt : jj < n
      · obtain ⟨x, hx⟩ : ∃ x, ys[jj]? = some x := ⟨_, List.getElem?_eq_getElem (by rw [← hN.out]; exact hlt)⟩
        have c0 := hS.B jj x (Nat.le_refl _) hx
        have hgr := hS.grown
        have e1 := HNB.out wr hgr
        have HX := Lib.hid hx
        clear hx hgr
        have hk0 : (0 : Int) ≤ (jj : Int) := by omega
        have hk1 : (jj : Int) < (n : Int) := by omega
        go_wp2_with fail
        refine (isV_any x v b1 wr e1).mono ?_
        rintro e w2 ⟨rfl, rfl⟩
        by_cases hv : x = v
        · have HV := Lib.hid hv
          have hd : decide (x = v) = true := by simp [hv]
          rw [hd]
          clear hd hv
          have hzs' : Hid (zs = noV v (ys.take (jj + 1))) := by
            unfold Hid
            rw [take_get HX.out, noV_t HV.out]
            exact hzs.out
          go_wp2
          go_roundw
          case rel => exact ⟨jj + 1, zs, by omega, by go_num, rfl, by omega, hzs', hS.skip⟩
          case measure => simp [intOf]; omega
        · have HV := Lib.hid hv
          have hd : decide (x = v) = false := by simp [hv]
          rw [hd]
          clear hd hv
          have hzs' : Hid (zs ++ [x] = noV v (ys.take (jj + 1))) := by
            unfold Hid
            rw [take_get HX.out, noV_f HV.out, ← hzs.out]
          have hK := hS.keep HX.out (by omega) (by omega)
          have hf2 := hS.frozen
          obtain ⟨L, hL⟩ : ∃ L, L = zs.length := ⟨_, rfl⟩
          rw [← hL] at hK hzl ⊢
          obtain ⟨u0, z0⟩ : ∃ u, World.cell? wr ⟨g, L, none⟩ = some u := hS.there (by omega)
          have hl0 : (0 : Int) ≤ (L : Int) := by omega
          have hl1 : (L : Int) < (n : Int) := by omega
          have HL := Lib.hid hL
          have HK := Lib.hid hK
          clear hL hK hS
          go_wp2
          go_roundw
          case rel => exact ⟨jj + 1, zs ++ [x], by omega, by go_num, by rw [List.length_append, ← HL.out]; go_num, by rw [List.length_append, ← HL.out]; simp; omega, hzs', HK.out⟩
          case measure => simp [intOf]; omega
      · have hkn : jj = n := by omega
        subst hkn
        have hcl := Lib.run_clear_slice (P := Try.prog) wr 41 3
        have hzs' := hzs.out
        rw [take_all (by rw [← hN.out]; exact Nat.le_refl _)] at hzs'
        have hcl2 := fun ty => hcl ty (.int .i64 0) Try.underlying41 zero_int rfl rfl g zs.length (jj - zs.length) (cp - zs.length) (by omega)
          (fun q hq => by
            obtain ⟨u, hu⟩ := hS.there (j := zs.length + q) (by omega)
            rw [hu]; rfl) (fun q hq => hS.frozen _)
        obtain ⟨L, hL⟩ : ∃ L, L = zs.length := ⟨_, rfl⟩
        have hHS := Lib.hid hS
        have HZS := Lib.hid hzs'
        rw [← hL] at hcl2 hzl ⊢
        have hl0 : (0 : Int) ≤ (L : Int) := by omega
        have hl1 : (L : Int) < (jj : Int) := by omega
        have hl2 : (L : Int) ≤ (cp : Int) := by omega
        have hl3 : (L : Int) ≤ (jj : Int) := by omega
        have HL := Lib.hid hL
        clear hL hcl hzs' hS hzs
        go_wp2
        rw [setCells_setRow]
        have hT := setRow_touch g (Nat.le_refl g) (Nat.lt_succ_self g) (List.replicate (jj - L) (Value.int .i64 0)) wr L
        have hgr2 : wr.grownBy (setRow wr g L (List.replicate (jj - L) (Value.int .i64 0))) (some g) := ⟨hT.os, hT.tape, hT.output, hT.size, fun k hk hne => hT.block k hk (by have : k ≠ g := fun e => hne (by rw [e]); omega)⟩
        have hS2 : DelI g cp 3 [] zs jj w (setRow wr g L (List.replicate (jj - L) (Value.int .i64 0))) := by
          have hS := hHS.out
          refine ⟨?_, fun m y hy => ?_, fun m y _ h => by simp at h, grown_trans hS.grown hgr2⟩
          · obtain ⟨cur, h1, h2⟩ := hS.blk
            obtain ⟨cur', h3, h4⟩ := heap_setRow_blk g 3 (List.replicate (jj - L) (Value.int .i64 0)) wr L cur h1
            exact ⟨cur', h3, by omega⟩
          · have hm := lt_of_get hy
            rw [← HL.out] at hm
            exact (setRow_other g g m (List.replicate (jj - L) (Value.int .i64 0)) wr L (by omega)).trans (hS.A m y hy)
        have ho := hS2.owned hgl (by have := HL.out; omega) hcm1
        rw [← HL.out] at ho
        go_ret
        rw [← HZS.out, ← HL.out]
        exact ⟨rfl, ho, hS2.grown⟩
end Go.Proofs.Ytnpnggnoaodobaa
