/- slices.DeleteFunc over integers that the call itself has made. slices.Concat of two slices. slices.Clone over []impl.Erratum. No condition. -/
import Derived.Test.YtbnlbcbdhmmlgaaGreatDoorMgB
import Derived.Test.YtbnlbcbdhmmlgaaGreatDoorMgA
import Derived.Test.YtbnlbcbdhmmlgaaGreatDoorMgD
import Derived.Lib.SliceRun
import Derived.Laws.OwnMore
import Derived.Test.YtbnlbcbdhmmlgaaGreatDoorFamErratum
import Derived.Lib.AppendZerosOnto
import Derived.Lib.AppendZeros
namespace Go.Proofs.YtbnlbcbdhmmlgaaGreatDoor
open Go.RowKit
set_option linter.unusedVariables false
set_option linter.unusedSimpArgs false

theorem heap_setRow_blk (g : Nat) (e : TypeId) : ∀ (vs : List Value) (w : World) (off : Nat) (cur : Array Value), w.heap[g]? = some (.cells cur e (0, 0)) → ∃ cur' : Array Value, (setRow w g off vs).heap[g]? = some (.cells cur' e (0, 0)) ∧ cur'.size = cur.size
  | [], w, off, cur, h => ⟨cur, h, rfl⟩
  | v :: vs, w, off, cur, h => by
    have h1 : (w.setCell ⟨g, off, none⟩ v).heap[g]? = some (.cells (cur.setIfInBounds off v) e (0, 0)) := by
      simp [World.setCell, Array.getElem?_modify, h]
    obtain ⟨cur', h2, h3⟩ := heap_setRow_blk g e vs _ (off + 1) _ h1
    exact ⟨cur', h2, by rw [h3]; simp⟩
theorem setCells_setRow (b : Nat) : ∀ (vs : List Value) (w : World) (o : Nat), w.setCells b o vs = setRow w b o vs
  | [], _, _ => rfl
  | v :: vs, w, o => setCells_setRow b vs _ (o + 1)
set_option maxHeartbeats 400000 in
theorem isV_any (x v : Int) (b1 : Nat) (w : World) (h1 : w.cell? ⟨b1, 0, none⟩ = some (.int .i64 v)) :
    Calls Tryz.prog 46 #[.int .i64 x, .pointer (some ⟨b1, 0, none⟩)] w fun e w' => e = .returned (.bool (decide (x = v))) ∧ w = w' := by
  go_enter Tryz.func46, Tryz.ntmps46
  go_wp2
  go_ret
  exact ⟨ret_bool (by first | rfl | (by_cases h : x = v <;> simp [h])), rfl⟩
/-- the place, counted from k, of the first of them that is v, or -1 -/
def idxV (v : Int) : Nat → List Int → Int
  | _, [] => -1
  | i, x :: r => if x = v then (i : Int) else idxV v (i + 1) r
theorem idxV_p (v : Int) : ∀ (xs : List Int) (i : Nat), (idxV v i xs = -1 ∧ ∀ x ∈ xs, x ≠ v) ∨ ∃ j : Nat, idxV v i xs = ((i + j : Nat) : Int) ∧ xs[j]? = some v ∧ ∀ x ∈ xs.take j, x ≠ v
  | [], _ => .inl ⟨rfl, fun x h => by simp at h⟩
  | y :: r, i => by
    rw [idxV]
    by_cases h : y = v
    · rw [if_pos h]
      exact .inr ⟨0, rfl, by rw [h]; rfl, fun x hx => by simp at hx⟩
    · rw [if_neg h]
      rcases idxV_p v r (i + 1) with ⟨h1, h2⟩ | ⟨j, h1, h2, h3⟩
      · refine .inl ⟨h1, fun x hx => ?_⟩
        rcases List.mem_cons.1 hx with rfl | hx
        · exact h
        · exact h2 x hx
      · refine .inr ⟨j + 1, by rw [h1]; congr 1; omega, by simpa using h2, fun x hx => ?_⟩
        rw [List.take_succ_cons] at hx
        rcases List.mem_cons.1 hx with rfl | hx
        · exact h
        · exact h3 x hx
set_option maxHeartbeats 1000000 in
set_option maxRecDepth 100000 in
theorem idxVF_any (A : Option Addr) (c : Nat) (xs : List Int) (v : Int) (b1 : Nat) (w : World) (hn : xs.length ≤ 16777216) (hA : Fl one 1 w A xs) (h1 : w.cell? ⟨b1, 0, none⟩ = some (.int .i64 v)) :
    Calls Tryz.prog 73 #[.slice A xs.length c, .func (.func 46) #[] #[.pointer (some ⟨b1, 0, none⟩)]] w fun e w' => e = .returned (.int .i64 (idxV v 0 xs)) ∧ w = w' := by
  obtain ⟨n, hnn⟩ : ∃ n, n = List.length xs := ⟨_, rfl⟩
  rw [← hnn] at hn ⊢
  have hN := Lib.hid hnn
  clear hnn
  go_enter Tryz.func73, Tryz.ntmps73
  go_wp2
  go_loop [8] (fun i => ∃ k : Nat, k ≤ n ∧ i = .int .i64 k ∧ Hid (idxV v k (xs.drop k) = idxV v 0 xs)) (fun i => n - (intOf i).toNat)
  case atStart => exact ⟨0, by omega, rfl, rfl⟩
  case round =>
    obtain ⟨k, hk, rfl, hst⟩ := hrel
    by_cases hlt : k < n
    · obtain ⟨x, b, o, hx, rfl, hb, hc⟩ := hA.at_ (k := k) (by rw [← hN.out]; exact hlt)
      have c0 : World.cell? w ⟨b, o + k, none⟩ = some (.int .i64 x) := by have := hc 0 x rfl; simpa using this
      have HX := Lib.hid hx
      clear hc hx hA
      have hk0 : (0 : Int) ≤ (k : Int) := by omega
      have hk1 : (k : Int) < (n : Int) := by omega
      go_wp2_with fail
      refine (isV_any x v b1 w h1).mono ?_
      rintro e w2 ⟨rfl, rfl⟩
      by_cases hv : x = v
      · have HV := Lib.hid hv
        have hd : decide (x = v) = true := by simp [hv]
        rw [hd]
        clear hd hv
        go_wp2
        go_ret
        exact ⟨ret_int (by rw [← hst.out, drop_get HX.out, idxV, if_pos HV.out]), rfl⟩
      · have HV := Lib.hid hv
        have hd : decide (x = v) = false := by simp [hv]
        rw [hd]
        clear hd hv
        go_wp2
        go_round
        case rel => exact ⟨k + 1, by omega, by go_num, by unfold Hid; rw [← hst.out, drop_get HX.out, idxV, if_neg HV.out]⟩
        case measure => simp [intOf]; omega
    · have hkn : k = n := by omega
      subst hkn
      go_wp2
      go_ret
      exact ⟨ret_int (by rw [← hst.out, drop_all (by rw [← hN.out]; exact Nat.le_refl _)]; rfl), rfl⟩
/-- those that are not v -/
def noV (v : Int) (l : List Int) : List Int := l.filter fun x => !decide (x = v)
theorem noV_t {v x : Int} {l : List Int} (h : x = v) : noV v (l ++ [x]) = noV v l := by simp [noV, h]
theorem noV_f {v x : Int} {l : List Int} (h : x ≠ v) : noV v (l ++ [x]) = noV v l ++ [x] := by simp [noV, h]
theorem noV_self {v : Int} {l : List Int} (h : ∀ x ∈ l, x ≠ v) : noV v l = l := by
  unfold noV
  rw [List.filter_eq_self]
  intro x hx
  simp [h x hx]
theorem noV_len (v : Int) (l : List Int) : (noV v l).length ≤ l.length := List.length_filter_le _ _
structure DelI (g cap : Nat) (e : TypeId) (ys zs : List Int) (jj : Nat) (w wr : World) : Prop where
  blk : ∃ cur : Array Value, wr.heap[g]? = some (.cells cur e (0, 0)) ∧ cur.size = cap
  A : ∀ (m : Nat) (y : Int), zs[m]? = some y → wr.cell? ⟨g, m, none⟩ = some (.int .i64 y)
  B : ∀ (m : Nat) (y : Int), jj ≤ m → ys[m]? = some y → wr.cell? ⟨g, m, none⟩ = some (.int .i64 y)
  grown : w.grownBy wr (some g)
section
variable {g cap jj : Nat} {e : TypeId} {ys zs : List Int} {w wr : World}
theorem DelI.there (h : DelI g cap e ys zs jj w wr) {j : Nat} (hj : j < cap) : ∃ u, wr.cell? ⟨g, j, none⟩ = some u := by
  obtain ⟨cur, hc, hs⟩ := h.blk
  rw [cell_of_row wr g _ cur e (0, 0) hc]
  exact ⟨_, Array.getElem?_eq_getElem (by omega)⟩
theorem DelI.frozen (h : DelI g cap e ys zs jj w wr) (j : Nat) : wr.frozen? ⟨g, j, none⟩ = false := by
  obtain ⟨cur, hc, _⟩ := h.blk
  simp [World.frozen?, hc]
theorem DelI.skip (h : DelI g cap e ys zs jj w wr) : DelI g cap e ys zs (jj + 1) w wr := ⟨h.blk, h.A, fun m y hm hy => h.B m y (by omega) hy, h.grown⟩
theorem grown_set {w : World} (g j : Nat) (u : Value) : w.grownBy (w.setCell ⟨g, j, none⟩ u) (some g) := ⟨rfl, rfl, rfl, by simp [World.setCell], fun k _ hk => heap_setCell_other w ⟨g, j, none⟩ k u (fun e => hk (by simp [e]))⟩
theorem grown_trans {a b c : World} {r : Option Nat} (h : a.grownBy b r) (k : b.grownBy c r) : a.grownBy c r :=
  ⟨k.os.trans h.os, k.tape.trans h.tape, k.output.trans h.output, Nat.le_trans h.size k.size, fun i hi hn => (k.block i (Nat.lt_of_lt_of_le hi h.size) hn).trans (h.block i hi hn)⟩
theorem DelI.keep {y : Int} (h : DelI g cap e ys zs jj w wr) (hy : ys[jj]? = some y) (hl : zs.length ≤ jj) (hcap : zs.length < cap) :
    DelI g cap e ys (zs ++ [y]) (jj + 1) w (wr.setCell ⟨g, zs.length, none⟩ (.int .i64 y)) := by
  obtain ⟨u, hu⟩ := h.there hcap
  obtain ⟨cur, hc, hs⟩ := h.blk
  refine ⟨⟨cur.setIfInBounds zs.length (.int .i64 y), heap_setCell_same wr g zs.length cur e (.int .i64 y) hc, by simpa using hs⟩, fun m z hz => ?_, fun m z hm hz => ?_, grown_trans h.grown (grown_set g _ _)⟩
  · rcases Nat.lt_or_ge m zs.length with hi | hi
    · rw [List.getElem?_append_left hi] at hz
      rw [World.cell?_setCell_other wr _ _ _ (fun e' => by injection e' with _ e2; omega)]
      exact h.A m z hz
    · rw [List.getElem?_append_right hi] at hz
      have h0 := lt_of_get hz
      simp at h0
      rw [h0] at hz
      simp at hz
      subst hz
      obtain rfl : m = zs.length := by omega
      exact World.cell?_setCell_same wr _ _ hu
  · rw [World.cell?_setCell_other wr _ _ _ (fun e' => by injection e' with _ e2; omega)]
    exact h.B m z (by omega) hz
theorem DelI.owned {lo : Nat} (h : DelI g cap e ys zs jj w wr) (hl : lo ≤ g) (hz : zs.length ≤ cap) (hcm : cap ≤ maxLen) : OwnF one 1 lo e wr (.slice (some ⟨g, 0, none⟩) zs.length cap) zs := by
  obtain ⟨cur, hc, hs⟩ := h.blk
  have hr : ∀ l : List Int, row one l = l.map (Value.int .i64) := fun l => by
    induction l with
    | nil => rfl
    | cons x r ih => simp only [row, one, List.flatMap_cons, List.map_cons, List.map_nil, List.singleton_append] at ih ⊢; rw [ih]
  unfold OwnF
  rw [hr]
  refine ⟨by simp, .inr ⟨g, cap, cur, rfl, hl, hc, hz, hcm, by omega, ?_⟩⟩
  apply List.ext_getElem?
  intro j
  rcases Nat.lt_or_ge j zs.length with hj | hj
  · rw [List.getElem?_take_of_lt (by omega), List.getElem?_map, List.getElem?_eq_getElem hj]
    have hcell := h.A j _ (List.getElem?_eq_getElem hj)
    rw [cell_of_row wr g _ cur e (0, 0) hc] at hcell
    simpa using hcell
  · rw [List.getElem?_take_eq_none (by omega), List.getElem?_eq_none (by simpa using hj)]
end
theorem zero_int : ∀ w, (zeroValue 3).run Tryz.prog w = .ok (.int .i64 0) w := fun w => by
  obtain ⟨i0, hi, hz0, _, _⟩ := info_parts infoInt
  simp [zeroValue, typeInfo, hi, hz0]
set_option maxHeartbeats 2000000 in
set_option maxRecDepth 100000 in
theorem deleteI_any (v : Int) (b1 lo : Nat) (A : Option Addr) (cp : Nat) (ys : List Int) (w : World) (hlen : ys.length ≤ 16777216) (hlo : lo ≤ w.heap.size) (hown : OwnF one 1 lo 3 w (.slice A ys.length cp) ys) (hb1 : b1 < lo)
    (h1 : w.cell? ⟨b1, 0, none⟩ = some (.int .i64 v)) :
    Calls Tryz.prog 45 #[.slice A ys.length cp, .func (.func 46) #[] #[.pointer (some ⟨b1, 0, none⟩)]] w fun e w' =>
      e = .returned (.slice A (noV v ys).length cp) ∧ OwnF one 1 lo 3 w' (.slice A (noV v ys).length cp) (noV v ys) ∧ w.grownBy w' (Value.slice A 0 0).ownBlock := by
  obtain ⟨A1, c1, hv1, hF⟩ := hown.form one_length
  injection hv1 with e1 _ e2
  subst e1 e2
  have hidx := idxVF_any A cp ys v b1 w hlen hF.fl h1
  have hp := idxV_p v ys 0
  obtain ⟨n, hnn⟩ : ∃ n, n = List.length ys := ⟨_, rfl⟩
  rw [← hnn] at hidx hlen ⊢
  have hN := Lib.hid hnn
  have HO := Lib.hid hown
  generalize idxV v 0 ys = r at hidx hp
  have HI := Lib.hid hidx
  clear hidx hF hown hnn
  go_enter Tryz.func45, Tryz.ntmps45
  go_wp2_with fail
  refine (HI.out).mono ?_
  rintro e w1 ⟨rfl, rfl⟩
  rcases hp with ⟨rfl, hno⟩ | ⟨j, hr, hj, hno⟩
  · have hs : noV v ys = ys := noV_self hno
    have HS := Lib.hid hs
    clear hs hno
    go_wp2
    go_ret
    rw [HS.out, ← hN.out]
    exact ⟨rfl, by rw [hN.out]; exact HO.out, World.grownBy.refl _ _⟩
  · rw [Nat.zero_add] at hr
    subst hr
    have hjn : j < n := by rw [hN.out]; exact lt_of_get hj
    obtain ⟨g, hA0, hgl, hblk, hB0, hcapn, hcm1⟩ : ∃ g, A = some ⟨g, 0, none⟩ ∧ lo ≤ g ∧ (∃ cur : Array Value, w.heap[g]? = some (.cells cur 3 (0, 0)) ∧ cur.size = cp) ∧ (∀ (m : Nat) (z : Int), ys[m]? = some z → w.cell? ⟨g, m, none⟩ = some (.int .i64 z)) ∧ n ≤ cp ∧ cp ≤ maxLen := by
      rcases HO.out.2 with ⟨hv, h0⟩ | ⟨g, cap, cur, hv, hg, hh, hnc, hcm, hcs, htk⟩
      · rw [← hN.out] at h0; omega
      · injection hv with e1 e2 e3
        subst e1 e3
        refine ⟨g, rfl, hg, ⟨cur, hh, by omega⟩, fun m z hz => ?_, by rw [hN.out]; exact hnc, hcm⟩
        have hF := (HO.out.form one_length)
        obtain ⟨A2, c2, hv2, hF2⟩ := hF
        injection hv2 with e4 _ _
        subst e4
        have := hF2.fl.get hz 0 z rfl
        simpa using this
    subst hA0
    have hgw : g < w.heap.size := by
      obtain ⟨cur, hc, _⟩ := hblk
      exact (Array.getElem?_eq_some_iff.1 hc).1
    have hS0 : DelI g cp 3 ys (ys.take j) (j + 1) w w := ⟨hblk, (fun m z hz => by
        rw [List.getElem?_take] at hz
        split at hz
        · exact hB0 m z hz
        · cases hz), fun m z _ hz => hB0 m z hz, World.grownBy.refl _ _⟩
    have hz0 : ys.take j = noV v (ys.take (j + 1)) := by rw [take_get hj, noV_t rfl, noV_self hno]
    have HZ0 := Lib.hid hz0
    have hjl : (ys.take j).length = j := by rw [List.length_take, ← hN.out]; omega
    have hnb : ∀ (wr : World), w.grownBy wr (some g) → wr.cell? ⟨b1, 0, none⟩ = some (.int .i64 v) := fun wr hT => (World.cell?_of_block (w := w) (hT.block b1 (by omega) (by simp; omega))).trans h1
    have HNB := Lib.hid hnb
    have hjne : ((j : Int) == -1) = false := by rw [beq_eq_false_iff_ne]; omega
    clear hno hB0 hblk hz0 hnb h1 hj
    go_wp2
    go_loopw [5, 6] (fun i q wr => ∃ (jj : Nat) (zs : List Int), jj ≤ n ∧ q = .int .i64 jj ∧ i = .int .i64 zs.length ∧ zs.length < jj ∧ Hid (zs = noV v (ys.take jj)) ∧ DelI g cp 3 ys zs jj w wr) (fun _ q _ => n - (intOf q).toNat)
    case atStart => exact ⟨j + 1, ys.take j, by omega, by go_num, by rw [hjl], by omega, HZ0.out, hS0⟩
    case round =>
      clear hS0 hjl HZ0
      obtain ⟨jj, zs, hjj, rfl, rfl, hzl, hzs, hS⟩ := hrel
      by_cases hlt : jj < n
      · obtain ⟨x, hx⟩ : ∃ x, ys[jj]? = some x := ⟨_, List.getElem?_eq_getElem (by rw [← hN.out]; exact hlt)⟩
        have c0 := hS.B jj x (Nat.le_refl _) hx
        have hgr := hS.grown
        have e1 := HNB.out wr hgr
        have HX := Lib.hid hx
        clear hx hgr
        have hk0 : (0 : Int) ≤ (jj : Int) := by omega
        have hk1 : (jj : Int) < (n : Int) := by omega
        go_wp2_with fail
        refine (isV_any x v b1 wr e1).mono ?_
        rintro e w2 ⟨rfl, rfl⟩
        by_cases hv : x = v
        · have HV := Lib.hid hv
          have hd : decide (x = v) = true := by simp [hv]
          rw [hd]
          clear hd hv
          have hzs' : Hid (zs = noV v (ys.take (jj + 1))) := by
            unfold Hid
            rw [take_get HX.out, noV_t HV.out]
            exact hzs.out
          go_wp2
          go_roundw
          case rel => exact ⟨jj + 1, zs, by omega, by go_num, rfl, by omega, hzs', hS.skip⟩
          case measure => simp [intOf]; omega
        · have HV := Lib.hid hv
          have hd : decide (x = v) = false := by simp [hv]
          rw [hd]
          clear hd hv
          have hzs' : Hid (zs ++ [x] = noV v (ys.take (jj + 1))) := by
            unfold Hid
            rw [take_get HX.out, noV_f HV.out, ← hzs.out]
          have hK := hS.keep HX.out (by omega) (by omega)
          have hf2 := hS.frozen
          obtain ⟨L, hL⟩ : ∃ L, L = zs.length := ⟨_, rfl⟩
          rw [← hL] at hK hzl ⊢
          obtain ⟨u0, z0⟩ : ∃ u, World.cell? wr ⟨g, L, none⟩ = some u := hS.there (by omega)
          have hl0 : (0 : Int) ≤ (L : Int) := by omega
          have hl1 : (L : Int) < (n : Int) := by omega
          have HL := Lib.hid hL
          have HK := Lib.hid hK
          clear hL hK hS
          go_wp2
          go_roundw
          case rel => exact ⟨jj + 1, zs ++ [x], by omega, by go_num, by rw [List.length_append, ← HL.out]; go_num, by rw [List.length_append, ← HL.out]; simp; omega, hzs', HK.out⟩
          case measure => simp [intOf]; omega
      · have hkn : jj = n := by omega
        subst hkn
        have hcl := Lib.run_clear_slice (P := Tryz.prog) wr 31 3
        have hzs' := hzs.out
        rw [take_all (by rw [← hN.out]; exact Nat.le_refl _)] at hzs'
        have hcl2 := fun ty => hcl ty (.int .i64 0) Tryz.underlying31 zero_int rfl rfl g zs.length (jj - zs.length) (cp - zs.length) (by omega)
          (fun q hq => by
            obtain ⟨u, hu⟩ := hS.there (j := zs.length + q) (by omega)
            rw [hu]; rfl) (fun q hq => hS.frozen _)
        obtain ⟨L, hL⟩ : ∃ L, L = zs.length := ⟨_, rfl⟩
        have hHS := Lib.hid hS
        have HZS := Lib.hid hzs'
        rw [← hL] at hcl2 hzl ⊢
        have hl0 : (0 : Int) ≤ (L : Int) := by omega
        have hl1 : (L : Int) < (jj : Int) := by omega
        have hl2 : (L : Int) ≤ (cp : Int) := by omega
        have hl3 : (L : Int) ≤ (jj : Int) := by omega
        have HL := Lib.hid hL
        clear hL hcl hzs' hS hzs
        go_wp2
        rw [setCells_setRow]
        have hT := setRow_touch g (Nat.le_refl g) (Nat.lt_succ_self g) (List.replicate (jj - L) (Value.int .i64 0)) wr L
        have hgr2 : wr.grownBy (setRow wr g L (List.replicate (jj - L) (Value.int .i64 0))) (some g) := ⟨hT.os, hT.tape, hT.output, hT.size, fun k hk hne => hT.block k hk (by have : k ≠ g := fun e => hne (by rw [e]); omega)⟩
        have hS2 : DelI g cp 3 [] zs jj w (setRow wr g L (List.replicate (jj - L) (Value.int .i64 0))) := by
          have hS := hHS.out
          refine ⟨?_, fun m y hy => ?_, fun m y _ h => by simp at h, grown_trans hS.grown hgr2⟩
          · obtain ⟨cur, h1, h2⟩ := hS.blk
            obtain ⟨cur', h3, h4⟩ := heap_setRow_blk g 3 (List.replicate (jj - L) (Value.int .i64 0)) wr L cur h1
            exact ⟨cur', h3, by omega⟩
          · have hm := lt_of_get hy
            rw [← HL.out] at hm
            exact (setRow_other g g m (List.replicate (jj - L) (Value.int .i64 0)) wr L (by omega)).trans (hS.A m y hy)
        have ho := hS2.owned hgl (by have := HL.out; omega) hcm1
        rw [← HL.out] at ho
        go_ret
        rw [← HZS.out, ← HL.out]
        exact ⟨rfl, ho, hS2.grown⟩
end Go.Proofs.YtbnlbcbdhmmlgaaGreatDoor
namespace Go.Proofs.YtbnlbcbdhmmlgaaGreatDoor
open Go.RowKit
set_option linter.unusedVariables false
set_option linter.unusedSimpArgs false

set_option maxHeartbeats 1000000 in
set_option maxRecDepth 100000 in
theorem growErratum_any (n : Nat) (w : World) (hn : n ≤ 16777216) :
    Calls Tryz.prog 74 #[.slice none 0 0, .int .i64 n] w fun e w' => ∃ v, e = .returned v ∧ OwnF Erratum.ints 5 w.heap.size 47 w' v [] ∧ Below w.heap.size w w' := by
  obtain ⟨i0, hi, hz0, hz1, hz2⟩ := info_parts infoErratum
  by_cases h0 : n = 0
  · subst h0
    go_enter Tryz.func74, Tryz.ntmps74
    go_wp2
    go_ret
    exact ⟨_, rfl, OwnF.none_, Below.refl _ _⟩
  · have hp : (0 : Int) < (n : Int) := by omega
    have hold : (Builtin.firstCells i0.size 0 (.slice none 0 0)).run Tryz.prog w.drew = .ok ([] : List Value).toArray w.drew := run_firstCells_none w.drew i0.size 0 0 0
    have hrz : ∀ ty, (Builtin.append_ #[24, 3] ty #[.slice none 0 0, .int .i64 (n : Int)]).run Tryz.prog w = _ := fun ty =>
      Lib.run_append_grow_zeros (P := Tryz.prog) w 24 3 ty 47 i0 _ .i64 .i64 Tryz.underlying24 Tryz.underlying3 hi hz0 none 0 0 [] hold n (by omega) (by rw [hz1]; decide) (by omega) (by omega) (by rw [hz2]; omega) (growslice_fits (by omega) (by rw [hz2]; omega))
    have hG := grownCap_le_maxLen w (0 + n) 0 47 (by unfold maxLen; omega)
    have hGn := grownCap_ge w (0 + n) 0 47
    obtain ⟨G, hGG⟩ : ∃ G, G = grownCap w (0 + n) 0 47 := ⟨_, rfl⟩
    rw [← hGG] at hrz hG hGn
    clear hold hGG
    have hG63 : G ≤ 9223372036854775807 := by unfold maxLen at hG; omega
    have HR := Lib.hid hrz
    clear hrz
    go_enter Tryz.func74, Tryz.ntmps74
    go_wp2_with (at_builtin; refine Lib.wpList_append_run _ rfl _ _ _ _ rfl _ _ rfl rfl _ _ (HR.out _) ?_)
    go_ret
    refine ⟨_, rfl, World.ownsRow_made w _ G (Nat.le_refl _) hG ?_, (below_new (Nat.le_refl _) _).drew⟩
    simp only [Array.size_append, List.size_toArray, size_zeroCells, List.length_nil, Value.cells]
    simp
    omega
set_option maxHeartbeats 1000000 in
set_option maxRecDepth 100000 in
theorem concatErratum_any (b : Nat) (A1 : Option Addr) (c1 n1 : Nat) (xs1 : List Erratum) (A2 : Option Addr) (c2 n2 : Nat) (xs2 : List Erratum) (w : World) (h1 : n1 = xs1.length) (h2 : n2 = xs2.length) (hb : b < w.heap.size) (hn : n1 + n2 ≤ 16777216)
    (hk1 : w.cell? ⟨b, 0, none⟩ = some (.slice A1 n1 c1)) (hk2 : w.cell? ⟨b, 1, none⟩ = some (.slice A2 n2 c2)) (hF1 : Fl Erratum.ints 5 w A1 xs1) (hF2 : Fl Erratum.ints 5 w A2 xs2) :
    Calls Tryz.prog 47 #[.slice (some ⟨b, 0, none⟩) 2 2] w fun e w' => ∃ v, e = .returned v ∧ OwnF Erratum.ints 5 w.heap.size 47 w' v (xs1 ++ xs2) ∧ Below w.heap.size w w' := by
  obtain ⟨i0, hi, hz0, hz1, hz2⟩ := info_parts infoErratum
  have HN1 := Lib.hid h1
  have HN2 := Lib.hid h2
  have hgr := growErratum_any (n1 + n2) w hn
  rw [show ((n1 + n2 : Nat) : Int) = (n1 : Int) + (n2 : Int) from by omega] at hgr
  have HG := Lib.hid hgr
  clear h1 h2 hgr
  go_enter Tryz.func47, Tryz.ntmps47
  go_wp2
  refine wp_loop_rounds 3 ?_
  rw [rounds_succ]
  go_wp2
  rw [rounds_succ]
  go_wp2
  rw [rounds_succ]
  go_wp2_with fail
  refine (HG.out).mono ?_
  rintro e w1 ⟨v, rfl, hown, hb1⟩
  have j1 : World.cell? w1 ⟨b, 0, none⟩ = some (.slice A1 n1 c1) := (hb1.cell (p := ⟨b, 0, none⟩) hb).trans hk1
  have j2 : World.cell? w1 ⟨b, 1, none⟩ = some (.slice A2 n2 c2) := (hb1.cell (p := ⟨b, 1, none⟩) hb).trans hk2
  have hG1 := hF1.ext hb1
  have hsz := hb1.size
  have hbb : b < w1.heap.size := Nat.lt_of_lt_of_le hb hsz
  clear hk1 hk2 hF1
  go_wp2
  refine wp_loop_rounds 3 ?_
  rw [rounds_succ]
  go_wp2_with (at_builtin; refine wpList_append_all (f := Erratum.ints) rfl _ _ _ rfl w.heap.size i0 _ 5 40 Tryz.underlying24 hi hz0 hz1 hz2 rfl (by decide) v [] rfl hown A1 c1 xs1 (by rw [← HN1.out]; rfl) hG1 (fun _ => rfl) ?_ (by decide) ?_ ?_; (rw [← HN1.out]; simp; omega); exact hsz; intro v2 w2 hown2 hg2 hb2)
  have hx2 := hb1.trans hb2
  have l2 : World.cell? w2 ⟨b, 1, none⟩ = some (.slice A2 n2 c2) := (hb2.cell (p := ⟨b, 1, none⟩) hb).trans j2
  have hK2 := hF2.ext hx2
  rw [List.nil_append] at hown2
  clear j1 j2
  rw [rounds_succ]
  go_wp2_with (at_builtin; refine wpList_append_all (f := Erratum.ints) rfl _ _ _ rfl w.heap.size i0 _ 5 40 Tryz.underlying24 hi hz0 hz1 hz2 rfl (by decide) v2 xs1 rfl hown2 A2 c2 xs2 (by rw [← HN2.out]; rfl) hK2 (fun _ => rfl) ?_ (by decide) ?_ ?_; (rw [← HN1.out, ← HN2.out]; omega); exact hx2.size; intro v3 w3 hown3 hg3 hb3)
  have hx3 := hx2.trans hb3
  rw [rounds_succ]
  go_wp2
  go_ret
  exact ⟨_, rfl, hown3, hx3⟩
end Go.Proofs.YtbnlbcbdhmmlgaaGreatDoor
namespace Go.Proofs.YtbnlbcbdhmmlgaaGreatDoor
open Go.RowKit
set_option linter.unusedVariables false
set_option linter.unusedSimpArgs false
set_option maxHeartbeats 1000000 in
set_option maxRecDepth 100000 in
theorem cloneErratum_any (A : Option Addr) (c : Nat) (xs : List Erratum) (w : World) (hn : xs.length ≤ 16777216) (hA : Fl Erratum.ints 5 w A xs) :
    Calls Tryz.prog 50 #[.slice A xs.length c] w fun e w' => ∃ B d, e = .returned (.slice B xs.length d) ∧ OwnF Erratum.ints 5 w.heap.size 47 w' (.slice B xs.length d) xs ∧ Below w.heap.size w w' := by
  obtain ⟨i0, hi, hz0, hz1, hz2⟩ := info_parts infoErratum
  have heq := fun (u : World) (a : Option Addr) (n c : Nat) => Lib.run_eql_slice_nil (P := Tryz.prog) u 24 47 a n c 0 0 Tryz.underlying24
  rcases A with _ | ad
  · have hx : xs = [] := by
      by_cases hne : xs = []
      · exact hne
      · obtain ⟨b, o, h1, _⟩ := hA hne
        cases h1
    subst hx
    go_enter Tryz.func50, Tryz.ntmps50
    go_wp2
    go_ret
    exact ⟨none, 0, rfl, OwnF.none_, Below.refl _ _⟩
  · go_enter Tryz.func50, Tryz.ntmps50
    go_wp2_with (at_builtin; refine wpList_append_all (f := Erratum.ints) rfl _ _ _ rfl w.heap.size i0 _ 5 _ Tryz.underlying24 hi hz0 hz1 hz2 rfl (by decide) _ [] rfl (OwnF.empty (Nat.le_refl _)) (some ad) c xs rfl (hA.ext (by go_grown)) (fun _ => rfl) (by simp; omega) (by decide) (by simp) ?_; intro v' w1 hown hg hb1)
    have hx1 : Below w.heap.size w w1 := (by go_grown : Below w.heap.size w _).trans hb1
    rw [List.nil_append] at hown
    obtain ⟨B, d, hv, _⟩ := hown.form (fun _ => rfl)
    subst hv
    go_ret
    exact ⟨B, d, rfl, hown, hx1⟩
end Go.Proofs.YtbnlbcbdhmmlgaaGreatDoor
