/- The places behind each leg. Where a route leads. No condition. -/
import Derived.Test.YtlagfeccdcjimaaDoorLegU
import Derived.Test.YtlagfeccdcjimaaDoorLegD
import Derived.Test.YtlagfeccdcjimaaDoorErD
import Derived.IntWalk
import Derived.Deep.DeepCutAuto
import Derived.BigQuiet
namespace Go.Proofs.YtlagfeccdcjimaaDoor
open Go.RowKit
set_option linter.unusedVariables false
set_option linter.unusedSimpArgs false

def endE : List Leg → Int
  | [] => 0
  | x :: r => x.units * stepE x.way + endE r
def endN : List Leg → Int
  | [] => 0
  | x :: r => x.units * stepN x.way + endN r
def clS : List Leg → Int
  | [] => 0
  | x :: r => x.climb + clS r
theorem endE_snoc : ∀ (l : List Leg) (x : Leg), endE (l ++ [x]) = endE l + x.units * stepE x.way
  | [], x => by simp [endE]
  | y :: r, x => by rw [List.cons_append, endE, endE, endE_snoc r x]; omega
theorem endN_snoc : ∀ (l : List Leg) (x : Leg), endN (l ++ [x]) = endN l + x.units * stepN x.way
  | [], x => by simp [endN]
  | y :: r, x => by rw [List.cons_append, endN, endN, endN_snoc r x]; omega
theorem clS_snoc : ∀ (l : List Leg) (x : Leg), clS (l ++ [x]) = clS l + x.climb
  | [], x => by simp [clS]
  | y :: r, x => by rw [List.cons_append, clS, clS, clS_snoc r x]; omega
theorem mul_bd {u s : Int} (h0 : 0 ≤ u) (h1 : u ≤ 999) (hs : -1 ≤ s ∧ s ≤ 1) : -999 ≤ u * s ∧ u * s ≤ 999 := by
  have : s = -1 ∨ s = 0 ∨ s = 1 := by omega
  rcases this with rfl | rfl | rfl <;> omega
theorem step_mul {x : Leg} (h : IsLeg x) : (-999 ≤ x.units * stepE x.way ∧ x.units * stepE x.way ≤ 999) ∧ (-999 ≤ x.units * stepN x.way ∧ x.units * stepN x.way ≤ 999) := by
  unfold IsLeg at h
  exact ⟨mul_bd (by omega) (by omega) (stepE_bd _), mul_bd (by omega) (by omega) (stepN_bd _)⟩
theorem end_bd : ∀ (l : List Leg), (∀ x ∈ l, IsLeg x) → (-999 * (l.length : Int) ≤ endE l ∧ endE l ≤ 999 * (l.length : Int)) ∧ (-999 * (l.length : Int) ≤ endN l ∧ endN l ≤ 999 * (l.length : Int)) ∧ (-999 * (l.length : Int) ≤ clS l ∧ clS l ≤ 999 * (l.length : Int))
  | [], _ => by simp [endE, endN, clS]
  | x :: r, h => by
    have h1 := step_mul (h x List.mem_cons_self)
    have h3 := h x List.mem_cons_self
    unfold IsLeg at h3
    have h2 := end_bd r (fun y hy => h y (List.mem_cons_of_mem _ hy))
    rw [endE, endN, clS, List.length_cons]
    omega
/-- the places behind each leg -/
def plcs (l : List Leg) : List Two := (List.range l.length).map fun j => ⟨endE (l.take (j + 1)), endN (l.take (j + 1))⟩
theorem plcs_len (l : List Leg) : (plcs l).length = l.length := by simp [plcs]
theorem plcs_snoc (l : List Leg) (x : Leg) : plcs (l ++ [x]) = plcs l ++ [⟨endE l + x.units * stepE x.way, endN l + x.units * stepN x.way⟩] := by
  unfold plcs
  rw [List.length_append, List.length_singleton, List.range_succ, List.map_append]
  congr 1
  · refine List.map_congr_left fun j hj => ?_
    have hj' : j < l.length := List.mem_range.1 hj
    rw [List.take_append_of_le_length (by omega)]
  · simp only [List.map_cons, List.map_nil]
    rw [List.take_of_length_le (by simp), endE_snoc, endN_snoc]
theorem plcs_last (l : List Leg) (j : Nat) (h : l.length = j + 1) : (plcs l)[j]? = some ⟨endE l, endN l⟩ := by
  unfold plcs
  rw [List.getElem?_map, List.getElem?_range (by omega)]
  simp only [Option.map_some]
  rw [List.take_of_length_le (by omega)]
theorem infoTwo : (Tryd.prog.info? 54).map (fun i => (i.zero, i.size, i.bytes)) = some (some (.agg (Array.replicate 2 (.int .i64 0))), 2, 16) := by kernel_rfl
set_option maxHeartbeats 4000000 in
set_option maxRecDepth 100000 in
theorem placesOn_any (A : Option Addr) (c : Nat) (xs : List Leg) (w : World) (hn : xs.length ≤ 12) (hL : ∀ x ∈ xs, IsLeg x) (hA : Fl Leg.ints 3 w A xs) :
    Calls Tryd.prog 32 #[.slice A xs.length c] w fun e w' => ∃ B d, e = .returned (.slice B xs.length d) ∧ FlO Two.ints 2 w.heap.size w'.heap.size w' B (plcs xs) ∧ Below w.heap.size w w' := by
  obtain ⟨i0, hi, hy0, hy1, hy2⟩ := info_parts infoTwo
  have HL := Lib.hid hL
  clear hL
  obtain ⟨n, hnn⟩ : ∃ n, n = List.length xs := ⟨_, rfl⟩
  rw [← hnn] at hn ⊢
  have hN := Lib.hid hnn
  clear hnn
  go_enter Tryd.func32, Tryd.ntmps32
  go_upto_region 3 with fail
  obtain ⟨V0, hV0, hB0, hz0, hv0, hf0⟩ := box_world w #[Value.int .i64 0, .int .i64 0] 54
  have hvr0 : VarL V0 w.heap.size [Value.int .i64 0, Value.int .i64 0] := hV0 ▸ VarL.box w _ _
  rw [hV0]
  clear hV0 hv0 hf0
  go_wp2
  go_loopw [3, 12] (fun v i wr => ∃ k : Nat, k ≤ n ∧ i = .int .i64 k ∧ Below w.heap.size w wr ∧ OwnF Two.ints 2 (w.heap.size + 1) 54 wr v (plcs (xs.take k)) ∧ VarL wr w.heap.size [Value.int .i64 (endE (xs.take k)), Value.int .i64 (endN (xs.take k))]) (fun _ i _ => n - (intOf i).toNat)
  case atStart => exact ⟨0, by omega, rfl, hB0, OwnF.none_, hvr0⟩
  case round =>
    obtain ⟨k, hk, rfl, hbr, hown, hvr⟩ := hrel
    by_cases hlt : k < n
    · obtain ⟨x, b, o, hx, hAe, hb, hc⟩ := (hA.ext hbr).at_ (k := k) (by rw [← hN.out]; exact hlt)
      subst hAe
      have c0 : World.cell? wr ⟨b, o + k * 3, none⟩ = some (.int .i64 x.way) := hc 0 _ rfl
      have c1 : World.cell? wr ⟨b, o + k * 3 + 1, none⟩ = some (.int .i64 x.units) := hc 1 _ rfl
      have c2 : World.cell? wr ⟨b, o + k * 3 + 2, none⟩ = some (.int .i64 x.climb) := hc 2 _ rfl
      have h := HL.out x (List.mem_of_getElem? hx)
      have hS := end_bd (xs.take k) (fun y hy => HL.out y (List.mem_of_mem_take hy))
      have hkl : (xs.take k).length = k := by rw [List.length_take, ← hN.out]; omega
      rw [hkl] at hS
      have hpl : (plcs (xs.take k)).length = k := (plcs_len _).trans hkl
      have HT := Lib.hid (take_get hx)
      have hmu := step_mul h
      obtain ⟨W0, hW0, hD0, hzd, hg, _⟩ := box_world wr #[Value.int .i64 x.way, .int .i64 x.units, .int .i64 x.climb] 52
      have g0 : World.cell? W0 ⟨wr.heap.size, 0, none⟩ = some (.int .i64 x.way) := hg 0
      have g1 : World.cell? W0 ⟨wr.heap.size, 1, none⟩ = some (.int .i64 x.units) := hg 1
      have g2 : World.cell? W0 ⟨wr.heap.size, 2, none⟩ = some (.int .i64 x.climb) := hg 2
      have HU := Lib.hid (unit_any x h W0)
      obtain ⟨E, hE⟩ : ∃ z, z = endE (xs.take k) := ⟨_, rfl⟩
      obtain ⟨M, hM⟩ : ∃ z, z = endN (xs.take k) := ⟨_, rfl⟩
      obtain ⟨sE, hsE⟩ : ∃ z, z = stepE x.way := ⟨_, rfl⟩
      obtain ⟨sN, hsN⟩ : ∃ z, z = stepN x.way := ⟨_, rfl⟩
      obtain ⟨P, hP⟩ : ∃ z, z = x.units * sE := ⟨_, rfl⟩
      obtain ⟨Q, hQ⟩ : ∃ z, z = x.units * sN := ⟨_, rfl⟩
      rw [← hE, ← hM] at hS hvr
      rw [← hsE, ← hsN, ← hP, ← hQ] at hmu
      rw [← hsE, ← hsN] at HU
      have HSN := Lib.hid (show plcs (xs.take (k + 1)) = plcs (xs.take k) ++ [⟨E + P, M + Q⟩] ∧ endE (xs.take (k + 1)) = E + P ∧ endN (xs.take (k + 1)) = M + Q from by
        rw [HT.out, plcs_snoc, endE_snoc, endN_snoc, hP, hQ, hsE, hsN, ← hE, ← hM]; exact ⟨rfl, rfl, rfl⟩)
      have w1 : IntKind.i64.wrap (x.units * sE) = P := by rw [← hP]; exact IntWalk.i64_in _ (by omega)
      have w2 : IntKind.i64.wrap (x.units * sN) = Q := by rw [← hQ]; exact IntWalk.i64_in _ (by omega)
      obtain ⟨E', hE'⟩ : ∃ z, z = E + P := ⟨_, rfl⟩
      obtain ⟨M', hM'⟩ : ∃ z, z = M + Q := ⟨_, rfl⟩
      have w3 : IntKind.i64.wrap (E + P) = E' := by rw [hE']; exact IntWalk.i64_in _ (by omega)
      have w4 : IntKind.i64.wrap (M + Q) = M' := by rw [hM']; exact IntWalk.i64_in _ (by omega)
      rw [← hE', ← hM'] at HSN
      have hbW := ext_trans hbr hD0
      have hvW := hvr.ext hD0
      have hoW := hown.ext hD0
      clear hc hg hx hE hM hsE hsN hP hQ hE' hM' hvr hown hkl h
      have hk0 : (0 : Int) ≤ (k : Int) := by omega
      have hk1 : (k : Int) < (n : Int) := by omega
      go_wp2_with fail
      clear hW0
      ((with_reducible refine (HU.out).mono ?_); rintro e wq ⟨rfl, hq⟩)
      have hbq := ext_trans hbW hq
      have hvq := hvW.ext hq
      have hoq := hoW.ext hq
      have r1 := (hq.cell (p := ⟨wr.heap.size, 1, none⟩) hzd).trans g1
      have hzq := Nat.lt_of_lt_of_le hzd hq.size
      have f0 := hvq.cell 0 _ rfl
      have f1 := hvq.cell 1 _ rfl
      have fz0 := hvq.fz 0
      have fz1 := hvq.fz 1
      have fl := hvq.lt
      obtain ⟨W2, hW2⟩ : ∃ z, z = ((wq.setCell ⟨w.heap.size, 0, none⟩ (.int .i64 E')).setCell ⟨w.heap.size, 1, none⟩ (.int .i64 M')) := ⟨_, rfl⟩
      have hT : Touch w.heap.size (w.heap.size + 1) wq W2 := hW2 ▸ (Touch.of_set wq ⟨w.heap.size, 0, none⟩ _ (Nat.le_refl _) (Nat.lt_succ_self _)).set (p := ⟨w.heap.size, 1, none⟩) (Nat.le_refl _) (Nat.lt_succ_self _) _
      have hv2 : VarL W2 w.heap.size [Value.int .i64 E', Value.int .i64 M'] := hW2 ▸ (hvq.set 0 (.int .i64 E') (by simp)).set 1 (.int .i64 M') (by simp)
      have ho2 := hoq.touch hT (Nat.le_refl _)
      have hb2 := hT.below hbq (Nat.le_refl _)
      have HV2 := Lib.hid hv2
      clear hvq hoq hvW hoW g0 g1 g2 c0 c1 c2
      go_upto_region 8 with fail
      rw [← hW2]
      clear hW2 f0 f1 fz0 fz1 fl r1 hzq hv2
      have p0 := HV2.out.cell 0 _ rfl
      have p1 := HV2.out.cell 1 _ rfl
      have pl := HV2.out.lt
      go_wp2_with (at_builtin; refine wpList_append_flat (f := Two.ints) (y := ⟨E', M'⟩) rfl _ _ _ rfl (w.heap.size + 1) i0 _ 2 16 Tryd.underlying55 hi hy0 hy1 hy2 rfl (by decide) _ _ rfl rfl ho2 rfl ?_ (by decide) ?_ ?_; omega; exact pl; intro v3 w3' hown3 hg3 hb3)
      go_roundw
      case rel => exact ⟨k + 1, by omega, by go_num, hb2.trans (hb3.mono (Nat.le_succ _)), by rw [HSN.out.1]; exact hown3, by rw [HSN.out.2.1, HSN.out.2.2]; exact HV2.out.below hb3 (Nat.lt_succ_self _)⟩
      case measure => simp [intOf]; omega
    · have hkn : k = n := by omega
      subst hkn
      rw [take_all (by rw [← hN.out]; exact Nat.le_refl _)] at hown
      have hpl := plcs_len xs
      rw [← hN.out] at hpl
      go_wp2
      go_ret
      obtain ⟨B, d, hv, hF⟩ := hown.form (fun _ => rfl)
      rw [hpl] at hv
      exact ⟨B, d, by rw [hv]; rfl, hF.mono (Nat.le_succ _) (Nat.le_refl _), hbr⟩
end Go.Proofs.YtlagfeccdcjimaaDoor
namespace Go.Proofs.YtlagfeccdcjimaaDoor
open Go.RowKit
set_option linter.unusedVariables false
set_option linter.unusedSimpArgs false

theorem results_tmp4e {fn : Func} {t u v x : Tmp} (h : fn.results = #[.tmp t, .tmp u, .tmp v, .tmp x]) (tmps : Array Value) (P : Program) (w : World) :
    (results fn tmps).run P w = .ok (.tuple #[tmps.getD t undef, tmps.getD u undef, tmps.getD v undef, tmps.getD x undef]) w := by
  simp [results, h]
set_option maxHeartbeats 4000000 in
set_option maxRecDepth 100000 in
theorem endOfRoute_any (A : Option Addr) (c : Nat) (xs : List Leg) (w : World) (hn : xs.length ≤ 1048576) (hA : Fl Leg.ints 3 w A xs) :
    Calls Tryd.prog 9 #[.slice A xs.length c] w (fun e w' => e = .returned (.tuple #[.int .i64 (seli (Rt xs) (endE xs)), .int .i64 (seli (Rt xs) (endN xs)), .int .i64 (seli (Rt xs) (clS xs)), .bool (tb (Rt xs))]) ∧ Below w.heap.size w w') := by
  have hgr := isRoute_any A c xs w hn hA
  by_cases hR : Rt xs
  · rw [tb_t hR] at hgr
    have hL : ∀ x ∈ xs, IsLeg x := fun x hx => by
      obtain ⟨i, hi⟩ := List.mem_iff_getElem?.1 hx
      exact hR.1 i x hi
    have hn12 : xs.length ≤ 12 := hR.2
    have HPL := Lib.hid (fun W (hW : Below w.heap.size w W) => placesOn_any A c xs W hn12 hL (hA.ext hW))
    have HL := Lib.hid hL
    have HLA := Lib.hid (fun j h => plcs_last xs j h)
    have HR := Lib.hid hR
    have hpn := plcs_len xs
    clear hR hL
    obtain ⟨n, hnn⟩ : ∃ n, n = List.length xs := ⟨_, rfl⟩
    rw [← hnn] at hgr hn12 hn HPL HLA hpn ⊢
    have hN := Lib.hid hnn
    have HG := Lib.hid hgr
    clear hnn hgr
    go_enter Tryd.func9, Tryd.ntmps9
    go_wp2_with fail
    ((with_reducible refine (HG.out).mono ?_); rintro e w1 ⟨rfl, hb1⟩)
    rcases Nat.eq_zero_or_pos n with hz | hz
    · have hz0 : ((n : Int) == 0) = true := by simp [hz]
      have hnil : xs = [] := List.length_eq_zero_iff.1 (by rw [← hN.out]; exact hz)
      have HNI := Lib.hid hnil
      clear hnil hz
      go_wp2
      refine bodyPost_ret (results_tmp4e rfl _ _ _) rfl ⟨?_, hb1⟩
      rw [seli_t HR.out, seli_t HR.out, seli_t HR.out, tb_t HR.out, HNI.out]
      rfl
    · obtain ⟨j, rfl⟩ : ∃ j, n = j + 1 := ⟨n - 1, by omega⟩
      have hz0 : (((j + 1 : Nat) : Int) == 0) = false := beq_eq_false_iff_ne.2 (by omega)
      have hwj : IntKind.i64.wrap (((j + 1 : Nat) : Int) - 1) = (j : Int) := by rw [show ((j + 1 : Nat) : Int) - 1 = (j : Int) by omega]; exact IntWalk.i64_in _ (by omega)
      have hwj2 : IntKind.i64.wrap ((j : Int) + 1 - 1) = (j : Int) := by rw [show (j : Int) + 1 - 1 = (j : Int) by omega]; exact IntWalk.i64_in _ (by omega)
      have hwj3 : IntKind.i64.wrap (j : Int) = (j : Int) := IntWalk.i64_in _ (by omega)
      have hj0 : (0 : Int) ≤ (j : Int) := by omega
      have hj1 : (j : Int) < (j : Int) + 1 := by omega
      have hj2 : (j : Int) < ((j + 1 : Nat) : Int) := by omega
      go_wp2_with fail
      ((with_reducible refine (HPL.out _ hb1).mono ?_); rintro e w3 ⟨B, d, rfl, hF, hb3⟩)
      have hx3 := ext_trans hb1 hb3
      obtain ⟨y, b, o, hy, hBe, hbb, hc⟩ := hF.fl.at_ (k := j) (by rw [hpn]; exact Nat.lt_succ_self _)
      rw [HLA.out j rfl] at hy
      injection hy with hy
      subst hy
      subst hBe
      obtain ⟨E, hE⟩ : ∃ z, z = endE xs := ⟨_, rfl⟩
      obtain ⟨M, hM⟩ : ∃ z, z = endN xs := ⟨_, rfl⟩
      rw [← hE, ← hM] at hc
      have c0 : World.cell? w3 ⟨b, o + j * 2, none⟩ = some (.int .i64 E) := hc 0 _ rfl
      have c1 : World.cell? w3 ⟨b, o + j * 2 + 1, none⟩ = some (.int .i64 M) := hc 1 _ rfl
      obtain ⟨V0, hV0, hB0, hz9, hv0, hf0⟩ := box_world w3 #[Value.int .i64 E, .int .i64 M] 54
      have hvr : VarL V0 w3.heap.size [Value.int .i64 E, Value.int .i64 M] := hV0 ▸ VarL.box w3 _ _
      have hxV := ext_trans hx3 hB0
      have HE := Lib.hid hE
      have HM := Lib.hid hM
      obtain ⟨ce, hce⟩ : ∃ z, z = w3.heap.size := ⟨_, rfl⟩
      rw [← hce] at hvr
      clear hc hF hE hM hv0 hf0
      go_wp2_with fail
      clear hV0
      try rw [← hce]
      clear hce
      obtain ⟨wv, hwv⟩ : ∃ z, z = V0 := ⟨_, rfl⟩
      rw [← hwv] at hvr hxV
      go_loopw [7, 25] (fun s i wr => ∃ k : Nat, k ≤ j + 1 ∧ i = .int .i64 (k : Int) ∧ s = .int .i64 (clS (xs.take k)) ∧ Below wv.heap.size wv wr) (fun _ i _ => j + 1 - (intOf i).toNat)
      case atStart => exact ⟨0, by omega, rfl, rfl, hwv ▸ Below.refl _ _⟩
      case round =>
        obtain ⟨k, hk, rfl, rfl, hbr⟩ := hrel
        have hS := (end_bd (xs.take k) (fun y hy => HL.out y (List.mem_of_mem_take hy))).2.2
        rw [List.length_take, ← hN.out] at hS
        by_cases hlt : k < j + 1
        · obtain ⟨x, b', o', hx, hAe, hb, hc⟩ := (hA.ext (ext_trans hxV hbr)).at_ (k := k) (by rw [← hN.out]; exact hlt)
          subst hAe
          have q0 : World.cell? wr ⟨b', o' + k * 3, none⟩ = some (.int .i64 x.way) := hc 0 _ rfl
          have q1 : World.cell? wr ⟨b', o' + k * 3 + 1, none⟩ = some (.int .i64 x.units) := hc 1 _ rfl
          have q2 : World.cell? wr ⟨b', o' + k * 3 + 2, none⟩ = some (.int .i64 x.climb) := hc 2 _ rfl
          have h := HL.out x (List.mem_of_getElem? hx)
          have HT := Lib.hid (take_get hx)
          obtain ⟨W0, hW0, hD0, hzd, hg, _⟩ := box_world wr #[Value.int .i64 x.way, .int .i64 x.units, .int .i64 x.climb] 52
          have g2 : World.cell? W0 ⟨wr.heap.size, 2, none⟩ = some (.int .i64 x.climb) := hg 2
          obtain ⟨C, hC⟩ : ∃ z, z = clS (xs.take k) := ⟨_, rfl⟩
          rw [← hC] at hS ⊢
          have HC := Lib.hid hC
          unfold IsLeg at h
          have hw : IntKind.i64.wrap (C + x.climb) = C + x.climb := IntWalk.i64_in _ (by omega)
          have hk0 : (0 : Int) ≤ (k : Int) := by omega
          have hk1 : (k : Int) < (j : Int) + 1 := by omega
          have hk2 : (k : Int) < ((j + 1 : Nat) : Int) := by omega
          clear hc hx hg hC h
          go_wp2
          go_roundw
          case rel => exact ⟨k + 1, by omega, by go_num, by rw [HT.out, clS_snoc, ← HC.out], ext_trans hbr hD0⟩
          case measure => simp [intOf] <;> omega
        · have hkn : k = j + 1 := by omega
          subst hkn
          rw [take_all (by rw [← hN.out]; exact Nat.le_refl _)]
          have hvx := hvr.ext hbr
          have f0 := hvx.cell 0 _ rfl
          have f1 := hvx.cell 1 _ rfl
          have fl := hvx.lt
          have hpc := plus_cell wr
          have hxr := ext_trans hxV hbr
          obtain ⟨C, hC⟩ : ∃ z, z = clS xs := ⟨_, rfl⟩
          rw [← hC]
          have HC := Lib.hid hC
          clear hC hvx hS c0 c1
          go_wp2_with fail
          refine wp_region_grow (by kernel_rfl) (by kernel_rfl) ?_
          repeat (go_big_quiet_step ((first | fail)))
          refine wpQuiet_nil ?_
          intro w1 hb1
          go_wp2
          refine bodyPost_ret (results_tmp4e rfl _ _ _) rfl ⟨?_, ext_trans hxr (by assumption)⟩
          rw [seli_t HR.out, seli_t HR.out, seli_t HR.out, tb_t HR.out, ← HE.out, ← HM.out, ← HC.out]
          rfl
  · rw [tb_f hR] at hgr
    have HG := Lib.hid hgr
    have HR := Lib.hid hR
    generalize xs.length = n at *
    clear hgr hR
    go_enter Tryd.func9, Tryd.ntmps9
    go_wp2_with fail
    ((with_reducible refine (HG.out).mono ?_); rintro e w1 ⟨rfl, hb1⟩)
    go_wp2
    refine bodyPost_ret (results_tmp4e rfl _ _ _) rfl ⟨?_, hb1⟩
    rw [seli_f HR.out, seli_f HR.out, seli_f HR.out, tb_f HR.out]
    rfl
end Go.Proofs.YtlagfeccdcjimaaDoor
