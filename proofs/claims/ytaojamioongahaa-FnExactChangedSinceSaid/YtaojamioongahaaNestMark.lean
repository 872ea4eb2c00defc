/- The marks of the laws on slices of structs with an inner slice. -/
import Derived.Test.YtaojamioongahaaGen
import Derived.Test.YtaojamioongahaaFamInt
namespace Go.Proofs.Ytaojamioongahaa
open Go.RowKit
set_option linter.unusedVariables false
set_option linter.unusedSimpArgs false
set_option maxHeartbeats 1000000 in
set_option maxRecDepth 100000 in
theorem markEditionS_any (A : Option Addr) (c lo hi : Nat) (k0 : Int) (xs : List Nest) (w : World) (hk : 0 ≤ k0) (hl : xs.length ≤ 16777216) (hn : offG Nest.l 3 xs xs.length ≤ 16777216) (hk1 : k0 ≤ 549755813888) (hA : GlO hdN Nest.l 3 lo hi w A xs) :
    Calls Try.prog 27 #[.slice A xs.length c, .int .i64 k0] w fun e w' => e = .returned (.int .i64 (k0 + (offG Nest.l 3 xs xs.length : Int))) ∧ GNum Nest.l 3 lo hi w' A xs k0 ∧ Touch lo hi w w' := by
  by_cases hne : xs = []
  · subst hne
    go_enter Try.func27, Try.ntmps27
    go_wp2
    refine wp_loop_rounds 1 ?_; rw [rounds_succ]
    go_wp2
    go_ret
    exact ⟨ret_int (by simp [offG]), GNum.nil, Touch.refl _ _ _⟩
  · obtain ⟨b, o, g, S, D, rfl, hO⟩ := hA hne
    have hM0 := hO.mark (fun _ => rfl) k0
    obtain ⟨n, hnn⟩ : ∃ n, n = xs.length := ⟨_, rfl⟩
    rw [← hnn] at hl hn ⊢
    have hN := Lib.hid hnn
    clear hnn hA hne hO
    go_enter Try.func27, Try.ntmps27
    go_wp2
    go_loopw [1, 5] (fun q i wr => ∃ m : Nat, m ≤ n ∧ i = .int .i64 m ∧ q = .int .i64 (k0 + (offG Nest.l 3 xs m : Int)) ∧ GMark Nest.l 3 b o lo hi g S D xs m k0 w wr) (fun _ i _ => n - (intOf i).toNat)
    case atStart => exact ⟨0, by omega, rfl, by simp [offG], hM0⟩
    case round =>
      obtain ⟨m, hm, rfl, rfl, hM⟩ := hrel
      obtain ⟨q, hq⟩ : ∃ q, q = k0 + (offG Nest.l 3 xs m : Int) := ⟨_, rfl⟩
      rw [← hq]
      by_cases hlt : m < n
      · obtain ⟨x, hx⟩ : ∃ x, xs[m]? = some x := ⟨_, List.getElem?_eq_getElem (by rw [← hN.out]; exact hlt)⟩
        have hof := offG_mono (tl := Nest.l) (p := 3) (xs := xs) (show m + 1 ≤ n from hlt)
        have hst := offG_step (tl := Nest.l) (p := 3) hx
        have hq0 : 0 ≤ q := by omega
        have hq1 : q ≤ 549772591104 := by omega
        have hxl : x.l.length ≤ 16777216 := by omega
        have hfz := hM.frozen
        have hbs := hM.size
        have t3 : World.cell? wr ⟨b, o + m * 4 + 3, none⟩ = some (.slice (S m) x.l.length (D m)) := hM.tail m x hx
        obtain ⟨u0, z0⟩ : ∃ u, World.cell? wr ⟨b, o + m * 4, none⟩ = some u := hM.there m x hx 0 (by decide)
        obtain ⟨u1, z1⟩ : ∃ u, World.cell? wr ⟨b, o + m * 4 + 1, none⟩ = some u := hM.there m x hx 1 (by decide)
        obtain ⟨u2, z2⟩ : ∃ u, World.cell? wr ⟨b, o + m * 4 + 2, none⟩ = some u := hM.there m x hx 2 (by decide)
        obtain ⟨l, u, hlu, hlz, hFl⟩ := hM.inner hx
        have hbg : x.l ≠ [] → g m ≠ b := fun h => (hM.rng m x hx h).2.2
        have HX := Lib.hid hx
        have HQ := Lib.hid hq
        have HST := Lib.hid hst
        have HLU := Lib.hid hlu
        have HLZ := Lib.hid hlz
        have HBG := Lib.hid hbg
        clear hx hq hst hlu hlz hbg
        have hk0' : (0 : Int) ≤ (m : Int) := by omega
        have hk1' : (m : Int) < (n : Int) := by omega
        go_wp2_with fail
        refine (markIntS_any (S m) (D m) l u (q + 1 + 1 + 1) x.l _ (by omega) hxl (by omega) (hFl.touch' (setRow_touch b (Nat.le_refl b) (Nat.lt_succ_self b) [Value.int .i64 q, Value.int .i64 (q + 1), Value.int .i64 (q + 1 + 1)] wr (o + m * 4) : Touch b (b + 1) wr _) (fun hn => by have h1 := HLU.out hn; have h2 := HBG.out hn; omega))).mono ?_
        rintro e w2 ⟨rfl, hN2, hT2⟩
        go_wp2
        go_roundw
        case rel =>
          refine ⟨m + 1, by omega, by go_num, ?_, hM.step (w1 := setRow wr b (o + m * 4) [Value.int .i64 q, Value.int .i64 (q + 1), Value.int .i64 (q + 1 + 1)]) HX.out HLU.out HLZ.out [Value.int .i64 q, Value.int .i64 (q + 1), Value.int .i64 (q + 1 + 1)] rfl (fun j hj => ?_) rfl hT2 ?_⟩
          · have h1 := HQ.out
            have h2 := HST.out
            congr 1
            omega
          · rw [← HQ.out]
            match j, hj with
            | 0, _ => simp
            | 1, _ => simp
            | 2, _ => simp; omega
          · have h1 := HQ.out
            rw [show k0 + (offG Nest.l 3 xs m : Int) + ((3 : Nat) : Int) = q + 1 + 1 + 1 from by omega]
            exact hN2
        case measure => simp [intOf]; omega
      · have hkn : m = n := by omega
        subst hkn
        go_wp2
        go_ret
        exact ⟨ret_int (by first | rfl | exact hq), hM.num (by rw [← hN.out]; exact Nat.le_refl _), hM.touch⟩

set_option maxHeartbeats 1000000 in
set_option maxRecDepth 100000 in
theorem heldEditionS_any (A : Option Addr) (c lo hi : Nat) (k0 : Int) (xs : List Nest) (w : World) (hk : 0 ≤ k0) (hl : xs.length ≤ 16777216) (hn : offG Nest.l 3 xs xs.length ≤ 16777216) (hk1 : k0 ≤ 549755813888) (hA : GNum Nest.l 3 lo hi w A xs k0) :
    Calls Try.prog 38 #[.slice A xs.length c, .int .i64 k0] w fun e w' => e = .returned (.int .i64 (k0 + (offG Nest.l 3 xs xs.length : Int))) ∧ w = w' := by
  obtain ⟨n, hnn⟩ : ∃ n, n = xs.length := ⟨_, rfl⟩
  rw [← hnn] at hl hn ⊢
  have hN := Lib.hid hnn
  clear hnn
  go_enter Try.func38, Try.ntmps38
  go_wp2
  go_loop [1, 5] (fun q i => ∃ m : Nat, m ≤ n ∧ i = .int .i64 m ∧ q = .int .i64 (k0 + (offG Nest.l 3 xs m : Int))) (fun _ i => n - (intOf i).toNat)
  case atStart => exact ⟨0, by omega, rfl, by simp [offG]⟩
  case round =>
    obtain ⟨m, hm, rfl, rfl⟩ := hrel
    obtain ⟨q, hq⟩ : ∃ q, q = k0 + (offG Nest.l 3 xs m : Int) := ⟨_, rfl⟩
    rw [← hq]
    by_cases hlt : m < n
    · obtain ⟨x, hx⟩ : ∃ x, xs[m]? = some x := ⟨_, List.getElem?_eq_getElem (by rw [← hN.out]; exact hlt)⟩
      have hof := offG_mono (tl := Nest.l) (p := 3) (xs := xs) (show m + 1 ≤ n from hlt)
      have hst := offG_step (tl := Nest.l) (p := 3) hx
      obtain ⟨b, o, g, S, D, rfl, hb, _, _, hc, _⟩ := hA (fun e => by subst e; simp at hx)
      obtain ⟨h1, h2, h3⟩ := hc m x hx
      have hq0 : 0 ≤ q := by omega
      have hq1 : q ≤ 549772591104 := by omega
      have hxl : x.l.length ≤ 16777216 := by omega
      have c0 : World.cell? w ⟨b, o + m * 4, none⟩ = some (.int .i64 q) := by rw [hq]; simpa using h1 0 (by decide)
      have c1 : World.cell? w ⟨b, o + m * 4 + 1, none⟩ = some (.int .i64 (q + 1)) := by rw [hq]; exact h1 1 (by decide)
      have c2 : World.cell? w ⟨b, o + m * 4 + 2, none⟩ = some (.int .i64 (q + 1 + 1)) := by rw [hq]; refine (h1 2 (by decide)).trans ?_; congr 2; omega
      have c3 : World.cell? w ⟨b, o + m * 4 + 3, none⟩ = some (.slice (S m) x.l.length (D m)) := h2
      have h3' : Num (g m) (g m + 1) w (S m) x.l.length (q + 1 + 1 + 1) := by rw [show q + 1 + 1 + 1 = k0 + (offG Nest.l 3 xs m : Int) + ((3 : Nat) : Int) from by omega]; exact h3
      have HQ := Lib.hid hq
      have HST := Lib.hid hst
      have hp0 : ¬ q + 1 + 1 + 1 + (x.l.length : Int) < 0 := by omega
      clear hq hst h1 h2 h3 hA hx hc
      have hk0' : (0 : Int) ≤ (m : Int) := by omega
      have hk1' : (m : Int) < (n : Int) := by omega
      go_wp2_with fail
      refine (heldIntS_any (S m) x.l.length (D m) _ _ (q + 1 + 1 + 1) w (by omega) hxl (by omega) h3').mono ?_
      rintro e w1 ⟨rfl, rfl⟩
      go_wp2
      go_round
      case rel =>
        refine ⟨m + 1, by omega, by go_num, ?_⟩
        have h1 := HQ.out
        have h2 := HST.out
        congr 1
        omega
      case measure => simp [intOf]; omega
    · have hkn : m = n := by omega
      subst hkn
      go_wp2
      go_ret
      exact ⟨ret_int (by first | rfl | exact hq), rfl⟩
end Go.Proofs.Ytaojamioongahaa
