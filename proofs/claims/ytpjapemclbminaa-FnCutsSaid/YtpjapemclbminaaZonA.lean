/- Zones drawn. No condition. -/
import Derived.Test.YtpjapemclbminaaZonD
import Derived.Test.YtpjapemclbminaaBoxLaw
import Derived.Test.YtpjapemclbminaaPut
namespace Go.Proofs.Ytpjapemclbminaa
open Go.RowKit
set_option linter.unusedVariables false
set_option linter.unusedSimpArgs false

theorem OwnF.formc {α : Type} {f : α → List Int} {sz lo : Nat} {e : TypeId} {w : World} {v : Value} {ys : List α} (h : OwnF f sz lo e w v ys) (hls : ∀ y, (f y).length = sz) : ∃ A c, v = .slice A ys.length c ∧ (ys.length ≤ c ∧ c ≤ 9223372036854775807) ∧ FlO f sz lo w.heap.size w A ys := by
  obtain ⟨A, c, hv, hF⟩ := h.form hls
  obtain ⟨B, d, hv2, h1, h2⟩ := h.caps
  rw [hv] at hv2
  injection hv2 with e1 e2 e3
  subst e3
  exact ⟨A, c, hv, ⟨h1, h2⟩, hF⟩
theorem CurAt.below' {g : Nat} {C : Option Addr} {n cap k M : Nat} {w w' : World} (h : CurAt g C n cap k w) (hb : Below M w w') (hg : g < M) : CurAt g C n cap k w' := by
  have c := fun j => hb.cell (p := ⟨g, j, none⟩) hg
  refine ⟨Nat.lt_of_lt_of_le h.lt hb.size, (c 0).trans h.c0, ?_, ?_, fun j => (hb.frozen (p := ⟨g, j, none⟩) hg).trans (h.fz j), fun i hi => ?_⟩
  · obtain ⟨a, h1, h2⟩ := h.c1; exact ⟨a, h1, (c 1).trans h2⟩
  · obtain ⟨s, h1, h2, h3⟩ := h.c2; exact ⟨s, h1, h2, (c 2).trans h3⟩
  · obtain ⟨b, o, v, h1, h2, h3, h4, h5⟩ := h.code i hi
    exact ⟨b, o, v, h1, h2, h3, h4, (hb.cell (p := ⟨b, _, none⟩) (Nat.lt_trans h2 hg)).trans h5⟩
set_option maxHeartbeats 16000000 in
set_option maxRecDepth 100000 in
theorem zones_any (g : Nat) (C : Option Addr) (n cap k : Nat) (w : World) (hC : CurAt g C n cap k w) (hk : k ≤ 274877906944) (hn : n ≤ 1099511627776) :
    Calls Try.prog 50 #[.pointer (some ⟨g, 0, none⟩)] w (fun r w' => ∃ (A : Option Addr) (d : Nat) (xs : List Zone), r = .returned (.slice A xs.length d) ∧ xs.length ≤ 12 ∧ (xs.length ≤ d ∧ d ≤ 9223372036854775807) ∧ FlO Zone.ints 5 w.heap.size w'.heap.size w' A xs ∧ CurAt g C n cap (k + 400) w' ∧ Touch g (g + 1) w w') := by
  have hgw : g < w.heap.size := hC.lt
  have hT := Touch.refl g (g + 1) w
  obtain ⟨i0, hi, hz0e, hz1e, hz2e⟩ := info_parts infoZone
  have HOE := Lib.hid (OwnF.empty (f := Zone.ints) (sz := 5) (e := 35) (Nat.le_refl w.heap.size))
  have hx0 := ext_alloc w (.cells #[] 35)
  have HC1 := Lib.hid (hC.ext hx0)
  have HT1 := Lib.hid (Touch.of_ext (lo := g) (hi := g + 1) hx0)
  have hs1 : w.heap.size ≤ (w.alloc (.cells #[] 35)).heap.size := hx0.size
  clear hC hT hx0
  go_enter Try.func50, Try.ntmps50
  go_wp2
  go_loopw [3, 4] (fun out iv wr => ∃ (v : Value) (xs : List Zone) (m : Nat), out = v ∧ iv = .int .i64 (m : Int) ∧ 1 ≤ m ∧ m ≤ 7 ∧ xs.length + 1 ≤ m ∧ OwnF Zone.ints 5 w.heap.size 35 wr v xs ∧ w.heap.size ≤ wr.heap.size ∧ CurAt g C n cap (k + m * 30) wr ∧ Touch g (g + 1) w wr) (fun _ iv _ => 7 - (intOf iv).toNat)
  case atStart => exact ⟨_, [], 1, rfl, rfl, by omega, by omega, by simp, HOE.out, hs1, HC1.out.mono (by omega), HT1.out⟩
  case round =>
    obtain ⟨v, xs, m, rfl, rfl, hm1, hm7, hxm, hO, hsr, hC, hT⟩ := hrel
    clear HOE HC1 HT1 hs1
    by_cases hm : m < 7
    · have hmi : (m : Int) < 7 := by omega
      have HN1 := Lib.hid (one_any 2 g C n cap _ wr hC (by omega) hn)
      clear hC
      go_wp2_with fail
      ((with_reducible refine (HN1.out).mono ?_); rintro e w1 ⟨_, rfl, ⟨b, rfl⟩, hC, hU1⟩)
      replace hO := hO.touch hU1 (by omega)
      replace hT := hT.trans hU1
      have hz_w1 : (World.heap wr).size ≤ (World.heap w1).size := hU1.size
      clear hU1
      cases b
      · have HO9 := Lib.hid hO
        have HC9 := Lib.hid hC
        have HT9 := Lib.hid hT
        have hs9 : w.heap.size ≤ (World.heap w1).size := by omega
        clear hO hC hT
        go_wp2
        go_roundw
        case rel => exact ⟨_, xs, m + 1, rfl, by go_num, by omega, by omega, by omega, HO9.out, hs9, HC9.out.mono (by omega), HT9.out⟩
        case measure => simp [intOf]; omega
      · skip
        have HN2 := Lib.hid (fun id : Int => zone_any id g C n cap _ w1 hC (by omega) hn)
        clear hC
        go_wp2_with fail
        ((with_reducible refine (HN2.out _).mono ?_); rintro e w2 ⟨er, rfl, -, hC, hU2⟩)
        replace hO := hO.touch hU2 (by omega)
        replace hT := hT.trans hU2
        have hz_w2 : (World.heap w1).size ≤ (World.heap w2).size := hU2.size
        clear hU2
        have hTsz : wr.heap.size ≤ (World.heap w2).size := by omega
        have hs4 : w.heap.size ≤ (World.heap w2).size := Nat.le_trans hsr hTsz
        obtain ⟨A4, d4, hv4, _⟩ := hO.form Zone.ints_length
        have HO4 := Lib.hid hO
        have HC4 := Lib.hid hC
        have HT4 := Lib.hid hT
        obtain ⟨x4, hx4⟩ : ∃ z, z = List.length xs := ⟨_, rfl⟩
        rw [← hx4] at hv4
        subst hv4
        have HX4 := Lib.hid hx4
        have hxl : x4 ≤ 12 := by omega
        have hxk : x4 + 1 ≤ m := by omega
        clear hC hT hO hx4 hxm
        go_wp2_with (at_builtin; refine wpList_append_flat (f := Zone.ints) (y := er) rfl _ _ _ rfl w.heap.size i0 _ 5 40 Try.underlying24 hi hz0e hz1e hz2e rfl (by decide) _ _ rfl rfl HO4.out rfl ?_ (by decide) hs4 ?_; (have h9 := HX4.out; omega); intro v6 w6 hown6 hg6 hb6; have HC6 := Lib.hid (HC4.out.below' hb6 hgw); have HT6 := Lib.hid (HT4.out.far' hb6 (Nat.le_refl _)); have hs6 : w.heap.size ≤ w6.heap.size := Nat.le_trans hs4 hb6.size; have HO6 := Lib.hid hown6; clear hown6 hg6 hb6)
        go_roundw
        case rel => exact ⟨_, xs ++ [er], m + 1, rfl, by go_num, by omega, by omega, by have := HX4.out; simp; omega, HO6.out, hs6, HC6.out.mono (by omega), HT6.out⟩
        case measure => simp [intOf]; omega
    · have hm0 : m = 7 := by omega
      subst hm0
      clear hm hm7 hm1
      have HN1 := Lib.hid (pick_any 32 g C n cap _ wr hC (by omega) hn)
      clear hC
      go_wp2_with fail
      ((with_reducible refine (HN1.out).mono ?_); rintro e w1 ⟨_, rfl, ⟨z, rfl, z0, z1⟩, hC, hU1⟩)
      replace hO := hO.touch hU1 (by omega)
      replace hT := hT.trans hU1
      have hz_w1 : (World.heap wr).size ≤ (World.heap w1).size := hU1.size
      clear hU1
      by_cases h10 : z = 0
      · subst h10
        have hlt2 : g < (World.heap w1).size := hC.lt
        have HN2 := Lib.hid (among_any (some ⟨(World.heap w1).size, 0, none⟩) 4 4 [0, 7, 99, 100] rfl (World.heap w1).size ((World.heap w1).size + 1) g C n cap _ (World.alloc w1 (.cells #[Value.int .i64 (0), Value.int .i64 (7), Value.int .i64 (99), Value.int .i64 (100)] 3)) (hC.ext (ext_alloc _ _)) (by omega) hn (lit_flo w1 [0, 7, 99, 100] _ _ rfl) (by simp) (by simp) (.inl hlt2))
        clear hC
        go_wp2_with fail
        ((with_reducible refine (HN2.out).mono ?_); rintro e w2 ⟨_, rfl, ⟨q9, _, rfl⟩, hC, hU2⟩)
        replace hU2 := (Touch.of_ext (ext_alloc w1 (.cells #[Value.int .i64 (0), Value.int .i64 (7), Value.int .i64 (99), Value.int .i64 (100)] 3))).trans hU2
        replace hO := hO.touch hU2 (by omega)
        replace hT := hT.trans hU2
        have hz_w2 : (World.heap w1).size ≤ (World.heap w2).size := hU2.size
        clear hU2
        have HN9 := Lib.hid (fun id : Int => zone_any id g C n cap _ w2 hC (by omega) hn)
        clear hC
        go_wp2_with fail
        ((with_reducible refine (HN9.out _).mono ?_); rintro e w3 ⟨er, rfl, -, hC, hU3⟩)
        replace hO := hO.touch hU3 (by omega)
        replace hT := hT.trans hU3
        have hz_w3 : (World.heap w2).size ≤ (World.heap w3).size := hU3.size
        clear hU3
        have hTsz : wr.heap.size ≤ (World.heap w3).size := by omega
        have hs4 : w.heap.size ≤ (World.heap w3).size := Nat.le_trans hsr hTsz
        obtain ⟨A4, d4, hv4, _⟩ := hO.form Zone.ints_length
        have HO4 := Lib.hid hO
        have HC4 := Lib.hid hC
        have HT4 := Lib.hid hT
        obtain ⟨x4, hx4⟩ : ∃ z, z = List.length xs := ⟨_, rfl⟩
        rw [← hx4] at hv4
        subst hv4
        have HX4 := Lib.hid hx4
        have hxl : x4 ≤ 12 := by omega
        have hxk : x4 ≤ 6 := by omega
        clear hC hT hO hx4 hxm
        go_wp2_with (at_builtin; refine wpList_append_flat (f := Zone.ints) (y := er) rfl _ _ _ rfl w.heap.size i0 _ 5 40 Try.underlying24 hi hz0e hz1e hz2e rfl (by decide) _ _ rfl rfl HO4.out rfl ?_ (by decide) hs4 ?_; (have h9 := HX4.out; omega); intro v6 w6 hown6 hg6 hb6; have HC6 := Lib.hid (HC4.out.below' hb6 hgw); have HT6 := Lib.hid (HT4.out.far' hb6 (Nat.le_refl _)); have hs6 : w.heap.size ≤ w6.heap.size := Nat.le_trans hs4 hb6.size; have HO6 := Lib.hid hown6; clear hown6 hg6 hb6)
        obtain ⟨A7, d7, hv7, hcap7, hF7⟩ := HO6.out.formc Zone.ints_length
        subst hv7
        have HF7 := Lib.hid hF7
        have HK7 := Lib.hid hcap7
        clear hF7 hcap7
        go_wp2
        go_ret
        exact ⟨A7, d7, _, rfl, by have := HX4.out; simp; omega, HK7.out, HF7.out.mono (Nat.le_refl _) (Nat.le_refl _), HC6.out.mono (by omega), HT6.out⟩
      · have i10 : (z == 0) = false := by simp [h10]
        by_cases h11 : z = 1
        · subst h11
          have HOA := Lib.hid hO
          have HCA := Lib.hid hC
          have HTA := Lib.hid hT
          obtain ⟨AA, dd, hvv, _⟩ := hO.formc Zone.ints_length
          have hsA : w.heap.size ≤ (World.heap w1).size := by omega
          obtain ⟨wk, hwk⟩ : ∃ z, z = w1 := ⟨_, rfl⟩
          obtain ⟨y0, hy0⟩ : ∃ z, z = List.length xs := ⟨_, rfl⟩
          rw [← hy0] at hvv
          subst hvv
          have HY0 := Lib.hid hy0
          clear hO hC hT hy0
          go_wp2
          go_loopw [3] (fun out wr => ∃ (A : Option Addr) (dq yl : Nat) (ys : List Zone), out = .slice A yl dq ∧ yl = ys.length ∧ yl ≤ 12 ∧ OwnF Zone.ints 5 w.heap.size 35 wr (.slice A yl dq) ys ∧ w.heap.size ≤ wr.heap.size ∧ CurAt g C n cap (k + 250 + yl * 3) wr ∧ Touch g (g + 1) w wr) (fun out _ => 13 - (match out with | .slice _ m _ => m | _ => 0))
          case atStart => exact ⟨_, _, y0, xs, rfl, HY0.out, by have := HY0.out; omega, HOA.out, hsA, HCA.out.mono (by omega), HTA.out⟩
          case round =>
            clear HOA HCA HTA HY0 hsA
            obtain ⟨A, dq, yl, ys, rfl, hyl, hy12, hO, hsr2, hC, hT⟩ := hrel
            have HYL := Lib.hid hyl
            clear hyl
            have HN11 := Lib.hid (pick_any 2 g C n cap _ wr hC (by omega) hn)
            clear hC
            go_wp2_with fail
            ((with_reducible refine (HN11.out).mono ?_); rintro e w11 ⟨_, rfl, ⟨y, rfl, y0, y1⟩, hC, hU11⟩)
            replace hO := hO.touch hU11 (by omega)
            replace hT := hT.trans hU11
            have hz_w11 : (World.heap wr).size ≤ (World.heap w11).size := hU11.size
            clear hU11
            have hy2 : y < 2 := by omega
            have HO5 := Lib.hid hO
            have HC5 := Lib.hid hC
            have HT5 := Lib.hid hT
            have hs5 : w.heap.size ≤ (World.heap w11).size := by omega
            clear hO hC hT
            by_cases hlt : (yl : Int) < 10 + y
            · go_wp2_with (at_builtin; refine wpList_append_flat (f := Zone.ints) (y := ⟨_, _, _, _, _⟩) rfl _ _ _ rfl w.heap.size i0 _ 5 40 Try.underlying24 hi hz0e hz1e hz2e rfl (by decide) _ _ rfl rfl HO5.out rfl ?_ (by decide) hs5 ?_; (have h9 := HYL.out; omega); intro v6 w6 hown6 hg6 hb6; have HC6 := Lib.hid (HC5.out.below' hb6 hgw); have HT6 := Lib.hid (HT5.out.far' hb6 (Nat.le_refl _)); have hs6 : w.heap.size ≤ w6.heap.size := Nat.le_trans hs5 hb6.size; have HO6 := Lib.hid hown6; clear hown6 hg6 hb6)
              obtain ⟨A6, d6, hv6, _⟩ := HO6.out.formc Zone.ints_length
              subst hv6
              have hy6 : ∀ e : Zone, (ys ++ [e]).length = yl + 1 := fun e => by have := HYL.out; simp; omega
              go_roundw
              case rel => exact ⟨A6, d6, _, _, rfl, rfl, by have := HYL.out; simp; omega, HO6.out, hs6, HC6.out.mono (by have := HYL.out; simp; omega), HT6.out⟩
              case measure => have := HYL.out; simp; omega
            · skip
              obtain ⟨A7, d7, hv7, hcap7, hF7⟩ := HO5.out.formc Zone.ints_length
              injection hv7 with e1 e2 e3
              subst e1 e3
              have HF7 := Lib.hid hF7
              have HK7 := Lib.hid hcap7
              clear hF7 hcap7
              go_wp2
              go_ret
              exact ⟨_, _, ys, by rw [← HYL.out]; rfl, by have := HYL.out; omega, HK7.out, HF7.out.mono (Nat.le_refl _) (Nat.le_refl _), HC5.out.mono (by omega), HT5.out⟩
        · have i11 : (z == 1) = false := by simp [h11]
          have HC9 := Lib.hid hC
          have HT9 := Lib.hid hT
          have HO9 := Lib.hid hO
          clear hC hT hO
          obtain ⟨A7, d7, hv7, hcap7, hF7⟩ := HO9.out.formc Zone.ints_length
          subst hv7
          have HF7 := Lib.hid hF7
          have HK7 := Lib.hid hcap7
          clear hF7 hcap7
          go_wp2
          go_ret
          exact ⟨A7, d7, _, rfl, by omega, HK7.out, HF7.out.mono (Nat.le_refl _) (Nat.le_refl _), HC9.out.mono (by omega), HT9.out⟩
end Go.Proofs.Ytpjapemclbminaa
