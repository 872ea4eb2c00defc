/- A day and the number of a copy drawn. No condition. -/
import Derived.Test.YtbnlbcbdhmmlgaaGreatDoorErD
import Derived.Test.YtbnlbcbdhmmlgaaGreatDoorFamHeld
import Derived.Test.YtbnlbcbdhmmlgaaGreatDoorMgB
import Derived.Test.YtbnlbcbdhmmlgaaGreatDoorMgF
namespace Go.Proofs.YtbnlbcbdhmmlgaaGreatDoor
open Go.RowKit
set_option linter.unusedVariables false
set_option linter.unusedSimpArgs false

theorem FlO.takeF {α : Type} {f : α → List Int} {sz lo hi : Nat} {w : World} {A : Option Addr} {xs : List α} (h : FlO f sz lo hi w A xs) (m : Nat) : FlO f sz lo hi w A (xs.take m) := fun hn => by
  obtain ⟨b, o, h1, h2, h3, h4, h5, h6⟩ := h (fun e => hn (by rw [e]; simp))
  exact ⟨b, o, h1, h2, h3, h4, h5, fun i x hx => h6 i x (by
    by_cases hi : i < m
    · rwa [List.getElem?_take_of_lt hi] at hx
    · rw [List.getElem?_eq_none (by simp; omega)] at hx; cases hx)⟩
set_option maxHeartbeats 4000000 in
set_option maxRecDepth 100000 in
theorem copyNumber_any (HA : Option Addr) (hd lo hi : Nat) (hs : List Nest) (hw : hs.length ≤ 400) (g : Nat) (C : Option Addr) (n cap k : Nat) (w : World) (hC : CurAt g C n cap k w) (hH : NlO lo hi w HA hs) (hgl : g + 1 ≤ lo) (hk : k ≤ 412316860416) (hn : n ≤ 1099511627776) :
    Calls Tryz.prog 26 #[.pointer (some ⟨g, 0, none⟩), .slice HA hs.length hd] w (fun r w' => ∃ z : Int, r = .returned (.int .i64 z) ∧ CurAt g C n cap (k + 4) w' ∧ Touch g (g + 1) w w') := by
  have hgw : g < w.heap.size := hC.lt
  obtain ⟨q, hq⟩ : ∃ q, q = hs.length := ⟨_, rfl⟩
  rw [← hq] at hw ⊢
  have HQ := Lib.hid hq
  have HH := Lib.hid hH
  have HC := Lib.hid hC
  clear hq hH hC
  have AM := Lib.hid (fun (W : World) (K : Nat) (h : CurAt g C n cap K W) (hK : K ≤ 549755813888) => among_any (some ⟨W.heap.size, 0, none⟩) 3 3 [0, 1, 500] rfl W.heap.size (W.heap.size + 1) g C n cap K (W.alloc (.cells #[Value.int .i64 0, Value.int .i64 1, Value.int .i64 500] 3)) (h.ext (ext_alloc _ _)) hK hn (lit_flo W [0, 1, 500] _ _ rfl) (by simp) (by simp) (.inl h.lt))
  by_cases h0 : q = 0
  · subst h0
    go_enter Tryz.func26, Tryz.ntmps26
    go_wp2_with fail
    ((with_reducible refine (AM.out w k HC.out (by omega)).mono ?_); rintro e w2 ⟨_, rfl, ⟨y, _, rfl⟩, hC2, hU2⟩)
    have HC2 := Lib.hid hC2
    have HU2 := Lib.hid ((Touch.of_ext (lo := g) (hi := g + 1) (ext_alloc w _)).trans hU2)
    clear hC2 hU2
    go_wp2
    go_ret
    exact ⟨y, rfl, HC2.out.mono (by omega), HU2.out⟩
  · have hq0 : ((q : Int) == 0) = false := by simp; omega
    have HN1 := Lib.hid (one_any 10 g C n cap _ w HC.out (by omega) hn)
    go_enter Tryz.func26, Tryz.ntmps26
    go_wp2_with fail
    ((with_reducible refine (HN1.out).mono ?_); rintro e w1 ⟨_, rfl, ⟨b, rfl⟩, hC1, hU1⟩)
    cases b
    · have HN2 := Lib.hid (pick_any (q : Int) g C n cap _ w1 hC1 (by omega) hn)
      have HU1 := Lib.hid hU1
      clear hC1 hU1
      go_wp2_with fail
      ((with_reducible refine (HN2.out).mono ?_); rintro e w2 ⟨_, rfl, ⟨z, rfl, hz0, hz1⟩, hC2, hU2⟩)
      obtain ⟨j, rfl⟩ : ∃ j : Nat, z = j := ⟨z.toNat, by omega⟩
      have hU := HU1.out.trans hU2
      obtain ⟨x, b, o, A', d', hx, hBe, hb, hc, hfl⟩ := ((HH.out.touch hU (.inr hgl)).nl).at_ (k := j) (by rw [← HQ.out]; omega)
      subst hBe
      have c0 := hc.ca
      have hj1 : (j : Int) < (q : Int) := by omega
      have hj0 : (0 : Int) ≤ (j : Int) := by omega
      have HC2 := Lib.hid hC2
      have HUU := Lib.hid hU
      clear hC2 hU2 hU hc hx hfl
      go_wp2
      go_ret
      exact ⟨_, rfl, HC2.out, HUU.out⟩
    · have HU1 := Lib.hid hU1
      have HC1 := Lib.hid hC1
      clear hC1 hU1
      go_wp2_with fail
      ((with_reducible refine (AM.out w1 _ HC1.out (by omega)).mono ?_); rintro e w2 ⟨_, rfl, ⟨y, _, rfl⟩, hC2, hU2⟩)
      have HC2 := Lib.hid hC2
      have HU2 := Lib.hid (HU1.out.trans ((Touch.of_ext (lo := g) (hi := g + 1) (ext_alloc w1 _)).trans hU2))
      clear hC2 hU2
      go_wp2
      go_ret
      exact ⟨y, rfl, HC2.out, HU2.out⟩
end Go.Proofs.YtbnlbcbdhmmlgaaGreatDoor
