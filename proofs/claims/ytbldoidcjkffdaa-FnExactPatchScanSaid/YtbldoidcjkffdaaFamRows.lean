/- The laws' own functions over [][]int: the comparison, the marks. -/
import Derived.Test.YtbldoidcjkffdaaFamInt
import Derived.Test.YtbldoidcjkffdaaGen
namespace Go.Proofs.Ytbldoidcjkffdaa
open Go.RowKit
set_option linter.unusedVariables false
set_option linter.unusedSimpArgs false

theorem infoRows : (Try.prog.info? 35).map (fun i => (i.zero, i.size, i.bytes)) = some (some (.slice none 0 0), 1, 24) := by kernel_rfl
/-- a call that hands back new rows and a bool, and leaves what was there -/
def RetS (w : World) (ys : List (List Int)) (ok : Bool) (e : Ending) (w' : World) : Prop :=
  ∃ B d, e = .returned (.tuple #[.slice B ys.length d, .bool ok]) ∧ GlO nohd slf 0 w.heap.size w'.heap.size w' B ys ∧ Below w.heap.size w w'

def rwt : List (List Int) → Nat
  | [] => 0
  | x :: r => 1 + x.length + rwt r
theorem rwt_len : ∀ xs : List (List Int), xs.length ≤ rwt xs
  | [] => Nat.le_refl _
  | x :: r => by have := rwt_len r; simp [rwt]; omega
theorem rwt_append (xs ys : List (List Int)) : rwt (xs ++ ys) = rwt xs + rwt ys := by
  induction xs with
  | nil => simp [rwt]
  | cons x r ih => simp [rwt, ih]; omega
theorem rwt_in {xs : List (List Int)} {x : List Int} (h : x ∈ xs) : x.length ≤ rwt xs := by
  induction xs with
  | nil => simp at h
  | cons y r ih =>
    rcases List.mem_cons.1 h with rfl | h
    · simp [rwt]; omega
    · have := ih h
      simp [rwt]; omega
theorem rwt_take (xs : List (List Int)) : ∀ k, offG slf 0 xs k ≤ rwt (xs.take k)
  | 0 => by simp [offG]
  | k + 1 => by
    have ih := rwt_take xs k
    rcases hx : xs[k]? with _ | x
    · rw [offG, hx, show xs.take (k + 1) = xs.take k by rw [List.take_add_one, hx]; simp]
      simpa using ih
    · rw [offG_step hx, take_get hx, rwt_append]
      simp [rwt, slf]
      omega
theorem rwt_off (xs : List (List Int)) : offG slf 0 xs xs.length ≤ rwt xs := by
  have := rwt_take xs xs.length
  rwa [List.take_length] at this

set_option maxHeartbeats 1000000 in
set_option maxRecDepth 100000 in
theorem eqIntSS_same (A B : Option Addr) (c d : Nat) (xs : List (List Int)) (w : World) (hn : rwt xs ≤ 1152921504606846976) (hA : Gl nohd slf 0 w A xs) (hB : Gl nohd slf 0 w B xs) :
    Calls Try.prog 24 #[.slice A xs.length c, .slice B xs.length d] w fun e w' => e = .returned (.bool true) ∧ Below w.heap.size w w' := by
  have hin := fun x (hx : x ∈ xs) => rwt_in hx
  have hwl := rwt_len xs
  obtain ⟨n, hnn⟩ : ∃ n, n = List.length xs := ⟨_, rfl⟩
  rw [← hnn] at hwl ⊢
  have hN := Lib.hid hnn
  clear hnn
  go_enter Try.func24, Try.ntmps24
  go_wp2
  go_loopw [5] (fun i wr => ∃ k : Nat, k ≤ n ∧ i = .int .i64 k ∧ Below w.heap.size w wr) (fun i _ => n - (intOf i).toNat)
  case atStart => exact ⟨0, by omega, rfl, Below.refl _ _⟩
  case round =>
    obtain ⟨k, hk, rfl, hbr⟩ := hrel
    by_cases hlt : k < n
    · have hBr := hB.ext hbr
      obtain ⟨x, b, o, A', d', hx, rfl, hb, hc, hfl⟩ := (hA.ext hbr).at_ (k := k) (by rw [← hN.out]; exact hlt)
      obtain ⟨y, b2, o2, A2, d2, hy, rfl, hb2, hc2, hfl2⟩ := hBr.at_ (k := k) (by rw [← hN.out]; exact hlt)
      rw [hx] at hy
      cases hy
      have hxl : x.length ≤ 1152921504606846976 := Nat.le_trans (hin x (List.mem_of_getElem? hx)) hn
      have c0 : World.cell? wr ⟨b, o + k, none⟩ = some (.slice A' x.length d') := by have := hc.ct; simpa [slf] using this
      have c1 : World.cell? wr ⟨b2, o2 + k, none⟩ = some (.slice A2 x.length d2) := by have := hc2.ct; simpa [slf] using this
      have hfl' : Fl one 1 wr A' x := hfl
      have hfl2' : Fl one 1 wr A2 x := hfl2
      clear hc hc2 hA hB hx hBr hfl hfl2
      have hpc := plus_cell wr
      have hk0 : (0 : Int) ≤ (k : Int) := by omega
      have hk1 : (k : Int) < (n : Int) := by omega
      go_wp2_with fail
      refine wp_region_grow (by kernel_rfl) (by kernel_rfl) ?_
      repeat (go_big_quiet_step ((first | (go_at_call 19; exact quiet_below (eqIntS_same A' A2 d' d2 x _ hxl (hfl'.ext (plus_below _ _)) (hfl2'.ext (plus_below _ _)))))))
      refine wpQuiet_nil ?_
      intro w1 hb1
      go_wp2
      go_roundw
      case rel => exact ⟨k + 1, by omega, by go_num, ext_trans hbr hb1⟩
      case measure => simp [intOf]; omega
    · have hkn : k = n := by omega
      subst hkn
      go_wp2
      go_ret
      exact ⟨rfl, hbr⟩

set_option maxHeartbeats 1000000 in
set_option maxRecDepth 100000 in
theorem markIntSS_any (A : Option Addr) (c lo hi : Nat) (k0 : Int) (xs : List (List Int)) (w : World) (hk : 0 ≤ k0) (hl : xs.length ≤ 16777216) (hn : offG slf 0 xs xs.length ≤ 16777216) (hk1 : k0 ≤ 549755813888) (hA : GlO nohd slf 0 lo hi w A xs) :
    Calls Try.prog 25 #[.slice A xs.length c, .int .i64 k0] w fun e w' => e = .returned (.int .i64 (k0 + (offG slf 0 xs xs.length : Int))) ∧ GNum slf 0 lo hi w' A xs k0 ∧ Touch lo hi w w' := by
  by_cases hne : xs = []
  · subst hne
    go_enter Try.func25, Try.ntmps25
    go_wp2
    refine wp_loop_rounds 1 ?_; rw [rounds_succ]
    go_wp2
    go_ret
    exact ⟨ret_int (by simp [offG]), GNum.nil, Touch.refl _ _ _⟩
  · obtain ⟨b, o, g, S, D, rfl, hO⟩ := hA hne
    have hM0 := hO.mark (fun _ => rfl) k0
    obtain ⟨n, hnn⟩ : ∃ n, n = xs.length := ⟨_, rfl⟩
    rw [← hnn] at hl hn ⊢
    have hN := Lib.hid hnn
    clear hnn hA hne hO
    go_enter Try.func25, Try.ntmps25
    go_wp2
    go_loopw [1, 5] (fun q i wr => ∃ m : Nat, m ≤ n ∧ i = .int .i64 m ∧ q = .int .i64 (k0 + (offG slf 0 xs m : Int)) ∧ GMark slf 0 b o lo hi g S D xs m k0 w wr) (fun _ i _ => n - (intOf i).toNat)
    case atStart => exact ⟨0, by omega, rfl, by simp [offG], hM0⟩
    case round =>
      obtain ⟨m, hm, rfl, rfl, hM⟩ := hrel
      obtain ⟨q, hq⟩ : ∃ q, q = k0 + (offG slf 0 xs m : Int) := ⟨_, rfl⟩
      rw [← hq]
      by_cases hlt : m < n
      · obtain ⟨x, hx⟩ : ∃ x, xs[m]? = some x := ⟨_, List.getElem?_eq_getElem (by rw [← hN.out]; exact hlt)⟩
        have hof := offG_mono (tl := slf) (p := 0) (xs := xs) (show m + 1 ≤ n from hlt)
        have hst : offG slf 0 xs (m + 1) = offG slf 0 xs m + 0 + x.length := offG_step (tl := slf) (p := 0) hx
        have hq0 : 0 ≤ q := by omega
        have hq1 : q ≤ 549772591104 := by omega
        have hxl : x.length ≤ 16777216 := by omega
        have t3 : World.cell? wr ⟨b, o + m, none⟩ = some (.slice (S m) x.length (D m)) := by have := hM.tail m x hx; simpa [slf] using this
        obtain ⟨l, u, hlu, hlz, hFl⟩ := hM.inner hx
        have HX := Lib.hid hx
        have HQ := Lib.hid hq
        have HST := Lib.hid hst
        have HLU := Lib.hid hlu
        have HLZ := Lib.hid hlz
        have hFl' : FlO one 1 l u wr (S m) x := hFl
        clear hx hq hst hlu hlz hFl
        have hk0' : (0 : Int) ≤ (m : Int) := by omega
        have hk1' : (m : Int) < (n : Int) := by omega
        go_wp2_with fail
        refine (markIntS_any (S m) (D m) l u q x wr hq0 hxl (by omega) hFl').mono ?_
        rintro e w2 ⟨rfl, hN2, hT2⟩
        go_wp2
        go_roundw
        case rel =>
          refine ⟨m + 1, by omega, by go_num, ?_, hM.step (w1 := wr) HX.out HLU.out HLZ.out [] rfl (fun j hj => by omega) rfl hT2 ?_⟩
          · have h1 := HQ.out
            have h2 := HST.out
            congr 1
            omega
          · have h1 := HQ.out
            rw [show k0 + (offG slf 0 xs m : Int) + ((0 : Nat) : Int) = q from by omega]
            exact hN2
        case measure => simp [intOf]; omega
      · have hkn : m = n := by omega
        subst hkn
        go_wp2
        go_ret
        exact ⟨ret_int (by first | rfl | exact hq), hM.num (by rw [← hN.out]; exact Nat.le_refl _), hM.touch⟩

set_option maxHeartbeats 1000000 in
set_option maxRecDepth 100000 in
theorem heldIntSS_any (A : Option Addr) (c lo hi : Nat) (k0 : Int) (xs : List (List Int)) (w : World) (hk : 0 ≤ k0) (hl : xs.length ≤ 16777216) (hn : offG slf 0 xs xs.length ≤ 16777216) (hk1 : k0 ≤ 549755813888) (hA : GNum slf 0 lo hi w A xs k0) :
    Calls Try.prog 26 #[.slice A xs.length c, .int .i64 k0] w fun e w' => e = .returned (.int .i64 (k0 + (offG slf 0 xs xs.length : Int))) ∧ w = w' := by
  obtain ⟨n, hnn⟩ : ∃ n, n = xs.length := ⟨_, rfl⟩
  rw [← hnn] at hl hn ⊢
  have hN := Lib.hid hnn
  clear hnn
  go_enter Try.func26, Try.ntmps26
  go_wp2
  go_loop [1, 5] (fun q i => ∃ m : Nat, m ≤ n ∧ i = .int .i64 m ∧ q = .int .i64 (k0 + (offG slf 0 xs m : Int))) (fun _ i => n - (intOf i).toNat)
  case atStart => exact ⟨0, by omega, rfl, by simp [offG]⟩
  case round =>
    obtain ⟨m, hm, rfl, rfl⟩ := hrel
    obtain ⟨q, hq⟩ : ∃ q, q = k0 + (offG slf 0 xs m : Int) := ⟨_, rfl⟩
    rw [← hq]
    by_cases hlt : m < n
    · obtain ⟨x, hx⟩ : ∃ x, xs[m]? = some x := ⟨_, List.getElem?_eq_getElem (by rw [← hN.out]; exact hlt)⟩
      have hof := offG_mono (tl := slf) (p := 0) (xs := xs) (show m + 1 ≤ n from hlt)
      have hst : offG slf 0 xs (m + 1) = offG slf 0 xs m + 0 + x.length := offG_step (tl := slf) (p := 0) hx
      obtain ⟨b, o, g, S, D, rfl, hb, _, _, hc, _⟩ := hA (fun e => by subst e; simp at hx)
      obtain ⟨h1, h2, h3⟩ := hc m x hx
      have hq0 : 0 ≤ q := by omega
      have hq1 : q ≤ 549772591104 := by omega
      have hxl : x.length ≤ 16777216 := by omega
      have c3 : World.cell? w ⟨b, o + m, none⟩ = some (.slice (S m) x.length (D m)) := by simpa [slf] using h2
      have h3' : Num (g m) (g m + 1) w (S m) x.length q := by rw [show q = k0 + (offG slf 0 xs m : Int) + ((0 : Nat) : Int) from by omega]; exact h3
      have HQ := Lib.hid hq
      have HST := Lib.hid hst
      have hp0 : ¬ q + (x.length : Int) < 0 := by omega
      clear hq hst h1 h2 h3 hA hx hc
      have hk0' : (0 : Int) ≤ (m : Int) := by omega
      have hk1' : (m : Int) < (n : Int) := by omega
      go_wp2_with fail
      refine (heldIntS_any (S m) x.length (D m) _ _ q w (by omega) hxl (by omega) h3').mono ?_
      rintro e w1 ⟨rfl, rfl⟩
      go_wp2
      go_round
      case rel =>
        refine ⟨m + 1, by omega, by go_num, ?_⟩
        have h1 := HQ.out
        have h2 := HST.out
        congr 1
        omega
      case measure => simp [intOf]; omega
    · have hkn : m = n := by omega
      subst hkn
      go_wp2
      go_ret
      exact ⟨ret_int (by first | rfl | exact hq), rfl⟩
end Go.Proofs.Ytbldoidcjkffdaa
