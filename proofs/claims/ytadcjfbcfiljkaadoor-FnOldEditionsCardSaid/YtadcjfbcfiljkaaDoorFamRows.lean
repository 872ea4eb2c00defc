/- The laws' own functions over [][]int: the comparison, the marks. -/
import Derived.Test.YtadcjfbcfiljkaaDoorFamInt
import Derived.Test.YtadcjfbcfiljkaaDoorGen
namespace Go.Proofs.YtadcjfbcfiljkaaDoor
open Go.RowKit
set_option linter.unusedVariables false
set_option linter.unusedSimpArgs false

theorem infoRows : (Tryd.prog.info? 31).map (fun i => (i.zero, i.size, i.bytes)) = some (some (.slice none 0 0), 1, 24) := by kernel_rfl
/-- a call that hands back new rows and a bool, and leaves what was there -/
def RetS (w : World) (ys : List (List Int)) (ok : Bool) (e : Ending) (w' : World) : Prop :=
  ∃ B d, e = .returned (.tuple #[.slice B ys.length d, .bool ok]) ∧ GlO nohd slf 0 w.heap.size w'.heap.size w' B ys ∧ Below w.heap.size w w'

def rwt : List (List Int) → Nat
  | [] => 0
  | x :: r => 1 + x.length + rwt r
theorem rwt_len : ∀ xs : List (List Int), xs.length ≤ rwt xs
  | [] => Nat.le_refl _
  | x :: r => by have := rwt_len r; simp [rwt]; omega
theorem rwt_append (xs ys : List (List Int)) : rwt (xs ++ ys) = rwt xs + rwt ys := by
  induction xs with
  | nil => simp [rwt]
  | cons x r ih => simp [rwt, ih]; omega
theorem rwt_in {xs : List (List Int)} {x : List Int} (h : x ∈ xs) : x.length ≤ rwt xs := by
  induction xs with
  | nil => simp at h
  | cons y r ih =>
    rcases List.mem_cons.1 h with rfl | h
    · simp [rwt]; omega
    · have := ih h
      simp [rwt]; omega
theorem rwt_take (xs : List (List Int)) : ∀ k, offG slf 0 xs k ≤ rwt (xs.take k)
  | 0 => by simp [offG]
  | k + 1 => by
    have ih := rwt_take xs k
    rcases hx : xs[k]? with _ | x
    · rw [offG, hx, show xs.take (k + 1) = xs.take k by rw [List.take_add_one, hx]; simp]
      simpa using ih
    · rw [offG_step hx, take_get hx, rwt_append]
      simp [rwt, slf]
      omega
theorem rwt_off (xs : List (List Int)) : offG slf 0 xs xs.length ≤ rwt xs := by
  have := rwt_take xs xs.length
  rwa [List.take_length] at this

set_option maxHeartbeats 1000000 in
set_option maxRecDepth 100000 in
theorem rTable_same (A B : Option Addr) (c d : Nat) (xs : List (List Int)) (w : World) (hn : rwt xs ≤ 1152921504606846976) (hA : Gl nohd slf 0 w A xs) (hB : Gl nohd slf 0 w B xs) :
    Calls Tryd.prog 23 #[.slice A xs.length c, .slice B xs.length d] w fun e w' => e = .returned (.bool true) ∧ Below w.heap.size w w' := by
  have hin := fun x (hx : x ∈ xs) => rwt_in hx
  have hwl := rwt_len xs
  obtain ⟨n, hnn⟩ : ∃ n, n = List.length xs := ⟨_, rfl⟩
  rw [← hnn] at hwl ⊢
  have hN := Lib.hid hnn
  clear hnn
  go_enter Tryd.func23, Tryd.ntmps23
  go_wp2
  go_loopw [5] (fun i wr => ∃ k : Nat, k ≤ n ∧ i = .int .i64 k ∧ Below w.heap.size w wr) (fun i _ => n - (intOf i).toNat)
  case atStart => exact ⟨0, by omega, rfl, Below.refl _ _⟩
  case round =>
    obtain ⟨k, hk, rfl, hbr⟩ := hrel
    by_cases hlt : k < n
    · have hBr := hB.ext hbr
      obtain ⟨x, b, o, A', d', hx, rfl, hb, hc, hfl⟩ := (hA.ext hbr).at_ (k := k) (by rw [← hN.out]; exact hlt)
      obtain ⟨y, b2, o2, A2, d2, hy, rfl, hb2, hc2, hfl2⟩ := hBr.at_ (k := k) (by rw [← hN.out]; exact hlt)
      rw [hx] at hy
      cases hy
      have hxl : x.length ≤ 1152921504606846976 := Nat.le_trans (hin x (List.mem_of_getElem? hx)) hn
      have c0 : World.cell? wr ⟨b, o + k, none⟩ = some (.slice A' x.length d') := by have := hc.ct; simpa [slf] using this
      have c1 : World.cell? wr ⟨b2, o2 + k, none⟩ = some (.slice A2 x.length d2) := by have := hc2.ct; simpa [slf] using this
      have hfl' : Fl one 1 wr A' x := hfl
      have hfl2' : Fl one 1 wr A2 x := hfl2
      clear hc hc2 hA hB hx hBr hfl hfl2
      have hpc := plus_cell wr
      have hk0 : (0 : Int) ≤ (k : Int) := by omega
      have hk1 : (k : Int) < (n : Int) := by omega
      go_wp2_with fail
      refine wp_region_grow (by kernel_rfl) (by kernel_rfl) ?_
      repeat (go_big_quiet_step ((first | (go_at_call 22; exact quiet_below (rInts_same A' A2 d' d2 x _ hxl (hfl'.ext (plus_below _ _)) (hfl2'.ext (plus_below _ _)))))))
      refine wpQuiet_nil ?_
      intro w1 hb1
      go_wp2
      go_roundw
      case rel => exact ⟨k + 1, by omega, by go_num, ext_trans hbr hb1⟩
      case measure => simp [intOf]; omega
    · have hkn : k = n := by omega
      subst hkn
      go_wp2
      go_ret
      exact ⟨rfl, hbr⟩

end Go.Proofs.YtadcjfbcfiljkaaDoor
