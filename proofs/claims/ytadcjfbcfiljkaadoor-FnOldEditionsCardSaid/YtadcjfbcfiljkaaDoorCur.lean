/- The current edition of a sheet: the program's and the reference's. -/
import Derived.Test.YtadcjfbcfiljkaaDoorAreEds
import Derived.Test.YtadcjfbcfiljkaaDoorGoodEds
namespace Go.Proofs.YtadcjfbcfiljkaaDoor
open Go.RowKit
set_option linter.unusedVariables false
set_option linter.unusedSimpArgs false

/-- the number of the last one that had appeared by a day, else 0 -/
def curF (day : Int) (acc : Int) (e : Nest) : Int := if e.c ≤ day then e.b else acc
def curN (day : Int) (ys : List Nest) : Int := ys.foldl (curF day) 0
theorem curN_step {day : Int} {ys : List Nest} {k : Nat} {x : Nest} (hx : ys[k]? = some x) : curN day (ys.take (k + 1)) = curF day (curN day (ys.take k)) x := by
  unfold curN
  rw [take_get hx, List.foldl_append]
  rfl
/-- the index of the last one of a sheet that had appeared by a day, else -1 -/
def onI (a day : Int) (xs : List Nest) : Nat → Int
  | 0 => -1
  | k + 1 => match xs[k]? with
    | none => onI a day xs k
    | some x => if x.a = a ∧ x.c ≤ day then k else onI a day xs k
theorem onI_t {a day : Int} {xs : List Nest} {k : Nat} {x : Nest} (hx : xs[k]? = some x) (h : x.a = a ∧ x.c ≤ day) : onI a day xs (k + 1) = k := by
  rw [onI, hx]
  simp [h]
theorem onI_f {a day : Int} {xs : List Nest} {k : Nat} {x : Nest} (hx : xs[k]? = some x) (h : ¬ (x.a = a ∧ x.c ≤ day)) : onI a day xs (k + 1) = onI a day xs k := by
  rw [onI, hx]
  simp only []
  rw [if_neg h]
theorem onI_p (a day : Int) (xs : List Nest) : ∀ k, k ≤ xs.length → (onI a day xs k = -1 ∧ curN day (ofS a (xs.take k)) = 0) ∨ ∃ (j : Nat) (l : Nest), onI a day xs k = j ∧ j < k ∧ xs[j]? = some l ∧ curN day (ofS a (xs.take k)) = l.b
  | 0, _ => .inl ⟨rfl, rfl⟩
  | k + 1, hk => by
    have hx : xs[k]? = some (xs[k]'(by omega)) := List.getElem?_eq_getElem (by omega)
    generalize xs[k]'(by omega) = x at hx
    have ih := onI_p a day xs k (by omega)
    rw [take_get hx]
    by_cases ha : x.a = a
    · rw [ofS_snoc_t ha]
      have hc : curN day (ofS a (xs.take k) ++ [x]) = curF day (curN day (ofS a (xs.take k))) x := by unfold curN; rw [List.foldl_append]; rfl
      rw [hc]
      by_cases hd : x.c ≤ day
      · exact .inr ⟨k, x, onI_t hx ⟨ha, hd⟩, by omega, hx, by rw [curF, if_pos hd]⟩
      · rw [onI_f hx (fun h => hd h.2), curF, if_neg hd]
        rcases ih with h | ⟨j, l, h1, h2, h3⟩
        · exact .inl h
        · exact .inr ⟨j, l, h1, by omega, h3⟩
    · rw [ofS_snoc_f ha, onI_f hx (fun h => ha h.1)]
      rcases ih with h | ⟨j, l, h1, h2, h3⟩
      · exact .inl h
      · exact .inr ⟨j, l, h1, by omega, h3⟩

set_option maxHeartbeats 1000000 in
set_option maxRecDepth 100000 in
theorem current_any (A : Option Addr) (c : Nat) (xs : List Nest) (sheet day : Int) (w : World) (hn : xs.length ≤ 1048576) (hA : Nl w A xs) :
    Calls Tryd.prog 32 #[.slice A xs.length c, .int .i64 sheet, .int .i64 day] w fun e w' => e = .returned (.int .i64 (curN day (ofS sheet xs))) ∧ Below w.heap.size w w' := by
  have hed := fun W hW => editionsOf_any A c xs sheet W (le22 hn) hW
  have hyl := Nat.le_trans (ofS_len sheet xs) hn
  generalize ofS sheet xs = ys at hed hyl ⊢
  generalize xs.length = m at hed ⊢
  obtain ⟨n, hnn⟩ : ∃ n, n = List.length ys := ⟨_, rfl⟩
  have HE := Lib.hid hed
  have hN := Lib.hid hnn
  rw [← hnn] at hyl
  clear hed hnn
  go_enter Tryd.func32, Tryd.ntmps32
  go_wp2_with fail
  refine (HE.out w hA).mono ?_
  rintro e w1 ⟨B, d, rfl, hB, hb1⟩
  rw [← hN.out]
  go_wp2
  go_loopw [7, 14] (fun v i wr => ∃ k : Nat, k ≤ n ∧ i = .int .i64 k ∧ v = .int .i64 (curN day (ys.take k)) ∧ Below w1.heap.size w1 wr) (fun _ i _ => n - (intOf i).toNat)
  case atStart => exact ⟨0, by omega, rfl, rfl, Below.refl _ _⟩
  case round =>
    obtain ⟨k, hk, rfl, rfl, hbr⟩ := hrel
    by_cases hlt : k < n
    · obtain ⟨x, b, o, A', d', hx, rfl, hb, hc, _⟩ := (hB.ext hbr).at_ (k := k) (by rw [← hN.out]; exact hlt)
      have c0 : World.cell? wr ⟨b, o + k * 4, none⟩ = some (.int .i64 x.a) := hc.ca
      have c1 : World.cell? wr ⟨b, o + k * 4 + 1, none⟩ = some (.int .i64 x.b) := hc.cb
      have c2 : World.cell? wr ⟨b, o + k * 4 + 2, none⟩ = some (.int .i64 x.c) := hc.cc
      have c3 : World.cell? wr ⟨b, o + k * 4 + 3, none⟩ = some (.slice A' x.l.length d') := hc.cl
      have hst := curN_step (day := day) hx
      generalize curN day (ys.take k) = q at hst ⊢
      have HST := Lib.hid hst
      clear hst hx hc hA hB
      have hk0 : (0 : Int) ≤ (k : Int) := by omega
      have hk1 : (k : Int) < (n : Int) := by omega
      by_cases hd : x.c ≤ day
      · go_wp2
        go_roundw
        case rel => exact ⟨k + 1, by omega, by go_num, by rw [HST.out, curF, if_pos hd], hbr.alloc hbr.size _⟩
        case measure => simp [intOf]; omega
      · go_wp2
        go_roundw
        case rel => exact ⟨k + 1, by omega, by go_num, by rw [HST.out, curF, if_neg (by omega)], hbr.alloc hbr.size _⟩
        case measure => simp [intOf]; omega
    · have hkn : k = n := by omega
      subst hkn
      rw [take_all (by rw [← hN.out]; exact Nat.le_refl _)]
      go_wp2
      go_ret
      exact ⟨rfl, ext_trans hb1 hbr⟩

set_option maxHeartbeats 1000000 in
set_option maxRecDepth 100000 in
theorem l18On_any (A : Option Addr) (c : Nat) (xs : List Nest) (sheet day : Int) (w : World) (hn : xs.length ≤ 1048576) (hA : Nl w A xs) :
    Calls Tryd.prog 44 #[.slice A xs.length c, .int .i64 sheet, .int .i64 day] w fun e w' => e = .returned (.int .i64 (onI sheet day xs xs.length)) ∧ w = w' := by
  obtain ⟨n, hnn⟩ : ∃ n, n = List.length xs := ⟨_, rfl⟩
  rw [← hnn] at hn ⊢
  have hN := Lib.hid hnn
  clear hnn
  go_enter Tryd.func44, Tryd.ntmps44
  go_wp2
  go_loop [7, 8] (fun v i => ∃ (k : Nat), k ≤ n ∧ i = .int .i64 k ∧ v = .int .i64 (onI sheet day xs k)) (fun _ i => n - (intOf i).toNat)
  case atStart => exact ⟨0, by omega, rfl, rfl⟩
  case round =>
    obtain ⟨k, hk, rfl, rfl⟩ := hrel
    by_cases hlt : k < n
    · obtain ⟨x, b, o, A', d, hx, rfl, hb, hc, _⟩ := hA.at_ (k := k) (by rw [← hN.out]; exact hlt)
      have c0 : World.cell? w ⟨b, o + k * 4, none⟩ = some (.int .i64 x.a) := hc.ca
      have c1 : World.cell? w ⟨b, o + k * 4 + 1, none⟩ = some (.int .i64 x.b) := hc.cb
      have c2 : World.cell? w ⟨b, o + k * 4 + 2, none⟩ = some (.int .i64 x.c) := hc.cc
      have c3 : World.cell? w ⟨b, o + k * 4 + 3, none⟩ = some (.slice A' x.l.length d) := hc.cl
      have HX := Lib.hid hx
      clear hx hc hA
      have hk0 : (0 : Int) ≤ (k : Int) := by omega
      have hk1 : (k : Int) < (n : Int) := by omega
      by_cases hs : x.a = sheet
      · have HS := Lib.hid hs
        by_cases hd : x.c ≤ day
        · have HD := Lib.hid hd
          go_wp2
          go_round
          case rel => exact ⟨k + 1, by omega, by go_num, by rw [onI_t HX.out ⟨HS.out, HD.out⟩]⟩
          case measure => simp [intOf]; omega
        · have HD := Lib.hid hd
          go_wp2
          go_round
          case rel => exact ⟨k + 1, by omega, by go_num, by rw [onI_f HX.out (fun h => HD.out h.2)]⟩
          case measure => simp [intOf]; omega
      · have HS := Lib.hid hs
        go_wp2
        go_round
        case rel => exact ⟨k + 1, by omega, by go_num, by rw [onI_f HX.out (fun h => HS.out h.1)]⟩
        case measure => simp [intOf]; omega
    · have hkn : k = n := by omega
      subst hkn
      go_wp2
      go_ret
      exact ⟨rfl, rfl⟩

def CurOk (xs : List Nest) (sheet day : Int) : Prop := Eds xs ∧ (1 ≤ sheet ∧ sheet ≤ 999) ∧ (0 ≤ day ∧ day ≤ 4000)
set_option maxHeartbeats 1000000 in
set_option maxRecDepth 100000 in
theorem currentOn_any (A : Option Addr) (c : Nat) (xs : List Nest) (sheet day : Int) (w : World) (hn : wt xs ≤ 1048576) (hcap : xs.length ≤ c) (hcm : c ≤ 9223372036854775807) (hA : Nl w A xs) :
    Calls Tryd.prog 8 #[.slice A xs.length c, .int .i64 sheet, .int .i64 day] w fun e w' => e = .returned (.tuple #[.int .i64 (seli (CurOk xs sheet day) (curN day (ofS sheet xs))), .bool (tb (CurOk xs sheet day))]) ∧ Below w.heap.size w w' := by
  have hare := areEditions_any A c xs w hn hcap hcm hA
  have hcur := fun W hW => current_any A c xs sheet day W (Nat.le_trans (wt_len xs) hn) hW
  generalize curN day (ofS sheet xs) = q at hcur ⊢
  generalize xs.length = n at hare hcur hcap ⊢
  have HA := Lib.hid hare
  have HC := Lib.hid hcur
  clear hare hcur
  go_enter Tryd.func8, Tryd.ntmps8
  go_wp2_with fail
  refine (HA.out).mono ?_
  rintro e w1 ⟨rfl, hb1⟩
  by_cases h1 : Eds xs
  · rw [tb_t h1]
    have H1 := Lib.hid h1
    clear h1
    by_cases h2 : 1 ≤ sheet ∧ sheet ≤ 999
    · go_wp2_with fail
      refine (isId_t sheet _ h2).mono ?_
      rintro e w2 ⟨rfl, rfl⟩
      by_cases h3 : 0 ≤ day ∧ day ≤ 4000
      · go_wp2_with fail
        refine (isDay_t day _ h3).mono ?_
        rintro e w2 ⟨rfl, rfl⟩
        go_wp2_with fail
        refine (HC.out _ (hA.ext hb1)).mono ?_
        rintro e w3 ⟨rfl, hb3⟩
        go_wp2
        go_ret2
        have hok : CurOk xs sheet day := ⟨H1.out, h2, h3⟩
        exact ⟨ret_ib (seli_t hok).symm (tb_t hok).symm, ext_trans hb1 hb3⟩
      · go_wp2_with fail
        refine (isDay_f day _ h3).mono ?_
        rintro e w2 ⟨rfl, rfl⟩
        go_wp2
        go_ret2
        have hok : ¬ CurOk xs sheet day := fun h => h3 h.2.2
        exact ⟨ret_ib (seli_f hok).symm (tb_f hok).symm, hb1⟩
    · go_wp2_with fail
      refine (isId_f sheet _ h2).mono ?_
      rintro e w2 ⟨rfl, rfl⟩
      go_wp2
      go_ret2
      have hok : ¬ CurOk xs sheet day := fun h => h2 h.2.1
      exact ⟨ret_ib (seli_f hok).symm (tb_f hok).symm, hb1⟩
  · rw [tb_f h1]
    have H1 := Lib.hid h1
    clear h1
    go_wp2
    go_ret2
    have hok : ¬ CurOk xs sheet day := fun h => H1.out h.1
    exact ⟨ret_ib (seli_f hok).symm (tb_f hok).symm, hb1⟩

end Go.Proofs.YtadcjfbcfiljkaaDoor
