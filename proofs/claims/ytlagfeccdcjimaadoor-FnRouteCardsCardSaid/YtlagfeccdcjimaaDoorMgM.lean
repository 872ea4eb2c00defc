/- A fraction in lowest terms on both sides. Minutes: the program's side. Minutes: the reference's side. No condition. -/
import Derived.Test.YtlagfeccdcjimaaDoorLegM
import Derived.Test.YtlagfeccdcjimaaDoorLegD
import Derived.Test.YtlagfeccdcjimaaDoorMxMn
import Derived.BigQuiet
import Derived.IntWalk
import Derived.Test.YtlagfeccdcjimaaDoorWlkI
import Derived.Test.YtlagfeccdcjimaaDoorLegP
namespace Go.Proofs.YtlagfeccdcjimaaDoor
open Go.RowKit
set_option linter.unusedVariables false
set_option linter.unusedSimpArgs false

/-- a number and 150 in lowest terms, and the least whole number of 150ths that is enough -/
def gG (s : Nat) : Nat := Nat.gcd s 150
theorem gG_facts (s : Nat) : 1 ≤ gG s ∧ gG s ≤ 150 ∧ s / gG s ≤ s ∧ 1 ≤ 150 / gG s ∧ 150 / gG s ≤ 150 ∧ (s / gG s + 150 / gG s - 1) / (150 / gG s) = (s + 149) / 150 ∧ s / gG s ≤ (s + 149) / 150 * (150 / gG s) ∧ (s + 149) / 150 * (150 / gG s) < s / gG s + 150 / gG s := by
  have hG : 0 < gG s := Nat.gcd_pos_of_pos_right s (by decide)
  have hp : s / gG s * gG s = s := Nat.div_mul_cancel (Nat.gcd_dvd_left s 150)
  have hq : 150 / gG s * gG s = 150 := Nat.div_mul_cancel (Nat.gcd_dvd_right s 150)
  have hGl : gG s ≤ 150 := Nat.le_of_dvd (by decide) (Nat.gcd_dvd_right s 150)
  have hps : s / gG s ≤ s := Nat.div_le_self _ _
  have hqs : 150 / gG s ≤ 150 := Nat.div_le_self _ _
  generalize gG s = G at *
  generalize s / G = p at *
  generalize 150 / G = q at *
  have hq1 : 1 ≤ q := by
    rcases Nat.eq_zero_or_pos q with h | h
    · subst h; omega
    · exact h
  have hz := Nat.div_add_mod (p + q - 1) q
  have hr := Nat.mod_lt (p + q - 1) hq1
  generalize (p + q - 1) / q = z at *
  generalize (p + q - 1) % q = r at *
  have e0 : p + q = q * z + r + 1 := by omega
  have e1 : s + 150 = 150 * z + r * G + G := by
    have h1 : (p + q) * G = (q * z + r + 1) * G := by rw [e0]
    rw [Nat.add_mul, hp, hq, Nat.add_mul, Nat.add_mul, Nat.one_mul] at h1
    rw [h1, Nat.mul_right_comm q z G, hq]
  have e2 : r * G + G ≤ 150 := by
    have h1 : (r + 1) * G ≤ q * G := Nat.mul_le_mul_right G hr
    rw [Nat.add_mul, Nat.one_mul, hq] at h1
    exact h1
  have e3 : z = (s + 149) / 150 := by omega
  refine ⟨hG, hGl, hps, hq1, hqs, e3, ?_, ?_⟩
  · rw [← e3, Nat.mul_comm]; omega
  · rw [← e3, Nat.mul_comm]; omega
def mnP (xs : List Leg) : Int := (((sumP xs).toNat / gG (sumP xs).toNat : Nat) : Int)
def mnQ (xs : List Leg) : Int := ((150 / gG (sumP xs).toNat : Nat) : Int)
def mnE (xs : List Leg) : Int := ((((sumP xs).toNat + 149) / 150 : Nat) : Int)
theorem sum_nat {xs : List Leg} (h : Rt xs) : ∃ s : Nat, sumP xs = s ∧ s ≤ 3600000 ∧ mnP xs = ((s / gG s : Nat) : Int) ∧ mnQ xs = ((150 / gG s : Nat) : Int) ∧ mnE xs = (((s + 149) / 150 : Nat) : Int) := by
  have hL : ∀ x ∈ xs, IsLeg x := fun x hx => by
    obtain ⟨i, hi⟩ := List.mem_iff_getElem?.1 hx
    exact h.1 i x hi
  have hb := sumP_bd xs hL
  have hn := h.2
  refine ⟨(sumP xs).toNat, by omega, by omega, rfl, rfl, rfl⟩
set_option maxHeartbeats 2000000 in
set_option maxRecDepth 100000 in
theorem gcd_any (a b : Nat) (w : World) :
    Calls Tryd.prog 53 #[.int .i64 (a : Int), .int .i64 (b : Int)] w fun e w' => e = .returned (.int .i64 ((Nat.gcd a b : Nat) : Int)) ∧ Below w.heap.size w w' := by
  obtain ⟨G, hG⟩ : ∃ z, z = Nat.gcd a b := ⟨_, rfl⟩
  rw [← hG]
  have HG := Lib.hid hG.symm
  clear hG
  go_enter Tryd.func53, Tryd.ntmps53
  go_wp2
  go_loopw [0, 1] (fun av bv wr => ∃ a' b' : Nat, av = .int .i64 (a' : Int) ∧ bv = .int .i64 (b' : Int) ∧ Hid (Nat.gcd a' b' = G) ∧ Below w.heap.size w wr) (fun _ bv _ => (intOf bv).toNat)
  case atStart => exact ⟨a, b, rfl, rfl, HG, Below.refl _ _⟩
  case round =>
    obtain ⟨a', b', rfl, rfl, hg, hbr⟩ := hrel
    by_cases hb : b' = 0
    · subst hb
      have hga : a' = G := by have := hg.out; rwa [Nat.gcd_zero_right] at this
      have HGA := Lib.hid hga
      clear hga
      go_wp2
      go_ret
      exact ⟨by rw [HGA.out]; rfl, hbr⟩
    · have hb0 : (0 : Int) < (b' : Int) := by omega
      have hbn : ((b' : Int) != 0) = true := by simp [hb]
      have hbz : ¬ ((b' : Int) = 0) := by omega
      obtain ⟨r, hr⟩ : ∃ r, r = a' % b' := ⟨_, rfl⟩
      have t1 : (a' : Int).tmod (b' : Int) = (r : Int) := by rw [hr]; rfl
      have t2 : (a' : Int) % (b' : Int) = (r : Int) := by rw [hr]; rfl
      have hlt : r < b' := by rw [hr]; exact Nat.mod_lt _ (by omega)
      have HN := Lib.hid (show Nat.gcd b' r = G from by rw [hr, ← hg.out, Nat.gcd_comm a' b', Nat.gcd_rec b' a', Nat.gcd_comm])
      have hpc := plus_cell wr
      clear hr
      go_wp2_with fail
      refine wp_region_grow (by kernel_rfl) (by kernel_rfl) ?_
      repeat (go_big_quiet_step ((first | (fail))))
      refine wpQuiet_nil ?_
      intro w1 hb1
      go_wp2
      go_roundw
      case rel => exact ⟨b', r, rfl, rfl, HN, ext_trans hbr hb1⟩
      case measure => simp [intOf] <;> omega
theorem absG_any (n : Int) (h : 0 ≤ n ∧ n ≤ 4000000) (w : World) :
    Calls Tryd.prog 24 #[.int .i64 n] w fun e w' => e = .returned (.int .i64 n) ∧ w = w' := by
  obtain ⟨m, hm⟩ : ∃ z, z = -n := ⟨_, rfl⟩
  have hw : IntKind.i64.wrap (-n) = m := by rw [hm]; exact IntWalk.i64_in _ (by omega)
  by_cases hn : n < m
  · omega
  · have hn2 : m ≤ n := by omega
    clear h hm
    go_enter Tryd.func24, Tryd.ntmps24
    go_wp2
    go_ret
    exact ⟨rfl, rfl⟩
set_option maxHeartbeats 2000000 in
set_option maxRecDepth 100000 in
theorem fraction_any (s : Nat) (hs : s ≤ 4000000) (w : World) :
    Calls Tryd.prog 37 #[.int .i64 (s : Int), .int .i64 150] w fun e w' => e = .returned (.tuple #[.int .i64 ((s / gG s : Nat) : Int), .int .i64 ((150 / gG s : Nat) : Int)]) ∧ Below w.heap.size w w' := by
  have HC := Lib.hid (fun W => gcd_any s 150 W)
  have hs0 : (0 : Int) ≤ (s : Int) := by omega
  have hs9 : (s : Int) ≤ 4000000 := by omega
  obtain ⟨g1, g2, g3, g4, g5, _⟩ := gG_facts s
  obtain ⟨G, hG⟩ : ∃ z, z = gG s := ⟨_, rfl⟩
  obtain ⟨p, hp⟩ : ∃ z, z = s / gG s := ⟨_, rfl⟩
  obtain ⟨q, hq⟩ : ∃ z, z = 150 / gG s := ⟨_, rfl⟩
  have t1 : (s : Int).tdiv (G : Int) = (p : Int) := by rw [hp, hG]; rfl
  have t2 : Int.tdiv 150 (G : Int) = (q : Int) := by rw [hq, hG]; rfl
  have t3 : (s : Int) / (G : Int) = (p : Int) := by rw [hp, hG]; rfl
  have t4 : (150 : Int) / (G : Int) = (q : Int) := by rw [hq, hG]; rfl
  rw [← hG] at g1 g2
  rw [← hp] at g3
  rw [← hq] at g4 g5
  have hGz : ¬ ((G : Int) = 0) := by omega
  have hG0 : (0 : Int) < (G : Int) := by omega
  have y1 : IntKind.i64.wrap (p : Int) = (p : Int) := IntWalk.i64_in _ (by omega)
  have y2 : IntKind.i64.wrap (q : Int) = (q : Int) := IntWalk.i64_in _ (by omega)
  rw [← hp, ← hq]
  have HG := Lib.hid hG
  clear hG hp hq
  have HC2 := Lib.hid (show ∀ W, Calls Tryd.prog 53 #[.int .i64 (s : Int), .int .i64 150] W fun e w' => e = .returned (.int .i64 (G : Int)) ∧ Below W.heap.size W w' from fun W => by rw [HG.out]; exact HC.out W)
  clear HC
  go_enter Tryd.func37, Tryd.ntmps37
  go_wp2_with fail
  ((with_reducible refine (absG_any _ ⟨hs0, hs9⟩ _).mono ?_); rintro e _ ⟨rfl, rfl⟩)
  go_wp2_with fail
  ((with_reducible refine (HC2.out _).mono ?_); rintro e wa ⟨rfl, hba⟩)
  have hpc := plus_cell wa
  go_wp2_with fail
  refine wp_region_grow (by kernel_rfl) (by kernel_rfl) ?_
  repeat (go_big_quiet_step ((first | (fail))))
  refine wpQuiet_nil ?_
  intro w1 hb1
  go_wp2
  go_ret2
  exact ⟨rfl, ext_trans hba hb1⟩
set_option maxHeartbeats 2000000 in
set_option maxRecDepth 100000 in
theorem l2ReduceG_any (s : Nat) (hs : s ≤ 4000000) (w : World) :
    Calls Tryd.prog 40 #[.int .i64 (s : Int), .int .i64 150] w fun e w' => e = .returned (.tuple #[.int .i64 ((s / gG s : Nat) : Int), .int .i64 ((150 / gG s : Nat) : Int)]) ∧ Below w.heap.size w w' := by
  have hs0 : (0 : Int) ≤ (s : Int) := by omega
  have hmx : max (s : Int) (-(s : Int)) = (s : Int) := by omega
  have HGD := Lib.hid (show Nat.gcd s 150 = gG s from rfl)
  obtain ⟨g1, g2, g3, g4, g5, _⟩ := gG_facts s
  obtain ⟨G, hG⟩ : ∃ z, z = gG s := ⟨_, rfl⟩
  obtain ⟨p, hp⟩ : ∃ z, z = s / gG s := ⟨_, rfl⟩
  obtain ⟨q, hq⟩ : ∃ z, z = 150 / gG s := ⟨_, rfl⟩
  have t1 : (s : Int).tdiv (G : Int) = (p : Int) := by rw [hp, hG]; rfl
  have t2 : Int.tdiv 150 (G : Int) = (q : Int) := by rw [hq, hG]; rfl
  have t3 : (s : Int) / (G : Int) = (p : Int) := by rw [hp, hG]; rfl
  have t4 : (150 : Int) / (G : Int) = (q : Int) := by rw [hq, hG]; rfl
  rw [← hG] at g1 g2
  rw [← hp] at g3
  rw [← hq] at g4 g5
  have hGz : ¬ ((G : Int) = 0) := by omega
  have hG0 : (0 : Int) < (G : Int) := by omega
  have y1 : IntKind.i64.wrap (p : Int) = (p : Int) := IntWalk.i64_in _ (by omega)
  have y2 : IntKind.i64.wrap (q : Int) = (q : Int) := IntWalk.i64_in _ (by omega)
  rw [← hp, ← hq]
  have HG := Lib.hid hG
  clear hG hp hq
  rw [← HG.out] at HGD
  go_enter Tryd.func40, Tryd.ntmps40
  go_wp2_with fail
  ((with_reducible refine (l1Mx_any _ _ _).mono ?_); rintro e w4 ⟨rfl, rfl⟩)
  rw [hmx]
  clear hmx
  go_wp2
  go_loopw [6, 7] (fun av bv wr => ∃ a' b' : Nat, av = .int .i64 (a' : Int) ∧ bv = .int .i64 (b' : Int) ∧ Hid (Nat.gcd a' b' = G) ∧ Below w.heap.size w wr) (fun _ bv _ => (intOf bv).toNat)
  case atStart => exact ⟨s, 150, rfl, rfl, HGD, Below.refl _ _⟩
  case round =>
    obtain ⟨a', b', rfl, rfl, hg, hbr⟩ := hrel
    by_cases hb : b' = 0
    · subst hb
      have hga : a' = G := by have := hg.out; rwa [Nat.gcd_zero_right] at this
      subst hga
      have hpc := plus_cell wr
      go_wp2_with fail
      refine wp_region_grow (by kernel_rfl) (by kernel_rfl) ?_
      repeat (go_big_quiet_step ((first | (fail))))
      refine wpQuiet_nil ?_
      intro w1 hb1
      go_wp2
      go_ret2
      exact ⟨rfl, ext_trans hbr hb1⟩
    · have hb0 : (0 : Int) < (b' : Int) := by omega
      have hbn : ((b' : Int) != 0) = true := by simp [hb]
      have hbz : ¬ ((b' : Int) = 0) := by omega
      obtain ⟨r, hr⟩ : ∃ r, r = a' % b' := ⟨_, rfl⟩
      have u1 : (a' : Int).tmod (b' : Int) = (r : Int) := by rw [hr]; rfl
      have u2 : (a' : Int) % (b' : Int) = (r : Int) := by rw [hr]; rfl
      have hlt : r < b' := by rw [hr]; exact Nat.mod_lt _ (by omega)
      have HN := Lib.hid (show Nat.gcd b' r = G from by rw [hr, ← hg.out, Nat.gcd_comm a' b', Nat.gcd_rec b' a', Nat.gcd_comm])
      clear hr
      go_wp2
      go_roundw
      case rel => exact ⟨b', r, rfl, rfl, HN, hbr⟩
      case measure => simp [intOf] <;> omega
end Go.Proofs.YtlagfeccdcjimaaDoor
namespace Go.Proofs.YtlagfeccdcjimaaDoor
open Go.RowKit
set_option linter.unusedVariables false
set_option linter.unusedSimpArgs false

set_option maxHeartbeats 2000000 in
set_option maxRecDepth 100000 in
theorem minutesOf_any (A : Option Addr) (c : Nat) (xs : List Leg) (w : World) (hn : xs.length ≤ 1048576) (hA : Fl Leg.ints 3 w A xs) :
    Calls Tryd.prog 15 #[.slice A xs.length c] w (fun e w' => e = .returned (.tuple #[.int .i64 (seli (Rt xs) (mnP xs)), .int .i64 (seli (Rt xs) (mnQ xs)), .bool (tb (Rt xs))]) ∧ Below w.heap.size w w') := by
  have hgr := isRoute_any A c xs w hn hA
  by_cases hR : Rt xs
  · rw [tb_t hR] at hgr
    obtain ⟨s, hs1, hs2, hp, hq, _⟩ := sum_nat hR
    have hmi := fun W (hW : Below w.heap.size w W) => minutes_any A c xs W hR.2 (rt_legs hR) (hA.ext hW)
    simp only [hs1] at hmi
    have HMI := Lib.hid hmi
    have HF := Lib.hid (fun W => fraction_any s (by omega) W)
    rw [seli_t hR, seli_t hR, tb_t hR, hp, hq]
    obtain ⟨p, hp'⟩ : ∃ z : Int, z = ((s / gG s : Nat) : Int) := ⟨_, rfl⟩
    obtain ⟨q, hq'⟩ : ∃ z : Int, z = ((150 / gG s : Nat) : Int) := ⟨_, rfl⟩
    rw [← hp', ← hq'] at HF ⊢
    have HG := Lib.hid hgr
    generalize xs.length = n at *
    clear hgr hmi hs1 hp hq hp' hq' hR
    go_enter Tryd.func15, Tryd.ntmps15
    go_wp2_with fail
    ((with_reducible refine (HG.out).mono ?_); rintro e w1 ⟨rfl, hb1⟩)
    go_wp2_with fail
    ((with_reducible refine (HMI.out _ hb1).mono ?_); rintro e w2 ⟨rfl, hb2⟩)
    go_wp2_with fail
    ((with_reducible refine (HF.out _).mono ?_); rintro e w3 ⟨rfl, hb3⟩)
    go_wp2
    go_ret3
    exact ⟨rfl, ext_trans (ext_trans hb1 hb2) hb3⟩
  · rw [tb_f hR] at hgr
    rw [seli_f hR, seli_f hR, tb_f hR]
    have HG := Lib.hid hgr
    generalize xs.length = n at *
    clear hgr hR
    go_enter Tryd.func15, Tryd.ntmps15
    go_wp2_with fail
    ((with_reducible refine (HG.out).mono ?_); rintro e w1 ⟨rfl, hb1⟩)
    go_wp2
    go_ret3
    exact ⟨rfl, hb1⟩
set_option maxHeartbeats 2000000 in
set_option maxRecDepth 100000 in
theorem enough_any (A : Option Addr) (c : Nat) (xs : List Leg) (w : World) (hn : xs.length ≤ 1048576) (hA : Fl Leg.ints 3 w A xs) :
    Calls Tryd.prog 17 #[.slice A xs.length c] w fun e w' => e = .returned (.tuple #[.int .i64 (seli (Rt xs) (mnE xs)), .bool (tb (Rt xs))]) ∧ Below w.heap.size w w' := by
  have hgr := isRoute_any A c xs w hn hA
  by_cases hR : Rt xs
  · rw [tb_t hR] at hgr
    obtain ⟨s, hs1, hs2, _, _, he⟩ := sum_nat hR
    have hmi := fun W (hW : Below w.heap.size w W) => minutes_any A c xs W hR.2 (rt_legs hR) (hA.ext hW)
    simp only [hs1] at hmi
    have HMI := Lib.hid hmi
    rw [seli_t hR, tb_t hR, he]
    obtain ⟨z, hz⟩ : ∃ z : Int, z = (((s + 149) / 150 : Nat) : Int) := ⟨_, rfl⟩
    rw [← hz]
    have w1 : IntKind.i64.wrap ((s : Int) + 149) = (s : Int) + 149 := IntWalk.i64_in _ (by omega)
    have w2 : ((s : Int) + 149).tdiv 150 = z := by rw [Int.tdiv_eq_ediv_of_nonneg (by omega), hz]; omega
    have w3 : ((s : Int) + 149) / 150 = z := by rw [hz]; omega
    have w4 : IntKind.i64.wrap z = z := IntWalk.i64_in _ (by omega)
    have HG := Lib.hid hgr
    generalize xs.length = n at *
    clear hgr hmi hs1 he hz hR
    go_enter Tryd.func17, Tryd.ntmps17
    go_wp2_with fail
    ((with_reducible refine (HG.out).mono ?_); rintro e w1 ⟨rfl, hb1⟩)
    go_wp2_with fail
    ((with_reducible refine (HMI.out _ hb1).mono ?_); rintro e w2 ⟨rfl, hb2⟩)
    go_wp2
    go_ret2
    exact ⟨rfl, ext_trans hb1 hb2⟩
  · rw [tb_f hR] at hgr
    rw [seli_f hR, tb_f hR]
    have HG := Lib.hid hgr
    generalize xs.length = n at *
    clear hgr hR
    go_enter Tryd.func17, Tryd.ntmps17
    go_wp2_with fail
    ((with_reducible refine (HG.out).mono ?_); rintro e w1 ⟨rfl, hb1⟩)
    go_wp2
    go_ret2
    exact ⟨rfl, hb1⟩
end Go.Proofs.YtlagfeccdcjimaaDoor
namespace Go.Proofs.YtlagfeccdcjimaaDoor
open Go.RowKit
set_option linter.unusedVariables false
set_option linter.unusedSimpArgs false

set_option maxHeartbeats 2000000 in
set_option maxRecDepth 100000 in
theorem specMinutesOf_any (A : Option Addr) (c : Nat) (xs : List Leg) (w : World) (hn : xs.length ≤ 1048576) (hA : Fl Leg.ints 3 w A xs) :
    Calls Tryd.prog 16 #[.slice A xs.length c] w (fun e w' => e = .returned (.tuple #[.int .i64 (seli (Rt xs) (mnP xs)), .int .i64 (seli (Rt xs) (mnQ xs)), .bool (tb (Rt xs))]) ∧ Below w.heap.size w w') := by
  have hgr := l15Good_any A c xs w hn hA
  by_cases hR : Rt xs
  · rw [tb_t hR] at hgr
    obtain ⟨s, hs1, hs2, hp, hq, _⟩ := sum_nat hR
    have HF := Lib.hid (fun W => l2ReduceG_any s (by omega) W)
    rw [seli_t hR, seli_t hR, tb_t hR, hp, hq]
    obtain ⟨p, hp'⟩ : ∃ z : Int, z = ((s / gG s : Nat) : Int) := ⟨_, rfl⟩
    obtain ⟨q, hq'⟩ : ∃ z : Int, z = ((150 / gG s : Nat) : Int) := ⟨_, rfl⟩
    rw [← hp', ← hq'] at HF ⊢
    have hL := rt_legs hR
    have hn12 := hR.2
    have hbd := fun (k : Nat) => sumP_bd (xs.take k) (fun x hx => hL x (List.mem_of_mem_take hx))
    have HS := Lib.hid hs1
    obtain ⟨n, hnn⟩ : ∃ n, n = List.length xs := ⟨_, rfl⟩
    rw [← hnn] at hgr hn12 hn ⊢
    have HN := Lib.hid hnn
    have HG := Lib.hid hgr
    have HL := Lib.hid hL
    have HBD := Lib.hid hbd
    clear hnn hgr hL hbd hR hs1 hp hq hp' hq'
    go_enter Tryd.func16, Tryd.ntmps16
    go_wp2_with fail
    ((with_reducible refine (HG.out).mono ?_); rintro e w1 ⟨rfl, hb1⟩)
    go_wp2
    go_loopw [5, 6] (fun sv iv wr => ∃ k : Nat, k ≤ n ∧ sv = .int .i64 (sumP (xs.take k)) ∧ iv = .int .i64 (k : Int) ∧ Below w.heap.size w wr) (fun _ iv _ => n - (intOf iv).toNat)
    case atStart => exact ⟨0, by omega, by simp [sumP], rfl, hb1⟩
    case round =>
      obtain ⟨k, hk, rfl, rfl, hbr⟩ := hrel
      have hs1 := HBD.out k
      rw [List.length_take] at hs1
      by_cases hlt : k < n
      · obtain ⟨x, b, o, hx, hAe, hbb, hc⟩ := (hA.ext hbr).at_ (k := k) (by rw [← HN.out]; exact hlt)
        subst hAe
        have c0 : World.cell? wr ⟨b, o + k * 3, none⟩ = some (.int .i64 x.way) := hc 0 _ rfl
        have c1 : World.cell? wr ⟨b, o + k * 3 + 1, none⟩ = some (.int .i64 x.units) := hc 1 _ rfl
        have c2 : World.cell? wr ⟨b, o + k * 3 + 2, none⟩ = some (.int .i64 x.climb) := hc 2 _ rfl
        have hlg := HL.out x (List.mem_of_getElem? hx)
        have hpb := partsL_bd hlg
        have hst : sumP (xs.take (k + 1)) = sumP (xs.take k) + partsL x := by rw [take_get hx, sumP_snoc]
        have HPT := Lib.hid (fun W => l15Parts_any x hlg W)
        obtain ⟨s0, hs0⟩ : ∃ y, y = sumP (xs.take k) := ⟨_, rfl⟩
        obtain ⟨p0, hp0⟩ : ∃ y, y = partsL x := ⟨_, rfl⟩
        rw [← hs0, ← hp0] at hst
        rw [← hs0] at hs1 ⊢
        rw [← hp0] at hpb HPT
        have HST := Lib.hid hst
        have hk0 : (0 : Int) ≤ (k : Int) := by omega
        have hk1 : (k : Int) < (n : Int) := by omega
        clear hc hx hlg hst hs0 hp0
        go_wp2_with fail
        ((with_reducible refine (HPT.out _).mono ?_); rintro e w5 ⟨rfl, hb5⟩)
        go_wp2
        go_roundw
        case rel => exact ⟨k + 1, by omega, by rw [HST.out], by go_num, ext_trans hbr hb5⟩
        case measure => simp [intOf]; omega
      · have hkn : k = n := by omega
        subst hkn
        rw [take_all (by rw [← HN.out]; exact Nat.le_refl _), HS.out]
        clear hs1
        go_wp2_with fail
        ((with_reducible refine (HF.out _).mono ?_); rintro e w5 ⟨rfl, hb5⟩)
        go_wp2
        go_ret3
        exact ⟨rfl, ext_trans hbr hb5⟩
  · rw [tb_f hR] at hgr
    rw [seli_f hR, seli_f hR, tb_f hR]
    have HG := Lib.hid hgr
    generalize xs.length = n at *
    clear hgr hR
    go_enter Tryd.func16, Tryd.ntmps16
    go_wp2_with fail
    ((with_reducible refine (HG.out).mono ?_); rintro e w1 ⟨rfl, hb1⟩)
    go_wp2
    go_ret3
    exact ⟨rfl, hb1⟩
set_option maxHeartbeats 2000000 in
set_option maxRecDepth 100000 in
theorem specEnoughE_any (A : Option Addr) (c : Nat) (xs : List Leg) (w : World) (hn : xs.length ≤ 1048576) (hA : Fl Leg.ints 3 w A xs) :
    Calls Tryd.prog 18 #[.slice A xs.length c] w fun e w' => e = .returned (.tuple #[.int .i64 (seli (Rt xs) (mnE xs)), .bool (tb (Rt xs))]) ∧ Below w.heap.size w w' := by
  have hm := specMinutesOf_any A c xs w hn hA
  by_cases hR : Rt xs
  · obtain ⟨s, _, hs2, hp, hq, he⟩ := sum_nat hR
    obtain ⟨g1, g2, g3, g4, g5, g6, _⟩ := gG_facts s
    rw [seli_t hR, seli_t hR, tb_t hR, hp, hq] at hm
    rw [seli_t hR, tb_t hR, he]
    obtain ⟨p, hp'⟩ : ∃ z, z = s / gG s := ⟨_, rfl⟩
    obtain ⟨q, hq'⟩ : ∃ z, z = 150 / gG s := ⟨_, rfl⟩
    obtain ⟨z, hz⟩ : ∃ z, z = (s + 149) / 150 := ⟨_, rfl⟩
    rw [← hp', ← hq'] at hm g6
    rw [← hp'] at g3
    rw [← hq'] at g4 g5
    rw [← hz] at g6 ⊢
    have w1 : IntKind.i64.wrap ((p : Int) + (q : Int)) = (p : Int) + (q : Int) := IntWalk.i64_in _ (by omega)
    have w2 : IntKind.i64.wrap ((p : Int) + (q : Int) - 1) = (p : Int) + (q : Int) - 1 := IntWalk.i64_in _ (by omega)
    have w0 : (p : Int) + (q : Int) - 1 = ((p + q - 1 : Nat) : Int) := by omega
    have w3 : ((p : Int) + (q : Int) - 1).tdiv (q : Int) = (z : Int) := by rw [w0, ← g6]; rfl
    have w4 : ((p : Int) + (q : Int) - 1) / (q : Int) = (z : Int) := by rw [w0, ← g6]; rfl
    have w5 : IntKind.i64.wrap (z : Int) = (z : Int) := IntWalk.i64_in _ (by omega)
    have hqz : ¬ ((q : Int) = 0) := by omega
    have hq0 : (0 : Int) < (q : Int) := by omega
    have HM := Lib.hid hm
    generalize xs.length = n at *
    clear hm hp hq he hp' hq' hz g6 hR w0
    go_enter Tryd.func18, Tryd.ntmps18
    go_wp2_with fail
    ((with_reducible refine (HM.out).mono ?_); rintro e w1 ⟨rfl, hb1⟩)
    go_wp2
    go_ret2
    exact ⟨rfl, hb1⟩
  · rw [seli_f hR, seli_f hR, tb_f hR] at hm
    rw [seli_f hR, tb_f hR]
    have HM := Lib.hid hm
    generalize xs.length = n at *
    clear hm hR
    go_enter Tryd.func18, Tryd.ntmps18
    go_wp2_with fail
    ((with_reducible refine (HM.out).mono ?_); rintro e w1 ⟨rfl, hb1⟩)
    go_wp2
    go_ret2
    exact ⟨rfl, hb1⟩
end Go.Proofs.YtlagfeccdcjimaaDoor
