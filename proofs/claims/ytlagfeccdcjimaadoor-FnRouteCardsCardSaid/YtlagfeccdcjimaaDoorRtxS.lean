/- The text of a route: the reference's. No condition. -/
import Derived.Test.YtlagfeccdcjimaaDoorRtxD
import Derived.Test.YtlagfeccdcjimaaDoorTxtS
namespace Go.Proofs.YtlagfeccdcjimaaDoor
open Go.RowKit
set_option linter.unusedVariables false
set_option linter.unusedSimpArgs false

set_option maxHeartbeats 4000000 in
set_option maxRecDepth 100000 in
theorem specRouteText_any (A : Option Addr) (c : Nat) (xs : List Leg) (w : World) (hn : xs.length ≤ 1048576) (hA : Fl Leg.ints 3 w A xs) :
    Calls Tryd.prog 21 #[.slice A xs.length c] w (fun e w' => e = .returned (.tuple #[.string (selt (Rt xs) (rtT xs)), .bool (tb (Rt xs))]) ∧ Below w.heap.size w w') := by
  have hgr := l15Good_any A c xs w hn hA
  by_cases hR : Rt xs
  · rw [tb_t hR] at hgr
    rw [selt_t hR, tb_t hR]
    have hL := rt_legsT hR
    have hn12 : xs.length ≤ 12 := hR.2
    have HL := Lib.hid hL
    clear hR hL
    obtain ⟨n, hnn⟩ : ∃ n, n = List.length xs := ⟨_, rfl⟩
    rw [← hnn] at hgr hn12 hn ⊢
    have hN := Lib.hid hnn
    have HG := Lib.hid hgr
    clear hnn hgr
    go_enter Tryd.func21, Tryd.ntmps21
    go_wp2_with fail
    ((with_reducible refine (HG.out).mono ?_); rintro e w1 ⟨rfl, hb1⟩)
    have hA1 := hA.ext hb1
    rcases Nat.eq_zero_or_pos n with hz | hz
    · have hz0 : ((n : Int) == 0) = true := by simp [hz]
      have HNI := Lib.hid (show xs = [] from List.length_eq_zero_iff.1 (by rw [← hN.out]; exact hz))
      clear hz
      go_wp2
      refine bodyPost_ret (v := .tuple #[.string ⟨#[45]⟩, .bool true]) (by simp [results, Tryd.results21, go_sem]) rfl ⟨by rw [HNI.out]; rfl, hb1⟩
    · have hz0 : ((n : Int) == 0) = false := beq_eq_false_iff_ne.2 (by omega)
      have HNE := Lib.hid (show xs ≠ [] from fun e => by have := hN.out; rw [e] at this; simp at this; omega)
      go_wp2
      go_loopw [4, 5] (fun s i wr => ∃ k : Nat, k ≤ n ∧ i = .int .i64 k ∧ s = .string (joinS (txts (xs.take k))) ∧ Below w1.heap.size w1 wr) (fun _ i _ => n - (intOf i).toNat)
      case atStart => exact ⟨0, by omega, rfl, rfl, Below.refl _ _⟩
      case round =>
        obtain ⟨k, hk, rfl, rfl, hbr⟩ := hrel
        have hS := txts_bd (l := xs.take k) (fun y hy => HL.out y (List.mem_of_mem_take hy))
        rw [List.length_take, ← hN.out] at hS
        by_cases hlt : k < n
        · obtain ⟨x, b, o, hx, hAe, hb, hc⟩ := (hA1.ext hbr).at_ (k := k) (by rw [← hN.out]; exact hlt)
          subst hAe
          have c0 : World.cell? wr ⟨b, o + k * 3, none⟩ = some (.int .i64 x.way) := hc 0 _ rfl
          have c1 : World.cell? wr ⟨b, o + k * 3 + 1, none⟩ = some (.int .i64 x.units) := hc 1 _ rfl
          have c2 : World.cell? wr ⟨b, o + k * 3 + 2, none⟩ = some (.int .i64 x.climb) := hc 2 _ rfl
          have h := HL.out x (List.mem_of_getElem? hx)
          have HT := Lib.hid (take_get hx)
          have HLT := Lib.hid (fun W => l15Text_any x h W)
          have hts := legT_size h
          obtain ⟨T, hT⟩ : ∃ z, z = legT x := ⟨_, rfl⟩
          obtain ⟨S, hSS⟩ : ∃ z, z = joinS (txts (xs.take k)) := ⟨_, rfl⟩
          rw [← hT] at HLT hts
          rw [← hSS] at hS ⊢
          have HTT := Lib.hid hT
          have HSS := Lib.hid hSS
          clear hc hx hT hSS h
          have hk0 : (0 : Int) ≤ (k : Int) := by omega
          have hk1 : (k : Int) < (n : Int) := by omega
          rcases Nat.eq_zero_or_pos k with hkz | hkz
          · have HJ := Lib.hid (show joinS (txts (xs.take (k + 1))) = T from by rw [HT.out, txts_snoc, hkz]; show joinS ([] ++ [legT x]) = T; rw [List.nil_append, joinS_one, HTT.out])
            have hS0 : S = ⟨#[]⟩ := by rw [HSS.out, hkz]; rfl
            have hkn0 : ¬ (0 : Int) < (k : Int) := by omega
            subst hS0
            have HE := Lib.hid (show (⟨#[]⟩ : ByteArray) ++ T = T from by apply ByteArray.ext; simp)
            clear hkz hS
            go_wp2_with fail
            ((with_reducible refine (HLT.out _).mono ?_); rintro e w5 ⟨rfl, hb5⟩)
            go_wp2
            go_roundw
            case rel => exact ⟨k + 1, by omega, by go_num, by rw [HJ.out]; first | rfl | rw [HE.out] | (congr 1; exact HE.out), ext_trans hbr hb5⟩
            case measure => simp [intOf] <;> omega
          · have HJ := Lib.hid (show joinS (txts (xs.take (k + 1))) = S ++ ⟨#[32]⟩ ++ T from by rw [HT.out, txts_snoc, joinS_snoc _ _ (fun e => by have h1 := txts_len (xs.take k); rw [e, List.length_take, ← hN.out] at h1; simp at h1; omega), HSS.out, HTT.out])
            have hkn0 : (0 : Int) < (k : Int) := by omega
            have hSb : S.size ≤ 30000 := by omega
            clear hS hkz
            go_wp2_with fail
            ((with_reducible refine (HLT.out _).mono ?_); rintro e w5 ⟨rfl, hb5⟩)
            go_wp2
            go_roundw
            case rel => exact ⟨k + 1, by omega, by go_num, by rw [HJ.out], ext_trans hbr hb5⟩
            case measure => simp [intOf] <;> omega
        · have hkn : k = n := by omega
          subst hkn
          rw [take_all (by rw [← hN.out]; exact Nat.le_refl _)]
          obtain ⟨S, hSS⟩ : ∃ z, z = joinS (txts xs) := ⟨_, rfl⟩
          rw [← hSS]
          have HSS := Lib.hid hSS
          clear hSS
          go_wp2
          refine bodyPost_ret (v := .tuple #[.string S, .bool true]) (by simp [results, Tryd.results21, go_sem]) rfl ⟨by rw [rtT_cons HNE.out, ← HSS.out], ext_trans hb1 hbr⟩
  · rw [tb_f hR] at hgr
    rw [selt_f hR, tb_f hR]
    have HG := Lib.hid hgr
    generalize xs.length = n at *
    clear hgr hR
    go_enter Tryd.func21, Tryd.ntmps21
    go_wp2_with fail
    ((with_reducible refine (HG.out).mono ?_); rintro e w1 ⟨rfl, hb1⟩)
    go_wp2
    refine bodyPost_ret (v := .tuple #[.string ⟨#[]⟩, .bool false]) (by simp [results, Tryd.results21, go_sem]) rfl ⟨rfl, hb1⟩
end Go.Proofs.YtlagfeccdcjimaaDoor
