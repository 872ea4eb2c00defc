/- The last edition of a sheet taken out of a list: DropLast on both sides. -/
import Derived.Test.YtaojamioongahaaDelWalk
import Derived.Test.YtaojamioongahaaDropLaw
import Derived.Test.YtaojamioongahaaCopyEd
import Derived.Test.YtaojamioongahaaAreEds
import Derived.Test.YtaojamioongahaaGoodEds
import Derived.Test.YtaojamioongahaaNestOwn2
namespace Go.Proofs.Ytaojamioongahaa
open Go.RowKit
set_option linter.unusedVariables false
set_option linter.unusedSimpArgs false

theorem nv_take {α : Type} {zs : List α} {j i : Nat} {y : α} (h : (zs.take j)[i]? = some y) : zs[i]? = some y := by
  rw [List.getElem?_take] at h
  split at h
  · exact h
  · cases h
/-- a call that hands back new editions and a bool, and leaves what was there -/
def RetNB (w : World) (ys : List Nest) (ok : Bool) (e : Ending) (w' : World) : Prop :=
  ∃ B d, e = .returned (.tuple #[.slice B ys.length d, .bool ok]) ∧ NlO w.heap.size w'.heap.size w' B ys ∧ Below w.heap.size w w'
set_option maxHeartbeats 2000000 in
set_option maxRecDepth 100000 in
theorem dropLast_any (A : Option Addr) (c : Nat) (xs : List Nest) (sheet : Int) (w : World) (hn : wt xs ≤ 1048576) (hcap : xs.length ≤ c) (hcm : c ≤ 9223372036854775807) (hA : Nl w A xs) :
    Calls Try.prog 40 #[.slice A xs.length c, .int .i64 sheet] w (RetNB w (sel (DrOk xs sheet) (dropS sheet xs)) (tb (DrOk xs sheet))) := by
  have hare := fun W hW => areEditions_any A c xs W hn hcap hcm hW
  have hed := fun W hW => editionsOf_any A c xs sheet W (le22 (Nat.le_trans (wt_len xs) hn)) hW
  have hcp := fun W hW => copyEditions_any A c xs W (le22 hn) hW
  have hyl := Nat.le_trans (ofS_len sheet xs) (Nat.le_trans (wt_len xs) hn)
  have hn1 := Nat.le_trans (wt_len xs) hn
  obtain ⟨L, hL⟩ : ∃ L, L = (ofS sheet xs).length := ⟨_, rfl⟩
  obtain ⟨es, hes⟩ : ∃ es, es = ofS sheet xs := ⟨_, rfl⟩
  rw [← hes] at hed hL hyl
  have hmf : ∀ (fn : Fn) (first cap : Array Value) (w : World), (Instr.makeFunc fn first cap).run Try.prog w = .ok (.func fn first cap) w := fun _ _ _ _ => rfl
  obtain ⟨n, hnn⟩ : ∃ n, n = xs.length := ⟨_, rfl⟩
  rw [← hnn] at hare hed hcp hcap hn1 ⊢
  rw [← hL] at hyl
  have HN := Lib.hid hnn
  have HES := Lib.hid hes
  have HL := Lib.hid hL
  have HA := Lib.hid hare
  have HE := Lib.hid hed
  have HP := Lib.hid hcp
  obtain ⟨W0, hW0, hB0, hz0, hc0, hf0⟩ := box_world w #[Value.int .i64 sheet] 3
  have e0 : World.cell? W0 ⟨w.heap.size, 0, none⟩ = some (.int .i64 sheet) := hc0 0
  clear hare hed hcp hnn hes hL hc0
  go_enter Try.func40, Try.ntmps40
  go_wp2_with fail
  refine (HE.out W0 (hA.ext hB0)).mono ?_
  rintro e w1 ⟨B1, d1, rfl, hN1, hb1⟩
  rw [← HL.out]
  have hx1 := ext_trans hB0 hb1
  have e1 : World.cell? w1 ⟨w.heap.size, 0, none⟩ = some (.int .i64 sheet) := (hb1.cell (p := ⟨w.heap.size, 0, none⟩) hz0).trans e0
  have hz1 : w.heap.size < w1.heap.size := Nat.lt_of_lt_of_le hz0 hb1.size
  obtain ⟨W1, hW1, hB1, hzz1, hc1, _⟩ := box_world w1 #[Value.int .i64 (L : Int)] 3
  have i1 : World.cell? W1 ⟨w1.heap.size, 0, none⟩ = some (.int .i64 (L : Int)) := hc1 0
  have e2 : World.cell? W1 ⟨w.heap.size, 0, none⟩ = some (.int .i64 sheet) := (hB1.cell (p := ⟨w.heap.size, 0, none⟩) hz1).trans e1
  have hx2 := ext_trans hx1 hB1
  clear hN1 hc1 hW0
  go_wp2_with fail
  clear hW1
  refine (HA.out W1 (hA.ext hx2)).mono ?_
  rintro e w2 ⟨rfl, hb2⟩
  have hx3 := ext_trans hx2 hb2
  have i3 : World.cell? w2 ⟨w1.heap.size, 0, none⟩ = some (.int .i64 (L : Int)) := (hb2.cell (p := ⟨w1.heap.size, 0, none⟩) hzz1).trans i1
  have e3 : World.cell? w2 ⟨w.heap.size, 0, none⟩ = some (.int .i64 sheet) := (hb2.cell (p := ⟨w.heap.size, 0, none⟩) (Nat.lt_of_lt_of_le hz0 (Nat.le_trans hb1.size hB1.size))).trans e2
  have hz3 : w1.heap.size < w2.heap.size := Nat.lt_of_lt_of_le hzz1 hb2.size
  have hz4 : w.heap.size < w2.heap.size := Nat.lt_trans hz1 hz3
  clear e0 e1 e2 i1
  by_cases h1 : Eds xs
  · rw [tb_t h1]
    have H1 := Lib.hid h1
    clear h1
    by_cases h2 : L = 0
    · have hok : ¬ DrOk xs sheet := fun h => h.2 (by rw [← HES.out]; exact List.length_eq_zero_iff.1 (by rw [← HL.out, h2]))
      have HOK := Lib.hid hok
      clear hok
      subst h2
      go_wp2
      go_ret2
      rw [sel_f HOK.out, tb_f HOK.out]
      exact ⟨none, 0, rfl, NlO.nil, hx3⟩
    · have hok : DrOk xs sheet := ⟨H1.out, fun h => h2 (by rw [HL.out, HES.out, h]; rfl)⟩
      have h3 : ((L : Int) == 0) = false := by rw [beq_eq_false_iff_ne]; omega
      have HOK := Lib.hid hok
      have H2 := Lib.hid h2
      clear hok h2
      go_wp2_with fail
      refine (HP.out w2 (hA.ext hx3)).mono ?_
      rintro e w4 ⟨v4, ys, rfl, hown, hys, hb4⟩
      have hyl4 : ys.length = n := by have h := congrArg List.length hys; rwa [List.length_map, ← HN.out] at h
      have HYS := Lib.hid hys
      clear hys
      go_wp2_with fail
      refine (deleteEd_any sheet (L : Int) w.heap.size w1.heap.size w2.heap.size v4 ys w4 (by omega) hb4.size hown hz4 hz3 ((hb4.cell (p := ⟨w.heap.size, 0, none⟩) hz4).trans e3) ((hb4.cell (p := ⟨w1.heap.size, 0, none⟩) hz3).trans i3)).mono ?_
      rintro e w5 ⟨v5, zs, rfl, hown5, hzs, hb5⟩
      have hx5 : Below w.heap.size w w5 := (ext_trans hx3 hb4).trans (hb5.mono hx3.size)
      obtain ⟨B5, c5, hv5, _, _, hF5⟩ := hown5.full (fun _ => rfl) (by decide)
      subst hv5
      have hre : zs.map GV.x = dropS sheet xs := by rw [hzs, HYS.out]; unfold dropS; rw [← HES.out, ← HL.out]
      rw [hre] at hF5 ⊢
      go_wp2
      go_ret2
      rw [sel_t HOK.out, tb_t HOK.out]
      exact ⟨B5, c5, rfl, hF5.n.mono hx3.size (Nat.le_refl _), hx5⟩
  · rw [tb_f h1]
    have hok : ¬ DrOk xs sheet := fun h => h1 h.1
    have HOK := Lib.hid hok
    clear h1 hok
    go_wp2
    go_ret2
    rw [sel_f HOK.out, tb_f HOK.out]
    exact ⟨none, 0, rfl, NlO.nil, hx3⟩

set_option maxHeartbeats 16000000 in
set_option maxRecDepth 100000 in
theorem specDropLast_any (A : Option Addr) (c : Nat) (xs : List Nest) (sheet : Int) (w : World) (hn : wt xs ≤ 1048576) (hcap : xs.length ≤ c) (hcm : c ≤ 9223372036854775807) (hA : Nl w A xs) :
    Calls Try.prog 39 #[.slice A xs.length c, .int .i64 sheet] w (RetNB w (sel (DrOk xs sheet) (dropS sheet xs)) (tb (DrOk xs sheet))) := by
  obtain ⟨i0, hi, hz0, hz1, hz2⟩ := info_parts infoEdition
  have hare := l18Good_any A c xs w hn hcap hcm hA
  have hla := l18Last_any A c xs sheet w (le22 (Nat.le_trans (wt_len xs) hn)) hA
  have hlp := lastI_p sheet xs xs.length (Nat.le_refl _)
  unfold LastP at hlp
  rw [List.take_length] at hlp
  have hn1 := Nat.le_trans (wt_len xs) hn
  obtain ⟨n, hnn⟩ : ∃ n, n = xs.length := ⟨_, rfl⟩
  rw [← hnn] at hare hla hlp hcap hn1 ⊢
  generalize lastI sheet xs n = r at hla hlp
  have HN := Lib.hid hnn
  have HA := Lib.hid hare
  have HLA := Lib.hid hla
  clear hare hla hnn
  rcases hlp with ⟨hr, hys0⟩ | ⟨j, l, hr, hjk, hj, hl⟩
  · subst hr
    have hok : ¬ DrOk xs sheet := fun h => h.2 hys0
    have HOK := Lib.hid hok
    clear hok hys0
    go_enter Try.func39, Try.ntmps39
    go_wp2_with fail
    refine (HLA.out).mono ?_
    rintro e w0 ⟨rfl, rfl⟩
    go_wp2_with fail
    refine (HA.out).mono ?_
    rintro e w1 ⟨rfl, hb1⟩
    by_cases h1 : Eds xs
    · rw [tb_t h1]
      clear h1
      go_wp2
      go_ret2
      rw [sel_f HOK.out, tb_f HOK.out]
      exact ⟨some ⟨w1.heap.size, 0, none⟩, 0, rfl, NlO.nil, ext_trans hb1 (ext_alloc _ _)⟩
    · rw [tb_f h1]
      clear h1
      go_wp2
      go_ret2
      rw [sel_f HOK.out, tb_f HOK.out]
      exact ⟨some ⟨w1.heap.size, 0, none⟩, 0, rfl, NlO.nil, ext_trans hb1 (ext_alloc _ _)⟩
  · subst hr
    have hjn : j < n := hjk
    have HJ := Lib.hid hj
    have HLT := Lib.hid hl
    clear hj hl
    by_cases h1 : Eds xs
    · have hok : DrOk xs sheet := ⟨h1, fun h => by rw [h] at HLT; have := HLT.out; simp at this⟩
      have hre := drop_eq h1 HJ.out HLT.out
      have HOK := Lib.hid hok
      have HRE := Lib.hid hre
      obtain ⟨b, o, hA', hbw, _⟩ := id hA (fun e => by have h := HJ.out; rw [e] at h; simp at h)
      subst hA'
      obtain ⟨zs, hzx, hzc, hzf⟩ := hA.nvs
      have hzl : zs.length = n := by have h := congrArg List.length hzx; rwa [List.length_map, ← HN.out] at h
      have hj0 : (0 : Int) ≤ (j : Int) := by omega
      have hj1 : (j : Int) ≤ (c : Int) := by omega
      have hj2 : (0 : Int) ≤ (j : Int) + 1 := by omega
      have hj3 : (j : Int) + 1 ≤ (n : Int) := by omega
      have hj4 : ¬ (j : Int) < 0 := by omega
      have hj5 : (n : Int) ≤ (c : Int) := by omega
      have hj6 : (j : Int) + 1 ≤ (c : Int) := by omega
      have HZC := Lib.hid hzc
      have HZX := Lib.hid hzx
      have HZF := Lib.hid hzf
      clear hok hre hzc hzx hzf
      by_cases hcj : c = j + 1
      · have hzd : zs.drop (j + 1) = [] := List.drop_of_length_le (by omega)
        subst hcj
        have hj7 : (j : Int) ≤ (j : Int) + 1 := by omega
        go_enter Try.func39, Try.ntmps39
        go_wp2_with fail
        refine (HLA.out).mono ?_
        rintro e w0 ⟨rfl, rfl⟩
        go_wp2_with fail
        refine (HA.out).mono ?_
        rintro e w1 ⟨rfl, hb1⟩
        rw [tb_t h1]
        have hz1' := hb1.size
        clear h1
        have hbcell : ∀ (W : World), Below w.heap.size w W → ∀ (i : Nat) (y : NV), zs[i]? = some y → NAt W b (o + i * 4) y.x y.A y.d := fun W hW i y hy => (HZC.out i y hy).cells fun q => hW.cell (p := ⟨b, q, none⟩) hbw
        have HBC := Lib.hid hbcell
        have HT1 : Hid ((zs.take j).length = j) := by unfold Hid; rw [List.length_take]; omega
        have HT2 : Hid ((zs.drop (j + 1)).length = n - (j + 1)) := by unfold Hid; rw [List.length_drop]; omega
        have HMX : Hid ((zs.take j ++ zs.drop (j + 1)).map NV.x = xs.take j ++ xs.drop (j + 1)) := by
          unfold Hid
          rw [List.map_append, List.map_take, List.map_drop, HZX.out]
        have HWT : Hid (wt ((zs.take j ++ zs.drop (j + 1)).map NV.x) ≤ 4194304) := by
          unfold Hid
          rw [HMX.out, ← HRE.out]
          exact Nat.le_trans (dropS_wt xs sheet) (le22 hn)
        have HFF : Hid (∀ (W : World), Below w.heap.size w W → ∀ y ∈ zs.take j ++ zs.drop (j + 1), Fl one 1 W y.A y.x.l) := fun W hW y hy => (HZF.out y (by
          rcases List.mem_append.1 hy with h | h
          · exact List.mem_of_mem_take h
          · exact List.mem_of_mem_drop h)).ext hW
        have hwr : IntKind.i64.wrap ((j : Int) + 1) = (j : Int) + 1 := IntWalk.i64_in _ (by omega)
        clear hbcell
        go_wp2_with fail
        go_region_held3 (fun w' => Below (World.heap w).size w w' ∧ ∀ b o, b < (World.heap w).size → w'.cell? ⟨b, o, none⟩ = World.cell? w ⟨b, o, none⟩) (first | exact cls_of (ext_drew _) | exact cls_of hb1.drew | exact cls_alloc (by assumption) _ | exact cls_grow (by assumption) hb3 | exact cls_grow (by assumption) hb4 | exact cls_grow (by assumption) hb5') ((first | (refine step_append_nvs rfl (.tmp 18) (.tmp 21) 25 rfl w.heap.size i0 _ 48 Try.underlying25 hi hz0 hz1 hz2 rfl _ [] rfl ((OwnV.empty hz1').ext (ext_drew _)) b o (j + 1) (zs.take j) (by rw [HT1.out]; rfl) (fun i y hy => HBC.out _ ((hb1.alloc hz1' _).drew) i y (nv_take hy)) (by simp; omega) (by decide) (by simp; omega) ?_; intro v3 w3 hown3 hg3 hb3; rw [List.nil_append] at hown3; have hx3 : Below w.heap.size w w3 := ((hb1.alloc hz1' _).drew).trans hb3; have hs3 := hx3.size) | (refine step_append_nvs rfl (.tmp 22) (.tmp 26) 25 rfl w.heap.size i0 _ 48 Try.underlying25 hi hz0 hz1 hz2 rfl _ (zs.take j) rfl hown3 b o 0 (zs.drop (j + 1)) (by rw [hzd]; rfl) (fun i y hy => (by rw [hzd] at hy; simp at hy)) (by rw [HT1.out, HT2.out]; omega) (by decide) hs3 ?_; intro v4 w4 hown4 hg4 hb4; have hx4 : Below w.heap.size w w4 := hx3.trans hb4; have hs4 := hx4.size; obtain ⟨B4, c4, hv4, hN4⟩ := hown4.nl (HFF.out w4 hx4); obtain ⟨ls, hls⟩ : ∃ ls, ls = (zs.take j ++ zs.drop (j + 1)).map NV.x := ⟨_, rfl⟩; rw [← hls] at hv4 hN4; have HLS := Lib.hid hls; clear hls; subst hv4) | (go_at_call 63; refine (l18Own_any B4 c4 ls w4 (by rw [HLS.out]; exact HWT.out) hN4).mono ?_; rintro e w5 ⟨v5, ys5, rfl, hown5, hys5, hb5⟩; have hb5' : Below w.heap.size w4 w5 := hb5.mono hs4)))
        all_goals
          obtain ⟨B5, c5, hv5, _, _, hF5⟩ := hown5.full (fun _ => rfl) (by decide)
          subst hv5
          have hm5 : ys5.map GV.x = dropS sheet xs := by rw [hys5, HLS.out, HMX.out, ← HRE.out]
          rw [hm5] at hF5 ⊢
          go_wp2
          go_ret2
          rw [sel_t HOK.out, tb_t HOK.out]
          exact ⟨B5, c5, rfl, hF5.n.mono hs4 (Nat.le_refl _), hx4.trans hb5'⟩
      · skip
        go_enter Try.func39, Try.ntmps39
        go_wp2_with fail
        refine (HLA.out).mono ?_
        rintro e w0 ⟨rfl, rfl⟩
        go_wp2_with fail
        refine (HA.out).mono ?_
        rintro e w1 ⟨rfl, hb1⟩
        rw [tb_t h1]
        have hz1' := hb1.size
        clear h1
        have hbcell : ∀ (W : World), Below w.heap.size w W → ∀ (i : Nat) (y : NV), zs[i]? = some y → NAt W b (o + i * 4) y.x y.A y.d := fun W hW i y hy => (HZC.out i y hy).cells fun q => hW.cell (p := ⟨b, q, none⟩) hbw
        have HBC := Lib.hid hbcell
        have HT1 : Hid ((zs.take j).length = j) := by unfold Hid; rw [List.length_take]; omega
        have HT2 : Hid ((zs.drop (j + 1)).length = n - (j + 1)) := by unfold Hid; rw [List.length_drop]; omega
        have HMX : Hid ((zs.take j ++ zs.drop (j + 1)).map NV.x = xs.take j ++ xs.drop (j + 1)) := by
          unfold Hid
          rw [List.map_append, List.map_take, List.map_drop, HZX.out]
        have HWT : Hid (wt ((zs.take j ++ zs.drop (j + 1)).map NV.x) ≤ 4194304) := by
          unfold Hid
          rw [HMX.out, ← HRE.out]
          exact Nat.le_trans (dropS_wt xs sheet) (le22 hn)
        have HFF : Hid (∀ (W : World), Below w.heap.size w W → ∀ y ∈ zs.take j ++ zs.drop (j + 1), Fl one 1 W y.A y.x.l) := fun W hW y hy => (HZF.out y (by
          rcases List.mem_append.1 hy with h | h
          · exact List.mem_of_mem_take h
          · exact List.mem_of_mem_drop h)).ext hW
        have hwr : IntKind.i64.wrap ((j : Int) + 1) = (j : Int) + 1 := IntWalk.i64_in _ (by omega)
        clear hbcell
        go_wp2_with fail
        go_region_held3 (fun w' => Below (World.heap w).size w w' ∧ ∀ b o, b < (World.heap w).size → w'.cell? ⟨b, o, none⟩ = World.cell? w ⟨b, o, none⟩) (first | exact cls_of (ext_drew _) | exact cls_of hb1.drew | exact cls_alloc (by assumption) _ | exact cls_grow (by assumption) hb3 | exact cls_grow (by assumption) hb4 | exact cls_grow (by assumption) hb5') ((first | (refine step_append_nvs rfl (.tmp 18) (.tmp 21) 25 rfl w.heap.size i0 _ 48 Try.underlying25 hi hz0 hz1 hz2 rfl _ [] rfl ((OwnV.empty hz1').ext (ext_drew _)) b o c (zs.take j) (by rw [HT1.out]; rfl) (fun i y hy => HBC.out _ ((hb1.alloc hz1' _).drew) i y (nv_take hy)) (by simp; omega) (by decide) (by simp; omega) ?_; intro v3 w3 hown3 hg3 hb3; rw [List.nil_append] at hown3; have hx3 : Below w.heap.size w w3 := ((hb1.alloc hz1' _).drew).trans hb3; have hs3 := hx3.size) | (refine step_append_nvs rfl (.tmp 22) (.tmp 26) 25 rfl w.heap.size i0 _ 48 Try.underlying25 hi hz0 hz1 hz2 rfl _ (zs.take j) rfl hown3 b (o + (j + 1) * 4) (c - (j + 1)) (zs.drop (j + 1)) (by rw [HT2.out]; rfl) (fun i y hy => (by have h := HBC.out w3 hx3 (j + 1 + i) y (by rw [← List.getElem?_drop]; exact hy); rwa [show o + (j + 1 + i) * 4 = o + (j + 1) * 4 + i * 4 from by omega] at h)) (by rw [HT1.out, HT2.out]; omega) (by decide) hs3 ?_; intro v4 w4 hown4 hg4 hb4; have hx4 : Below w.heap.size w w4 := hx3.trans hb4; have hs4 := hx4.size; obtain ⟨B4, c4, hv4, hN4⟩ := hown4.nl (HFF.out w4 hx4); obtain ⟨ls, hls⟩ : ∃ ls, ls = (zs.take j ++ zs.drop (j + 1)).map NV.x := ⟨_, rfl⟩; rw [← hls] at hv4 hN4; have HLS := Lib.hid hls; clear hls; subst hv4) | (go_at_call 63; refine (l18Own_any B4 c4 ls w4 (by rw [HLS.out]; exact HWT.out) hN4).mono ?_; rintro e w5 ⟨v5, ys5, rfl, hown5, hys5, hb5⟩; have hb5' : Below w.heap.size w4 w5 := hb5.mono hs4)))
        all_goals
          obtain ⟨B5, c5, hv5, _, _, hF5⟩ := hown5.full (fun _ => rfl) (by decide)
          subst hv5
          have hm5 : ys5.map GV.x = dropS sheet xs := by rw [hys5, HLS.out, HMX.out, ← HRE.out]
          rw [hm5] at hF5 ⊢
          go_wp2
          go_ret2
          rw [sel_t HOK.out, tb_t HOK.out]
          exact ⟨B5, c5, rfl, hF5.n.mono hs4 (Nat.le_refl _), hx4.trans hb5'⟩
    · have hok : ¬ DrOk xs sheet := fun h => h1 h.1
      have HOK := Lib.hid hok
      have hj4 : ¬ (j : Int) < 0 := by omega
      clear hok
      go_enter Try.func39, Try.ntmps39
      go_wp2_with fail
      refine (HLA.out).mono ?_
      rintro e w0 ⟨rfl, rfl⟩
      go_wp2_with fail
      refine (HA.out).mono ?_
      rintro e w1 ⟨rfl, hb1⟩
      rw [tb_f h1]
      clear h1
      go_wp2
      go_ret2
      rw [sel_f HOK.out, tb_f HOK.out]
      exact ⟨some ⟨w1.heap.size, 0, none⟩, 0, rfl, NlO.nil, ext_trans hb1 (ext_alloc _ _)⟩
end Go.Proofs.Ytaojamioongahaa
