/- A sheet that comes back: the reference's side. No condition. -/
import Derived.Test.YtpmhbkfcddbenaaRetD
import Derived.Test.YtpmhbkfcddbenaaLoanS
import Derived.Test.YtpmhbkfcddbenaaWithin
namespace Go.Proofs.Ytpmhbkfcddbenaa
open Go.RowKit
set_option linter.unusedVariables false
set_option linter.unusedSimpArgs false

set_option maxHeartbeats 1000000 in
set_option maxRecDepth 100000 in
theorem specReturnSheet_any (A : Option Addr) (c : Nat) (xs : List Loan) (s day : Int) (w : World) (hn : xs.length ≤ 1048576) (hcap : xs.length ≤ c) (hcm : c ≤ 9223372036854775807) (hA : Fl Loan.ints 5 w A xs) :
    Calls Try.prog 14 #[.slice A xs.length c, .int .i64 s, .int .i64 day] w (RetLIC Loan.ints 5 w (sel (RtOk xs s day) (retL s day xs)) (seli (RtOk xs s day) (retF s day xs)) (tb (RtOk xs s day))) := by
  obtain ⟨i0, hi, hz0, hz1, hz2⟩ := info_parts infoLoan
  have hare := fun W hW => l11Good_any A c xs W hn hcap hcm (Fl.ext hA hW)
  have hix := l11Open_any A c xs s w (by omega) hA
  obtain ⟨r, hr⟩ : ∃ r, idxB (opS s) 0 xs = r := ⟨_, rfl⟩
  rw [hr] at hix
  obtain ⟨n, hnn⟩ : ∃ n, n = List.length xs := ⟨_, rfl⟩
  rw [← hnn] at hare hix hn hcap ⊢
  have hN := Lib.hid hnn
  have HA := Lib.hid hare
  have HIX := Lib.hid hix
  have HRS := Lib.hid hr
  clear hare hix hnn hr
  go_enter Try.func14, Try.ntmps14
  go_wp2_with fail
  refine (HIX.out).mono ?_
  rintro e w0 ⟨rfl, rfl⟩
  go_wp2_with fail
  refine (HA.out _ (Below.refl _ _)).mono ?_
  rintro e w1 ⟨rfl, hb1⟩
  by_cases h1 : Lns xs
  · rw [tb_t h1]
    have H1 := Lib.hid h1
    clear h1
    by_cases h2 : 0 ≤ r
    · have hr0 : ¬ r < 0 := by omega
      by_cases h3 : 0 ≤ day ∧ day ≤ 4000
      · go_wp2_with fail
        refine (l2Day_t day _ h3).mono ?_
        rintro e w9 ⟨rfl, rfl⟩
        have HO : Hid (Lns xs ∧ 0 ≤ r ∧ (0 ≤ day ∧ day ≤ 4000)) := ⟨H1.out, h2, h3⟩
        have HR : Hid (idxB (opB s) 0 xs = r) := (opS_lns HO.out.1 s).symm.trans HRS.out
        obtain ⟨k, x, hk, hx, _⟩ := idx_at HR.out HO.out.2.1
        subst hk
        have hkl : k < n := by rw [hN.out]; exact lt_of_get hx
        have hkn : (0 : Int) ≤ (k : Int) := by omega
        have hkm : (k : Int) < (n : Int) := by omega
        have hn15 : n ≤ 15 := by have := HO.out.1.2; rw [← hN.out] at this; exact this
        have hday := HO.out.2.2
        have HX := Lib.hid hx
        obtain ⟨y, hy⟩ : ∃ y, y = setBack day x := ⟨_, rfl⟩
        have HY := Lib.hid hy
        clear hx hr0
        have hx1 := hb1
        go_wp2_with (at_builtin; refine wpList_append_all (f := Loan.ints) rfl _ _ _ rfl w.heap.size i0 _ 5 40 Try.underlying24 hi hz0 hz1 hz2 rfl (by decide) _ [] rfl (OwnF.empty hx1.size) A c xs (congrArg (fun n => Value.slice A n c) hN.out) ((hA.ext hx1).ext (ext_alloc _ _)) (fun _ => rfl) (by have := hN.out; simp; omega) (by decide) (by have h9 := hx1.size; simp; omega) ?_; intro v3 w3 hown3 hg3 hb3; rw [List.nil_append] at hown3; have hx3 : Below w.heap.size w w3 := (hx1.alloc hx1.size _).trans hb3; (obtain ⟨B3, d3, hv3, _⟩ := hown3.form (fun _ => rfl)); subst hv3; rw [← hN.out] at hown3; rw [← hN.out]; have hc3 := hown3.capL; (obtain ⟨g, hBg, hg1, hg2, hfz, hcl⟩ := hown3.blkL HX.out); subst hBg; have c0 : World.cell? w3 ⟨g, k * 5, none⟩ = some (.int .i64 x.sheet) := hcl 0 _ rfl; have c1 : World.cell? w3 ⟨g, k * 5 + 1, none⟩ = some (.int .i64 x.reader) := hcl 1 _ rfl; have c2 : World.cell? w3 ⟨g, k * 5 + 2, none⟩ = some (.int .i64 x.out) := hcl 2 _ rfl; have c3 : World.cell? w3 ⟨g, k * 5 + 3, none⟩ = some (.int .i64 x.due) := hcl 3 _ rfl; have c4 : World.cell? w3 ⟨g, k * 5 + 4, none⟩ = some (.int .i64 x.back) := hcl 4 _ rfl; have HCL0 := Lib.hid hcl; clear hcl; (obtain ⟨W5, W6, W7, hW5, hW6, hW7, hv, hvf, hu, hr, hrf, ht, hz7, ho7, hb7⟩ := ret_facts (t := 50) day hown3 HX.out hx3.size hg1 hg2 hfz (HCL0.out)); have v0 : World.cell? W5 ⟨w3.heap.size, 0, none⟩ = some (.int .i64 x.sheet) := hv 0 _ rfl; have v1 : World.cell? W5 ⟨w3.heap.size, 1, none⟩ = some (.int .i64 x.reader) := hv 1 _ rfl; have v2 : World.cell? W5 ⟨w3.heap.size, 2, none⟩ = some (.int .i64 x.out) := hv 2 _ rfl; have v3 : World.cell? W5 ⟨w3.heap.size, 3, none⟩ = some (.int .i64 x.due) := hv 3 _ rfl; have v4 : World.cell? W5 ⟨w3.heap.size, 4, none⟩ = some (.int .i64 x.back) := hv 4 _ rfl; have vf := hvf 4; have u0 : World.cell? W6 ⟨w3.heap.size, 0, none⟩ = some (.int .i64 x.sheet) := hu 0 _ rfl; have u1 : World.cell? W6 ⟨w3.heap.size, 1, none⟩ = some (.int .i64 x.reader) := hu 1 _ rfl; have u2 : World.cell? W6 ⟨w3.heap.size, 2, none⟩ = some (.int .i64 x.out) := hu 2 _ rfl; have u3 : World.cell? W6 ⟨w3.heap.size, 3, none⟩ = some (.int .i64 x.due) := hu 3 _ rfl; have u4 : World.cell? W6 ⟨w3.heap.size, 4, none⟩ = some (.int .i64 day) := hu 4 _ rfl; have r0 : World.cell? W6 ⟨g, k * 5, none⟩ = some (.int .i64 x.sheet) := hr 0 _ rfl; have r1 : World.cell? W6 ⟨g, k * 5 + 1, none⟩ = some (.int .i64 x.reader) := hr 1 _ rfl; have r2 : World.cell? W6 ⟨g, k * 5 + 2, none⟩ = some (.int .i64 x.out) := hr 2 _ rfl; have r3 : World.cell? W6 ⟨g, k * 5 + 3, none⟩ = some (.int .i64 x.due) := hr 3 _ rfl; have r4 : World.cell? W6 ⟨g, k * 5 + 4, none⟩ = some (.int .i64 x.back) := hr 4 _ rfl; have rf0 := hrf (k * 5); have rf1 := hrf (k * 5 + 1); have rf2 := hrf (k * 5 + 2); have rf3 := hrf (k * 5 + 3); have rf4 := hrf (k * 5 + 4); have HT := Lib.hid ht; clear hv hvf hu hr hrf ht hfz hown3 hg3 hb3)
        have hx4 := hx3.trans hb7
        obtain ⟨ys, hys⟩ : ∃ ys, ys = xs.set k y := ⟨_, rfl⟩
        rw [← hy, ← hys] at ho7
        have hO4 := ho7
        clear hy ho7 c0 c1 c2 c3 c4 u0 u1 u2 u3 u4 v0 v1 v2 v3 v4 r0 r1 r2 r3 r4 rf0 rf1 rf2 rf3 rf4 vf
        have hyl : ys.length = n := by rw [hys, List.length_set, hN.out]
        have hare4 := l11Good_any (some ⟨g, 0, none⟩) d3 ys W7 (by omega) (by omega) hc3.2 hO4.floL.fl
        rw [hyl] at hare4
        have HYS := Lib.hid hys
        have HYL := Lib.hid hyl
        have HO4 := Lib.hid hO4
        have HAR4 := Lib.hid hare4
        clear hys hyl hO4 hare4
        go_wp2_with fail
        refine (HAR4.out).mono ?_
        rintro e w5 ⟨rfl, hb5⟩
        have hx5 := ext_trans hx4 hb5
        have hF5 := HO4.out.floL.ext hb5
        by_cases hz : Lns ys
        · rw [tb_t hz]
          have HZ := Lib.hid hz
          have hyy : ys[k]? = some y := by rw [HYS.out]; exact set_get HX.out
          have hylo := (hz.1 k y hyy).1
          clear hz
          clear hW5 hW6 hW7
          have t0 : World.cell? w5 ⟨w3.heap.size, 0, none⟩ = some (.int .i64 x.sheet) := (hb5.cell (p := ⟨w3.heap.size, 0, none⟩) hz7).trans (HT.out 0 _ rfl)
          have t1 : World.cell? w5 ⟨w3.heap.size, 1, none⟩ = some (.int .i64 x.reader) := (hb5.cell (p := ⟨w3.heap.size, 1, none⟩) hz7).trans (HT.out 1 _ rfl)
          have t2 : World.cell? w5 ⟨w3.heap.size, 2, none⟩ = some (.int .i64 x.out) := (hb5.cell (p := ⟨w3.heap.size, 2, none⟩) hz7).trans (HT.out 2 _ rfl)
          have t3 : World.cell? w5 ⟨w3.heap.size, 3, none⟩ = some (.int .i64 x.due) := (hb5.cell (p := ⟨w3.heap.size, 3, none⟩) hz7).trans (HT.out 3 _ rfl)
          have t4 : World.cell? w5 ⟨w3.heap.size, 4, none⟩ = some (.int .i64 day) := (hb5.cell (p := ⟨w3.heap.size, 4, none⟩) hz7).trans (HT.out 4 _ rfl)
          have hz8 := Nat.lt_of_lt_of_le hz7 hb5.size
          have HFV := Lib.hid (l11Fine_any (setBack day x) day w5 (HY.out ▸ hylo) hday)
          clear hyy hylo
          go_wp2_with fail
          refine (HFV.out).mono ?_
          rintro e w6 ⟨rfl, hb6⟩
          go_wp2
          go_ret3
          have hre := ret_at (d := day) HR.out HX.out
          rw [← HY.out, ← HYS.out] at hre
          have hok : RtOk xs s day := ⟨⟨HO.out.1, by rw [HR.out]; omega, HO.out.2.2⟩, by rw [hre.1]; exact HZ.out⟩
          rw [sel_t hok, seli_t hok, tb_t hok, hre.1, hre.2]
          exact ⟨some ⟨g, 0, none⟩, d3, by rw [HYL.out, HY.out]; rfl, by rw [HYL.out]; exact hc3, (hF5.ext hb6).mono (Nat.le_refl _) (Nat.le_trans hb5.size hb6.size), ext_trans hx5 hb6⟩
        · rw [tb_f hz]
          have HZ := Lib.hid hz
          clear hz
          go_wp2
          go_ret3
          have hre := ret_at (d := day) HR.out HX.out
          rw [← HY.out, ← HYS.out] at hre
          have hok : ¬ RtOk xs s day := fun h => HZ.out (by have := h.2; rwa [hre.1] at this)
          rw [sel_f hok, seli_f hok, tb_f hok]
          exact ⟨_, 0, rfl, ⟨by simp, by omega⟩, FlO.nil, hx5.trans (below_new hx5.size _)⟩
      · go_wp2_with fail
        refine (l2Day_f day _ h3).mono ?_
        rintro e w9 ⟨rfl, rfl⟩
        go_wp2
        go_ret3
        have hok : ¬ (Lns xs ∧ 0 ≤ r ∧ (0 ≤ day ∧ day ≤ 4000)) := fun h => h3 h.2.2
        have hok2 : ¬ RtOk xs s day := fun h => hok (by have := h.1; rw [← opS_lns this.1 s, HRS.out] at this; exact this)
        rw [sel_f hok2, seli_f hok2, tb_f hok2]
        exact ⟨_, 0, rfl, ⟨by simp, by omega⟩, FlO.nil, (hb1).trans (below_new (hb1).size _)⟩
    · have hr0 : r < 0 := by omega
      go_wp2
      go_ret3
      have hok : ¬ (Lns xs ∧ 0 ≤ r ∧ (0 ≤ day ∧ day ≤ 4000)) := fun h => (fun (q : 0 ≤ r) => (by omega : False)) h.2.1
      have hok2 : ¬ RtOk xs s day := fun h => hok (by have := h.1; rw [← opS_lns this.1 s, HRS.out] at this; exact this)
      rw [sel_f hok2, seli_f hok2, tb_f hok2]
      exact ⟨_, 0, rfl, ⟨by simp, by omega⟩, FlO.nil, (hb1).trans (below_new (hb1).size _)⟩
  · rw [tb_f h1]
    have H1 := Lib.hid h1
    clear h1
    go_wp2
    go_ret3
    have hok : ¬ (Lns xs ∧ 0 ≤ r ∧ (0 ≤ day ∧ day ≤ 4000)) := fun h => H1.out h.1
    have hok2 : ¬ RtOk xs s day := fun h => hok (by have := h.1; rw [← opS_lns this.1 s, HRS.out] at this; exact this)
    rw [sel_f hok2, seli_f hok2, tb_f hok2]
    exact ⟨_, 0, rfl, ⟨by simp, by omega⟩, FlO.nil, (hb1).trans (below_new (hb1).size _)⟩
end Go.Proofs.Ytpmhbkfcddbenaa
