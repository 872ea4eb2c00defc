/- A new erratum: the program's NewErratum and the reference's. -/
import Derived.Test.YtbnlbcbdhmmlgaaGreatDoorMgC
import Derived.Test.YtbnlbcbdhmmlgaaGreatDoorMgI
import Derived.Test.YtbnlbcbdhmmlgaaGreatDoorMgA
namespace Go.Proofs.YtbnlbcbdhmmlgaaGreatDoor
open Go.RowKit
set_option linter.unusedVariables false
set_option linter.unusedSimpArgs false

def newId (xs : List Erratum) : Int := match xs.getLast? with
  | none => 1
  | some e => e.id + 1
def newErr (s f u d : Int) (xs : List Erratum) : Erratum := ⟨newId xs, s, f, u, d⟩
def NewOk (s f u d : Int) (xs : List Erratum) : Prop := Errs xs ∧ Errs (xs ++ [newErr s f u d xs])

theorem last_get {xs : List Erratum} {m : Nat} (h : xs.length = m + 1) : ∃ x, xs[m]? = some x ∧ newId xs = x.id + 1 := by
  have hx : xs[m]? = some (xs[m]'(by omega)) := List.getElem?_eq_getElem (by omega)
  refine ⟨_, hx, ?_⟩
  have h1 : xs.getLast? = some (xs[m]'(by omega)) := by rw [List.getLast?_eq_getElem?, show xs.length - 1 = m from by omega, hx]
  unfold newId
  rw [h1]


set_option maxHeartbeats 400000 in
set_option maxRecDepth 100000 in
theorem newErratum_any (s f u d : Int) (A : Option Addr) (c : Nat) (xs : List Erratum) (w : World) (hn : xs.length ≤ 1048576) (hA : Fl Erratum.ints 5 w A xs) :
    Calls Tryz.prog 16 #[.slice A xs.length c, .int .i64 s, .int .i64 f, .int .i64 u, .int .i64 d] w (RetLI Erratum.ints 5 w (sel (NewOk s f u d xs) (xs ++ [newErr s f u d xs])) (seli (NewOk s f u d xs) (newId xs)) (tb (NewOk s f u d xs))) := by
  obtain ⟨i0, hi, hz0, hz1, hz2⟩ := info_parts infoErratum
  by_cases hz : Errs xs
  · have HZ := Lib.hid hz
    rcases hlen : xs.length with _ | m
    · have hid : newId xs = 1 := by
        rw [List.length_eq_zero_iff.1 hlen]
        rfl
      clear hz
      have hare := fun W hW => areErrata_any A c xs W (by omega) hW
      have hclo := fun W hW => cloneErratum_any A c xs W (by omega) hW
      rw [hlen] at hare hclo
      have HA := Lib.hid hare
      have HC := Lib.hid hclo
      have HL := Lib.hid hlen
      have HI := Lib.hid hid
      clear hare hclo hlen hid
      go_enter Tryz.func16, Tryz.ntmps16
      go_wp2_with fail
      refine (HA.out _ hA).mono ?_
      rintro e w1 ⟨rfl, hb1⟩
      rw [tb_t HZ.out]
      obtain ⟨W2, hW2, hB2, hz2', hc2, _⟩ := box_world w1 #[Value.int .i64 1, .int .i64 s, .int .i64 f, .int .i64 u, .int .i64 d] 47
      have g0 : World.cell? W2 ⟨w1.heap.size, 0, none⟩ = some (.int .i64 1) := hc2 0
      have g1 : World.cell? W2 ⟨w1.heap.size, 1, none⟩ = some (.int .i64 s) := hc2 1
      have g2 : World.cell? W2 ⟨w1.heap.size, 2, none⟩ = some (.int .i64 f) := hc2 2
      have g3 : World.cell? W2 ⟨w1.heap.size, 3, none⟩ = some (.int .i64 u) := hc2 3
      have g4 : World.cell? W2 ⟨w1.heap.size, 4, none⟩ = some (.int .i64 d) := hc2 4
      clear hc2
      go_wp2_with fail
      have hA2 := (hA.ext hb1).ext hB2
      have hx2 := ext_trans hb1 hB2
      clear hW2
      go_region_held3 (fun w' => Below (World.heap W2).size W2 w' ∧ ∀ b o, b < (World.heap W2).size → w'.cell? ⟨b, o, none⟩ = World.cell? W2 ⟨b, o, none⟩) (first | exact cls_of (ext_drew _) | exact cls_grow (by assumption) hb3' | exact cls_grow (by assumption) hb4 | (refine cls_grow (by assumption) (below_new ?_ _); first | (simp; done) | omega)) ((first | (go_at_call 50; refine (HC.out _ (hA2.ext ?_)).mono ?_; (first | exact ext_drew _ | exact ext_trans (ext_drew _) (ext_alloc _ _)); rintro e w3 ⟨B3, d3, rfl, hown, hb3⟩; have hz3 := Nat.le_trans (m := (World.heap _).size) (n := (World.heap W2).size) (by simp) hb3.size; have hb3' := hb3.mono (B' := (World.heap W2).size) (by simp); have hown := OwnF.from_ (lo' := (World.heap W2).size) hown (by simp)) | (refine step_append_all (f := Erratum.ints) rfl (.tmp 36) (.tmp 38) 24 rfl (World.heap W2).size i0 _ 5 _ Tryz.underlying24 hi hz0 hz1 hz2 rfl (by decide) _ xs rfl ?_ (some _) 1 [⟨1, s, f, u, d⟩] rfl ?_ (fun _ => rfl) ?_ (by decide) ?_ ?_; (first | exact hown | exact hown.ext (ext_alloc _ _)); (first | exact Fl.box (f := Erratum.ints) _ ⟨1, s, f, u, d⟩ | exact (Fl.box (f := Erratum.ints) _ ⟨1, s, f, u, d⟩).ext hb3 | exact ((Fl.box (f := Erratum.ints) W2 ⟨1, s, f, u, d⟩).ext (ext_drew _)).ext hb3); (first | (simp; omega)); (first | omega | (simp; omega)); intro v4 w4 hown4 hg4 hb4; have hx4 : Below (World.heap W2).size W2 w4 := (by first | exact ((((Below.refl _ _).drew).trans hb3').trans (below_new hz3 _)).trans hb4 | exact ((((below_new (Nat.le_refl _) _).drew)).trans hb3').trans hb4))))
      all_goals
        obtain ⟨ys, hys⟩ : ∃ ys, ys = xs ++ [Erratum.mk (1) s f u d] := ⟨_, rfl⟩
        rw [← hys] at hown4
        have hyl : ys.length ≤ 1048577 := by rw [hys]; simp; omega
        have HYS := Lib.hid hys
        clear hys
        obtain ⟨B4, d4, hv4, hF4⟩ := hown4.form (fun _ => rfl)
        subst hv4
        have hx5 := ext_trans hx2 hx4
        have hF5 := hF4.mono (lo' := w.heap.size) (hi' := w4.heap.size) hx2.size (Nat.le_refl _)
        go_wp2_with fail
        refine (areErrata_any B4 d4 ys _ (by omega) hF4.fl).mono ?_
        rintro e w5 ⟨rfl, hb5⟩
        have hx6 := ext_trans hx5 hb5
        have hF6 := hF5.ext hb5
        by_cases hz2 : Errs ys
        · rw [tb_t hz2]
          have hw1 : w1.heap.size < w4.heap.size := Nat.lt_of_lt_of_le hz2' hx4.size
          have G0 : World.cell? w5 ⟨w1.heap.size, 0, none⟩ = some (.int .i64 (1)) := ((hb5.cell (p := ⟨w1.heap.size, 0, none⟩) hw1).trans (hx4.cell (p := ⟨w1.heap.size, 0, none⟩) hz2')).trans g0
          have hw5 : w1.heap.size < w5.heap.size := Nat.lt_of_lt_of_le hw1 hb5.size
          have hpc := plus_cell
          have HZ2 := Lib.hid hz2
          clear hz2 hF5 hF4 hown4 hg4 hb4 g0 g1 g2 g3 g4
          go_wp2_with fail
          refine wp_region_grow (by kernel_rfl) (by kernel_rfl) ?_
          repeat (go_big_quiet_step ((first | (fail))))
          refine wpQuiet_nil ?_
          intro w1 hb1
          go_wp2
          go_ret3
          have hok : NewOk s f u d xs := ⟨HZ.out, by unfold newErr; rw [HI.out, ← HYS.out]; exact HZ2.out⟩
          have hye : xs ++ [newErr s f u d xs] = ys := by unfold newErr; rw [HI.out, HYS.out]
          rw [sel_t hok, seli_t hok, tb_t hok, HI.out, hye]
          exact ⟨B4, d4, rfl, (hF6.ext hb1).mono (Nat.le_refl _) (Nat.le_trans hb5.size hb1.size), ext_trans hx6 hb1⟩
        · rw [tb_f hz2]
          have HZ2 := Lib.hid hz2
          clear hz2
          go_wp2_with fail
          go_wp2
          go_ret3
          have hok : ¬ NewOk s f u d xs := fun h => HZ2.out (by have h2 := h.2; unfold newErr at h2; rw [HI.out, ← HYS.out] at h2; exact h2)
          rw [sel_f hok, seli_f hok, tb_f hok]
          exact ⟨none, 0, rfl, FlO.nil, hx6⟩
    · obtain ⟨x, hx, hid⟩ := last_get hlen
      have hP : IsErr x := hz.1.1 m x hx
      have hp1 := hP.1
      have hp2 := hP.2.1
      clear hP hz
      have hare := fun W hW => areErrata_any A c xs W (by omega) hW
      have hclo := fun W hW => cloneErratum_any A c xs W (by omega) hW
      rw [hlen] at hare hclo
      have HA := Lib.hid hare
      have HC := Lib.hid hclo
      have HL := Lib.hid hlen
      have HX := Lib.hid hx
      have HI := Lib.hid hid
      have hm : m < 1048576 := by omega
      clear hare hclo hlen hid
      go_enter Tryz.func16, Tryz.ntmps16
      go_wp2_with fail
      refine (HA.out _ hA).mono ?_
      rintro e w1 ⟨rfl, hb1⟩
      rw [tb_t HZ.out]
      have hA1 := hA.ext hb1
      have hA1' := hA1
      obtain ⟨b, o, h1, hbb, hcc⟩ := hA1' (by intro e; rw [e] at hx; simp at hx)
      subst h1
      have c0 : World.cell? w1 ⟨b, o + m * 5, none⟩ = some (.int .i64 x.id) := hcc m x hx 0 _ rfl
      have hm0 : (0 : Int) ≤ (m : Int) := by omega
      have hm2 : (0 : Int) < (m : Int) + 1 := by omega
      obtain ⟨W2, hW2, hB2, hz2', hc2, _⟩ := box_world w1 #[Value.int .i64 (x.id + 1), .int .i64 s, .int .i64 f, .int .i64 u, .int .i64 d] 47
      have g0 : World.cell? W2 ⟨w1.heap.size, 0, none⟩ = some (.int .i64 (x.id + 1)) := hc2 0
      have g1 : World.cell? W2 ⟨w1.heap.size, 1, none⟩ = some (.int .i64 s) := hc2 1
      have g2 : World.cell? W2 ⟨w1.heap.size, 2, none⟩ = some (.int .i64 f) := hc2 2
      have g3 : World.cell? W2 ⟨w1.heap.size, 3, none⟩ = some (.int .i64 u) := hc2 3
      have g4 : World.cell? W2 ⟨w1.heap.size, 4, none⟩ = some (.int .i64 d) := hc2 4
      clear hcc hx hA1 hc2
      go_wp2_with fail
      have hA2 := (hA.ext hb1).ext hB2
      have hx2 := ext_trans hb1 hB2
      clear hW2
      go_region_held3 (fun w' => Below (World.heap W2).size W2 w' ∧ ∀ b o, b < (World.heap W2).size → w'.cell? ⟨b, o, none⟩ = World.cell? W2 ⟨b, o, none⟩) (first | exact cls_of (ext_drew _) | exact cls_grow (by assumption) hb3' | exact cls_grow (by assumption) hb4 | (refine cls_grow (by assumption) (below_new ?_ _); first | (simp; done) | omega)) ((first | (go_at_call 50; refine (HC.out _ (hA2.ext ?_)).mono ?_; (first | exact ext_drew _ | exact ext_trans (ext_drew _) (ext_alloc _ _)); rintro e w3 ⟨B3, d3, rfl, hown, hb3⟩; have hz3 := Nat.le_trans (m := (World.heap _).size) (n := (World.heap W2).size) (by simp) hb3.size; have hb3' := hb3.mono (B' := (World.heap W2).size) (by simp); have hown := OwnF.from_ (lo' := (World.heap W2).size) hown (by simp)) | (refine step_append_all (f := Erratum.ints) rfl (.tmp 36) (.tmp 38) 24 rfl (World.heap W2).size i0 _ 5 _ Tryz.underlying24 hi hz0 hz1 hz2 rfl (by decide) _ xs rfl ?_ (some _) 1 [⟨x.id + 1, s, f, u, d⟩] rfl ?_ (fun _ => rfl) ?_ (by decide) ?_ ?_; (first | exact hown | exact hown.ext (ext_alloc _ _)); (first | exact Fl.box (f := Erratum.ints) _ ⟨x.id + 1, s, f, u, d⟩ | exact (Fl.box (f := Erratum.ints) _ ⟨x.id + 1, s, f, u, d⟩).ext hb3 | exact ((Fl.box (f := Erratum.ints) W2 ⟨x.id + 1, s, f, u, d⟩).ext (ext_drew _)).ext hb3); (first | (simp; omega)); (first | omega | (simp; omega)); intro v4 w4 hown4 hg4 hb4; have hx4 : Below (World.heap W2).size W2 w4 := (by first | exact ((((Below.refl _ _).drew).trans hb3').trans (below_new hz3 _)).trans hb4 | exact ((((below_new (Nat.le_refl _) _).drew)).trans hb3').trans hb4))))
      all_goals
        obtain ⟨ys, hys⟩ : ∃ ys, ys = xs ++ [Erratum.mk (x.id + 1) s f u d] := ⟨_, rfl⟩
        rw [← hys] at hown4
        have hyl : ys.length ≤ 1048577 := by rw [hys]; simp; omega
        have HYS := Lib.hid hys
        clear hys
        obtain ⟨B4, d4, hv4, hF4⟩ := hown4.form (fun _ => rfl)
        subst hv4
        have hx5 := ext_trans hx2 hx4
        have hF5 := hF4.mono (lo' := w.heap.size) (hi' := w4.heap.size) hx2.size (Nat.le_refl _)
        go_wp2_with fail
        refine (areErrata_any B4 d4 ys _ (by omega) hF4.fl).mono ?_
        rintro e w5 ⟨rfl, hb5⟩
        have hx6 := ext_trans hx5 hb5
        have hF6 := hF5.ext hb5
        by_cases hz2 : Errs ys
        · rw [tb_t hz2]
          have hw1 : w1.heap.size < w4.heap.size := Nat.lt_of_lt_of_le hz2' hx4.size
          have G0 : World.cell? w5 ⟨w1.heap.size, 0, none⟩ = some (.int .i64 (x.id + 1)) := ((hb5.cell (p := ⟨w1.heap.size, 0, none⟩) hw1).trans (hx4.cell (p := ⟨w1.heap.size, 0, none⟩) hz2')).trans g0
          have hw5 : w1.heap.size < w5.heap.size := Nat.lt_of_lt_of_le hw1 hb5.size
          have hpc := plus_cell
          have HZ2 := Lib.hid hz2
          clear hz2 hF5 hF4 hown4 hg4 hb4 g0 g1 g2 g3 g4
          go_wp2_with fail
          refine wp_region_grow (by kernel_rfl) (by kernel_rfl) ?_
          repeat (go_big_quiet_step ((first | (fail))))
          refine wpQuiet_nil ?_
          intro w1 hb1
          go_wp2
          go_ret3
          have hok : NewOk s f u d xs := ⟨HZ.out, by unfold newErr; rw [HI.out, ← HYS.out]; exact HZ2.out⟩
          have hye : xs ++ [newErr s f u d xs] = ys := by unfold newErr; rw [HI.out, HYS.out]
          rw [sel_t hok, seli_t hok, tb_t hok, HI.out, hye]
          exact ⟨B4, d4, rfl, (hF6.ext hb1).mono (Nat.le_refl _) (Nat.le_trans hb5.size hb1.size), ext_trans hx6 hb1⟩
        · rw [tb_f hz2]
          have HZ2 := Lib.hid hz2
          clear hz2
          go_wp2_with fail
          go_wp2
          go_ret3
          have hok : ¬ NewOk s f u d xs := fun h => HZ2.out (by have h2 := h.2; unfold newErr at h2; rw [HI.out, ← HYS.out] at h2; exact h2)
          rw [sel_f hok, seli_f hok, tb_f hok]
          exact ⟨none, 0, rfl, FlO.nil, hx6⟩
  · have hok : ¬ NewOk s f u d xs := fun h => hz h.1
    rw [sel_f hok, seli_f hok, tb_f hok]
    clear hok
    go_enter Tryz.func16, Tryz.ntmps16
    go_wp2_with fail
    refine (areErrata_any A c xs _ (by omega) hA).mono ?_
    rintro e w1 ⟨rfl, hb1⟩
    rw [tb_f hz]
    clear hz
    go_wp2
    go_ret3
    exact ⟨none, 0, rfl, FlO.nil, hb1⟩

theorem newId_wrap {xs : List Erratum} (h : Errs xs) : wrap64 (newId xs) = newId xs := by
  unfold newId
  cases hg : xs.getLast? with
  | none => simp only; unfold wrap64; omega
  | some e =>
    have hx : e ∈ xs := List.mem_of_getLast? hg
    obtain ⟨i, hi, he⟩ := List.getElem_of_mem hx
    have := h.1.1 i e (by rw [List.getElem?_eq_getElem hi, he])
    have h1 := this.1
    have h2 := this.2.1
    simp only
    unfold wrap64
    omega

set_option maxHeartbeats 400000 in
set_option maxRecDepth 100000 in
theorem newErratum_spec (s f u d : Int) (A : Option Addr) (c : Nat) (xs : List Erratum) (w : World) (hn : xs.length ≤ 1048576) (hA : Fl Erratum.ints 5 w A xs) :
    Calls Tryz.prog 17 #[.slice A xs.length c, .int .i64 s, .int .i64 f, .int .i64 u, .int .i64 d] w (RetLI Erratum.ints 5 w (sel (NewOk s f u d xs) (xs ++ [newErr s f u d xs])) (seli (NewOk s f u d xs) (newId xs)) (tb (NewOk s f u d xs))) := by
  obtain ⟨i0, hi, hz0, hz1, hz2⟩ := info_parts infoErratum
  rcases hlen : xs.length with _ | m
  · have hid : newId xs = 1 := by
      rw [List.length_eq_zero_iff.1 hlen]
      rfl
    have HI := Lib.hid hid
    clear hid
    go_enter Tryz.func17, Tryz.ntmps17
    have hspc := fun W hW => l19Errata_any (A) c xs W (by omega) hW
    rw [hlen] at hspc
    have HA := Lib.hid hspc
    have HL := Lib.hid hlen
    clear hlen hspc
    go_wp2_with (at_builtin; first | (refine wpList_append_all (f := Erratum.ints) rfl _ _ _ rfl w.heap.size i0 _ 5 _ Tryz.underlying24 hi hz0 hz1 hz2 rfl (by decide) _ [] rfl (OwnF.empty (Nat.le_refl _)) _ c xs (congrArg (fun n => Value.slice _ n c) HL.out.symm) (hA.ext (ext_alloc _ _)) (fun _ => rfl) (by simp; omega) (by decide) (by simp) ?_; intro v1 w1 hown hg1 hb1; rw [List.nil_append] at hown; obtain ⟨B1, d1, hv1, _⟩ := hown.form (fun _ => rfl); subst hv1; have hx1 : Below w.heap.size w w1 := ((Below.refl _ _).alloc (Nat.le_refl _) _).trans hb1; have hs1 := hx1.size) | (refine wpList_append_all (f := Erratum.ints) rfl _ _ _ rfl w.heap.size i0 _ 5 _ Tryz.underlying24 hi hz0 hz1 hz2 rfl (by decide) _ xs rfl ?_ (some _) 1 [⟨1, s, f, u, d⟩] rfl ?_ (fun _ => rfl) ?_ (by decide) ?_ ?_; (first | exact hown | exact hown.ext (ext_alloc _ _)); exact Fl.box (f := Erratum.ints) _ ⟨1, s, f, u, d⟩; (simp; omega); (simp; omega); intro v2 w2 hown2 hg2 hb2; have hx2 : Below w.heap.size w w2 := (hx1.alloc hs1 _).trans hb2))
    obtain ⟨ys, hys⟩ : ∃ ys, ys = xs ++ [Erratum.mk (1) s f u d] := ⟨_, rfl⟩
    rw [← hys] at hown2
    have hyl : ys.length ≤ 1048577 := by rw [hys]; simp; omega
    have HYS := Lib.hid hys
    clear hys
    obtain ⟨B4, d4, hv4, hF4⟩ := hown2.form (fun _ => rfl)
    subst hv4
    have hA2 := hA.ext hx2
    go_wp2_with fail
    refine (HA.out _ hA2).mono ?_
    rintro e w5 ⟨rfl, hb5⟩
    have hx5 := ext_trans hx2 hb5
    have hF5 := hF4.ext hb5
    by_cases hz : Errs xs
    · rw [tb_t hz]
      go_wp2_with fail
      refine (l19Errata_any B4 d4 ys _ (by omega) hF5.fl).mono ?_
      rintro e w6 ⟨rfl, hb6⟩
      have hx6 := ext_trans hx5 hb6
      have hF6 := hF5.ext hb6
      have hwr := newId_wrap hz
      have hid : newId xs = 1 := HI.out
      by_cases hz2 : Errs ys
      · rw [tb_t hz2]
        go_wp2_with fail
        go_ret3
        have hok : NewOk s f u d xs := ⟨hz, by unfold newErr; rw [hid, ← HYS.out]; exact hz2⟩
        have hye : xs ++ [newErr s f u d xs] = ys := by unfold newErr; rw [hid, HYS.out]
        rw [sel_t hok, seli_t hok, tb_t hok, hid, hye]
        exact ⟨B4, d4, rfl, hF6.mono (Nat.le_refl _) (Nat.le_trans hb5.size hb6.size), hx6⟩
      · rw [tb_f hz2]
        go_wp2_with fail
        go_ret3
        have hok : ¬ NewOk s f u d xs := fun h => hz2 (by have h2 := h.2; unfold newErr at h2; rw [hid, ← HYS.out] at h2; exact h2)
        rw [sel_f hok, seli_f hok, tb_f hok]
        exact ⟨_, 0, rfl, FlO.nil, ext_trans hx6 (by go_grown)⟩
    · rw [tb_f hz]
      go_wp2_with fail
      go_ret3
      have hok : ¬ NewOk s f u d xs := fun h => hz h.1
      rw [sel_f hok, seli_f hok, tb_f hok]
      exact ⟨_, 0, rfl, FlO.nil, ext_trans hx5 (by go_grown)⟩
  · obtain ⟨x, hx, hid⟩ := last_get hlen
    obtain ⟨b, o, h1, hbb, hcc⟩ := id hA (by intro e; rw [e] at hx; simp at hx)
    subst h1
    have c0 : World.cell? w ⟨b, o + m * 5, none⟩ = some (.int .i64 x.id) := hcc m x hx 0 _ rfl
    have HX := Lib.hid hx
    have HI := Lib.hid hid
    clear hcc hx hid
    have hm : m < 1048576 := by omega
    have hm0 : (0 : Int) ≤ (m : Int) := by omega
    have hm2 : (0 : Int) < (m : Int) + 1 := by omega
    go_enter Tryz.func17, Tryz.ntmps17
    have hspc := fun W hW => l19Errata_any (some ⟨b, o, none⟩) c xs W (by omega) hW
    rw [hlen] at hspc
    have HA := Lib.hid hspc
    have HL := Lib.hid hlen
    clear hlen hspc
    go_wp2_with (at_builtin; first | (refine wpList_append_all (f := Erratum.ints) rfl _ _ _ rfl w.heap.size i0 _ 5 _ Tryz.underlying24 hi hz0 hz1 hz2 rfl (by decide) _ [] rfl (OwnF.empty (Nat.le_refl _)) _ c xs (congrArg (fun n => Value.slice _ n c) HL.out.symm) (hA.ext (ext_alloc _ _)) (fun _ => rfl) (by simp; omega) (by decide) (by simp) ?_; intro v1 w1 hown hg1 hb1; rw [List.nil_append] at hown; obtain ⟨B1, d1, hv1, _⟩ := hown.form (fun _ => rfl); subst hv1; have hx1 : Below w.heap.size w w1 := ((Below.refl _ _).alloc (Nat.le_refl _) _).trans hb1; have hs1 := hx1.size) | (refine wpList_append_all (f := Erratum.ints) rfl _ _ _ rfl w.heap.size i0 _ 5 _ Tryz.underlying24 hi hz0 hz1 hz2 rfl (by decide) _ xs rfl ?_ (some _) 1 [⟨wrap64 (x.id + 1), s, f, u, d⟩] rfl ?_ (fun _ => rfl) ?_ (by decide) ?_ ?_; (first | exact hown | exact hown.ext (ext_alloc _ _)); exact Fl.box (f := Erratum.ints) _ ⟨wrap64 (x.id + 1), s, f, u, d⟩; (simp; omega); (simp; omega); intro v2 w2 hown2 hg2 hb2; have hx2 : Below w.heap.size w w2 := (hx1.alloc hs1 _).trans hb2))
    obtain ⟨ys, hys⟩ : ∃ ys, ys = xs ++ [Erratum.mk (wrap64 (x.id + 1)) s f u d] := ⟨_, rfl⟩
    rw [← hys] at hown2
    have hyl : ys.length ≤ 1048577 := by rw [hys]; simp; omega
    have HYS := Lib.hid hys
    clear hys
    obtain ⟨B4, d4, hv4, hF4⟩ := hown2.form (fun _ => rfl)
    subst hv4
    have hA2 := hA.ext hx2
    go_wp2_with fail
    refine (HA.out _ hA2).mono ?_
    rintro e w5 ⟨rfl, hb5⟩
    have hx5 := ext_trans hx2 hb5
    have hF5 := hF4.ext hb5
    by_cases hz : Errs xs
    · rw [tb_t hz]
      go_wp2_with fail
      refine (l19Errata_any B4 d4 ys _ (by omega) hF5.fl).mono ?_
      rintro e w6 ⟨rfl, hb6⟩
      have hx6 := ext_trans hx5 hb6
      have hF6 := hF5.ext hb6
      have hwr := newId_wrap hz
      have hid : newId xs = wrap64 (x.id + 1) := (by rw [← HI.out]; exact hwr.symm)
      by_cases hz2 : Errs ys
      · rw [tb_t hz2]
        go_wp2_with fail
        go_ret3
        have hok : NewOk s f u d xs := ⟨hz, by unfold newErr; rw [hid, ← HYS.out]; exact hz2⟩
        have hye : xs ++ [newErr s f u d xs] = ys := by unfold newErr; rw [hid, HYS.out]
        rw [sel_t hok, seli_t hok, tb_t hok, hid, hye]
        exact ⟨B4, d4, rfl, hF6.mono (Nat.le_refl _) (Nat.le_trans hb5.size hb6.size), hx6⟩
      · rw [tb_f hz2]
        go_wp2_with fail
        go_ret3
        have hok : ¬ NewOk s f u d xs := fun h => hz2 (by have h2 := h.2; unfold newErr at h2; rw [hid, ← HYS.out] at h2; exact h2)
        rw [sel_f hok, seli_f hok, tb_f hok]
        exact ⟨_, 0, rfl, FlO.nil, ext_trans hx6 (by go_grown)⟩
    · rw [tb_f hz]
      go_wp2_with fail
      go_ret3
      have hok : ¬ NewOk s f u d xs := fun h => hz h.1
      rw [sel_f hok, seli_f hok, tb_f hok]
      exact ⟨_, 0, rfl, FlO.nil, ext_trans hx5 (by go_grown)⟩
theorem new_len (s f u d : Int) (xs : List Erratum) : (sel (NewOk s f u d xs) (xs ++ [newErr s f u d xs])).length ≤ 1048576 := by
  by_cases h : NewOk s f u d xs
  · rw [sel_t h]
    have := h.2.2
    omega
  · rw [sel_f h]
    simp
end Go.Proofs.YtbnlbcbdhmmlgaaGreatDoor
