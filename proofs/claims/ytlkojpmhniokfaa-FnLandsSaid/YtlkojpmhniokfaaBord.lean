/- The borders of zones in both directions, in order. -/
import Derived.Test.YtlkojpmhniokfaaAreaD
import Derived.StillTailTactics
namespace Go.Proofs.Ytlkojpmhniokfaa
open Go.RowKit
set_option linter.unusedVariables false
set_option linter.unusedSimpArgs false

def Box4 (w : World) (b : Nat) (z : Zone) : Prop := b < w.heap.size ∧ w.cell? ⟨b, 1, none⟩ = some (.int .i64 z.west) ∧ w.cell? ⟨b, 2, none⟩ = some (.int .i64 z.south) ∧ w.cell? ⟨b, 3, none⟩ = some (.int .i64 z.east) ∧ w.cell? ⟨b, 4, none⟩ = some (.int .i64 z.north)
theorem box4_ext {W w3 : World} {b : Nat} {z : Zone} (h : b < W.heap.size ∧ W.cell? ⟨b, 1, none⟩ = some (.int .i64 z.west) ∧ W.cell? ⟨b, 2, none⟩ = some (.int .i64 z.south) ∧ W.cell? ⟨b, 3, none⟩ = some (.int .i64 z.east) ∧ W.cell? ⟨b, 4, none⟩ = some (.int .i64 z.north)) (hb : Below W.heap.size W w3) :
    b < w3.heap.size ∧ w3.cell? ⟨b, 1, none⟩ = some (.int .i64 z.west) ∧ w3.cell? ⟨b, 2, none⟩ = some (.int .i64 z.south) ∧ w3.cell? ⟨b, 3, none⟩ = some (.int .i64 z.east) ∧ w3.cell? ⟨b, 4, none⟩ = some (.int .i64 z.north) :=
  ⟨Nat.lt_of_lt_of_le h.1 hb.size, (hb.cell (p := ⟨b, 1, none⟩) h.1).trans h.2.1, (hb.cell (p := ⟨b, 2, none⟩) h.1).trans h.2.2.1, (hb.cell (p := ⟨b, 3, none⟩) h.1).trans h.2.2.2.1, (hb.cell (p := ⟨b, 4, none⟩) h.1).trans h.2.2.2.2⟩
theorem box4_kept {W w3 : World} {b : Nat} {z : Zone} {ob : Option Nat} (h : b < W.heap.size ∧ W.cell? ⟨b, 1, none⟩ = some (.int .i64 z.west) ∧ W.cell? ⟨b, 2, none⟩ = some (.int .i64 z.south) ∧ W.cell? ⟨b, 3, none⟩ = some (.int .i64 z.east) ∧ W.cell? ⟨b, 4, none⟩ = some (.int .i64 z.north)) (hg : W.grownBy w3 ob) (hne : some b ≠ ob) :
    b < w3.heap.size ∧ w3.cell? ⟨b, 1, none⟩ = some (.int .i64 z.west) ∧ w3.cell? ⟨b, 2, none⟩ = some (.int .i64 z.south) ∧ w3.cell? ⟨b, 3, none⟩ = some (.int .i64 z.east) ∧ w3.cell? ⟨b, 4, none⟩ = some (.int .i64 z.north) :=
  have hk := hg.block b h.1 hne
  ⟨Nat.lt_of_lt_of_le h.1 hg.size, (World.cell?_of_block (w := W) (a := ⟨b, 1, none⟩) hk).trans h.2.1, (World.cell?_of_block (w := W) (a := ⟨b, 2, none⟩) hk).trans h.2.2.1, (World.cell?_of_block (w := W) (a := ⟨b, 3, none⟩) hk).trans h.2.2.2.1, (World.cell?_of_block (w := W) (a := ⟨b, 4, none⟩) hk).trans h.2.2.2.2⟩
/-- two sorted lists that have been made -/
def RetTwo (w : World) (xs ys : List Int) (e : Ending) (w' : World) : Prop :=
  ∃ B d C d', e = .returned (.tuple #[.slice B xs.length d, .slice C ys.length d']) ∧ Fl one 1 w' B xs ∧ Fl one 1 w' C ys ∧ Below w.heap.size w w'
set_option maxHeartbeats 2000000 in
set_option maxRecDepth 100000 in
theorem borders_any (A : Option Addr) (c : Nat) (zs : List Zone) (w : World) (hn : zs.length ≤ 1048576) (hA : Fl Zone.ints 5 w A zs) :
    Calls Try.prog 68 #[.slice A zs.length c] w (RetTwo w ((linesX zs).mergeSort leI) ((linesY zs).mergeSort leI)) := by
  obtain ⟨i0, hi, hz0, hz1, hz2⟩ := info_parts infoInt
  obtain ⟨n, hnn⟩ : ∃ n, n = List.length zs := ⟨_, rfl⟩
  rw [← hnn] at hn ⊢
  have hN := Lib.hid hnn
  clear hnn
  go_enter Try.func68, Try.ntmps68
  go_wp2
  go_loopw [4, 5, 10] (fun v1 v2 i wr => ∃ k : Nat, k ≤ n ∧ i = .int .i64 k ∧ Below w.heap.size w wr ∧ OwnF one 1 w.heap.size 3 wr v1 (linesX (zs.take k)) ∧ OwnF one 1 w.heap.size 3 wr v2 (linesY (zs.take k)) ∧ Apart v1 v2) (fun _ _ i _ => n - (intOf i).toNat)
  case atStart => exact ⟨0, by omega, rfl, Below.refl _ _, OwnF.none_, OwnF.none_, Apart.none_ _⟩
  case round =>
    obtain ⟨k, hk, rfl, hbr, hown1, hown2, hap⟩ := hrel
    have hzr := hbr.size
    have hl1 : (linesX (zs.take k)).length ≤ 2097152 := by rw [linesX_len, List.length_take]; omega
    have hl2 : (linesY (zs.take k)).length ≤ 2097152 := by rw [linesY_len, List.length_take]; omega
    by_cases hlt : k < n
    · obtain ⟨z, b, o, hx, rfl, hbb, hc⟩ := (hA.ext hbr).at_ (k := k) (by rw [← hN.out]; exact hlt)
      have c0 : World.cell? wr ⟨b, o + k * 5, none⟩ = some (.int .i64 z.id) := hc 0 _ rfl
      have c1 : World.cell? wr ⟨b, o + k * 5 + 1, none⟩ = some (.int .i64 z.west) := hc 1 _ rfl
      have c2 : World.cell? wr ⟨b, o + k * 5 + 2, none⟩ = some (.int .i64 z.south) := hc 2 _ rfl
      have c3 : World.cell? wr ⟨b, o + k * 5 + 3, none⟩ = some (.int .i64 z.east) := hc 3 _ rfl
      have c4 : World.cell? wr ⟨b, o + k * 5 + 4, none⟩ = some (.int .i64 z.north) := hc 4 _ rfl
      have HT := Lib.hid (take_get hx)
      obtain ⟨W0, hW0, hB0, hz0', hg, _⟩ := box_world wr #[Value.int .i64 z.id, .int .i64 z.west, .int .i64 z.south, .int .i64 z.east, .int .i64 z.north] 77
      have g1 : World.cell? W0 ⟨wr.heap.size, 1, none⟩ = some (.int .i64 z.west) := hg 1
      have g2 : World.cell? W0 ⟨wr.heap.size, 2, none⟩ = some (.int .i64 z.south) := hg 2
      have g3 : World.cell? W0 ⟨wr.heap.size, 3, none⟩ = some (.int .i64 z.east) := hg 3
      have g4 : World.cell? W0 ⟨wr.heap.size, 4, none⟩ = some (.int .i64 z.north) := hg 4
      have hbW := ext_trans hbr hB0
      have hneX : some wr.heap.size ≠ _ := hown1.ne_new (Nat.le_refl _)
      have hneY : some wr.heap.size ≠ _ := hown2.ne_new (Nat.le_refl _)
      have HX := Lib.hid (hown1.ext hB0)
      have HY := Lib.hid (hown2.ext hB0)
      have HAPX := Lib.hid hap
      have HAPY := Lib.hid hap.symm
      have HNX := Lib.hid hneX
      have HNY := Lib.hid hneY
      have HSE : Hid (∀ o : Obj, (W0.alloc o).heap.size = W0.heap.size + 1) := fun o => by simp
      clear hc hx hg hown1 hown2 hap hneX hneY
      have hk0 : (0 : Int) ≤ (k : Int) := by omega
      have hk1 : (k : Int) < (n : Int) := by omega
      go_wp2_with fail
      clear hW0
      go_region_held3 (fun w' => wr.heap.size < w'.heap.size ∧ w'.cell? ⟨wr.heap.size, 1, none⟩ = some (.int .i64 z.west) ∧ w'.cell? ⟨wr.heap.size, 2, none⟩ = some (.int .i64 z.south) ∧ w'.cell? ⟨wr.heap.size, 3, none⟩ = some (.int .i64 z.east) ∧ w'.cell? ⟨wr.heap.size, 4, none⟩ = some (.int .i64 z.north)) (first | exact box4_ext ⟨hz0', g1, g2, g3, g4⟩ (ext_drew _) | exact box4_ext (by assumption) (ext_alloc _ _) | exact box4_kept (by assumption) hgA HNX.out | exact box4_kept (by assumption) hgB HNY.out) ((first | (refine step_append_all_at (f := one) rfl (.tmp 14) (.tmp 19) 38 rfl w.heap.size i0 _ 1 8 Try.underlying38 hi hz0 hz1 hz2 rfl (by decide) _ (linesX (zs.take k)) rfl ?_ (some _) 2 [z.west, z.east] rfl ?_ (fun _ => rfl) ?_ (by decide) ?_ ?_; (first | exact (HX.out.ext (ext_alloc _ _)).ext (ext_drew _) | exact ((HX.out.ext (ext_alloc _ _)).ext (ext_alloc _ _)).ext (ext_drew _) | exact hXB | exact hXB.ext (ext_alloc _ _)); (first | exact (Fl.lit W0 [z.west, z.east]).ext (ext_drew _) | exact ((Fl.lit W0 [z.west, z.east]).ext (ext_alloc _ _)).ext (ext_drew _) | exact (Fl.lit_at (w := W0.alloc (.cells #[.int .i64 z.south, .int .i64 z.north] 3)) (HSE.out _) [z.west, z.east]).ext (ext_drew _) | exact Fl.lit wB [z.west, z.east] | exact hLXB); (simp only [List.length_cons, List.length_nil]; omega); (first | exact (ext_trans hbW (ext_trans (ext_alloc _ _) (ext_drew _))).size | exact (ext_trans hbW (ext_trans (ext_trans (ext_alloc _ _) (ext_alloc _ _)) (ext_drew _))).size | exact hWB.size | exact (ext_trans hWB (ext_alloc _ _)).size); intro vA wA hownA hgA hbA hatA; (first | (have hWA := hWB.trans hbA; have hKB := OwnF.kept hownB hgA hapB.ne; have hapF := Apart.new hapB.symm hatA hownB (Nat.le_refl _)) | (have hWA := (ext_trans hWB (ext_alloc _ _)).trans hbA; have hKB := OwnF.kept (hownB.ext (ext_alloc _ _)) hgA hapB.ne; have hapF := Apart.new hapB.symm hatA hownB (ext_alloc _ _).size) | (have hWA := (ext_trans hbW (ext_trans (ext_alloc _ _) (ext_drew _))).trans hbA; have hapA := Apart.new HAPX.out hatA HY.out (ext_trans (ext_alloc _ _) (ext_drew _)).size; have hYA := OwnF.kept ((HY.out.ext (ext_alloc _ _)).ext (ext_drew _)) hgA HAPX.out.symm.ne) | (have hWA := (ext_trans hbW (ext_trans (ext_trans (ext_alloc _ _) (ext_alloc _ _)) (ext_drew _))).trans hbA; have hapA := Apart.new HAPX.out hatA HY.out (ext_trans (ext_trans (ext_alloc _ _) (ext_alloc _ _)) (ext_drew _)).size; have hYA := OwnF.kept (((HY.out.ext (ext_alloc _ _)).ext (ext_alloc _ _)).ext (ext_drew _)) hgA HAPX.out.symm.ne; (first | have hLYA := Fl.kept (((Fl.lit W0 [z.south, z.north]).ext (ext_alloc _ _)).ext (ext_drew _)) hgA (HX.out.ne_new (Nat.le_refl _)) | have hLYA := Fl.kept ((Fl.lit_at (w := W0.alloc (.cells #[.int .i64 z.west, .int .i64 z.east] 3)) (HSE.out _) [z.south, z.north]).ext (ext_drew _)) hgA (HX.out.ne_new (Nat.le_succ _)))))) | (refine step_append_all_at (f := one) rfl (.tmp 21) (.tmp 26) 38 rfl w.heap.size i0 _ 1 8 Try.underlying38 hi hz0 hz1 hz2 rfl (by decide) _ (linesY (zs.take k)) rfl ?_ (some _) 2 [z.south, z.north] rfl ?_ (fun _ => rfl) ?_ (by decide) ?_ ?_; (first | exact (HY.out.ext (ext_alloc _ _)).ext (ext_drew _) | exact ((HY.out.ext (ext_alloc _ _)).ext (ext_alloc _ _)).ext (ext_drew _) | exact hYA | exact hYA.ext (ext_alloc _ _)); (first | exact (Fl.lit W0 [z.south, z.north]).ext (ext_drew _) | exact ((Fl.lit W0 [z.south, z.north]).ext (ext_alloc _ _)).ext (ext_drew _) | exact (Fl.lit_at (w := W0.alloc (.cells #[.int .i64 z.west, .int .i64 z.east] 3)) (HSE.out _) [z.south, z.north]).ext (ext_drew _) | exact Fl.lit wA [z.south, z.north] | exact hLYA); (simp only [List.length_cons, List.length_nil]; omega); (first | exact (ext_trans hbW (ext_trans (ext_alloc _ _) (ext_drew _))).size | exact (ext_trans hbW (ext_trans (ext_trans (ext_alloc _ _) (ext_alloc _ _)) (ext_drew _))).size | exact hWA.size | exact (ext_trans hWA (ext_alloc _ _)).size); intro vB wB hownB hgB hbB hatB; (first | (have hWB := hWA.trans hbB; have hKA := OwnF.kept hownA hgB hapA.ne; have hapF := Apart.new hapA.symm hatB hownA (Nat.le_refl _)) | (have hWB := (ext_trans hWA (ext_alloc _ _)).trans hbB; have hKA := OwnF.kept (hownA.ext (ext_alloc _ _)) hgB hapA.ne; have hapF := Apart.new hapA.symm hatB hownA (ext_alloc _ _).size) | (have hWB := (ext_trans hbW (ext_trans (ext_alloc _ _) (ext_drew _))).trans hbB; have hapB := Apart.new HAPX.out hatB HX.out (ext_trans (ext_alloc _ _) (ext_drew _)).size; have hXB := OwnF.kept ((HX.out.ext (ext_alloc _ _)).ext (ext_drew _)) hgB HAPX.out.symm.ne) | (have hWB := (ext_trans hbW (ext_trans (ext_trans (ext_alloc _ _) (ext_alloc _ _)) (ext_drew _))).trans hbB; have hapB := Apart.new HAPX.out hatB HX.out (ext_trans (ext_trans (ext_alloc _ _) (ext_alloc _ _)) (ext_drew _)).size; have hXB := OwnF.kept (((HX.out.ext (ext_alloc _ _)).ext (ext_alloc _ _)).ext (ext_drew _)) hgB HAPX.out.symm.ne; (first | have hLXB := Fl.kept (((Fl.lit W0 [z.west, z.east]).ext (ext_alloc _ _)).ext (ext_drew _)) hgB (HY.out.ne_new (Nat.le_refl _)) | have hLXB := Fl.kept ((Fl.lit_at (w := W0.alloc (.cells #[.int .i64 z.south, .int .i64 z.north] 3)) (HSE.out _) [z.west, z.east]).ext (ext_drew _)) hgB (HY.out.ne_new (Nat.le_succ _))))))))
      all_goals
        first
          | have hE := And.intro hownA (And.intro hKB (And.intro hapF hWA))
          | have hE := And.intro hKA (And.intro hownB (And.intro hapF.symm hWB))
        go_wp2
        go_roundw
        case rel => exact ⟨k + 1, by omega, by go_num, hE.2.2.2, by rw [HT.out, linesX_snoc]; exact hE.1, by rw [HT.out, linesY_snoc]; exact hE.2.1, hE.2.2.1⟩
        case measure => simp [intOf]; omega
    · have hkn : k = n := by omega
      subst hkn
      rw [take_all (by rw [← hN.out]; exact Nat.le_refl _)] at hown1 hown2 hl1 hl2
      go_wp2_with fail
      refine (sortOwn_any w.heap.size _ (linesX zs) wr (by omega) hzr hown1).mono ?_
      rintro e w4 ⟨rfl, hs1, hg1, hb4⟩
      have hk2 := OwnF.kept hown2 hg1 hap.symm.ne
      have hbw4 := hbr.trans hb4
      have HK2 := Lib.hid hk2
      have HS1 := Lib.hid hs1
      clear hk2 hs1 hown1 hown2
      go_wp2_with fail
      refine (sortOwn_any w.heap.size _ (linesY zs) w4 (by omega) hbw4.size HK2.out).mono ?_
      rintro e w5 ⟨rfl, hs2, hg2, hb5⟩
      have hs1' := OwnF.kept HS1.out hg2 hap.ne
      obtain ⟨A1, c1, hv1, hF1⟩ := hs1'.form one_length
      obtain ⟨A2, c2, hv2, hF2⟩ := hs2.form one_length
      subst hv1 hv2
      have HF1 := Lib.hid hF1
      have HF2 := Lib.hid hF2
      clear hs1' hs2 hF1 hF2 hl1 hl2
      go_wp2
      go_ret2
      exact ⟨A1, c1, A2, c2, by rw [List.length_mergeSort, List.length_mergeSort]; rfl, HF1.out.fl, HF2.out.fl, hbw4.trans hb5⟩
end Go.Proofs.Ytlkojpmhniokfaa
