/- Zones without one of them: both sides. -/
import Derived.Test.YtpjapemclbminaaCut
import Derived.Test.YtpjapemclbminaaFamZone
import Derived.Test.YtpjapemclbminaaConcatZone
import Derived.Test.YtpjapemclbminaaLst
import Derived.Test.YtpjapemclbminaaOwn2
namespace Go.Proofs.Ytpjapemclbminaa
open Go.RowKit
set_option linter.unusedVariables false
set_option linter.unusedSimpArgs false

/-- a call that hands back structs that can be read -/
def RetFl {α : Type} (f : α → List Int) (sz : Nat) (w : World) (ys : List α) (e : Ending) (w' : World) : Prop :=
  ∃ B d, e = .returned (.slice B ys.length d) ∧ Fl f sz w' B ys ∧ Below w.heap.size w w'
set_option maxHeartbeats 1000000 in
set_option maxRecDepth 100000 in
theorem others_any (A : Option Addr) (c : Nat) (zs : List Zone) (j : Nat) (w : World) (hj : j < zs.length) (hn : zs.length ≤ 1048576) (hcap : zs.length ≤ c) (hcm : c ≤ 9223372036854775807) (hA : Fl Zone.ints 5 w A zs) :
    Calls Try.prog 40 #[.slice A zs.length c, .int .i64 j] w (RetFl Zone.ints 5 w (zs.take j ++ zs.drop (j + 1))) := by
  obtain ⟨i0e, hie, hz0e, hz1e, hz2e⟩ := info_parts infoZone
  obtain ⟨be, oe, hAe, hbe, _⟩ := _root_.id hA (fun e' => by rw [e'] at hj; simp at hj)
  subst hAe
  obtain ⟨n, hnn⟩ : ∃ n, n = List.length zs := ⟨_, rfl⟩
  rw [← hnn] at hj hn hcap ⊢
  have hN := Lib.hid hnn
  clear hnn
  have HT1 : Hid ((zs.take j).length = j) := by unfold Hid; rw [List.length_take]; have := hN.out; omega
  have HT2 : Hid ((zs.drop (j + 1)).length = n - (j + 1)) := by unfold Hid; rw [List.length_drop]; have := hN.out; omega
  have hwr : IntKind.i64.wrap ((j : Int) + 1) = (j : Int) + 1 := IntWalk.i64_in _ (by omega)
  have hj0 : (0 : Int) ≤ (j : Int) := by omega
  have hj1 : (j : Int) ≤ (c : Int) := by omega
  have hj2 : (0 : Int) ≤ (j : Int) + 1 := by omega
  have hj3 : (j : Int) + 1 ≤ (n : Int) := by omega
  have hj5 : (n : Int) ≤ (c : Int) := by omega
  have hj6 : (j : Int) + 1 ≤ (c : Int) := by omega
  by_cases hcj : c = j + 1
  · have hnj : n = j + 1 := by omega
    have hdn : zs.drop (j + 1) = [] := drop_all (by rw [← hN.out]; omega)
    subst hcj hnj
    have HT2 : Hid ((zs.drop (j + 1)).length = 0) := by unfold Hid; rw [hdn]; rfl
    have hj7 : (j : Int) ≤ (j : Int) + 1 := by omega
    go_enter Try.func40, Try.ntmps40
    go_wp2_with fail
    go_region_held3 (fun w' => Below (World.heap w).size w w' ∧ ∀ b o, b < (World.heap w).size → w'.cell? ⟨b, o, none⟩ = World.cell? w ⟨b, o, none⟩) (first | exact cls_of (ext_drew _) | exact cls_of (ext_trans (ext_alloc _ _) (ext_drew _)) | exact cls_alloc (by assumption) _ | exact cls_of hx5 | exact cls_grow (by assumption) hb5') ((first | (go_at_call 64; refine (concatZone_any (World.heap w).size (some ⟨be, oe, none⟩) (j + 1) j (zs.take j) (some ⟨be, oe, none⟩) (0) (0) (zs.drop (j + 1)) _ HT1.out.symm HT2.out.symm ?_ ?_ ?_ ?_ ?_ ?_).mono ?_; (exact cut_lt _ _); (omega); (exact cut_cell _ _ _ 0); (exact cut_cell _ _ _ 1); (exact (hA.ext (ext_trans (ext_alloc w _) (ext_drew _))).takeC j); (exact (by rw [hdn]; exact Fl.nil)); rintro e w5 ⟨v5, rfl, hown5, hb5⟩; have hx5 : Below (World.heap w).size w w5 := ext_trans (ext_trans (ext_alloc w _) (ext_drew _)) hb5; have hb5' : Below (World.heap w).size _ w5 := hb5.mono (by simp))))
    all_goals
      go_wp2
      go_ret
      obtain ⟨B5, d5, hv5, hF5⟩ := hown5.form (fun _ => rfl)
      exact ⟨B5, d5, by rw [hv5]; rfl, hF5.fl, hx5⟩
  · have hdK := hA.dropC (j + 1)
    go_enter Try.func40, Try.ntmps40
    go_wp2_with fail
    go_region_held3 (fun w' => Below (World.heap w).size w w' ∧ ∀ b o, b < (World.heap w).size → w'.cell? ⟨b, o, none⟩ = World.cell? w ⟨b, o, none⟩) (first | exact cls_of (ext_drew _) | exact cls_of (ext_trans (ext_alloc _ _) (ext_drew _)) | exact cls_alloc (by assumption) _ | exact cls_of hx5 | exact cls_grow (by assumption) hb5') ((first | (go_at_call 64; refine (concatZone_any (World.heap w).size (some ⟨be, oe, none⟩) (c) j (zs.take j) (some ⟨be, oe + (j + 1) * 5, none⟩) (c - (j + 1)) (n - (j + 1)) (zs.drop (j + 1)) _ HT1.out.symm HT2.out.symm ?_ ?_ ?_ ?_ ?_ ?_).mono ?_; (exact cut_lt _ _); (omega); (exact cut_cell _ _ _ 0); (exact cut_cell _ _ _ 1); (exact (hA.ext (ext_trans (ext_alloc w _) (ext_drew _))).takeC j); (exact (hdK.ext (ext_trans (ext_alloc w _) (ext_drew _)))); rintro e w5 ⟨v5, rfl, hown5, hb5⟩; have hx5 : Below (World.heap w).size w w5 := ext_trans (ext_trans (ext_alloc w _) (ext_drew _)) hb5; have hb5' : Below (World.heap w).size _ w5 := hb5.mono (by simp))))
    all_goals
      go_wp2
      go_ret
      obtain ⟨B5, d5, hv5, hF5⟩ := hown5.form (fun _ => rfl)
      exact ⟨B5, d5, by rw [hv5]; rfl, hF5.fl, hx5⟩
set_option maxHeartbeats 1000000 in
set_option maxRecDepth 100000 in
theorem l6Without_any (A : Option Addr) (c : Nat) (zs : List Zone) (j : Nat) (w : World) (hj : j < zs.length) (hn : zs.length ≤ 1048576) (hcap : zs.length ≤ c) (hcm : c ≤ 9223372036854775807) (hA : Fl Zone.ints 5 w A zs) :
    Calls Try.prog 41 #[.slice A zs.length c, .int .i64 j] w (RetFl Zone.ints 5 w (zs.take j ++ zs.drop (j + 1))) := by
  obtain ⟨i0e, hie, hz0e, hz1e, hz2e⟩ := info_parts infoZone
  obtain ⟨be, oe, hAe, hbe, _⟩ := _root_.id hA (fun e' => by rw [e'] at hj; simp at hj)
  subst hAe
  obtain ⟨n, hnn⟩ : ∃ n, n = List.length zs := ⟨_, rfl⟩
  rw [← hnn] at hj hn hcap ⊢
  have hN := Lib.hid hnn
  clear hnn
  have HT1 : Hid ((zs.take j).length = j) := by unfold Hid; rw [List.length_take]; have := hN.out; omega
  have HT2 : Hid ((zs.drop (j + 1)).length = n - (j + 1)) := by unfold Hid; rw [List.length_drop]; have := hN.out; omega
  have hwr : IntKind.i64.wrap ((j : Int) + 1) = (j : Int) + 1 := IntWalk.i64_in _ (by omega)
  have hj0 : (0 : Int) ≤ (j : Int) := by omega
  have hj1 : (j : Int) ≤ (c : Int) := by omega
  have hj2 : (0 : Int) ≤ (j : Int) + 1 := by omega
  have hj3 : (j : Int) + 1 ≤ (n : Int) := by omega
  have hj5 : (n : Int) ≤ (c : Int) := by omega
  have hj6 : (j : Int) + 1 ≤ (c : Int) := by omega
  by_cases hcj : c = j + 1
  · have hnj : n = j + 1 := by omega
    have hdn : zs.drop (j + 1) = [] := drop_all (by rw [← hN.out]; omega)
    subst hcj hnj
    have HT2 : Hid ((zs.drop (j + 1)).length = 0) := by unfold Hid; rw [hdn]; rfl
    have hj7 : (j : Int) ≤ (j : Int) + 1 := by omega
    go_enter Try.func41, Try.ntmps41
    go_wp2_with fail
    go_region_held3 (fun w' => Below (World.heap w).size w w' ∧ ∀ b o, b < (World.heap w).size → w'.cell? ⟨b, o, none⟩ = World.cell? w ⟨b, o, none⟩) (first | exact cls_of (ext_drew _) | exact cls_of (ext_trans (ext_alloc _ _) (ext_drew _)) | exact cls_of hx3 | exact cls_of hx5) ((first | (refine step_append_all (f := Zone.ints) rfl (.tmp 5) (.tmp 8) 24 rfl (World.heap w).size i0e _ 5 40 Try.underlying24 hie hz0e hz1e hz2e rfl (by decide) (.slice (some ⟨(World.heap w).size, 0, none⟩) 0 0) [] rfl ?_ (some ⟨be, oe, none⟩) (j + 1) (zs.take j) (by rw [HT1.out]; rfl) ?_ (fun _ => rfl) ?_ (by decide) ?_ ?_; (exact (OwnF.empty (Nat.le_refl _)).ext (ext_drew _)); (exact (hA.ext (ext_trans (ext_alloc _ _) (ext_drew _))).takeC j); (rw [HT1.out]; simp; omega); (simp; try omega); intro v3 w3 hown3 hg3 hb3; rw [List.nil_append] at hown3; have hx3 : Below (World.heap w).size w w3 := (ext_trans (ext_alloc w _) (ext_drew _)).trans hb3; have hs3 := hx3.size) | (refine step_append_all (f := Zone.ints) rfl (.tmp 9) (.tmp 13) 24 rfl (World.heap w).size i0e _ 5 40 Try.underlying24 hie hz0e hz1e hz2e rfl (by decide) _ (zs.take j) rfl hown3 (some ⟨be, oe, none⟩) (0) (zs.drop (j + 1)) (by rw [HT2.out]; rfl) ?_ (fun _ => rfl) ?_ (by decide) hs3 ?_; (exact (by rw [hdn]; exact Fl.nil)); (rw [HT1.out, HT2.out]; omega); intro v5 w5 hown5 hg5 hb5; have hx5 : Below (World.heap w).size w w5 := hx3.trans hb5)))
    all_goals
      go_wp2
      go_ret
      obtain ⟨B5, d5, hv5, hF5⟩ := hown5.form (fun _ => rfl)
      exact ⟨B5, d5, by rw [hv5]; rfl, hF5.fl, hx5⟩
  · have hdK := hA.dropC (j + 1)
    go_enter Try.func41, Try.ntmps41
    go_wp2_with fail
    go_region_held3 (fun w' => Below (World.heap w).size w w' ∧ ∀ b o, b < (World.heap w).size → w'.cell? ⟨b, o, none⟩ = World.cell? w ⟨b, o, none⟩) (first | exact cls_of (ext_drew _) | exact cls_of (ext_trans (ext_alloc _ _) (ext_drew _)) | exact cls_of hx3 | exact cls_of hx5) ((first | (refine step_append_all (f := Zone.ints) rfl (.tmp 5) (.tmp 8) 24 rfl (World.heap w).size i0e _ 5 40 Try.underlying24 hie hz0e hz1e hz2e rfl (by decide) (.slice (some ⟨(World.heap w).size, 0, none⟩) 0 0) [] rfl ?_ (some ⟨be, oe, none⟩) (c) (zs.take j) (by rw [HT1.out]; rfl) ?_ (fun _ => rfl) ?_ (by decide) ?_ ?_; (exact (OwnF.empty (Nat.le_refl _)).ext (ext_drew _)); (exact (hA.ext (ext_trans (ext_alloc _ _) (ext_drew _))).takeC j); (rw [HT1.out]; simp; omega); (simp; try omega); intro v3 w3 hown3 hg3 hb3; rw [List.nil_append] at hown3; have hx3 : Below (World.heap w).size w w3 := (ext_trans (ext_alloc w _) (ext_drew _)).trans hb3; have hs3 := hx3.size) | (refine step_append_all (f := Zone.ints) rfl (.tmp 9) (.tmp 13) 24 rfl (World.heap w).size i0e _ 5 40 Try.underlying24 hie hz0e hz1e hz2e rfl (by decide) _ (zs.take j) rfl hown3 (some ⟨be, oe + (j + 1) * 5, none⟩) (c - (j + 1)) (zs.drop (j + 1)) (by rw [HT2.out]; rfl) ?_ (fun _ => rfl) ?_ (by decide) hs3 ?_; (exact (hdK.ext hx3)); (rw [HT1.out, HT2.out]; omega); intro v5 w5 hown5 hg5 hb5; have hx5 : Below (World.heap w).size w w5 := hx3.trans hb5)))
    all_goals
      go_wp2
      go_ret
      obtain ⟨B5, d5, hv5, hF5⟩ := hown5.form (fun _ => rfl)
      exact ⟨B5, d5, by rw [hv5]; rfl, hF5.fl, hx5⟩
end Go.Proofs.Ytpjapemclbminaa
