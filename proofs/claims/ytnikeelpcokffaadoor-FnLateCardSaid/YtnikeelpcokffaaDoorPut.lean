/- The reference's l1Put: a number is put to its place, once. -/
import Derived.Test.YtnikeelpcokffaaDoorFamInt
import Derived.Test.YtnikeelpcokffaaDoorLst
namespace Go.Proofs.YtnikeelpcokffaaDoor
open Go.RowKit
set_option linter.unusedVariables false
set_option linter.unusedSimpArgs false

def putI : List Int → Int → List Int
  | [], n => [n]
  | x :: r, n => if x < n then x :: putI r n else if x = n then x :: r else n :: x :: r
theorem putI_at : ∀ (l : List Int) (n : Int) (k : Nat), (∀ (j : Nat) (x : Int), j < k → l[j]? = some x → x < n) → k ≤ l.length → (∀ x, l[k]? = some x → ¬ x < n) →
    ((∃ x, l[k]? = some x ∧ x = n) → putI l n = l) ∧ ((∀ x, l[k]? = some x → x ≠ n) → putI l n = l.take k ++ n :: l.drop k)
  | [], n, k, _, hk, _ => by
    have : k = 0 := by simpa using hk
    subst this
    exact ⟨fun ⟨x, h, _⟩ => by simp at h, fun _ => rfl⟩
  | y :: r, n, 0, _, _, h => by
    have h0 := h y rfl
    refine ⟨fun ⟨x, hx, he⟩ => ?_, fun hn => ?_⟩
    · simp at hx
      subst hx
      rw [putI, if_neg h0, if_pos he]
    · rw [putI, if_neg h0, if_neg (hn y rfl)]
      rfl
  | y :: r, n, k + 1, hl, hk, h => by
    have hy := hl 0 y (by omega) rfl
    have ih := putI_at r n k (fun j x hj hx => hl (j + 1) x (by omega) (by simpa using hx)) (by simpa using hk) (fun x hx => h x (by simpa using hx))
    refine ⟨fun ⟨x, hx, he⟩ => ?_, fun hn => ?_⟩
    · rw [putI, if_pos hy, ih.1 ⟨x, by simpa using hx, he⟩]
    · rw [putI, if_pos hy, ih.2 (fun x hx => hn x (by simpa using hx))]
      rfl
theorem putI_len (l : List Int) (n : Int) : (putI l n).length ≤ l.length + 1 := by
  induction l with
  | nil => simp [putI]
  | cons x r ih =>
    rw [putI]
    split
    · simp; omega
    · split <;> simp
theorem putI_mem (l : List Int) (n a : Int) : a ∈ putI l n ↔ a = n ∨ a ∈ l := by
  induction l with
  | nil => simp [putI]
  | cons x r ih =>
    rw [putI]
    split
    · simp only [List.mem_cons, ih]
      constructor
      · rintro (h | h | h)
        · exact .inr (.inl h)
        · exact .inl h
        · exact .inr (.inr h)
      · rintro (h | h | h)
        · exact .inr (.inl h)
        · exact .inl h
        · exact .inr (.inr h)
    · split
      · rename_i h
        subst h
        simp
      · simp
def Strict (l : List Int) : Prop := l.Pairwise fun x y => x < y
theorem putI_strict {l : List Int} {n : Int} (h : Strict l) : Strict (putI l n) := by
  induction l with
  | nil => simp [putI, Strict]
  | cons x r ih =>
    obtain ⟨h1, h2⟩ := List.pairwise_cons.1 h
    rw [putI]
    split
    · rename_i hx
      refine List.pairwise_cons.2 ⟨fun y hy => ?_, ih h2⟩
      rcases (putI_mem r n y).1 hy with h | h
      · omega
      · exact h1 y h
    · split
      · exact h
      · refine List.pairwise_cons.2 ⟨fun y hy => ?_, h⟩
        rcases List.mem_cons.1 hy with h | h
        · omega
        · have := h1 y h
          omega
theorem strict_unique : ∀ {xs ys : List Int}, Strict xs → Strict ys → (∀ a, a ∈ xs ↔ a ∈ ys) → xs = ys
  | [], [], _, _, _ => rfl
  | [], y :: r, _, _, h => by have := (h y).2 List.mem_cons_self; simp at this
  | x :: r, [], _, _, h => by have := (h x).1 List.mem_cons_self; simp at this
  | x :: r, y :: s, hx, hy, h => by
    obtain ⟨h1, h2⟩ := List.pairwise_cons.1 hx
    obtain ⟨h3, h4⟩ := List.pairwise_cons.1 hy
    have hxy : x = y := by
      rcases List.mem_cons.1 ((h x).1 List.mem_cons_self) with e | e
      · exact e
      · rcases List.mem_cons.1 ((h y).2 List.mem_cons_self) with e' | e'
        · exact e'.symm
        · have := h3 x e
          have := h1 y e'
          omega
    subst hxy
    congr 1
    refine strict_unique h2 h4 fun a => ?_
    constructor
    · intro ha
      rcases List.mem_cons.1 ((h a).1 (List.mem_cons_of_mem _ ha)) with e | e
      · subst e
        have := h1 a ha
        omega
      · exact e
    · intro ha
      rcases List.mem_cons.1 ((h a).2 (List.mem_cons_of_mem _ ha)) with e | e
      · subst e
        have := h3 a ha
        omega
      · exact e
/-- numbers put one by one -/
def putAll (l : List Int) : List Int := l.foldl putI []
theorem foldPut_strict : ∀ (l acc : List Int), Strict acc → Strict (l.foldl putI acc)
  | [], _, h => h
  | x :: r, acc, h => foldPut_strict r _ (putI_strict h)
theorem foldPut_mem (a : Int) : ∀ (l acc : List Int), a ∈ l.foldl putI acc ↔ a ∈ acc ∨ a ∈ l
  | [], acc => by simp
  | x :: r, acc => by
    rw [List.foldl_cons, foldPut_mem a r, putI_mem]
    simp only [List.mem_cons]
    constructor
    · rintro ((h | h) | h)
      · exact .inr (.inl h)
      · exact .inl h
      · exact .inr (.inr h)
    · rintro (h | h | h)
      · exact .inl (.inr h)
      · exact .inl (.inl h)
      · exact .inr h
theorem putAll_strict (l : List Int) : Strict (putAll l) := foldPut_strict l [] List.Pairwise.nil
theorem putAll_mem (l : List Int) (a : Int) : a ∈ putAll l ↔ a ∈ l := by
  unfold putAll
  rw [foldPut_mem]
  simp
theorem foldPut_len : ∀ (l acc : List Int), (l.foldl putI acc).length ≤ acc.length + l.length
  | [], acc => by simp
  | x :: r, acc => by
    have h1 := foldPut_len r (putI acc x)
    have h2 := putI_len acc x
    rw [List.foldl_cons, List.length_cons]
    omega
theorem putAll_len (l : List Int) : (putAll l).length ≤ l.length := by
  have := foldPut_len l []
  unfold putAll
  simpa using this
theorem putAll_snoc (l : List Int) (x : Int) : putAll (l ++ [x]) = putI (putAll l) x := by simp [putAll]
/-- a list that is already strictly sorted is what putting gives -/
theorem putAll_of_strict {l ys : List Int} (h : Strict ys) (hm : ∀ a, a ∈ ys ↔ a ∈ l) : putAll l = ys := strict_unique (putAll_strict l) h fun a => by rw [putAll_mem, hm]

theorem Fl.take {α : Type} {f : α → List Int} {sz : Nat} {w : World} {A : Option Addr} {xs : List α} (h : Fl f sz w A xs) (k : Nat) : Fl f sz w A (xs.take k) := fun hn => by
  obtain ⟨b, o, h1, h2, h3⟩ := h (fun e => hn (by rw [e]; simp))
  refine ⟨b, o, h1, h2, fun i x hx => h3 i x ?_⟩
  rw [List.getElem?_take] at hx
  split at hx
  · exact hx
  · cases hx
theorem Fl.drop {w : World} {b o : Nat} {xs : List Int} (h : Fl one 1 w (some ⟨b, o, none⟩) xs) (k : Nat) : Fl one 1 w (some ⟨b, o + k, none⟩) (xs.drop k) := fun hn => by
  obtain ⟨b', o', h1, h2, h3⟩ := h (fun e => hn (by rw [e]; simp))
  injection h1 with h1
  injection h1 with e1 e2 _
  subst e1 e2
  refine ⟨b, o + k, rfl, h2, fun i x hx j v hv => ?_⟩
  rw [List.getElem?_drop] at hx
  have := h3 (k + i) x hx j v hv
  rwa [show o + (k + i) * 1 + j = o + k + i * 1 + j from by omega] at this
theorem box_kept {W w3 : World} {ob : Option Nat} {bb : Nat} {v : Int} (hg : W.grownBy w3 ob) (h : Fl one 1 W (some ⟨bb, 0, none⟩) [v]) (hne : some bb ≠ ob) : Fl one 1 w3 (some ⟨bb, 0, none⟩) [v] := fun hn => by
  obtain ⟨b', o', h1, h2, h3⟩ := h hn
  injection h1 with h1
  injection h1 with e1 e2 _
  subst e1 e2
  exact ⟨bb, 0, rfl, Nat.lt_of_lt_of_le h2 hg.size, fun i x hx j v hv => (World.cell?_of_block (w := W) (hg.block bb h2 hne)).trans (h3 i x hx j v hv)⟩
theorem Fl.box_at {w : World} {m : Nat} {e : TypeId} (hm : w.heap.size = m) (y : Int) : Fl one 1 (w.alloc (.cells #[.int .i64 y] e)) (some ⟨m, 0, none⟩) [y] := hm ▸ Fl.box (f := one) w y
theorem OwnF.empty_at {α : Type} {f : α → List Int} {sz lo : Nat} {e : TypeId} {w : World} {m : Nat} (hm : w.heap.size = m) (hlo : lo ≤ w.heap.size) : OwnF f sz lo e (w.alloc (.cells #[] e)) (.slice (some ⟨m, 0, none⟩) 0 0) [] := hm ▸ OwnF.empty hlo
set_option maxHeartbeats 4000000 in
set_option maxRecDepth 100000 in
theorem l1Put_any (lo : Nat) (A : Option Addr) (c : Nat) (xs : List Int) (v : Int) (w : World) (hlen : xs.length ≤ 16777215) (hcap : xs.length ≤ c) (hcm : c ≤ 9223372036854775807) (hlo : lo ≤ w.heap.size) (hown : OwnF one 1 lo 3 w (.slice A xs.length c) xs) :
    Calls Tryd.prog 37 #[.slice A xs.length c, .int .i64 v] w fun e w' => ∃ v', e = .returned v' ∧ OwnF one 1 lo 3 w' v' (putI xs v) ∧ Below w.heap.size w w' := by
  obtain ⟨i0, hi, hz0, hz1, hz2⟩ := info_parts infoInt
  obtain ⟨A', c', hv', hF⟩ := hown.form one_length
  injection hv' with e1 e2 e3
  subst e1 e3
  have hA := hF.fl
  have hcf : (A = none ∧ c = 0) ∨ ∃ b o, A = some ⟨b, o, none⟩ := by
    rcases hown.2 with ⟨hv, _⟩ | ⟨g, cap, cur, hv, _⟩
    · injection hv with h1 _ h3; exact .inl ⟨h1, h3⟩
    · injection hv with h1; exact .inr ⟨g, 0, h1⟩
  have HC := Lib.hid hcf
  have HO := Lib.hid hown
  obtain ⟨n, hnn⟩ : ∃ n, n = List.length xs := ⟨_, rfl⟩
  rw [← hnn] at HO hlen hcap ⊢
  have hN := Lib.hid hnn
  clear hnn hown hF hcf
  go_enter Tryd.func37, Tryd.ntmps37
  go_wp2
  go_loop [5] (fun i => ∃ k : Nat, k ≤ n ∧ i = .int .i64 k ∧ Hid (∀ (j : Nat) (x : Int), j < k → xs[j]? = some x → x < v)) (fun i => n - (intOf i).toNat)
  case atStart => exact ⟨0, by omega, rfl, fun j x h => by omega⟩
  case round =>
    obtain ⟨k, hk, rfl, hall⟩ := hrel
    have hk0 : (0 : Int) ≤ (k : Int) := by omega
    have hsz : w.heap.size ≤ w.heap.size := Nat.le_refl _
    by_cases hlt : k < n
    · obtain ⟨x, b, o, hx, hA0, hb, hc⟩ := hA.at_ (k := k) (by rw [← hN.out]; exact hlt)
      cases hA0
      have hX := Lib.hid hx
      have c0 : World.cell? w ⟨b, o + k, none⟩ = some (.int .i64 x) := by have := hc 0 x rfl; simpa using this
      clear hx hc
      have hk1 : (k : Int) < (n : Int) := by omega
      by_cases hv : x < v
      · have HV := Lib.hid hv
        go_wp2
        go_round
        case rel => exact ⟨k + 1, by omega, by go_num, fun j y hj hy => by
          by_cases e : j = k
          · subst e; rw [hX.out] at hy; cases hy; exact HV.out
          · exact hall.out j y (by omega) hy⟩
        case measure => simp [intOf]; omega
      · have HP := Lib.hid (putI_at xs v k hall.out (by rw [← hN.out]; omega) (fun y hy => by rw [hX.out] at hy; cases hy; exact hv))
        by_cases he : x = v
        · subst he
          go_wp2
          go_ret
          exact ⟨_, rfl, by rw [HP.out.1 ⟨x, hX.out, rfl⟩]; exact HO.out, Below.refl _ _⟩
        · have hpe : Hid (putI xs v = xs.take k ++ v :: xs.drop k) := HP.out.2 fun y hy => by rw [hX.out] at hy; cases hy; exact he
          have hk2 : (k : Int) ≤ (c : Int) := by omega
          have hk3 : (n : Int) ≤ (c : Int) := by omega
          have hk4 : (k : Int) ≤ (n : Int) := by omega
          have hck : ¬ c = k := by omega
          have HDR : Hid (Fl one 1 w (some ⟨b, o + k, none⟩) (xs.drop k)) := hA.drop k
          have HT1 : Hid ((xs.take k).length = k) := by unfold Hid; have := hN.out; rw [List.length_take]; omega
          have HT2 : Hid ((xs.drop k).length = n - k) := by unfold Hid; have := hN.out; rw [List.length_drop]; omega
          have HFA := Lib.hid hA
          have HSW := Lib.hid hall
          clear hall hA
          go_wp2_with fail
          go_region_held3 (fun w' => Below (World.heap w).size w w' ∧ ∀ b o, b < (World.heap w).size → w'.cell? ⟨b, o, none⟩ = World.cell? w ⟨b, o, none⟩) (first | exact cls_of (ext_drew _) | exact cls_of (ext_trans (ext_alloc _ _) (ext_drew _)) | exact cls_of (ext_trans (ext_trans (ext_alloc _ _) (ext_alloc _ _)) (ext_drew _)) | exact cls_of hx5 | exact cls_of hx4 | exact cls_of hx3 | exact cls_of (ext_trans hx3 (ext_alloc _ _)) | go_loud (fail "KEEP")) ((first | (refine step_append_all (f := one) rfl (.tmp 33) (.tmp 36) 27 rfl (World.heap w).size i0 _ 1 8 Tryd.underlying27 hi hz0 hz1 hz2 rfl (by decide) (.slice (some ⟨(World.heap w).size, 0, none⟩) 0 0) [] rfl ?_ (some ⟨b, o, none⟩) (c) (xs.take k) (by rw [HT1.out]; rfl) ?_ (fun _ => rfl) ?_ (by decide) ?_ ?_; (first | exact (OwnF.empty (Nat.le_refl _)).ext (ext_drew _) | exact ((OwnF.empty (Nat.le_refl _)).ext (ext_alloc _ _)).ext (ext_drew _)); (exact (HFA.out.ext (by first | exact ext_trans (ext_alloc _ _) (ext_drew _) | exact ext_trans (ext_trans (ext_alloc _ _) (ext_alloc _ _)) (ext_drew _))).take k); (rw [HT1.out]; simp; omega); (simp; try omega); intro v3 w3 hown3 hg3 hb3; rw [List.nil_append] at hown3; have hx3 : Below w.heap.size w w3 := (by first | exact (ext_trans (ext_alloc w _) (ext_drew _)).trans hb3 | exact (ext_trans (ext_trans (ext_alloc w _) (ext_alloc _ _)) (ext_drew _)).trans hb3); have hs3 := hx3.size) | (refine step_append_all (f := one) rfl (.tmp 33) (.tmp 36) 27 rfl (World.heap w).size i0 _ 1 8 Tryd.underlying27 hi hz0 hz1 hz2 rfl (by decide) (.slice (some ⟨(World.heap w).size + 1, 0, none⟩) 0 0) [] rfl ?_ (some ⟨b, o, none⟩) (c) (xs.take k) (by rw [HT1.out]; rfl) ?_ (fun _ => rfl) ?_ (by decide) ?_ ?_; (exact (OwnF.empty_at (w := w.alloc (.cells #[.int .i64 v] 3)) (by simp) (by simp)).ext (ext_drew _)); (exact (HFA.out.ext (by first | exact ext_trans (ext_alloc _ _) (ext_drew _) | exact ext_trans (ext_trans (ext_alloc _ _) (ext_alloc _ _)) (ext_drew _))).take k); (rw [HT1.out]; simp; omega); (simp; try omega); intro v3 w3 hown3 hg3 hb3; rw [List.nil_append] at hown3; have hx3 : Below w.heap.size w w3 := (by first | exact (ext_trans (ext_alloc w _) (ext_drew _)).trans hb3 | exact (ext_trans (ext_trans (ext_alloc w _) (ext_alloc _ _)) (ext_drew _)).trans hb3); have hs3 := hx3.size) | (refine step_append_all (f := one) rfl (.tmp 37) (.tmp 39) 27 rfl (World.heap w).size i0 _ 1 8 Tryd.underlying27 hi hz0 hz1 hz2 rfl (by decide) _ (xs.take k) rfl ?_ (some _) 1 [v] rfl ?_ (fun _ => rfl) ?_ (by decide) ?_ ?_; (first | exact hown3 | exact hown3.ext (ext_alloc _ _)); (first | exact Fl.box (f := one) w3 v | exact box_kept hg3 (((Fl.box (f := one) w v).ext (ext_alloc _ _)).ext (ext_drew _)) (by simp [Value.ownBlock]) | exact box_kept hg3 ((Fl.box_at (e := 3) (w := w.alloc (.cells #[] 3)) (by simp) v).ext (ext_drew _)) (by simp [Value.ownBlock])); (rw [HT1.out]; simp; omega); (first | exact hs3 | (simp; omega)); intro v4 w4 hown4 hg4 hb4; have hx4 : Below w.heap.size w w4 := (by first | exact hx3.trans hb4 | exact (ext_trans hx3 (ext_alloc _ _)).trans hb4 | exact (hx3.trans (below_new hs3 _)).trans hb4); have hs4 := hx4.size) | (refine step_append_all (f := one) rfl (.tmp 40) (.tmp 43) 27 rfl (World.heap w).size i0 _ 1 8 Tryd.underlying27 hi hz0 hz1 hz2 rfl (by decide) _ (xs.take k ++ [v]) rfl hown4 (some ⟨b, o + k, none⟩) (c - k) (xs.drop k) (by rw [HT2.out]; rfl) (HDR.out.ext hx4) (fun _ => rfl) ?_ (by decide) hs4 ?_; (rw [List.length_append, HT1.out, HT2.out]; simp; omega); intro v5 w5 hown5 hg5 hb5; have hx5 : Below w.heap.size w w5 := hx4.trans hb5)))
          all_goals
            go_wp2
            go_ret
            refine ⟨_, rfl, ?_, hx5⟩
            have h := hown5.from_ hlo
            rw [hpe.out]
            simpa using h
    · have hkn : k = n := by omega
      have hpe : Hid (putI xs v = xs.take k ++ v :: xs.drop k) := (putI_at xs v k hall.out (by rw [← hN.out]; omega) (fun y hy => by have := lt_of_get hy; rw [← hN.out] at this; omega)).2 fun y hy => by have := lt_of_get hy; rw [← hN.out] at this; omega
      subst hkn
      have hk2 : (k : Int) ≤ (c : Int) := by omega
      have hdn : xs.drop k = [] := drop_all (by rw [← hN.out]; exact Nat.le_refl _)
      by_cases hck : c = k
      · have hck' := hck.symm
        subst hck'
        have HT1 : Hid ((xs.take k).length = k) := by unfold Hid; have := hN.out; rw [List.length_take]; omega
        have HT2 : Hid ((xs.drop k).length = 0) := by unfold Hid; have := hN.out; rw [List.length_drop]; omega
        have HFA := Lib.hid hA
        have HSW := Lib.hid hall
        clear hall hA
        go_wp2_with fail
        go_region_held3 (fun w' => Below (World.heap w).size w w' ∧ ∀ b o, b < (World.heap w).size → w'.cell? ⟨b, o, none⟩ = World.cell? w ⟨b, o, none⟩) (first | exact cls_of (ext_drew _) | exact cls_of (ext_trans (ext_alloc _ _) (ext_drew _)) | exact cls_of (ext_trans (ext_trans (ext_alloc _ _) (ext_alloc _ _)) (ext_drew _)) | exact cls_of hx5 | exact cls_of hx4 | exact cls_of hx3 | exact cls_of (ext_trans hx3 (ext_alloc _ _)) | go_loud (fail "KEEP")) ((first | (refine step_append_all (f := one) rfl (.tmp 33) (.tmp 36) 27 rfl (World.heap w).size i0 _ 1 8 Tryd.underlying27 hi hz0 hz1 hz2 rfl (by decide) (.slice (some ⟨(World.heap w).size, 0, none⟩) 0 0) [] rfl ?_ (A) (k) (xs.take k) (by rw [HT1.out]; rfl) ?_ (fun _ => rfl) ?_ (by decide) ?_ ?_; (first | exact (OwnF.empty (Nat.le_refl _)).ext (ext_drew _) | exact ((OwnF.empty (Nat.le_refl _)).ext (ext_alloc _ _)).ext (ext_drew _)); (exact (HFA.out.ext (by first | exact ext_trans (ext_alloc _ _) (ext_drew _) | exact ext_trans (ext_trans (ext_alloc _ _) (ext_alloc _ _)) (ext_drew _))).take k); (rw [HT1.out]; simp; omega); (simp; try omega); intro v3 w3 hown3 hg3 hb3; rw [List.nil_append] at hown3; have hx3 : Below w.heap.size w w3 := (by first | exact (ext_trans (ext_alloc w _) (ext_drew _)).trans hb3 | exact (ext_trans (ext_trans (ext_alloc w _) (ext_alloc _ _)) (ext_drew _)).trans hb3); have hs3 := hx3.size) | (refine step_append_all (f := one) rfl (.tmp 33) (.tmp 36) 27 rfl (World.heap w).size i0 _ 1 8 Tryd.underlying27 hi hz0 hz1 hz2 rfl (by decide) (.slice (some ⟨(World.heap w).size + 1, 0, none⟩) 0 0) [] rfl ?_ (A) (k) (xs.take k) (by rw [HT1.out]; rfl) ?_ (fun _ => rfl) ?_ (by decide) ?_ ?_; (exact (OwnF.empty_at (w := w.alloc (.cells #[.int .i64 v] 3)) (by simp) (by simp)).ext (ext_drew _)); (exact (HFA.out.ext (by first | exact ext_trans (ext_alloc _ _) (ext_drew _) | exact ext_trans (ext_trans (ext_alloc _ _) (ext_alloc _ _)) (ext_drew _))).take k); (rw [HT1.out]; simp; omega); (simp; try omega); intro v3 w3 hown3 hg3 hb3; rw [List.nil_append] at hown3; have hx3 : Below w.heap.size w w3 := (by first | exact (ext_trans (ext_alloc w _) (ext_drew _)).trans hb3 | exact (ext_trans (ext_trans (ext_alloc w _) (ext_alloc _ _)) (ext_drew _)).trans hb3); have hs3 := hx3.size) | (refine step_append_all (f := one) rfl (.tmp 37) (.tmp 39) 27 rfl (World.heap w).size i0 _ 1 8 Tryd.underlying27 hi hz0 hz1 hz2 rfl (by decide) _ (xs.take k) rfl ?_ (some _) 1 [v] rfl ?_ (fun _ => rfl) ?_ (by decide) ?_ ?_; (first | exact hown3 | exact hown3.ext (ext_alloc _ _)); (first | exact Fl.box (f := one) w3 v | exact box_kept hg3 (((Fl.box (f := one) w v).ext (ext_alloc _ _)).ext (ext_drew _)) (by simp [Value.ownBlock]) | exact box_kept hg3 ((Fl.box_at (e := 3) (w := w.alloc (.cells #[] 3)) (by simp) v).ext (ext_drew _)) (by simp [Value.ownBlock])); (rw [HT1.out]; simp; omega); (first | exact hs3 | (simp; omega)); intro v4 w4 hown4 hg4 hb4; have hx4 : Below w.heap.size w w4 := (by first | exact hx3.trans hb4 | exact (ext_trans hx3 (ext_alloc _ _)).trans hb4 | exact (hx3.trans (below_new hs3 _)).trans hb4); have hs4 := hx4.size) | (refine step_append_all (f := one) rfl (.tmp 40) (.tmp 43) 27 rfl (World.heap w).size i0 _ 1 8 Tryd.underlying27 hi hz0 hz1 hz2 rfl (by decide) _ (xs.take k ++ [v]) rfl hown4 (A) (0) (xs.drop k) (by rw [HT2.out]; rfl) (by rw [hdn]; exact Fl.nil) (fun _ => rfl) ?_ (by decide) hs4 ?_; (rw [List.length_append, HT1.out, HT2.out]; simp; omega); intro v5 w5 hown5 hg5 hb5; have hx5 : Below w.heap.size w w5 := hx4.trans hb5)))
        all_goals
          go_wp2
          go_ret
          refine ⟨_, rfl, ?_, hx5⟩
          have h := hown5.from_ hlo
          rw [hpe.out]
          simpa using h
      · rcases A with _ | ⟨b, o, sp⟩
        · exfalso
          rcases HC.out with ⟨_, hv⟩ | ⟨b, o, hv⟩
          · omega
          · cases hv
        · obtain rfl : sp = none := by
            rcases HC.out with ⟨hv, _⟩ | ⟨b', o', hv⟩
            · cases hv
            · injection hv with hv
              injection hv
          have HT1 : Hid ((xs.take k).length = k) := by unfold Hid; have := hN.out; rw [List.length_take]; omega
          have HT2 : Hid ((xs.drop k).length = 0) := by unfold Hid; have := hN.out; rw [List.length_drop]; omega
          have HFA := Lib.hid hA
          have HSW := Lib.hid hall
          clear hall hA
          go_wp2_with fail
          go_region_held3 (fun w' => Below (World.heap w).size w w' ∧ ∀ b o, b < (World.heap w).size → w'.cell? ⟨b, o, none⟩ = World.cell? w ⟨b, o, none⟩) (first | exact cls_of (ext_drew _) | exact cls_of (ext_trans (ext_alloc _ _) (ext_drew _)) | exact cls_of (ext_trans (ext_trans (ext_alloc _ _) (ext_alloc _ _)) (ext_drew _)) | exact cls_of hx5 | exact cls_of hx4 | exact cls_of hx3 | exact cls_of (ext_trans hx3 (ext_alloc _ _)) | go_loud (fail "KEEP")) ((first | (refine step_append_all (f := one) rfl (.tmp 33) (.tmp 36) 27 rfl (World.heap w).size i0 _ 1 8 Tryd.underlying27 hi hz0 hz1 hz2 rfl (by decide) (.slice (some ⟨(World.heap w).size, 0, none⟩) 0 0) [] rfl ?_ (some ⟨b, o, none⟩) (c) (xs.take k) (by rw [HT1.out]; rfl) ?_ (fun _ => rfl) ?_ (by decide) ?_ ?_; (first | exact (OwnF.empty (Nat.le_refl _)).ext (ext_drew _) | exact ((OwnF.empty (Nat.le_refl _)).ext (ext_alloc _ _)).ext (ext_drew _)); (exact (HFA.out.ext (by first | exact ext_trans (ext_alloc _ _) (ext_drew _) | exact ext_trans (ext_trans (ext_alloc _ _) (ext_alloc _ _)) (ext_drew _))).take k); (rw [HT1.out]; simp; omega); (simp; try omega); intro v3 w3 hown3 hg3 hb3; rw [List.nil_append] at hown3; have hx3 : Below w.heap.size w w3 := (by first | exact (ext_trans (ext_alloc w _) (ext_drew _)).trans hb3 | exact (ext_trans (ext_trans (ext_alloc w _) (ext_alloc _ _)) (ext_drew _)).trans hb3); have hs3 := hx3.size) | (refine step_append_all (f := one) rfl (.tmp 33) (.tmp 36) 27 rfl (World.heap w).size i0 _ 1 8 Tryd.underlying27 hi hz0 hz1 hz2 rfl (by decide) (.slice (some ⟨(World.heap w).size + 1, 0, none⟩) 0 0) [] rfl ?_ (some ⟨b, o, none⟩) (c) (xs.take k) (by rw [HT1.out]; rfl) ?_ (fun _ => rfl) ?_ (by decide) ?_ ?_; (exact (OwnF.empty_at (w := w.alloc (.cells #[.int .i64 v] 3)) (by simp) (by simp)).ext (ext_drew _)); (exact (HFA.out.ext (by first | exact ext_trans (ext_alloc _ _) (ext_drew _) | exact ext_trans (ext_trans (ext_alloc _ _) (ext_alloc _ _)) (ext_drew _))).take k); (rw [HT1.out]; simp; omega); (simp; try omega); intro v3 w3 hown3 hg3 hb3; rw [List.nil_append] at hown3; have hx3 : Below w.heap.size w w3 := (by first | exact (ext_trans (ext_alloc w _) (ext_drew _)).trans hb3 | exact (ext_trans (ext_trans (ext_alloc w _) (ext_alloc _ _)) (ext_drew _)).trans hb3); have hs3 := hx3.size) | (refine step_append_all (f := one) rfl (.tmp 37) (.tmp 39) 27 rfl (World.heap w).size i0 _ 1 8 Tryd.underlying27 hi hz0 hz1 hz2 rfl (by decide) _ (xs.take k) rfl ?_ (some _) 1 [v] rfl ?_ (fun _ => rfl) ?_ (by decide) ?_ ?_; (first | exact hown3 | exact hown3.ext (ext_alloc _ _)); (first | exact Fl.box (f := one) w3 v | exact box_kept hg3 (((Fl.box (f := one) w v).ext (ext_alloc _ _)).ext (ext_drew _)) (by simp [Value.ownBlock]) | exact box_kept hg3 ((Fl.box_at (e := 3) (w := w.alloc (.cells #[] 3)) (by simp) v).ext (ext_drew _)) (by simp [Value.ownBlock])); (rw [HT1.out]; simp; omega); (first | exact hs3 | (simp; omega)); intro v4 w4 hown4 hg4 hb4; have hx4 : Below w.heap.size w w4 := (by first | exact hx3.trans hb4 | exact (ext_trans hx3 (ext_alloc _ _)).trans hb4 | exact (hx3.trans (below_new hs3 _)).trans hb4); have hs4 := hx4.size) | (refine step_append_all (f := one) rfl (.tmp 40) (.tmp 43) 27 rfl (World.heap w).size i0 _ 1 8 Tryd.underlying27 hi hz0 hz1 hz2 rfl (by decide) _ (xs.take k ++ [v]) rfl hown4 (some ⟨b, o + k, none⟩) (c - k) (xs.drop k) (by rw [HT2.out]; rfl) (by rw [hdn]; exact Fl.nil) (fun _ => rfl) ?_ (by decide) hs4 ?_; (rw [List.length_append, HT1.out, HT2.out]; simp; omega); intro v5 w5 hown5 hg5 hb5; have hx5 : Below w.heap.size w w5 := hx4.trans hb5)))
          all_goals
            go_wp2
            go_ret
            refine ⟨_, rfl, ?_, hx5⟩
            have h := hown5.from_ hlo
            rw [hpe.out]
            simpa using h
/-- what may be said of a slice's capacity and address -/
def Cap (A : Option Addr) (n d : Nat) : Prop := n ≤ d ∧ d ≤ 9223372036854775807 ∧ ((A = none ∧ d = 0) ∨ ∃ b o, A = some ⟨b, o, none⟩)
set_option maxHeartbeats 4000000 in
set_option maxRecDepth 100000 in
/-- a number that is not among them, put into numbers that are only read -/
theorem l1PutFl_any (lo : Nat) (A : Option Addr) (c : Nat) (xs : List Int) (v : Int) (w : World) (hlo : lo ≤ w.heap.size) (hlen : xs.length ≤ 16777215) (hcp : Cap A xs.length c) (hA : Fl one 1 w A xs) (hnv : v ∉ xs) :
    Calls Tryd.prog 37 #[.slice A xs.length c, .int .i64 v] w fun e w' => ∃ v', e = .returned v' ∧ OwnF one 1 lo 3 w' v' (putI xs v) ∧ Below w.heap.size w w' := by
  obtain ⟨i0, hi, hz0, hz1, hz2⟩ := info_parts infoInt
  obtain ⟨hcap, hcm, hcf⟩ := hcp
  have HC := Lib.hid hcf
  have HNV := Lib.hid hnv
  obtain ⟨n, hnn⟩ : ∃ n, n = List.length xs := ⟨_, rfl⟩
  rw [← hnn] at hlen hcap ⊢
  have hN := Lib.hid hnn
  clear hnn hcf hnv
  go_enter Tryd.func37, Tryd.ntmps37
  go_wp2
  go_loop [5] (fun i => ∃ k : Nat, k ≤ n ∧ i = .int .i64 k ∧ Hid (∀ (j : Nat) (x : Int), j < k → xs[j]? = some x → x < v)) (fun i => n - (intOf i).toNat)
  case atStart => exact ⟨0, by omega, rfl, fun j x h => by omega⟩
  case round =>
    obtain ⟨k, hk, rfl, hall⟩ := hrel
    have hk0 : (0 : Int) ≤ (k : Int) := by omega
    have hsz : w.heap.size ≤ w.heap.size := Nat.le_refl _
    by_cases hlt : k < n
    · obtain ⟨x, b, o, hx, hA0, hb, hc⟩ := hA.at_ (k := k) (by rw [← hN.out]; exact hlt)
      cases hA0
      have hX := Lib.hid hx
      have c0 : World.cell? w ⟨b, o + k, none⟩ = some (.int .i64 x) := by have := hc 0 x rfl; simpa using this
      clear hx hc
      have hk1 : (k : Int) < (n : Int) := by omega
      by_cases hv : x < v
      · have HV := Lib.hid hv
        go_wp2
        go_round
        case rel => exact ⟨k + 1, by omega, by go_num, fun j y hj hy => by
          by_cases e : j = k
          · subst e; rw [hX.out] at hy; cases hy; exact HV.out
          · exact hall.out j y (by omega) hy⟩
        case measure => simp [intOf]; omega
      · have HP := Lib.hid (putI_at xs v k hall.out (by rw [← hN.out]; omega) (fun y hy => by rw [hX.out] at hy; cases hy; exact hv))
        by_cases he : x = v
        · subst he
          go_wp2
          go_ret
          exact absurd (List.mem_of_getElem? hX.out) HNV.out
        · have hpe : Hid (putI xs v = xs.take k ++ v :: xs.drop k) := HP.out.2 fun y hy => by rw [hX.out] at hy; cases hy; exact he
          have hk2 : (k : Int) ≤ (c : Int) := by omega
          have hk3 : (n : Int) ≤ (c : Int) := by omega
          have hk4 : (k : Int) ≤ (n : Int) := by omega
          have hck : ¬ c = k := by omega
          have HDR : Hid (Fl one 1 w (some ⟨b, o + k, none⟩) (xs.drop k)) := hA.drop k
          have HT1 : Hid ((xs.take k).length = k) := by unfold Hid; have := hN.out; rw [List.length_take]; omega
          have HT2 : Hid ((xs.drop k).length = n - k) := by unfold Hid; have := hN.out; rw [List.length_drop]; omega
          have HFA := Lib.hid hA
          have HSW := Lib.hid hall
          clear hall hA
          go_wp2_with fail
          go_region_held3 (fun w' => Below (World.heap w).size w w' ∧ ∀ b o, b < (World.heap w).size → w'.cell? ⟨b, o, none⟩ = World.cell? w ⟨b, o, none⟩) (first | exact cls_of (ext_drew _) | exact cls_of (ext_trans (ext_alloc _ _) (ext_drew _)) | exact cls_of (ext_trans (ext_trans (ext_alloc _ _) (ext_alloc _ _)) (ext_drew _)) | exact cls_of hx5 | exact cls_of hx4 | exact cls_of hx3 | exact cls_of (ext_trans hx3 (ext_alloc _ _)) | go_loud (fail "KEEP")) ((first | (refine step_append_all (f := one) rfl (.tmp 33) (.tmp 36) 27 rfl (World.heap w).size i0 _ 1 8 Tryd.underlying27 hi hz0 hz1 hz2 rfl (by decide) (.slice (some ⟨(World.heap w).size, 0, none⟩) 0 0) [] rfl ?_ (some ⟨b, o, none⟩) (c) (xs.take k) (by rw [HT1.out]; rfl) ?_ (fun _ => rfl) ?_ (by decide) ?_ ?_; (first | exact (OwnF.empty (Nat.le_refl _)).ext (ext_drew _) | exact ((OwnF.empty (Nat.le_refl _)).ext (ext_alloc _ _)).ext (ext_drew _)); (exact (HFA.out.ext (by first | exact ext_trans (ext_alloc _ _) (ext_drew _) | exact ext_trans (ext_trans (ext_alloc _ _) (ext_alloc _ _)) (ext_drew _))).take k); (rw [HT1.out]; simp; omega); (simp; try omega); intro v3 w3 hown3 hg3 hb3; rw [List.nil_append] at hown3; have hx3 : Below w.heap.size w w3 := (by first | exact (ext_trans (ext_alloc w _) (ext_drew _)).trans hb3 | exact (ext_trans (ext_trans (ext_alloc w _) (ext_alloc _ _)) (ext_drew _)).trans hb3); have hs3 := hx3.size) | (refine step_append_all (f := one) rfl (.tmp 33) (.tmp 36) 27 rfl (World.heap w).size i0 _ 1 8 Tryd.underlying27 hi hz0 hz1 hz2 rfl (by decide) (.slice (some ⟨(World.heap w).size + 1, 0, none⟩) 0 0) [] rfl ?_ (some ⟨b, o, none⟩) (c) (xs.take k) (by rw [HT1.out]; rfl) ?_ (fun _ => rfl) ?_ (by decide) ?_ ?_; (exact (OwnF.empty_at (w := w.alloc (.cells #[.int .i64 v] 3)) (by simp) (by simp)).ext (ext_drew _)); (exact (HFA.out.ext (by first | exact ext_trans (ext_alloc _ _) (ext_drew _) | exact ext_trans (ext_trans (ext_alloc _ _) (ext_alloc _ _)) (ext_drew _))).take k); (rw [HT1.out]; simp; omega); (simp; try omega); intro v3 w3 hown3 hg3 hb3; rw [List.nil_append] at hown3; have hx3 : Below w.heap.size w w3 := (by first | exact (ext_trans (ext_alloc w _) (ext_drew _)).trans hb3 | exact (ext_trans (ext_trans (ext_alloc w _) (ext_alloc _ _)) (ext_drew _)).trans hb3); have hs3 := hx3.size) | (refine step_append_all (f := one) rfl (.tmp 37) (.tmp 39) 27 rfl (World.heap w).size i0 _ 1 8 Tryd.underlying27 hi hz0 hz1 hz2 rfl (by decide) _ (xs.take k) rfl ?_ (some _) 1 [v] rfl ?_ (fun _ => rfl) ?_ (by decide) ?_ ?_; (first | exact hown3 | exact hown3.ext (ext_alloc _ _)); (first | exact Fl.box (f := one) w3 v | exact box_kept hg3 (((Fl.box (f := one) w v).ext (ext_alloc _ _)).ext (ext_drew _)) (by simp [Value.ownBlock]) | exact box_kept hg3 ((Fl.box_at (e := 3) (w := w.alloc (.cells #[] 3)) (by simp) v).ext (ext_drew _)) (by simp [Value.ownBlock])); (rw [HT1.out]; simp; omega); (first | exact hs3 | (simp; omega)); intro v4 w4 hown4 hg4 hb4; have hx4 : Below w.heap.size w w4 := (by first | exact hx3.trans hb4 | exact (ext_trans hx3 (ext_alloc _ _)).trans hb4 | exact (hx3.trans (below_new hs3 _)).trans hb4); have hs4 := hx4.size) | (refine step_append_all (f := one) rfl (.tmp 40) (.tmp 43) 27 rfl (World.heap w).size i0 _ 1 8 Tryd.underlying27 hi hz0 hz1 hz2 rfl (by decide) _ (xs.take k ++ [v]) rfl hown4 (some ⟨b, o + k, none⟩) (c - k) (xs.drop k) (by rw [HT2.out]; rfl) (HDR.out.ext hx4) (fun _ => rfl) ?_ (by decide) hs4 ?_; (rw [List.length_append, HT1.out, HT2.out]; simp; omega); intro v5 w5 hown5 hg5 hb5; have hx5 : Below w.heap.size w w5 := hx4.trans hb5)))
          all_goals
            go_wp2
            go_ret
            refine ⟨_, rfl, ?_, hx5⟩
            have h := hown5.from_ hlo
            rw [hpe.out]
            simpa using h
    · have hkn : k = n := by omega
      have hpe : Hid (putI xs v = xs.take k ++ v :: xs.drop k) := (putI_at xs v k hall.out (by rw [← hN.out]; omega) (fun y hy => by have := lt_of_get hy; rw [← hN.out] at this; omega)).2 fun y hy => by have := lt_of_get hy; rw [← hN.out] at this; omega
      subst hkn
      have hk2 : (k : Int) ≤ (c : Int) := by omega
      have hdn : xs.drop k = [] := drop_all (by rw [← hN.out]; exact Nat.le_refl _)
      by_cases hck : c = k
      · have hck' := hck.symm
        subst hck'
        have HT1 : Hid ((xs.take k).length = k) := by unfold Hid; have := hN.out; rw [List.length_take]; omega
        have HT2 : Hid ((xs.drop k).length = 0) := by unfold Hid; have := hN.out; rw [List.length_drop]; omega
        have HFA := Lib.hid hA
        have HSW := Lib.hid hall
        clear hall hA
        go_wp2_with fail
        go_region_held3 (fun w' => Below (World.heap w).size w w' ∧ ∀ b o, b < (World.heap w).size → w'.cell? ⟨b, o, none⟩ = World.cell? w ⟨b, o, none⟩) (first | exact cls_of (ext_drew _) | exact cls_of (ext_trans (ext_alloc _ _) (ext_drew _)) | exact cls_of (ext_trans (ext_trans (ext_alloc _ _) (ext_alloc _ _)) (ext_drew _)) | exact cls_of hx5 | exact cls_of hx4 | exact cls_of hx3 | exact cls_of (ext_trans hx3 (ext_alloc _ _)) | go_loud (fail "KEEP")) ((first | (refine step_append_all (f := one) rfl (.tmp 33) (.tmp 36) 27 rfl (World.heap w).size i0 _ 1 8 Tryd.underlying27 hi hz0 hz1 hz2 rfl (by decide) (.slice (some ⟨(World.heap w).size, 0, none⟩) 0 0) [] rfl ?_ (A) (k) (xs.take k) (by rw [HT1.out]; rfl) ?_ (fun _ => rfl) ?_ (by decide) ?_ ?_; (first | exact (OwnF.empty (Nat.le_refl _)).ext (ext_drew _) | exact ((OwnF.empty (Nat.le_refl _)).ext (ext_alloc _ _)).ext (ext_drew _)); (exact (HFA.out.ext (by first | exact ext_trans (ext_alloc _ _) (ext_drew _) | exact ext_trans (ext_trans (ext_alloc _ _) (ext_alloc _ _)) (ext_drew _))).take k); (rw [HT1.out]; simp; omega); (simp; try omega); intro v3 w3 hown3 hg3 hb3; rw [List.nil_append] at hown3; have hx3 : Below w.heap.size w w3 := (by first | exact (ext_trans (ext_alloc w _) (ext_drew _)).trans hb3 | exact (ext_trans (ext_trans (ext_alloc w _) (ext_alloc _ _)) (ext_drew _)).trans hb3); have hs3 := hx3.size) | (refine step_append_all (f := one) rfl (.tmp 33) (.tmp 36) 27 rfl (World.heap w).size i0 _ 1 8 Tryd.underlying27 hi hz0 hz1 hz2 rfl (by decide) (.slice (some ⟨(World.heap w).size + 1, 0, none⟩) 0 0) [] rfl ?_ (A) (k) (xs.take k) (by rw [HT1.out]; rfl) ?_ (fun _ => rfl) ?_ (by decide) ?_ ?_; (exact (OwnF.empty_at (w := w.alloc (.cells #[.int .i64 v] 3)) (by simp) (by simp)).ext (ext_drew _)); (exact (HFA.out.ext (by first | exact ext_trans (ext_alloc _ _) (ext_drew _) | exact ext_trans (ext_trans (ext_alloc _ _) (ext_alloc _ _)) (ext_drew _))).take k); (rw [HT1.out]; simp; omega); (simp; try omega); intro v3 w3 hown3 hg3 hb3; rw [List.nil_append] at hown3; have hx3 : Below w.heap.size w w3 := (by first | exact (ext_trans (ext_alloc w _) (ext_drew _)).trans hb3 | exact (ext_trans (ext_trans (ext_alloc w _) (ext_alloc _ _)) (ext_drew _)).trans hb3); have hs3 := hx3.size) | (refine step_append_all (f := one) rfl (.tmp 37) (.tmp 39) 27 rfl (World.heap w).size i0 _ 1 8 Tryd.underlying27 hi hz0 hz1 hz2 rfl (by decide) _ (xs.take k) rfl ?_ (some _) 1 [v] rfl ?_ (fun _ => rfl) ?_ (by decide) ?_ ?_; (first | exact hown3 | exact hown3.ext (ext_alloc _ _)); (first | exact Fl.box (f := one) w3 v | exact box_kept hg3 (((Fl.box (f := one) w v).ext (ext_alloc _ _)).ext (ext_drew _)) (by simp [Value.ownBlock]) | exact box_kept hg3 ((Fl.box_at (e := 3) (w := w.alloc (.cells #[] 3)) (by simp) v).ext (ext_drew _)) (by simp [Value.ownBlock])); (rw [HT1.out]; simp; omega); (first | exact hs3 | (simp; omega)); intro v4 w4 hown4 hg4 hb4; have hx4 : Below w.heap.size w w4 := (by first | exact hx3.trans hb4 | exact (ext_trans hx3 (ext_alloc _ _)).trans hb4 | exact (hx3.trans (below_new hs3 _)).trans hb4); have hs4 := hx4.size) | (refine step_append_all (f := one) rfl (.tmp 40) (.tmp 43) 27 rfl (World.heap w).size i0 _ 1 8 Tryd.underlying27 hi hz0 hz1 hz2 rfl (by decide) _ (xs.take k ++ [v]) rfl hown4 (A) (0) (xs.drop k) (by rw [HT2.out]; rfl) (by rw [hdn]; exact Fl.nil) (fun _ => rfl) ?_ (by decide) hs4 ?_; (rw [List.length_append, HT1.out, HT2.out]; simp; omega); intro v5 w5 hown5 hg5 hb5; have hx5 : Below w.heap.size w w5 := hx4.trans hb5)))
        all_goals
          go_wp2
          go_ret
          refine ⟨_, rfl, ?_, hx5⟩
          have h := hown5.from_ hlo
          rw [hpe.out]
          simpa using h
      · rcases A with _ | ⟨b, o, sp⟩
        · exfalso
          rcases HC.out with ⟨_, hv⟩ | ⟨b, o, hv⟩
          · omega
          · cases hv
        · obtain rfl : sp = none := by
            rcases HC.out with ⟨hv, _⟩ | ⟨b', o', hv⟩
            · cases hv
            · injection hv with hv
              injection hv
          have HT1 : Hid ((xs.take k).length = k) := by unfold Hid; have := hN.out; rw [List.length_take]; omega
          have HT2 : Hid ((xs.drop k).length = 0) := by unfold Hid; have := hN.out; rw [List.length_drop]; omega
          have HFA := Lib.hid hA
          have HSW := Lib.hid hall
          clear hall hA
          go_wp2_with fail
          go_region_held3 (fun w' => Below (World.heap w).size w w' ∧ ∀ b o, b < (World.heap w).size → w'.cell? ⟨b, o, none⟩ = World.cell? w ⟨b, o, none⟩) (first | exact cls_of (ext_drew _) | exact cls_of (ext_trans (ext_alloc _ _) (ext_drew _)) | exact cls_of (ext_trans (ext_trans (ext_alloc _ _) (ext_alloc _ _)) (ext_drew _)) | exact cls_of hx5 | exact cls_of hx4 | exact cls_of hx3 | exact cls_of (ext_trans hx3 (ext_alloc _ _)) | go_loud (fail "KEEP")) ((first | (refine step_append_all (f := one) rfl (.tmp 33) (.tmp 36) 27 rfl (World.heap w).size i0 _ 1 8 Tryd.underlying27 hi hz0 hz1 hz2 rfl (by decide) (.slice (some ⟨(World.heap w).size, 0, none⟩) 0 0) [] rfl ?_ (some ⟨b, o, none⟩) (c) (xs.take k) (by rw [HT1.out]; rfl) ?_ (fun _ => rfl) ?_ (by decide) ?_ ?_; (first | exact (OwnF.empty (Nat.le_refl _)).ext (ext_drew _) | exact ((OwnF.empty (Nat.le_refl _)).ext (ext_alloc _ _)).ext (ext_drew _)); (exact (HFA.out.ext (by first | exact ext_trans (ext_alloc _ _) (ext_drew _) | exact ext_trans (ext_trans (ext_alloc _ _) (ext_alloc _ _)) (ext_drew _))).take k); (rw [HT1.out]; simp; omega); (simp; try omega); intro v3 w3 hown3 hg3 hb3; rw [List.nil_append] at hown3; have hx3 : Below w.heap.size w w3 := (by first | exact (ext_trans (ext_alloc w _) (ext_drew _)).trans hb3 | exact (ext_trans (ext_trans (ext_alloc w _) (ext_alloc _ _)) (ext_drew _)).trans hb3); have hs3 := hx3.size) | (refine step_append_all (f := one) rfl (.tmp 33) (.tmp 36) 27 rfl (World.heap w).size i0 _ 1 8 Tryd.underlying27 hi hz0 hz1 hz2 rfl (by decide) (.slice (some ⟨(World.heap w).size + 1, 0, none⟩) 0 0) [] rfl ?_ (some ⟨b, o, none⟩) (c) (xs.take k) (by rw [HT1.out]; rfl) ?_ (fun _ => rfl) ?_ (by decide) ?_ ?_; (exact (OwnF.empty_at (w := w.alloc (.cells #[.int .i64 v] 3)) (by simp) (by simp)).ext (ext_drew _)); (exact (HFA.out.ext (by first | exact ext_trans (ext_alloc _ _) (ext_drew _) | exact ext_trans (ext_trans (ext_alloc _ _) (ext_alloc _ _)) (ext_drew _))).take k); (rw [HT1.out]; simp; omega); (simp; try omega); intro v3 w3 hown3 hg3 hb3; rw [List.nil_append] at hown3; have hx3 : Below w.heap.size w w3 := (by first | exact (ext_trans (ext_alloc w _) (ext_drew _)).trans hb3 | exact (ext_trans (ext_trans (ext_alloc w _) (ext_alloc _ _)) (ext_drew _)).trans hb3); have hs3 := hx3.size) | (refine step_append_all (f := one) rfl (.tmp 37) (.tmp 39) 27 rfl (World.heap w).size i0 _ 1 8 Tryd.underlying27 hi hz0 hz1 hz2 rfl (by decide) _ (xs.take k) rfl ?_ (some _) 1 [v] rfl ?_ (fun _ => rfl) ?_ (by decide) ?_ ?_; (first | exact hown3 | exact hown3.ext (ext_alloc _ _)); (first | exact Fl.box (f := one) w3 v | exact box_kept hg3 (((Fl.box (f := one) w v).ext (ext_alloc _ _)).ext (ext_drew _)) (by simp [Value.ownBlock]) | exact box_kept hg3 ((Fl.box_at (e := 3) (w := w.alloc (.cells #[] 3)) (by simp) v).ext (ext_drew _)) (by simp [Value.ownBlock])); (rw [HT1.out]; simp; omega); (first | exact hs3 | (simp; omega)); intro v4 w4 hown4 hg4 hb4; have hx4 : Below w.heap.size w w4 := (by first | exact hx3.trans hb4 | exact (ext_trans hx3 (ext_alloc _ _)).trans hb4 | exact (hx3.trans (below_new hs3 _)).trans hb4); have hs4 := hx4.size) | (refine step_append_all (f := one) rfl (.tmp 40) (.tmp 43) 27 rfl (World.heap w).size i0 _ 1 8 Tryd.underlying27 hi hz0 hz1 hz2 rfl (by decide) _ (xs.take k ++ [v]) rfl hown4 (some ⟨b, o + k, none⟩) (c - k) (xs.drop k) (by rw [HT2.out]; rfl) (by rw [hdn]; exact Fl.nil) (fun _ => rfl) ?_ (by decide) hs4 ?_; (rw [List.length_append, HT1.out, HT2.out]; simp; omega); intro v5 w5 hown5 hg5 hb5; have hx5 : Below w.heap.size w w5 := hx4.trans hb5)))
          all_goals
            go_wp2
            go_ret
            refine ⟨_, rfl, ?_, hx5⟩
            have h := hown5.from_ hlo
            rw [hpe.out]
            simpa using h
theorem OwnF.caps {α : Type} {f : α → List Int} {sz lo : Nat} {e : TypeId} {w : World} {v : Value} {ys : List α} (h : OwnF f sz lo e w v ys) : ∃ A c, v = .slice A ys.length c ∧ ys.length ≤ c ∧ c ≤ 9223372036854775807 := by
  rcases h.2 with ⟨rfl, hn⟩ | ⟨g, cap, cur, rfl, _, _, hnc, hcm, _⟩
  · exact ⟨none, 0, by rw [hn], by omega, by omega⟩
  · exact ⟨_, cap, rfl, hnc, by simp only [maxLen] at hcm; omega⟩
theorem l1PutOwn_any (lo : Nat) (v : Value) (xs : List Int) (x : Int) (w : World) (hlen : xs.length ≤ 16777215) (hlo : lo ≤ w.heap.size) (hown : OwnF one 1 lo 3 w v xs) :
    Calls Tryd.prog 37 #[v, .int .i64 x] w fun e w' => ∃ v', e = .returned v' ∧ OwnF one 1 lo 3 w' v' (putI xs x) ∧ Below lo w w' := by
  obtain ⟨A, c, rfl, h1, h2⟩ := hown.caps
  exact (l1Put_any lo A c xs x w hlen h1 h2 hlo hown).mono fun e w' ⟨v', e1, e2, e3⟩ => ⟨v', e1, e2, e3.mono hlo⟩
theorem l1PutOwnS_any (lo : Nat) (v : Value) (xs : List Int) (x : Int) (w : World) (hlen : xs.length ≤ 16777215) (hlo : lo ≤ w.heap.size) (hown : OwnF one 1 lo 3 w v xs) :
    Calls Tryd.prog 37 #[v, .int .i64 x] w fun e w' => ∃ v', e = .returned v' ∧ OwnF one 1 lo 3 w' v' (putI xs x) ∧ Below w.heap.size w w' := by
  obtain ⟨A, c, rfl, h1, h2⟩ := hown.caps
  exact l1Put_any lo A c xs x w hlen h1 h2 hlo hown
end Go.Proofs.YtnikeelpcokffaaDoor
