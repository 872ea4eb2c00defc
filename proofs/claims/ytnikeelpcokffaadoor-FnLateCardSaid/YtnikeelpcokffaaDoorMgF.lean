/- The sheet with the most loans: the words. The sheet with the most loans: the program's side. The sheet with the most loans: the reference's side. No condition. -/
import Derived.Test.YtnikeelpcokffaaDoorLoanD
import Derived.Test.YtnikeelpcokffaaDoorSortI
import Derived.Test.YtnikeelpcokffaaDoorLoanI
import Derived.Test.YtnikeelpcokffaaDoorCloL
import Derived.IntWalk
import Derived.Test.YtnikeelpcokffaaDoorLoanS
import Derived.BigQuiet
namespace Go.Proofs.YtnikeelpcokffaaDoor
open Go.RowKit
set_option linter.unusedVariables false
set_option linter.unusedSimpArgs false

def cntI (v : Int) : List Int → Int
  | [] => 0
  | x :: r => (if x = v then 1 else 0) + cntI v r
theorem cntI_snoc (v : Int) : ∀ (l : List Int) (x : Int), cntI v (l ++ [x]) = cntI v l + (if x = v then 1 else 0)
  | [], x => by simp [cntI]
  | y :: r, x => by rw [List.cons_append, cntI, cntI, cntI_snoc v r x]; omega
theorem cntI_bd (v : Int) : ∀ (l : List Int), 0 ≤ cntI v l ∧ cntI v l ≤ (l.length : Int)
  | [] => by simp [cntI]
  | x :: r => by
    have := cntI_bd v r
    rw [cntI, List.length_cons]
    split <;> omega
theorem cntI_pos {v : Int} : ∀ {l : List Int}, v ∈ l → 1 ≤ cntI v l
  | [], h => by simp at h
  | x :: r, h => by
    have h0 := cntI_bd v r
    rw [cntI]
    by_cases e : x = v
    · rw [if_pos e]; omega
    · rw [if_neg e]
      have := cntI_pos (l := r) ((List.mem_cons.1 h).resolve_left fun q => e q.symm)
      omega
theorem cntI_no {v : Int} : ∀ {l : List Int}, v ∉ l → cntI v l = 0
  | [], _ => rfl
  | x :: r, h => by
    rw [cntI, if_neg fun e => h (by rw [e]; exact List.mem_cons_self), cntI_no fun q => h (List.mem_cons_of_mem _ q)]; rfl
theorem cntI_perm (v : Int) {l k : List Int} (h : l.Perm k) : cntI v l = cntI v k := by
  induction h with
  | nil => rfl
  | cons x _ ih => rw [cntI, cntI, ih]
  | swap x y l => simp only [cntI]; omega
  | trans _ _ a b => exact a.trans b
/-- b is the least of those numbers that stand most often, m times -/
def IsFav (l : List Int) (b m : Int) : Prop := b ∈ l ∧ m = cntI b l ∧ ∀ v ∈ l, cntI v l < m ∨ (cntI v l = m ∧ b ≤ v)
theorem fav_one {l : List Int} {b m c n : Int} (h : IsFav l b m) (k : IsFav l c n) : b = c := by
  obtain ⟨h1, h2, h3⟩ := h
  obtain ⟨k1, k2, k3⟩ := k
  have a := h3 c k1
  have b' := k3 b h1
  omega
theorem fav_perm {l k : List Int} (h : l.Perm k) {b m : Int} (hf : IsFav l b m) : IsFav k b m := by
  obtain ⟨h1, h2, h3⟩ := hf
  refine ⟨h.mem_iff.1 h1, h2.trans (cntI_perm b h), fun v hv => ?_⟩
  rw [← cntI_perm v h]
  exact h3 v (h.mem_iff.2 hv)
open Classical in
noncomputable def favI (l : List Int) : Int := if h : ∃ b m, IsFav l b m then Classical.choose h else 0
theorem favI_eq {l : List Int} {b m : Int} (h : IsFav l b m) : favI l = b := by
  have hx : ∃ b m, IsFav l b m := ⟨b, m, h⟩
  unfold favI
  rw [dif_pos hx]
  obtain ⟨n, hn⟩ := Classical.choose_spec hx
  exact fav_one hn h
/-- how far the code has come behind the first numbers of a sorted list -/
def FavSt (p : List Int) (b m c : Int) : Prop := (p = [] ∧ b = 0 ∧ m = 0 ∧ c = 0) ∨ ∃ z, p.getLast? = some z ∧ IsFav p b m ∧ c = cntI z p
theorem favSt_bd {p : List Int} {b m c : Int} (h : FavSt p b m c) : 0 ≤ c ∧ c ≤ (p.length : Int) ∧ 0 ≤ m ∧ m ≤ (p.length : Int) := by
  rcases h with ⟨rfl, _, rfl, rfl⟩ | ⟨z, _, ⟨_, h2, _⟩, rfl⟩
  · simp
  · have h1 := cntI_bd z p
    have h3 := cntI_bd b p
    omega
theorem fav_step {p : List Int} {b m c s c' : Int} (h : FavSt p b m c) (hs : ∀ v ∈ p, v ≤ s) (hc : c' = cntI s (p ++ [s])) : FavSt (p ++ [s]) (if m < c' then s else b) (if m < c' then c' else m) c' := by
  refine .inr ⟨s, by simp, ?_, hc⟩
  rcases h with ⟨rfl, rfl, rfl, rfl⟩ | ⟨z, hz, ⟨h1, h2, h3⟩, h4⟩
  · have : c' = 1 := by rw [hc]; simp [cntI]
    rw [if_pos (by omega), if_pos (by omega)]
    refine ⟨by simp, by rw [hc], fun v hv => ?_⟩
    simp at hv
    subst hv
    exact .inr ⟨hc.symm, Int.le_refl _⟩
  · rw [cntI_snoc, if_pos rfl] at hc
    have hsn : ∀ v, v ≠ s → cntI v (p ++ [s]) = cntI v p := fun v hv => by rw [cntI_snoc, if_neg fun e => hv e.symm, Int.add_zero]
    have hss : cntI s (p ++ [s]) = c' := by rw [cntI_snoc, if_pos rfl, hc]
    by_cases hm : m < c'
    · rw [if_pos hm, if_pos hm]
      refine ⟨by simp, hss.symm, fun v hv => ?_⟩
      by_cases e : v = s
      · subst e; exact .inr ⟨hss, Int.le_refl _⟩
      · have hv2 : v ∈ p := by
          rcases List.mem_append.1 hv with q | q
          · exact q
          · simp at q; exact absurd q e
        rw [hsn v e]
        have := h3 v hv2
        omega
    · rw [if_neg hm, if_neg hm]
      have hbs : b ≠ s := fun e => by subst e; omega
      refine ⟨List.mem_append_left _ h1, by rw [hsn b hbs]; exact h2, fun v hv => ?_⟩
      by_cases e : v = s
      · subst e
        rw [hss]
        have := hs b h1
        omega
      · have hv2 : v ∈ p := by
          rcases List.mem_append.1 hv with q | q
          · exact q
          · simp at q; exact absurd q e
        rw [hsn v e]
        exact h3 v hv2
/-- the run's count behind a number: one more behind the same, one behind another -/
theorem fav_count {p : List Int} {b m c s z : Int} (h : FavSt p b m c) (hz : p.getLast? = some z) (hs : ∀ v ∈ p, v ≤ s) (hso : p.Pairwise fun x y => x ≤ y) : cntI s (p ++ [s]) = if s = z then c + 1 else 1 := by
  rw [cntI_snoc, if_pos rfl]
  rcases h with ⟨rfl, _⟩ | ⟨z', hz', _, rfl⟩
  · simp at hz
  · rw [hz] at hz'
    injection hz' with hz'
    subst hz'
    by_cases e : s = z
    · subst e; rw [if_pos rfl]
    · rw [if_neg e]
      have hno : s ∉ p := fun q => by
        have hzp : z ∈ p := List.mem_of_getLast? hz
        have h1 := hs z hzp
        have h2 : s ≤ z := by
          obtain ⟨hne, hl⟩ := List.getLast?_eq_some_iff.1 hz
          rw [hl] at hso q
          rcases List.mem_append.1 q with a | a
          · exact (List.pairwise_append.1 hso).2.2 s a z (by simp)
          · simp at a; omega
        omega
      rw [cntI_no hno]; rfl
/-- how far the reference has come -/
def FavO (l p : List Int) (b m : Int) : Prop := (p = [] ∧ b = 0 ∧ m = 0) ∨ (b ∈ p ∧ m = cntI b l ∧ ∀ v ∈ p, cntI v l < m ∨ (cntI v l = m ∧ b ≤ v))
theorem favO_step {l p : List Int} {b m s n : Int} (h : FavO l p b m) (hs : s ∈ l) (hn : n = cntI s l) (t : Prop) [Decidable t] (ht : t ↔ (m < n ∨ (n = m ∧ s < b))) : FavO l (p ++ [s]) (if t then s else b) (if t then n else m) := by
  have hp := cntI_pos hs
  rcases h with ⟨rfl, rfl, rfl⟩ | ⟨h1, h2, h3⟩
  · have : t := ht.2 (.inl (by omega))
    rw [if_pos this, if_pos this]
    refine .inr ⟨by simp, hn, fun v hv => ?_⟩
    simp at hv
    subst hv
    exact .inr ⟨hn.symm, Int.le_refl _⟩
  · by_cases q : t
    · rw [if_pos q, if_pos q]
      have q' := ht.1 q
      refine .inr ⟨by simp, hn, fun v hv => ?_⟩
      rcases List.mem_append.1 hv with a | a
      · have := h3 v a
        omega
      · simp at a
        subst a
        exact .inr ⟨hn.symm, Int.le_refl _⟩
    · rw [if_neg q, if_neg q]
      have q' : ¬ (m < n ∨ (n = m ∧ s < b)) := fun a => q (ht.2 a)
      refine .inr ⟨List.mem_append_left _ h1, h2, fun v hv => ?_⟩
      rcases List.mem_append.1 hv with a | a
      · exact h3 v a
      · simp at a
        subst a
        rw [← hn]
        omega
def allS (xs : List Loan) : List Int := xs.map fun x => x.sheet
theorem allS_snoc (ys : List Loan) (x : Loan) : allS (ys ++ [x]) = allS ys ++ [x.sheet] := by simp [allS]
theorem allS_len (ys : List Loan) : (allS ys).length = ys.length := by simp [allS]
def FvOk (xs : List Loan) : Prop := Lns xs ∧ 0 < xs.length
end Go.Proofs.YtnikeelpcokffaaDoor
namespace Go.Proofs.YtnikeelpcokffaaDoor
open Go.RowKit
set_option linter.unusedVariables false
set_option linter.unusedSimpArgs false

theorem favC_any (x : Loan) (w : World) :
    Calls Tryd.prog 51 #[.agg #[.int .i64 x.sheet, .int .i64 x.reader, .int .i64 x.out, .int .i64 x.due, .int .i64 x.back]] w fun e w' => e = .returned (.bool true) ∧ Below w.heap.size w w' := by
  go_enter Tryd.func51, Tryd.ntmps51
  go_wp2
  go_ret
  exact ⟨rfl, by go_grown⟩
set_option maxHeartbeats 1000000 in
set_option maxRecDepth 100000 in
theorem sheetsAll_any (A : Option Addr) (c : Nat) (xs : List Loan) (w : World) (hn : xs.length ≤ 1048576) (hA : Fl Loan.ints 5 w A xs) :
    Calls Tryd.prog 31 #[.slice A xs.length c, .func (.func 51) #[] #[]] w (RetI w ((allS xs).mergeSort leI)) := by
  obtain ⟨i0, hi, hy0, hy1, hy2⟩ := info_parts infoInt
  obtain ⟨n, hnn⟩ : ∃ n, n = List.length xs := ⟨_, rfl⟩
  rw [← hnn] at hn ⊢
  have hN := Lib.hid hnn
  clear hnn
  go_enter Tryd.func31, Tryd.ntmps31
  go_wp2
  go_loopw [5, 10] (fun v i wr => ∃ k : Nat, k ≤ n ∧ i = .int .i64 k ∧ Below w.heap.size w wr ∧ OwnF one 1 w.heap.size 3 wr v (allS (xs.take k))) (fun _ i _ => n - (intOf i).toNat)
  case atStart => exact ⟨0, by omega, rfl, Below.refl _ _, OwnF.none_⟩
  case round =>
    obtain ⟨k, hk, rfl, hbr, hown⟩ := hrel
    have hzr := hbr.size
    by_cases hlt : k < n
    · obtain ⟨x, b, o, hx, hAe, hb, hc⟩ := (hA.ext hbr).at_ (k := k) (by rw [← hN.out]; exact hlt)
      subst hAe
      have c0 : World.cell? wr ⟨b, o + k * 5, none⟩ = some (.int .i64 x.sheet) := hc 0 _ rfl
      have c1 : World.cell? wr ⟨b, o + k * 5 + 1, none⟩ = some (.int .i64 x.reader) := hc 1 _ rfl
      have c2 : World.cell? wr ⟨b, o + k * 5 + 2, none⟩ = some (.int .i64 x.out) := hc 2 _ rfl
      have c3 : World.cell? wr ⟨b, o + k * 5 + 3, none⟩ = some (.int .i64 x.due) := hc 3 _ rfl
      have c4 : World.cell? wr ⟨b, o + k * 5 + 4, none⟩ = some (.int .i64 x.back) := hc 4 _ rfl
      have hlen : (allS (xs.take k)).length ≤ 1048576 := by rw [allS_len, List.length_take]; omega
      have HT := Lib.hid (take_get hx)
      obtain ⟨W0, hW0, hB0, hz0', hg, _⟩ := box_world wr #[Value.int .i64 x.sheet, .int .i64 x.reader, .int .i64 x.out, .int .i64 x.due, .int .i64 x.back] 43
      have g0 : World.cell? W0 ⟨wr.heap.size, 0, none⟩ = some (.int .i64 x.sheet) := hg 0
      have g1 : World.cell? W0 ⟨wr.heap.size, 1, none⟩ = some (.int .i64 x.reader) := hg 1
      have g2 : World.cell? W0 ⟨wr.heap.size, 2, none⟩ = some (.int .i64 x.out) := hg 2
      have g3 : World.cell? W0 ⟨wr.heap.size, 3, none⟩ = some (.int .i64 x.due) := hg 3
      have g4 : World.cell? W0 ⟨wr.heap.size, 4, none⟩ = some (.int .i64 x.back) := hg 4
      have hown0 := hown.ext hB0
      have hbW := ext_trans hbr hB0
      have HCL := Lib.hid (favC_any x W0)
      clear hc hg hx
      have hk0 : (0 : Int) ≤ (k : Int) := by omega
      have hk1 : (k : Int) < (n : Int) := by omega
      go_wp2_with fail
      refine (HCL.out).mono ?_
      rintro e w1 ⟨rfl, hb1⟩
      have r0 : World.cell? w1 ⟨wr.heap.size, 0, none⟩ = some (.int .i64 x.sheet) := (hb1.cell (p := ⟨wr.heap.size, 0, none⟩) hz0').trans g0
      have hownA := hown0.ext hb1
      have hbA := ext_trans hbW hb1
      clear g0 g1 g2 g3 g4
      go_wp2_with (at_builtin; refine wpList_append_flat (f := one) (y := x.sheet) rfl _ _ _ rfl w.heap.size i0 _ 1 8 Tryd.underlying27 hi hy0 hy1 hy2 rfl (by decide) _ _ rfl rfl hownA rfl ?_ (by decide) ?_ ?_; omega; exact hbA.size; intro v' w3 hown3 hg3 hb3)
      go_roundw
      case rel => exact ⟨k + 1, by omega, by go_num, hbA.trans hb3, by rw [HT.out, allS_snoc]; exact hown3⟩
      case measure => simp [intOf]; omega
    · have hkn : k = n := by omega
      subst hkn
      rw [take_all (by rw [← hN.out]; exact Nat.le_refl _)] at hown
      have hll : (allS xs).length ≤ 16777216 := by rw [allS_len, ← hN.out]; omega
      obtain ⟨L, hL⟩ : ∃ L, allS xs = L := ⟨_, rfl⟩
      rw [hL] at hown hll
      have HL := Lib.hid hL
      clear hL
      obtain ⟨A1, c1, hv, _⟩ := hown.formL one_length
      subst hv
      go_wp2_with fail
      refine (sortOwn_any w.heap.size _ L wr hll hzr hown).mono ?_
      rintro e w4 ⟨rfl, hown4, _, hb4⟩
      go_wp2
      go_ret
      have hl2 : (L.mergeSort leI).length = L.length := List.length_mergeSort L
      obtain ⟨A2, c2, hv2, hF2⟩ := hown4.form one_length
      rw [hl2] at hv2
      injection hv2 with e1 e2 e3
      rw [HL.out]
      refine ⟨A2, c1, ?_, hF2, hbr.trans hb4⟩
      rw [← e1, hl2]
      rfl
set_option maxHeartbeats 1000000 in
set_option maxRecDepth 100000 in
theorem favorite_any (A : Option Addr) (c : Nat) (xs : List Loan) (w : World) (hn : xs.length ≤ 1048576) (hcap : xs.length ≤ c) (hcm : c ≤ 9223372036854775807) (hA : Fl Loan.ints 5 w A xs) :
    Calls Tryd.prog 19 #[.slice A xs.length c] w (fun e w' => e = .returned (.tuple #[.int .i64 (seli (FvOk xs) (favI (allS xs))), .bool (tb (FvOk xs))]) ∧ Below w.heap.size w w') := by
  have hare := areLoans_any A c xs w hn hcap hcm hA
  have hcw := fun (W : World) (hW : Below w.heap.size w W) => sheetsAll_any A c xs W hn (hA.ext hW)
  have hys : ∃ ys, ys = (allS xs).mergeSort leI := ⟨_, rfl⟩
  obtain ⟨ys, hys⟩ := hys
  rw [← hys] at hcw
  have HPM := Lib.hid (show ys.Perm (allS xs) from hys ▸ sort_perm _)
  have HSO := Lib.hid (show ys.Pairwise (fun x y => x ≤ y) from hys ▸ sort_sorted _)
  have HYL := Lib.hid (show ys.length = xs.length from HPM.out.length_eq.trans (allS_len xs))
  obtain ⟨n, hnn⟩ : ∃ n, n = List.length xs := ⟨_, rfl⟩
  rw [← hnn] at hare hcw hn hcap HYL ⊢
  have hN := Lib.hid hnn
  have HA := Lib.hid hare
  have HCW := Lib.hid hcw
  clear hnn hare hcw hys
  go_enter Tryd.func19, Tryd.ntmps19
  go_wp2_with fail
  refine (HA.out).mono ?_
  rintro e w1 ⟨rfl, hb1⟩
  by_cases h1 : Lns xs
  · rw [tb_t h1]
    have H1 := Lib.hid h1
    clear h1
    by_cases h2 : 0 < n
    · have hn0 : ((n : Int) == 0) = false := by simp; omega
      have HO : Hid (Lns xs ∧ 0 < n) := ⟨H1.out, h2⟩
      have HO2 : Hid (FvOk xs) := ⟨HO.out.1, by rw [← hN.out]; exact HO.out.2⟩
      have hn1 := HO.out.2
      obtain ⟨i0, hi, hy0, hy1, hy2⟩ := info_parts infoInt
      go_wp2_with fail
      refine (HCW.out _ hb1).mono ?_
      rintro e w3 ⟨B, dd, rfl, hF0, hb3⟩
      have hF := hF0.fl
      have hx3 := ext_trans hb1 hb3
      have hn15 : n ≤ 15 := by have := HO.out.1.2; rw [← hN.out] at this; exact this
      obtain ⟨m, hmm⟩ : ∃ m, m = ys.length := ⟨_, rfl⟩
      have hmn : m = n := by rw [hmm, HYL.out]
      have HM := Lib.hid hmm
      clear hF0
      subst hmn
      rw [← hmm]
      clear hmm
      go_wp2
      go_loopw [5, 6, 7, 22] (fun bv mv cv iv wr => ∃ (k : Nat) (bb mm cc : Int), k ≤ m ∧ iv = .int .i64 k ∧ bv = .int .i64 bb ∧ mv = .int .i64 mm ∧ cv = .int .i64 cc ∧ Hid (FavSt (ys.take k) bb mm cc) ∧ Below w.heap.size w wr ∧ w3 = wr) (fun _ _ _ iv _ => m - (intOf iv).toNat)
      case atStart => exact ⟨0, 0, 0, 0, by omega, rfl, rfl, rfl, rfl, .inl ⟨rfl, rfl, rfl, rfl⟩, hx3, rfl⟩
      case round =>
        obtain ⟨k, bb, mm, cc, hk, rfl, rfl, rfl, rfl, hst, hbr, rfl⟩ := hrel
        have hbd := favSt_bd hst.out
        rw [List.length_take] at hbd
        by_cases hlt : k < m
        · obtain ⟨s, b, o, hs, hBe, hbb, hc⟩ := hF.at_ (k := k) (by rw [← HM.out]; exact hlt)
          have c0 : World.cell? w3 ⟨b, o + k, none⟩ = some (.int .i64 s) := by have := hc 0 s rfl; rwa [Nat.mul_one, Nat.add_zero] at this
          have hsp : ∀ v ∈ ys.take k, v ≤ s := fun v hv => by
            obtain ⟨i, hi⟩ := List.mem_iff_getElem?.1 hv
            have hik : i < k := by have := lt_of_get hi; rw [List.length_take] at this; omega
            rw [List.getElem?_take_of_lt hik] at hi
            have h1 := List.pairwise_iff_getElem.1 HSO.out i k (lt_of_get hi) (lt_of_get hs) hik
            rw [List.getElem?_eq_getElem (lt_of_get hi)] at hi
            rw [List.getElem?_eq_getElem (lt_of_get hs)] at hs
            injection hi with hi
            injection hs with hs
            omega
          have hso : (ys.take k).Pairwise fun x y => x ≤ y := HSO.out.sublist (List.take_sublist _ _)
          have HSP := Lib.hid hsp
          have HSS := Lib.hid hso
          have HT := Lib.hid (take_get hs)
          have HB := Lib.hid hBe
          have hbb0 := hbb
          have hk0 : (0 : Int) ≤ (k : Int) := by omega
          have hk1 : (k : Int) < (m : Int) := by omega
          have hw1 : IntKind.i64.wrap (cc + 1) = cc + 1 := IntWalk.i64_in _ (by omega)
          subst hBe
          rcases Nat.eq_zero_or_pos k with hkk | hkk
          · have HC := Lib.hid (show (1 : Int) = cntI s (ys.take k ++ [s]) from by rw [hkk]; simp [cntI])
            have hkz : ¬ (0 : Int) < (k : Int) := by omega
            have hcc : cc = 0 := by rcases hst.out with ⟨_, _, _, e⟩ | ⟨z, e, _⟩; exact e; rw [hkk] at e; simp at e
            have hmz : mm = 0 := by rcases hst.out with ⟨_, _, e, _⟩ | ⟨z, e, _⟩; exact e; rw [hkk] at e; simp at e
            have HST := Lib.hid (fav_step hst.out HSP.out HC.out)
            rw [if_pos (by omega), if_pos (by omega)] at HST
            have c0z : World.cell? w3 ⟨b, o, none⟩ = some (.int .i64 s) := by have := c0; rwa [hkk, Nat.add_zero] at this
            subst hcc
            subst hmz
            clear hsp hso hc hs
            go_wp2
            go_roundw
            case rel => exact ⟨k + 1, _, _, _, by omega, by go_num, rfl, rfl, rfl, by rw [HT.out]; exact HST, hbr, by trivial⟩
            case measure => simp [intOf]; omega
          · obtain ⟨j, rfl⟩ : ∃ j, k = j + 1 := ⟨k - 1, by omega⟩
            obtain ⟨z, b', o', hz, hBe', _, hc'⟩ := hF.at_ (k := j) (by rw [← HM.out]; omega)
            injection hBe' with e1
            injection e1 with e1 e2
            subst e1 e2
            have c1 : World.cell? w3 ⟨b, o + j, none⟩ = some (.int .i64 z) := by have := hc' 0 z rfl; rwa [Nat.mul_one, Nat.add_zero] at this
            have hzl : (ys.take (j + 1)).getLast? = some z := by rw [take_get hz]; simp
            have HC := Lib.hid (fav_count hst.out hzl HSP.out HSS.out)
            have hkz : (0 : Int) < ((j + 1 : Nat) : Int) := by omega
            have hwj : IntKind.i64.wrap (((j + 1 : Nat) : Int) - 1) = (j : Int) := by rw [show ((j + 1 : Nat) : Int) - 1 = (j : Int) by omega]; exact IntWalk.i64_in _ (by omega)
            have hwj2 : IntKind.i64.wrap ((j : Int) + 1 - 1) = (j : Int) := by rw [show (j : Int) + 1 - 1 = (j : Int) by omega]; exact IntWalk.i64_in _ (by omega)
            have hj0 : (0 : Int) ≤ (j : Int) := by omega
            have hjm : (j : Int) < (m : Int) := by omega
            clear hsp hso hc hc' hs hz hzl
            by_cases e : s = z
            · have HC1 := Lib.hid (show cc + 1 = cntI s (ys.take (j + 1) ++ [s]) from by rw [HC.out, if_pos e])
              have HST := Lib.hid (fav_step hst.out HSP.out HC1.out)
              have es : (s != z) = false := by simp [e]
              clear e
              by_cases hq : mm < cc + 1
              · rw [if_pos hq, if_pos hq] at HST
                go_wp2
                go_roundw
                case rel => exact ⟨j + 1 + 1, _, _, _, by omega, by go_num, rfl, rfl, rfl, by rw [HT.out]; exact HST, hbr, by trivial⟩
                case measure => simp [intOf]; omega
              · rw [if_neg hq, if_neg hq] at HST
                go_wp2
                go_roundw
                case rel => exact ⟨j + 1 + 1, _, _, _, by omega, by go_num, rfl, rfl, rfl, by rw [HT.out]; exact HST, hbr, by trivial⟩
                case measure => simp [intOf]; omega
            · have HC1 := Lib.hid (show (1 : Int) = cntI s (ys.take (j + 1) ++ [s]) from by rw [HC.out, if_neg e])
              have HST := Lib.hid (fav_step hst.out HSP.out HC1.out)
              have es : (s != z) = true := by simp [e]
              clear e
              by_cases hq : mm < 1
              · rw [if_pos hq, if_pos hq] at HST
                go_wp2
                go_roundw
                case rel => exact ⟨j + 1 + 1, _, _, _, by omega, by go_num, rfl, rfl, rfl, by rw [HT.out]; exact HST, hbr, by trivial⟩
                case measure => simp [intOf]; omega
              · rw [if_neg hq, if_neg hq] at HST
                go_wp2
                go_roundw
                case rel => exact ⟨j + 1 + 1, _, _, _, by omega, by go_num, rfl, rfl, rfl, by rw [HT.out]; exact HST, hbr, by trivial⟩
                case measure => simp [intOf]; omega
        · have hkn : k = m := by omega
          subst hkn
          have hfv : favI (allS xs) = bb := by
            have h1 := hst.out
            rw [take_all (by rw [← HM.out]; exact Nat.le_refl _)] at h1
            rcases h1 with ⟨e, _⟩ | ⟨z, _, hf, _⟩
            · have := HM.out; rw [e] at this; simp at this; omega
            · exact favI_eq (fav_perm HPM.out hf)
          have HFV := Lib.hid hfv
          clear hfv
          go_wp2
          go_ret2
          exact ⟨by rw [seli_t HO2.out, tb_t HO2.out, HFV.out]; rfl, hbr⟩
    · have hn0 : ((n : Int) == 0) = true := by simp; omega
      go_wp2
      go_ret2
      have hok : ¬ (Lns xs ∧ 0 < n) := fun h => (fun (q : 0 < n) => (by omega : False)) h.2
      have hok2 : ¬ FvOk xs := fun h => hok ⟨h.1, by rw [hN.out]; exact h.2⟩
      exact ⟨ret_ib (seli_f hok2).symm (tb_f hok2).symm, hb1⟩
  · rw [tb_f h1]
    have H1 := Lib.hid h1
    clear h1
    go_wp2
    go_ret2
    have hok : ¬ (Lns xs ∧ 0 < n) := fun h => H1.out h.1
    have hok2 : ¬ FvOk xs := fun h => hok ⟨h.1, by rw [hN.out]; exact h.2⟩
    exact ⟨ret_ib (seli_f hok2).symm (tb_f hok2).symm, hb1⟩
end Go.Proofs.YtnikeelpcokffaaDoor
namespace Go.Proofs.YtnikeelpcokffaaDoor
open Go.RowKit
set_option linter.unusedVariables false
set_option linter.unusedSimpArgs false

set_option maxHeartbeats 1000000 in
set_option maxRecDepth 100000 in
theorem specFavorite_any (A : Option Addr) (c : Nat) (xs : List Loan) (w : World) (hn : xs.length ≤ 1048576) (hcap : xs.length ≤ c) (hcm : c ≤ 9223372036854775807) (hA : Fl Loan.ints 5 w A xs) :
    Calls Tryd.prog 20 #[.slice A xs.length c] w (fun e w' => e = .returned (.tuple #[.int .i64 (seli (FvOk xs) (favI (allS xs))), .bool (tb (FvOk xs))]) ∧ Below w.heap.size w w') := by
  have hare := l11Good_any A c xs w hn hcap hcm hA
  obtain ⟨n, hnn⟩ : ∃ n, n = List.length xs := ⟨_, rfl⟩
  rw [← hnn] at hare hn hcap ⊢
  have hN := Lib.hid hnn
  have HA := Lib.hid hare
  clear hnn hare
  go_enter Tryd.func20, Tryd.ntmps20
  go_wp2_with fail
  refine (HA.out).mono ?_
  rintro e w1 ⟨rfl, hb1⟩
  by_cases h1 : Lns xs
  · rw [tb_t h1]
    have H1 := Lib.hid h1
    clear h1
    by_cases h2 : 0 < n
    · have hn0 : ((n : Int) == 0) = false := by simp; omega
      have HO : Hid (Lns xs ∧ 0 < n) := ⟨H1.out, h2⟩
      have HO2 : Hid (FvOk xs) := ⟨HO.out.1, by rw [← hN.out]; exact HO.out.2⟩
      have hn1 := HO.out.2
      have hn15 : n ≤ 15 := by have := HO.out.1.2; rw [← hN.out] at this; exact this
      go_wp2
      go_loopw [4, 5, 6] (fun bv mv iv wr => ∃ (k : Nat) (bb mm : Int), k ≤ n ∧ iv = .int .i64 k ∧ bv = .int .i64 bb ∧ mv = .int .i64 mm ∧ Hid (FavO (allS xs) (allS (xs.take k)) bb mm) ∧ Below w.heap.size w wr) (fun _ _ iv _ => n - (intOf iv).toNat)
      case atStart => exact ⟨0, 0, 0, by omega, rfl, rfl, rfl, .inl ⟨rfl, rfl, rfl⟩, hb1⟩
      case round =>
        obtain ⟨k, bb, mm, hk, rfl, rfl, rfl, hst, hbr⟩ := hrel
        obtain ⟨wo, hwo⟩ : ∃ x, x = wr := ⟨_, rfl⟩
        rw [← hwo] at hbr ⊢
        clear hwo
        by_cases hlt : k < n
        · obtain ⟨x, b, o, hx, hAe, hbb, hc⟩ := (hA.ext hbr).at_ (k := k) (by rw [← hN.out]; exact hlt)
          have cx : World.cell? wo ⟨b, o + k * 5, none⟩ = some (.int .i64 x.sheet) := hc 0 _ rfl
          have HT := Lib.hid (take_get hx)
          have HXM := Lib.hid (show x.sheet ∈ allS xs from List.mem_map.2 ⟨x, List.mem_of_getElem? hx, rfl⟩)
          have HAE := Lib.hid hAe
          clear hx hc
          have hk0 : (0 : Int) ≤ (k : Int) := by omega
          have hk1 : (k : Int) < (n : Int) := by omega
          go_wp2
          go_loopw [7, 8] (fun nv jv wr => ∃ j : Nat, j ≤ n ∧ jv = .int .i64 j ∧ nv = .int .i64 (cntI x.sheet (allS (xs.take j))) ∧ Below wo.heap.size wo wr) (fun _ jv _ => n - (intOf jv).toNat)
          case atStart => exact ⟨0, by omega, rfl, rfl, Below.refl _ _⟩
          case round =>
            obtain ⟨j, hj, rfl, rfl, hbj⟩ := hrel
            have hcb := cntI_bd x.sheet (allS (xs.take j))
            rw [allS_len, List.length_take] at hcb
            have cr : World.cell? wr ⟨b, o + k * 5, none⟩ = some (.int .i64 x.sheet) := (hbj.cell (p := ⟨b, o + k * 5, none⟩) hbb).trans cx
            have hbk := Nat.lt_of_lt_of_le hbb hbj.size
            by_cases hjt : j < n
            · obtain ⟨y, b', o', hy, hBe, _, hc'⟩ := (hA.ext (ext_trans hbr hbj)).at_ (k := j) (by rw [← hN.out]; exact hjt)
              rw [HAE.out] at hBe
              injection hBe with e1
              injection e1 with e1 e2
              subst e1 e2
              have c1 : World.cell? wr ⟨b, o + j * 5, none⟩ = some (.int .i64 y.sheet) := hc' 0 _ rfl
              have HTJ := Lib.hid (take_get hy)
              obtain ⟨cc, hcc⟩ : ∃ z, z = cntI x.sheet (allS (xs.take j)) := ⟨_, rfl⟩
              rw [← hcc] at hcb ⊢
              have HCC := Lib.hid hcc
              have hwc : IntKind.i64.wrap (cc + 1) = cc + 1 := IntWalk.i64_in _ (by omega)
              have hj0 : (0 : Int) ≤ (j : Int) := by omega
              have hjn : (j : Int) < (n : Int) := by omega
              have hpc := plus_cell wr
              have hwj : IntKind.i64.wrap ((j : Int) + 1) = (j : Int) + 1 := IntWalk.i64_in _ (by omega)
              clear hy hc' hcc
              by_cases e : y.sheet = x.sheet
              · have es : (y.sheet == x.sheet) = true := by simp [e]
                have HE := Lib.hid e
                clear e
                subst hAe
                go_wp2_with fail
                refine wp_region_grow (by kernel_rfl) (by kernel_rfl) ?_
                repeat (go_big_quiet_step ((first | (fail))))
                refine wpQuiet_nil ?_
                intro w1 hb1
                go_wp2
                go_roundw
                case rel => exact ⟨j + 1, by omega, by go_num, by rw [HTJ.out, allS_snoc, cntI_snoc, if_pos HE.out, HCC.out], ext_trans hbj hb1⟩
                case measure => simp [intOf] <;> omega
              · have es : (y.sheet == x.sheet) = false := by simp [e]
                have HE := Lib.hid e
                clear e
                subst hAe
                go_wp2_with fail
                refine wp_region_grow (by kernel_rfl) (by kernel_rfl) ?_
                repeat (go_big_quiet_step ((first | (fail))))
                refine wpQuiet_nil ?_
                intro w1 hb1
                go_wp2
                go_roundw
                case rel => exact ⟨j + 1, by omega, by go_num, by rw [HTJ.out, allS_snoc, cntI_snoc, if_neg HE.out, HCC.out, Int.add_zero], ext_trans hbj hb1⟩
                case measure => simp [intOf] <;> omega
            · have hjn : j = n := by omega
              subst hjn
              rw [take_all (by rw [← hN.out]; exact Nat.le_refl _)] at hcb ⊢
              obtain ⟨cc, hcc⟩ : ∃ z, z = cntI x.sheet (allS xs) := ⟨_, rfl⟩
              rw [← hcc] at hcb ⊢
              have HCC := Lib.hid hcc
              clear hcc
              have HST := Lib.hid (favO_step hst.out HXM.out HCC.out (mm < cc ∨ (cc = mm ∧ x.sheet < bb)) Iff.rfl)
              have hbx := hbj
              subst hAe
              by_cases q1 : mm < cc
              · rw [if_pos (.inl q1), if_pos (.inl q1)] at HST
                go_wp2
                go_roundw
                case rel => exact ⟨k + 1, _, _, by omega, by go_num, rfl, rfl, by rw [HT.out, allS_snoc]; exact HST, ext_trans hbr hbx⟩
                case measure => simp [intOf]; omega
              · by_cases q2 : cc = mm
                · have eq2 : (cc == mm) = true := by simp [q2]
                  by_cases q3 : x.sheet < bb
                  · rw [if_pos (.inr ⟨q2, q3⟩), if_pos (.inr ⟨q2, q3⟩)] at HST
                    clear q2
                    go_wp2
                    go_roundw
                    case rel => exact ⟨k + 1, _, _, by omega, by go_num, rfl, rfl, by rw [HT.out, allS_snoc]; exact HST, ext_trans hbr hbx⟩
                    case measure => simp [intOf]; omega
                  · rw [if_neg (fun h => h.elim q1 (fun h => q3 h.2)), if_neg (fun h => h.elim q1 (fun h => q3 h.2))] at HST
                    clear q2
                    go_wp2
                    go_roundw
                    case rel => exact ⟨k + 1, _, _, by omega, by go_num, rfl, rfl, by rw [HT.out, allS_snoc]; exact HST, ext_trans hbr hbx⟩
                    case measure => simp [intOf]; omega
                · have eq2 : (cc == mm) = false := by simp [q2]
                  rw [if_neg (fun h => h.elim q1 (fun h => q2 h.1)), if_neg (fun h => h.elim q1 (fun h => q2 h.1))] at HST
                  clear q2
                  go_wp2
                  go_roundw
                  case rel => exact ⟨k + 1, _, _, by omega, by go_num, rfl, rfl, by rw [HT.out, allS_snoc]; exact HST, ext_trans hbr hbx⟩
                  case measure => simp [intOf]; omega
        · have hkn : k = n := by omega
          subst hkn
          have hfv : favI (allS xs) = bb := by
            have h1 := hst.out
            rw [take_all (by rw [← hN.out]; exact Nat.le_refl _)] at h1
            rcases h1 with ⟨e, _⟩ | hf
            · have := congrArg List.length e; rw [allS_len, ← hN.out] at this; simp at this; omega
            · exact favI_eq hf
          have HFV := Lib.hid hfv
          clear hfv
          go_wp2
          go_ret2
          exact ⟨by rw [seli_t HO2.out, tb_t HO2.out, HFV.out]; rfl, hbr⟩
    · have hn0 : ((n : Int) == 0) = true := by simp; omega
      go_wp2
      go_ret2
      have hok : ¬ (Lns xs ∧ 0 < n) := fun h => (fun (q : 0 < n) => (by omega : False)) h.2
      have hok2 : ¬ FvOk xs := fun h => hok ⟨h.1, by rw [hN.out]; exact h.2⟩
      exact ⟨ret_ib (seli_f hok2).symm (tb_f hok2).symm, hb1⟩
  · rw [tb_f h1]
    have H1 := Lib.hid h1
    clear h1
    go_wp2
    go_ret2
    have hok : ¬ (Lns xs ∧ 0 < n) := fun h => H1.out h.1
    have hok2 : ¬ FvOk xs := fun h => hok ⟨h.1, by rw [hN.out]; exact h.2⟩
    exact ⟨ret_ib (seli_f hok2).symm (tb_f hok2).symm, hb1⟩
end Go.Proofs.YtnikeelpcokffaaDoor
