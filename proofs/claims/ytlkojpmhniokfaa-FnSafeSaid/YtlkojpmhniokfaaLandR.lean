/- A land drawn. No condition. -/
import Derived.Test.YtlkojpmhniokfaaRouR
import Derived.Test.YtlkojpmhniokfaaMxMn
import Derived.Test.YtlkojpmhniokfaaAppAt
import Derived.Test.YtlkojpmhniokfaaRegZ
import Derived.Deep.RegionHeld3
namespace Go.Proofs.Ytlkojpmhniokfaa
open Go.RowKit
set_option linter.unusedVariables false
set_option linter.unusedSimpArgs false

theorem infoFourB : (Try.prog.info? 48).map (fun i => (i.zero, i.size, i.bytes)) = some (some (.agg (Array.replicate 4 (.int .i64 0))), 4, 32) := by kernel_rfl
theorem four_box (w : World) (a b c d : Int) (e : TypeId) : Fl Four.ints 4 (w.alloc (.cells #[.int .i64 a, .int .i64 b, .int .i64 c, .int .i64 d] e)) (some ⟨w.heap.size, 0, none⟩) [(⟨a, b, c, d⟩ : Four)] := Fl.box (f := Four.ints) (sz := 4) (e := e) w (⟨a, b, c, d⟩ : Four)
theorem lit_flo1 (w : World) (o : Obj) (xs : List Int) (e : TypeId) (cs : Array Value) (hcs : cs = (xs.map (Value.int .i64)).toArray) : FlO one 1 (w.heap.size + 1) (w.heap.size + 1 + 1) ((w.alloc o).alloc (.cells cs e)) (some ⟨w.heap.size + 1, 0, none⟩) xs := by
  have h := lit_flo (w.alloc o) xs e cs hcs
  rwa [show (w.alloc o).heap.size = w.heap.size + 1 by simp] at h
theorem VarL.keptB {w w' : World} {B : Nat} {vs : List Value} {ob : Option Nat} (h : VarL w B vs) (hg : w.grownBy w' ob) (hne : some B ≠ ob) : VarL w' B vs :=
  have hk := hg.block B h.lt hne
  ⟨Nat.lt_of_lt_of_le h.lt hg.size, fun j v hv => (World.cell?_of_block (w := w) (a := ⟨B, j, none⟩) hk).trans (h.cell j v hv), fun j => (World.frozen?_of_block (w := w) (a := ⟨B, j, none⟩) hk).trans (h.fz j)⟩
theorem VarL.quadB {w : World} {B : Nat} {a b c d : Value} (h : VarL w B [a, b, c, d]) : w.cell? ⟨B, 0, none⟩ = some a ∧ w.cell? ⟨B, 1, none⟩ = some b ∧ w.cell? ⟨B, 2, none⟩ = some c ∧ w.cell? ⟨B, 3, none⟩ = some d := ⟨h.cell 0 _ rfl, h.cell 1 _ rfl, h.cell 2 _ rfl, h.cell 3 _ rfl⟩
theorem grown_setB {w : World} (g j : Nat) (u : Value) : w.grownBy (w.setCell ⟨g, j, none⟩ u) (some g) := ⟨rfl, rfl, rfl, by simp [World.setCell], fun k _ hk => heap_setCell_other w ⟨g, j, none⟩ k u (fun e => hk (by simp [e]))⟩
/-- the cursor at g, the land under way in the variable at B, its bars in a slice of the call's own -/
structure LS (g : Nat) (C : Option Addr) (n cap B : Nat) (wide high : Int) (v : Value) (steep : Int) (xs : List Four) (K : Nat) (w0 w : World) : Prop where
  cur : CurAt g C n cap K w
  box : VarL w B [.int .i64 wide, .int .i64 high, v, .int .i64 steep]
  own : OwnF Four.ints 4 (w0.heap.size + 1) 48 w v xs
  ne : some B ≠ v.ownBlock
  tch : Touch g (g + 1) w0 w
  res : VarL w w0.heap.size [.int .i64 0, .int .i64 0, .slice none 0 0, .int .i64 0]
section
variable {g : Nat} {C : Option Addr} {n cap B : Nat} {wide high steep : Int} {v : Value} {xs : List Four} {K : Nat} {w0 w w' : World}
theorem LS.ext (h : LS g C n cap B wide high v steep xs K w0 w) (hb : Below w.heap.size w w') : LS g C n cap B wide high v steep xs K w0 w' :=
  ⟨h.cur.ext hb, h.box.ext hb, h.own.ext hb, h.ne, h.tch.trans (Touch.of_ext hb), h.res.ext hb⟩
theorem LS.mono {K' : Nat} (h : LS g C n cap B wide high v steep xs K w0 w) (hk : K ≤ K') : LS g C n cap B wide high v steep xs K' w0 w :=
  ⟨h.cur.mono hk, h.box, h.own, h.ne, h.tch, h.res⟩
theorem LS.draw {K' : Nat} (h : LS g C n cap B wide high v steep xs K w0 w) (hg : g < w0.heap.size) (hB : w0.heap.size < B) (hc : CurAt g C n cap K' w') (ht : Touch g (g + 1) w w') : LS g C n cap B wide high v steep xs K' w0 w' :=
  ⟨hc, h.box.touch ht (.inr (by omega)), h.own.touch ht (by omega), h.ne, h.tch.trans ht, h.res.touch ht (.inr (by omega))⟩
theorem LS.set {wide' high' steep' : Int} {j : Nat} {u : Value} (h : LS g C n cap B wide high v steep xs K w0 w) (hg : g < w0.heap.size) (hB : w0.heap.size < B) (hv : VarL (w.setCell ⟨B, j, none⟩ u) B [.int .i64 wide', .int .i64 high', v, .int .i64 steep']) : LS g C n cap B wide' high' v steep' xs K w0 (w.setCell ⟨B, j, none⟩ u) := by
  have ht : Touch B (B + 1) w (w.setCell ⟨B, j, none⟩ u) := Touch.of_set w ⟨B, j, none⟩ u (Nat.le_refl _) (Nat.lt_succ_self _)
  refine ⟨h.cur.touch' (l := B) ht (by omega), hv, h.own.kept (grown_setB B j u) ?_, h.ne, h.tch.over' (B := B) ht (by omega), h.res.touch ht (.inl (by omega))⟩
  rcases hv : v.ownBlock with _ | q
  · exact .inl rfl
  · exact .inr (by rw [← hv]; exact h.ne.symm)
theorem LS.app {v' : Value} {ys : List Four} (h : LS g C n cap B wide high v steep xs K w0 w) (hg : g < w0.heap.size) (hB : w0.heap.size < B) (ho : OwnF Four.ints 4 (w0.heap.size + 1) 48 w' v' ys) (hgr : w.grownBy w' v.ownBlock) (hb : Below (w0.heap.size + 1) w w') (hat : v'.ownBlock = v.ownBlock ∨ v'.ownBlock = some w.heap.size) :
    VarL w' B [.int .i64 wide, .int .i64 high, v, .int .i64 steep] ∧ LS g C n cap B wide high v' steep ys K w0 (w'.setCell ⟨B, 2, none⟩ v') := by
  have hk := h.box.keptB hgr h.ne
  have ht : Touch B (B + 1) w' (w'.setCell ⟨B, 2, none⟩ v') := Touch.of_set w' ⟨B, 2, none⟩ v' (Nat.le_refl _) (Nat.lt_succ_self _)
  have hne : some B ≠ v'.ownBlock := by
    rcases hat with e | e
    · rw [e]; exact h.ne
    · rw [e]
      intro q
      injection q with q
      have := h.box.lt
      omega
  have hr : some w0.heap.size ≠ v.ownBlock := fun e => by have := (h.own.ownBlock _ e.symm).1; omega
  refine ⟨hk, (h.cur.below' hb (by omega)).touch' (l := B) ht (by omega), hk.set 2 v' (by simp), ho.kept (grown_setB B 2 v') ?_, hne, (h.tch.far' hb (by omega)).over' (B := B) ht (by omega), (h.res.keptB hgr hr).touch ht (.inl (by omega))⟩
  rcases hv : v'.ownBlock with _ | q
  · exact .inl rfl
  · exact .inr (by rw [← hv]; exact hne.symm)
theorem LS.pick (h : LS g C n cap B wide high v steep xs K w0 w) (hg : g < w0.heap.size) (hB : w0.heap.size < B) (hn : n ≤ 1099511627776) (M : Int) (hK : K ≤ 549755813888) :
    Calls Try.prog 40 #[.pointer (some ⟨g, 0, none⟩), .int .i64 M] w fun e w' => ∃ z : Int, e = .returned (.int .i64 z) ∧ 0 ≤ z ∧ (z < M ∨ z = 0) ∧ LS g C n cap B wide high v steep xs (K + 2) w0 w' :=
  (pick_any M g C n cap K w h.cur hK hn).mono fun e w' ⟨_, he, ⟨z, hv, h0, h1⟩, hC, hU⟩ => ⟨z, by rw [he, hv], h0, h1, h.draw hg hB hC hU⟩
theorem LS.among (h : LS g C n cap B wide high v steep xs K w0 w) (hg : g < w0.heap.size) (hB : w0.heap.size < B) (hn : n ≤ 1099511627776) (hK : K ≤ 549755813888) (l : List Int) (m : Nat) (hm : m = l.length) (h0 : 0 < l.length) (h1 : l.length ≤ 1048576) (b : Nat) (hF : FlO one 1 b (b + 1) w (some ⟨b, 0, none⟩) l) (hb : g < b) :
    Calls Try.prog 43 #[.pointer (some ⟨g, 0, none⟩), .slice (some ⟨b, 0, none⟩) m m] w fun e w' => ∃ z ∈ l, e = .returned (.int .i64 z) ∧ LS g C n cap B wide high v steep xs (K + 2) w0 w' ∧ Touch g (g + 1) w w' :=
  (among_any (some ⟨b, 0, none⟩) m m l hm b (b + 1) g C n cap K w h.cur hK hn hF h0 h1 (.inl hb)).mono fun e w' ⟨_, he, ⟨z, hz, hv⟩, hC, hU⟩ => ⟨z, hz, by rw [he, hv], h.draw hg hB hC hU, hU⟩
def EndL (g : Nat) (C : Option Addr) (n cap K : Nat) (w : World) (e : Ending) (w' : World) : Prop :=
  ∃ (wide high steep : Int) (A : Option Addr) (d : Nat) (xs : List Four), e = .returned (.agg #[.int .i64 wide, .int .i64 high, .slice A xs.length d, .int .i64 steep]) ∧ xs.length ≤ 4 ∧ FlO Four.ints 4 w.heap.size w'.heap.size w' A xs ∧ CurAt g C n cap K w' ∧ Touch g (g + 1) w w'
theorem finL {A : Option Addr} {m d K' : Nat} (h : LS g C n cap B wide high (.slice A m d) steep xs K w0 w) (hm : m = xs.length) (hg : g < w0.heap.size) (hl : xs.length ≤ 4) (hK : K ≤ K') (x y z u : Value) :
    EndL g C n cap K' w0 (.returned (.agg #[.int .i64 wide, .int .i64 high, .slice A m d, .int .i64 steep])) ((((w.setCell ⟨w0.heap.size, 0, none⟩ x).setCell ⟨w0.heap.size, 1, none⟩ y).setCell ⟨w0.heap.size, 2, none⟩ z).setCell ⟨w0.heap.size, 3, none⟩ u) := by
  subst hm
  have ht := set4_tch w w0.heap.size x y z u
  obtain ⟨A9, d9, hv9, hF9⟩ := h.own.form Four.ints_length
  injection hv9 with e1 e2 e3
  subst e1 e3
  exact ⟨wide, high, steep, _, _, xs, rfl, hl, (hF9.touch ht (.inr (by omega))).mono (by omega) ht.size, (h.cur.touch' (l := w0.heap.size) ht hg).mono hK, h.tch.over' (B := w0.heap.size) ht (Nat.le_refl _)⟩
end
set_option maxHeartbeats 16000000 in
set_option maxRecDepth 100000 in
theorem land_any (g : Nat) (C : Option Addr) (n cap k : Nat) (w : World) (hC : CurAt g C n cap k w) (hk : k ≤ 274877906944) (hn : n ≤ 1099511627776) :
    Calls Try.prog 42 #[.pointer (some ⟨g, 0, none⟩)] w (EndL g C n cap (k + 100) w) := by
  have hgw : g < w.heap.size := hC.lt
  have hT := Touch.refl g (g + 1) w
  obtain ⟨i0, hi, hy0, hy1, hy2⟩ := info_parts infoFourB
  obtain ⟨E1, hVE1, hbE1, hzE1, huE1, hfE1⟩ := box_world w #[Value.int .i64 0, Value.int .i64 0, Value.slice none 0 0, Value.int .i64 0] 26
  have r0 : VarL E1 (World.heap w).size [Value.int .i64 0, Value.int .i64 0, Value.slice none 0 0, Value.int .i64 0] := hVE1 ▸ VarL.box w _ _
  replace hC := hC.ext hbE1
  replace hT := hT.trans (Touch.of_ext hbE1)
  have hyE1 : (World.heap w).size + 1 ≤ (World.heap E1).size := hzE1
  clear huE1 hfE1
  go_enter Try.func42, Try.ntmps42
  have hlt1 : g < (World.heap E1).size := hC.lt
  have HN1 := Lib.hid (among_any (some ⟨(World.heap E1).size, 0, none⟩) 5 5 [1, 5, 12, 60, 2000] rfl (World.heap E1).size ((World.heap E1).size + 1) g C n cap _ (World.alloc E1 (.cells #[Value.int .i64 (1), Value.int .i64 (5), Value.int .i64 (12), Value.int .i64 (60), Value.int .i64 (2000)] 3)) (hC.ext (ext_alloc _ _)) (by omega) hn (lit_flo E1 [1, 5, 12, 60, 2000] _ _ rfl) (by simp) (by simp) (.inl hlt1))
  clear hC
  go_wp2_with fail
  clear hVE1
  ((with_reducible refine (HN1.out).mono ?_); rintro e w1 ⟨_, rfl, ⟨wide, mw, rfl⟩, hC, hU1⟩)
  replace hU1 := (Touch.of_ext (ext_alloc E1 (.cells #[Value.int .i64 (1), Value.int .i64 (5), Value.int .i64 (12), Value.int .i64 (60), Value.int .i64 (2000)] 3))).trans hU1
  replace r0 := r0.touch hU1 (by omega)
  replace hT := hT.trans hU1
  have hz_w1 : (World.heap E1).size ≤ (World.heap w1).size := hU1.size
  clear hU1
  have bw : 1 ≤ wide ∧ wide ≤ 2000 := by simp at mw; omega
  clear mw
  have hlt2 : g < (World.heap w1).size := hC.lt
  have HN2 := Lib.hid (among_any (some ⟨(World.heap w1).size, 0, none⟩) 5 5 [1, 6, 12, 60, 2000] rfl (World.heap w1).size ((World.heap w1).size + 1) g C n cap _ (World.alloc w1 (.cells #[Value.int .i64 (1), Value.int .i64 (6), Value.int .i64 (12), Value.int .i64 (60), Value.int .i64 (2000)] 3)) (hC.ext (ext_alloc _ _)) (by omega) hn (lit_flo w1 [1, 6, 12, 60, 2000] _ _ rfl) (by simp) (by simp) (.inl hlt2))
  clear hC
  go_wp2_with fail
  ((with_reducible refine (HN2.out).mono ?_); rintro e w2 ⟨_, rfl, ⟨high, mh, rfl⟩, hC, hU2⟩)
  replace hU2 := (Touch.of_ext (ext_alloc w1 (.cells #[Value.int .i64 (1), Value.int .i64 (6), Value.int .i64 (12), Value.int .i64 (60), Value.int .i64 (2000)] 3))).trans hU2
  replace r0 := r0.touch hU2 (by omega)
  replace hT := hT.trans hU2
  have hz_w2 : (World.heap w1).size ≤ (World.heap w2).size := hU2.size
  clear hU2
  have bh : 1 ≤ high ∧ high ≤ 2000 := by simp at mh; omega
  clear mh
  obtain ⟨E9, hV9, hb9, hz9, _, _⟩ := box_world w2 #[] 48
  have hO : OwnF Four.ints 4 (w.heap.size + 1) 48 E9 (.slice (some ⟨(World.heap w2).size, 0, none⟩) 0 0) [] := hV9 ▸ OwnF.empty (by omega)
  replace r0 := r0.ext hb9
  replace hC := hC.ext hb9
  replace hT := hT.trans (Touch.of_ext hb9)
  have hy9 : (World.heap w2).size < (World.heap E9).size := hz9
  have hlt3 : g < (World.heap E9).size := hC.lt
  have HN3 := Lib.hid (among_any (some ⟨(World.heap E9).size, 0, none⟩) 4 4 [1, 5, 20, 100] rfl (World.heap E9).size ((World.heap E9).size + 1) g C n cap _ (World.alloc E9 (.cells #[Value.int .i64 (1), Value.int .i64 (5), Value.int .i64 (20), Value.int .i64 (100)] 3)) (hC.ext (ext_alloc _ _)) (by omega) hn (lit_flo E9 [1, 5, 20, 100] _ _ rfl) (by simp) (by simp) (.inl hlt3))
  clear hC
  go_wp2_with fail
  clear hV9
  ((with_reducible refine (HN3.out).mono ?_); rintro e w3 ⟨_, rfl, ⟨steep, _, rfl⟩, hC, hU3⟩)
  replace hU3 := (Touch.of_ext (ext_alloc E9 (.cells #[Value.int .i64 (1), Value.int .i64 (5), Value.int .i64 (20), Value.int .i64 (100)] 3))).trans hU3
  replace r0 := r0.touch hU3 (by omega)
  replace hO := hO.touch hU3 (by omega)
  replace hT := hT.trans hU3
  have hz_w3 : (World.heap E9).size ≤ (World.heap w3).size := hU3.size
  clear hU3
  obtain ⟨E2, hVE2, hbE2, hzE2, huE2, hfE2⟩ := box_world w3 #[Value.int .i64 wide, Value.int .i64 high, Value.slice (some ⟨(World.heap w2).size, 0, none⟩) 0 0, Value.int .i64 steep] 26
  have ve : VarL E2 (World.heap w3).size [Value.int .i64 wide, Value.int .i64 high, Value.slice (some ⟨(World.heap w2).size, 0, none⟩) 0 0, Value.int .i64 steep] := hVE2 ▸ VarL.box w3 _ _
  replace r0 := r0.ext hbE2
  replace hO := hO.ext hbE2
  replace hC := hC.ext hbE2
  replace hT := hT.trans (Touch.of_ext hbE2)
  have hyE2 : (World.heap w3).size + 1 ≤ (World.heap E2).size := hzE2
  clear huE2 hfE2
  obtain ⟨B, hB⟩ : ∃ z, z = (World.heap w3).size := ⟨_, rfl⟩
  obtain ⟨LB, hLB⟩ : ∃ z, z = (World.heap w2).size := ⟨_, rfl⟩
  rw [← hB, ← hLB] at ve
  rw [← hLB] at hO
  have hwB : w.heap.size < B := by omega
  have hlB : LB < B := by omega
  have HL := Lib.hid (LS.mk (K := k + 10) (w0 := w) (hC.mono (by omega)) ve hO (show some B ≠ (Value.slice (some ⟨LB, 0, none⟩) 0 0).ownBlock by simp [Value.ownBlock]; omega) hT r0)
  have HBB := Lib.hid hB
  have HLL := Lib.hid hLB
  have HN := Lib.hid (HL.out.pick hgw hwB hn 4 (by omega))
  clear hC hT ve hO r0 hB hLB
  go_wp2_with fail
  rw [← HBB.out, ← HLL.out]
  clear hVE2
  ((with_reducible refine (HN.out).mono ?_); rintro e w1 ⟨z, rfl, hz0, hz1, hL1⟩)
  obtain ⟨N, rfl⟩ : ∃ N : Nat, z = N := ⟨z.toNat, by omega⟩
  have HL1 := Lib.hid hL1
  clear hL1 HL HN
  go_wp2
  go_loopw [4] (fun nv wr => ∃ (v : Value) (xs : List Four) (m : Nat), nv = .int .i64 (m : Int) ∧ m ≤ 3 ∧ xs.length + m ≤ 3 ∧ LS g C n cap B wide high v steep xs (k + 12 + (3 - m) * 10) w wr) (fun nv _ => (intOf nv).toNat)
  case atStart => exact ⟨_, [], N, rfl, by omega, by simp; omega, HL1.out.mono (by omega)⟩
  case round =>
    clear HL1
    obtain ⟨v, xs, m, rfl, hm3, hxm, hL⟩ := hrel
    by_cases hm : 0 < m
    · have hmi : (0 : Int) < (m : Int) := by omega
      obtain ⟨K0, hK0⟩ : ∃ z, z = k + 12 + (3 - m) * 10 := ⟨_, rfl⟩
      rw [← hK0] at hL
      have HK0 := Lib.hid hK0
      have hKb : K0 + 20 ≤ 549755813888 := by omega
      obtain ⟨c0, c1, c2, c3⟩ := hL.box.quadB
      have cl := hL.box.lt
      have HL := Lib.hid hL
      have PK := Lib.hid (fun (M : Int) (W : World) (K : Nat) (h : LS g C n cap B wide high v steep xs K w W) (hK : K ≤ 549755813888) => h.pick hgw hwB hn M hK)
      have HXL := Lib.hid hxm
      clear hL hK0 hxm
      go_wp2_with fail
      go_region_held3 (fun w' => World.cell? w' ⟨B, 0, none⟩ = some (.int .i64 wide) ∧ World.cell? w' ⟨B, 1, none⟩ = some (.int .i64 high) ∧ World.cell? w' ⟨B, 2, none⟩ = some v ∧ World.cell? w' ⟨B, 3, none⟩ = some (.int .i64 steep)) (first | (refine VarL.quadB (LS.box (g := g) (C := C) (n := n) (cap := cap) (xs := xs) (w0 := w) (K := K0 + 2 + 2) ?_); (repeat (first | with_reducible exact HL6.out | with_reducible refine LS.ext ?_ (ext_drew _) | with_reducible refine LS.ext ?_ (ext_alloc _ _))); done) | (refine VarL.quadB (LS.box (g := g) (C := C) (n := n) (cap := cap) (xs := xs) (w0 := w) (K := K0 + 2) ?_); (repeat (first | with_reducible exact HL5.out | with_reducible refine LS.ext ?_ (ext_drew _) | with_reducible refine LS.ext ?_ (ext_alloc _ _))); done) | (refine VarL.quadB (LS.box (g := g) (C := C) (n := n) (cap := cap) (xs := xs) (w0 := w) (K := K0) ?_); (repeat (first | with_reducible exact HL.out | with_reducible refine LS.ext ?_ (ext_drew _) | with_reducible refine LS.ext ?_ (ext_alloc _ _))); done)) ((first | (go_at_call 67; (with_reducible refine (l1Mn_any _ _ _).mono ?_); rintro e _ ⟨rfl, rfl⟩) | (go_at_call 40; (with_reducible refine (PK.out _ _ (K0 + 2) ?_ ?_).mono ?_); (repeat (first | with_reducible exact HL5.out | with_reducible refine LS.ext ?_ (ext_drew _) | with_reducible refine LS.ext ?_ (ext_alloc _ _))); omega; rintro e w6 ⟨z2, rfl, hz20, hz21, hL6⟩; have HL6 := Lib.hid hL6; clear hL6) | (go_at_call 40; (with_reducible refine (PK.out _ _ K0 ?_ ?_).mono ?_); (repeat (first | with_reducible exact HL.out | with_reducible refine LS.ext ?_ (ext_drew _) | with_reducible refine LS.ext ?_ (ext_alloc _ _))); omega; rintro e w5 ⟨z1, rfl, hz10, hz11, hL5⟩; have HL5 := Lib.hid hL5; clear hL5)))
      have b1 : 0 ≤ z1 ∧ z1 ≤ 7 := by omega
      have b2 : 0 ≤ z2 ∧ z2 ≤ 7 := by omega
      obtain ⟨d0, d1, d2, d3⟩ := HL6.out.box.quadB
      have dl := HL6.out.box.lt
      have hg6 : g < w6.heap.size := HL6.out.cur.lt
      have hs6 : w.heap.size + 1 ≤ w6.heap.size := by omega
      have hg6s : g + 1 ≤ w6.heap.size := hg6
      have hg6t : g + 1 ≤ w6.heap.size + 1 := Nat.le_succ_of_le hg6
      have HLA := Lib.hid (fun o : Obj => (((lit_flo w6 [0, 0, 1, 2] 3 #[Value.int .i64 0, Value.int .i64 0, Value.int .i64 1, Value.int .i64 2] rfl).ext (ext_alloc _ o)).ext (ext_drew _)))
      have HLB := Lib.hid (fun o : Obj => (lit_flo1 w6 o [0, 0, 1, 2] 3 #[Value.int .i64 0, Value.int .i64 0, Value.int .i64 1, Value.int .i64 2] rfl).ext (ext_drew _))
      have hw0 : IntKind.i64.wrap (wide - 1) = wide - 1 := IntWalk.i64_in _ (by omega)
      have hw1 : IntKind.i64.wrap (high - 1) = high - 1 := IntWalk.i64_in _ (by omega)
      have AM := Lib.hid (fun (l : List Int) (m : Nat) (hm : m = l.length) (h0 : 0 < l.length) (h1 : l.length ≤ 1048576) (K : Nat) (hK : K ≤ 549755813888) (W : World) (b : Nat) (h : LS g C n cap B wide high v steep xs K w W) (hF : FlO one 1 b (b + 1) W (some ⟨b, 0, none⟩) l) (hb : g < b) => h.among hgw hwB hn hK l m hm h0 h1 b hF hb)
      clear c0 c1 c2 c3 cl PK HL HL5 hz10 hz11 hz20 hz21
      go_wp2_with fail
      refine wp_regionZ 26 (S := (fun w' => World.cell? w' ⟨B, 0, none⟩ = some (.int .i64 wide) ∧ World.cell? w' ⟨B, 1, none⟩ = some (.int .i64 high) ∧ World.cell? w' ⟨B, 2, none⟩ = some v ∧ World.cell? w' ⟨B, 3, none⟩ = some (.int .i64 steep))) (by kernel_rfl) ?hS0 (fun hHeld => ?rest0)
      case hS0 => (first | with_reducible exact VarL.quadB HK9.out | (refine VarL.quadB (LS.box (g := g) (C := C) (n := n) (cap := cap) (xs := xs) (w0 := w) (K := K0 + 2 + 2 + 2 + 2) ?_); (repeat (first | with_reducible exact HL8.out | with_reducible refine LS.ext ?_ (ext_drew _) | with_reducible refine LS.ext ?_ (ext_alloc _ _))); done) | (refine VarL.quadB (LS.box (g := g) (C := C) (n := n) (cap := cap) (xs := xs) (w0 := w) (K := K0 + 2 + 2 + 2) ?_); (repeat (first | with_reducible exact HL7.out | with_reducible refine LS.ext ?_ (ext_drew _) | with_reducible refine LS.ext ?_ (ext_alloc _ _))); done) | (refine VarL.quadB (LS.box (g := g) (C := C) (n := n) (cap := cap) (xs := xs) (w0 := w) (K := K0 + 2 + 2) ?_); (repeat (first | with_reducible exact HL6.out | with_reducible refine LS.ext ?_ (ext_drew _) | with_reducible refine LS.ext ?_ (ext_alloc _ _))); done))
      case rest0 =>
        refine anyZ_take (i := 0) (v := ?v1) rfl (by kernel_rfl) (by kernel_rfl) (by kernel_rfl) (by kernel_rfl) (fun _ _ _ h => h) (Or.inl ⟨by rfl, ?hy1⟩) (by assumption) ?rest1
        case hy1 => ((intro w hSw; (try dsimp only at hSw); go_simp) <;> (with_reducible rfl))
        case rest1 =>
         try simp only [Act.put, List.setIfInBounds_toArray, List.set_cons_zero, List.set_cons_succ]
         refine anyZ_take (i := 1) (v := ?v2) rfl (by kernel_rfl) (by kernel_rfl) (by kernel_rfl) (by kernel_rfl) (fun _ _ _ h => h) (Or.inl ⟨by rfl, ?hy2⟩) (by assumption) ?rest2
         case hy2 => ((intro w hSw; (try dsimp only at hSw); go_simp) <;> (with_reducible rfl))
         case rest2 =>
          try simp only [Act.put, List.setIfInBounds_toArray, List.set_cons_zero, List.set_cons_succ]
          refine anyZ_take (i := 2) (v := ?v3) rfl (by kernel_rfl) (by kernel_rfl) (by kernel_rfl) (by kernel_rfl) (fun _ _ _ h => h) (Or.inl ⟨by rfl, ?hy3⟩) (by assumption) ?rest3
          case hy3 => ((intro w hSw; (try dsimp only at hSw); go_simp) <;> (with_reducible rfl))
          case rest3 =>
           try simp only [Act.put, List.setIfInBounds_toArray, List.set_cons_zero, List.set_cons_succ]
           refine anyZ_take (i := 3) (v := ?v4) rfl (by kernel_rfl) (by kernel_rfl) (by kernel_rfl) (by kernel_rfl) (fun _ _ _ h => h) (Or.inl ⟨by rfl, ?hy4⟩) (by assumption) ?rest4
           case hy4 => ((intro w hSw; (try dsimp only at hSw); go_simp) <;> (with_reducible rfl))
           case rest4 =>
            try simp only [Act.put, List.setIfInBounds_toArray, List.set_cons_zero, List.set_cons_succ]
            refine anyZ_take (i := 4) (v := ?v5) rfl (by kernel_rfl) (by kernel_rfl) (by kernel_rfl) (by kernel_rfl) (fun _ _ _ h => h) (Or.inl ⟨by rfl, ?hy5⟩) (by assumption) ?rest5
            case hy5 => ((intro w hSw; (try dsimp only at hSw); go_simp) <;> (with_reducible rfl))
            case rest5 =>
             try simp only [Act.put, List.setIfInBounds_toArray, List.set_cons_zero, List.set_cons_succ]
             refine anyZ_take (i := 5) (v := ?v6) rfl (by kernel_rfl) (by kernel_rfl) (by kernel_rfl) (by kernel_rfl) (fun _ _ _ h => h) (Or.inl ⟨by rfl, ?hy6⟩) (by assumption) ?rest6
             case hy6 => ((intro w hSw; (try dsimp only at hSw); go_simp) <;> (with_reducible rfl))
             case rest6 =>
              try simp only [Act.put, List.setIfInBounds_toArray, List.set_cons_zero, List.set_cons_succ]
              refine anyZ_take (i := 6) (v := ?v7) rfl (by kernel_rfl) (by kernel_rfl) (by kernel_rfl) (by kernel_rfl) (fun _ _ _ h => h) (Or.inl ⟨by rfl, ?hy7⟩) (by assumption) ?rest7
              case hy7 => ((intro w hSw; (try dsimp only at hSw); go_simp) <;> (with_reducible rfl))
              case rest7 =>
               try simp only [Act.put, List.setIfInBounds_toArray, List.set_cons_zero, List.set_cons_succ]
               refine anyZ_take (i := 7) (v := ?v8) rfl (by kernel_rfl) (by kernel_rfl) (by kernel_rfl) (by kernel_rfl) (fun _ _ _ h => h) (Or.inl ⟨by rfl, ?hy8⟩) (by assumption) ?rest8
               case hy8 => ((intro w hSw; (try dsimp only at hSw); go_simp) <;> (with_reducible rfl))
               case rest8 =>
                try simp only [Act.put, List.setIfInBounds_toArray, List.set_cons_zero, List.set_cons_succ]
                refine anyZ_take (i := 8) (v := ?v9) rfl (by kernel_rfl) (by kernel_rfl) (by kernel_rfl) (by kernel_rfl) (fun _ _ _ h => h) (Or.inl ⟨by rfl, ?hy9⟩) (by assumption) ?rest9
                case hy9 => ((intro w hSw; (try dsimp only at hSw); go_simp) <;> (with_reducible rfl))
                case rest9 =>
                 try simp only [Act.put, List.setIfInBounds_toArray, List.set_cons_zero, List.set_cons_succ]
                 refine anyZ_take (i := 13) (v := ?v10) rfl (by kernel_rfl) (by kernel_rfl) (by kernel_rfl) (by kernel_rfl) (fun _ _ _ h => h) (Or.inl ⟨by rfl, ?hy10⟩) (by assumption) ?rest10
                 case hy10 => ((intro w hSw; (try dsimp only at hSw); go_simp) <;> (with_reducible rfl))
                 case rest10 =>
                  try simp only [Act.put, List.setIfInBounds_toArray, List.set_cons_zero, List.set_cons_succ]
                  refine anyZ_take (i := 14) (v := ?v11) rfl (by kernel_rfl) (by kernel_rfl) (by kernel_rfl) (by kernel_rfl) (fun _ _ _ h => h) (Or.inl ⟨by rfl, ?hy11⟩) (by assumption) ?rest11
                  case hy11 => ((intro w hSw; (try dsimp only at hSw); go_simp) <;> (with_reducible rfl))
                  case rest11 =>
                   try simp only [Act.put, List.setIfInBounds_toArray, List.set_cons_zero, List.set_cons_succ]
                   refine anyZ_take (i := 15) (v := ?v12) rfl (by kernel_rfl) (by kernel_rfl) (by kernel_rfl) (by kernel_rfl) (fun _ _ _ h => h) (Or.inl ⟨by rfl, ?hy12⟩) (by assumption) ?rest12
                   case hy12 => ((intro w hSw; (try dsimp only at hSw); go_simp) <;> (with_reducible rfl))
                   case rest12 =>
                    try simp only [Act.put, List.setIfInBounds_toArray, List.set_cons_zero, List.set_cons_succ]
                    refine anyZ_take (i := 16) (v := ?v13) rfl (by kernel_rfl) (by kernel_rfl) (by kernel_rfl) (by kernel_rfl) (fun _ _ _ h => h) (Or.inl ⟨by rfl, ?hy13⟩) (by assumption) ?rest13
                    case hy13 => ((intro w hSw; (try dsimp only at hSw); go_simp) <;> (with_reducible rfl))
                    case rest13 =>
                     try simp only [Act.put, List.setIfInBounds_toArray, List.set_cons_zero, List.set_cons_succ]
                     refine anyZ_take (i := 17) (v := ?v14) rfl (by kernel_rfl) (by kernel_rfl) (by kernel_rfl) (by kernel_rfl) (fun _ _ _ h => h) (Or.inl ⟨by rfl, ?hy14⟩) (by assumption) ?rest14
                     case hy14 => ((intro w hSw; (try dsimp only at hSw); go_simp) <;> (with_reducible rfl))
                     case rest14 =>
                      try simp only [Act.put, List.setIfInBounds_toArray, List.set_cons_zero, List.set_cons_succ]
                      refine anyZ_ready (rs := [9, 18]) (by kernel_rfl) (by simp) ?_
                      refine NextZ.cons (o := _) rfl (fun K hK => ?st15) ?more15
                      case st15 =>
                        go_simp
                        refine hK.out _ _ (.inr ?hS15) (fun hHeld => ?rest15)
                        case hS15 => ((try dsimp only); (first | with_reducible exact VarL.quadB HK9.out | (refine VarL.quadB (LS.box (g := g) (C := C) (n := n) (cap := cap) (xs := xs) (w0 := w) (K := K0 + 2 + 2 + 2 + 2) ?_); (repeat (first | with_reducible exact HL8.out | with_reducible refine LS.ext ?_ (ext_drew _) | with_reducible refine LS.ext ?_ (ext_alloc _ _))); done) | (refine VarL.quadB (LS.box (g := g) (C := C) (n := n) (cap := cap) (xs := xs) (w0 := w) (K := K0 + 2 + 2 + 2) ?_); (repeat (first | with_reducible exact HL7.out | with_reducible refine LS.ext ?_ (ext_drew _) | with_reducible refine LS.ext ?_ (ext_alloc _ _))); done) | (refine VarL.quadB (LS.box (g := g) (C := C) (n := n) (cap := cap) (xs := xs) (w0 := w) (K := K0 + 2 + 2) ?_); (repeat (first | with_reducible exact HL6.out | with_reducible refine LS.ext ?_ (ext_drew _) | with_reducible refine LS.ext ?_ (ext_alloc _ _))); done)))
                        case rest15 =>
                          clear hK K
                          replace hHeld := hHeld.resolve_left (by decide)
                          try simp only [Act.put, List.setIfInBounds_toArray, List.set_cons_zero, List.set_cons_succ]
                          refine anyZ_ready (rs := [10, 18]) (by kernel_rfl) (by simp) ?_
                          refine NextZ.cons (o := _) rfl (fun K hK => ?st16) ?more16
                          case st16 =>
                            ((try go_simp); (go_at_call 43; (with_reducible refine (AM.out [0, 0, 1, 3] 4 rfl (by decide) (by decide) (K0 + 2 + 2) (by omega) _ _ ?_ ?_ ?_).mono ?_); (repeat (first | with_reducible exact HL6.out | with_reducible refine LS.ext ?_ (ext_drew _) | with_reducible refine LS.ext ?_ (ext_alloc _ _))); (repeat (first | with_reducible exact HF2.out | with_reducible exact lit_flo _ _ _ _ rfl | with_reducible exact lit_flo1 _ _ _ _ _ rfl | with_reducible refine FlO.ext ?_ (ext_drew _) | with_reducible refine FlO.ext ?_ (ext_alloc _ _))); (first | omega | (simp; omega)); rintro e w7 ⟨z3, hz3, rfl, hL7, hU7⟩; have b3 : 0 ≤ z3 ∧ z3 ≤ 3 := (by simp at hz3; omega); have q3 : IntKind.i64.wrap (z1 + z3) = z1 + z3 := IntWalk.i64_in _ (by omega); have HL7 := Lib.hid hL7; have hg7 : g < w7.heap.size := hL7.cur.lt; (try (with_reducible have HF2 := Lib.hid (FlO.touch (HLA.out _) hU7 (.inr hg6s)))); (try (with_reducible have HF2 := Lib.hid (FlO.touch (HLB.out _) hU7 (.inr hg6t)))); clear hL7 hU7 hz3); (try go_wp2_with fail))
                            refine hK.out _ _ (.inr ?hS16) (fun hHeld => ?rest16)
                            case hS16 => ((try dsimp only); (first | with_reducible exact VarL.quadB HK9.out | (refine VarL.quadB (LS.box (g := g) (C := C) (n := n) (cap := cap) (xs := xs) (w0 := w) (K := K0 + 2 + 2 + 2 + 2) ?_); (repeat (first | with_reducible exact HL8.out | with_reducible refine LS.ext ?_ (ext_drew _) | with_reducible refine LS.ext ?_ (ext_alloc _ _))); done) | (refine VarL.quadB (LS.box (g := g) (C := C) (n := n) (cap := cap) (xs := xs) (w0 := w) (K := K0 + 2 + 2 + 2) ?_); (repeat (first | with_reducible exact HL7.out | with_reducible refine LS.ext ?_ (ext_drew _) | with_reducible refine LS.ext ?_ (ext_alloc _ _))); done) | (refine VarL.quadB (LS.box (g := g) (C := C) (n := n) (cap := cap) (xs := xs) (w0 := w) (K := K0 + 2 + 2) ?_); (repeat (first | with_reducible exact HL6.out | with_reducible refine LS.ext ?_ (ext_drew _) | with_reducible refine LS.ext ?_ (ext_alloc _ _))); done)))
                            case rest16 =>
                              clear hK K
                              replace hHeld := hHeld.resolve_left (by decide)
                              try simp only [Act.put, List.setIfInBounds_toArray, List.set_cons_zero, List.set_cons_succ]
                              refine anyZ_take (i := 11) (v := ?v17) rfl (by kernel_rfl) (by kernel_rfl) (by kernel_rfl) (by kernel_rfl) (fun _ _ _ h => h) (Or.inl ⟨by rfl, ?hy17⟩) (by assumption) ?rest17
                              case hy17 => ((intro w hSw; (try dsimp only at hSw); go_simp) <;> (with_reducible rfl))
                              case rest17 =>
                               try simp only [Act.put, List.setIfInBounds_toArray, List.set_cons_zero, List.set_cons_succ]
                               refine anyZ_ready (rs := [12, 18]) (by kernel_rfl) (by simp) ?_
                               refine NextZ.cons (o := _) rfl (fun K hK => ?st18) ?more18
                               case st18 =>
                                 ((try go_simp); (go_at_call 67; (with_reducible refine (l1Mn_any _ _ _).mono ?_); rintro e _ ⟨rfl, rfl⟩); (try go_wp2_with fail))
                                 refine hK.out _ _ (.inr ?hS18) (fun hHeld => ?rest18)
                                 case hS18 => ((try dsimp only); (first | with_reducible exact VarL.quadB HK9.out | (refine VarL.quadB (LS.box (g := g) (C := C) (n := n) (cap := cap) (xs := xs) (w0 := w) (K := K0 + 2 + 2 + 2 + 2) ?_); (repeat (first | with_reducible exact HL8.out | with_reducible refine LS.ext ?_ (ext_drew _) | with_reducible refine LS.ext ?_ (ext_alloc _ _))); done) | (refine VarL.quadB (LS.box (g := g) (C := C) (n := n) (cap := cap) (xs := xs) (w0 := w) (K := K0 + 2 + 2 + 2) ?_); (repeat (first | with_reducible exact HL7.out | with_reducible refine LS.ext ?_ (ext_drew _) | with_reducible refine LS.ext ?_ (ext_alloc _ _))); done) | (refine VarL.quadB (LS.box (g := g) (C := C) (n := n) (cap := cap) (xs := xs) (w0 := w) (K := K0 + 2 + 2) ?_); (repeat (first | with_reducible exact HL6.out | with_reducible refine LS.ext ?_ (ext_drew _) | with_reducible refine LS.ext ?_ (ext_alloc _ _))); done)))
                                 case rest18 =>
                                   clear hK K
                                   replace hHeld := hHeld.resolve_left (by decide)
                                   try simp only [Act.put, List.setIfInBounds_toArray, List.set_cons_zero, List.set_cons_succ]
                                   refine anyZ_ready (rs := [18]) (by kernel_rfl) (by simp) ?_
                                   refine NextZ.cons (o := _) rfl (fun K hK => ?st19) ?more19
                                   case st19 =>
                                     go_simp
                                     refine hK.out _ _ (.inr ?hS19) (fun hHeld => ?rest19)
                                     case hS19 => ((try dsimp only); (first | with_reducible exact VarL.quadB HK9.out | (refine VarL.quadB (LS.box (g := g) (C := C) (n := n) (cap := cap) (xs := xs) (w0 := w) (K := K0 + 2 + 2 + 2 + 2) ?_); (repeat (first | with_reducible exact HL8.out | with_reducible refine LS.ext ?_ (ext_drew _) | with_reducible refine LS.ext ?_ (ext_alloc _ _))); done) | (refine VarL.quadB (LS.box (g := g) (C := C) (n := n) (cap := cap) (xs := xs) (w0 := w) (K := K0 + 2 + 2 + 2) ?_); (repeat (first | with_reducible exact HL7.out | with_reducible refine LS.ext ?_ (ext_drew _) | with_reducible refine LS.ext ?_ (ext_alloc _ _))); done) | (refine VarL.quadB (LS.box (g := g) (C := C) (n := n) (cap := cap) (xs := xs) (w0 := w) (K := K0 + 2 + 2) ?_); (repeat (first | with_reducible exact HL6.out | with_reducible refine LS.ext ?_ (ext_drew _) | with_reducible refine LS.ext ?_ (ext_alloc _ _))); done)))
                                     case rest19 =>
                                       clear hK K
                                       replace hHeld := hHeld.resolve_left (by decide)
                                       try simp only [Act.put, List.setIfInBounds_toArray, List.set_cons_zero, List.set_cons_succ]
                                       refine anyZ_ready (rs := [19]) (by kernel_rfl) (by simp) ?_
                                       refine NextZ.cons (o := _) rfl (fun K hK => ?st20) ?more20
                                       case st20 =>
                                         ((try go_simp); (go_at_call 43; (with_reducible refine (AM.out [0, 0, 1, 2] 4 rfl (by decide) (by decide) (K0 + 2 + 2 + 2) (by omega) _ _ ?_ ?_ ?_).mono ?_); (repeat (first | with_reducible exact HL7.out | with_reducible refine LS.ext ?_ (ext_drew _) | with_reducible refine LS.ext ?_ (ext_alloc _ _))); (repeat (first | with_reducible exact HF2.out | with_reducible exact lit_flo _ _ _ _ rfl | with_reducible exact lit_flo1 _ _ _ _ _ rfl | with_reducible refine FlO.ext ?_ (ext_drew _) | with_reducible refine FlO.ext ?_ (ext_alloc _ _))); (first | omega | (simp; omega)); rintro e w8 ⟨z4, hz4, rfl, hL8, hU8⟩; have b4 : 0 ≤ z4 ∧ z4 ≤ 2 := (by simp at hz4; omega); have q4 : IntKind.i64.wrap (z2 + z4) = z2 + z4 := IntWalk.i64_in _ (by omega); have HL8 := Lib.hid hL8; have hg8 : w.heap.size + 1 ≤ w8.heap.size := (by have := hU8.size; have := HL7.out.cur.lt; have := HL7.out.tch.size; have := HL7.out.box.lt; have := hL8.box.lt; omega); clear hL8 hU8 hz4); (try go_wp2_with fail))
                                         refine hK.out _ _ (.inr ?hS20) (fun hHeld => ?rest20)
                                         case hS20 => ((try dsimp only); (first | with_reducible exact VarL.quadB HK9.out | (refine VarL.quadB (LS.box (g := g) (C := C) (n := n) (cap := cap) (xs := xs) (w0 := w) (K := K0 + 2 + 2 + 2 + 2) ?_); (repeat (first | with_reducible exact HL8.out | with_reducible refine LS.ext ?_ (ext_drew _) | with_reducible refine LS.ext ?_ (ext_alloc _ _))); done) | (refine VarL.quadB (LS.box (g := g) (C := C) (n := n) (cap := cap) (xs := xs) (w0 := w) (K := K0 + 2 + 2 + 2) ?_); (repeat (first | with_reducible exact HL7.out | with_reducible refine LS.ext ?_ (ext_drew _) | with_reducible refine LS.ext ?_ (ext_alloc _ _))); done) | (refine VarL.quadB (LS.box (g := g) (C := C) (n := n) (cap := cap) (xs := xs) (w0 := w) (K := K0 + 2 + 2) ?_); (repeat (first | with_reducible exact HL6.out | with_reducible refine LS.ext ?_ (ext_drew _) | with_reducible refine LS.ext ?_ (ext_alloc _ _))); done)))
                                         case rest20 =>
                                           clear hK K
                                           replace hHeld := hHeld.resolve_left (by decide)
                                           try simp only [Act.put, List.setIfInBounds_toArray, List.set_cons_zero, List.set_cons_succ]
                                           refine anyZ_take (i := 20) (v := ?v21) rfl (by kernel_rfl) (by kernel_rfl) (by kernel_rfl) (by kernel_rfl) (fun _ _ _ h => h) (Or.inl ⟨by rfl, ?hy21⟩) (by assumption) ?rest21
                                           case hy21 => ((intro w hSw; (try dsimp only at hSw); go_simp) <;> (with_reducible rfl))
                                           case rest21 =>
                                            try simp only [Act.put, List.setIfInBounds_toArray, List.set_cons_zero, List.set_cons_succ]
                                            refine anyZ_ready (rs := [21]) (by kernel_rfl) (by simp) ?_
                                            refine NextZ.cons (o := _) rfl (fun K hK => ?st22) ?more22
                                            case st22 =>
                                              ((try go_simp); (go_at_call 67; (with_reducible refine (l1Mn_any _ _ _).mono ?_); rintro e _ ⟨rfl, rfl⟩); (try go_wp2_with fail))
                                              refine hK.out _ _ (.inr ?hS22) (fun hHeld => ?rest22)
                                              case hS22 => ((try dsimp only); (first | with_reducible exact VarL.quadB HK9.out | (refine VarL.quadB (LS.box (g := g) (C := C) (n := n) (cap := cap) (xs := xs) (w0 := w) (K := K0 + 2 + 2 + 2 + 2) ?_); (repeat (first | with_reducible exact HL8.out | with_reducible refine LS.ext ?_ (ext_drew _) | with_reducible refine LS.ext ?_ (ext_alloc _ _))); done) | (refine VarL.quadB (LS.box (g := g) (C := C) (n := n) (cap := cap) (xs := xs) (w0 := w) (K := K0 + 2 + 2 + 2) ?_); (repeat (first | with_reducible exact HL7.out | with_reducible refine LS.ext ?_ (ext_drew _) | with_reducible refine LS.ext ?_ (ext_alloc _ _))); done) | (refine VarL.quadB (LS.box (g := g) (C := C) (n := n) (cap := cap) (xs := xs) (w0 := w) (K := K0 + 2 + 2) ?_); (repeat (first | with_reducible exact HL6.out | with_reducible refine LS.ext ?_ (ext_drew _) | with_reducible refine LS.ext ?_ (ext_alloc _ _))); done)))
                                              case rest22 =>
                                                clear hK K
                                                replace hHeld := hHeld.resolve_left (by decide)
                                                try simp only [Act.put, List.setIfInBounds_toArray, List.set_cons_zero, List.set_cons_succ]
                                                refine anyZ_take (i := 22) (v := ?v23) rfl (by kernel_rfl) (by kernel_rfl) (by kernel_rfl) (by kernel_rfl) (fun _ _ _ h => h) (Or.inl ⟨by rfl, ?hy23⟩) (by assumption) ?rest23
                                                case hy23 => ((intro w hSw; (try dsimp only at hSw); go_simp) <;> (with_reducible rfl))
                                                case rest23 =>
                                                 try simp only [Act.put, List.setIfInBounds_toArray, List.set_cons_zero, List.set_cons_succ]
                                                 refine anyZ_ready (rs := [23]) (by kernel_rfl) (by simp) ?_
                                                 refine NextZ.cons (o := _) rfl (fun K hK => ?st24) ?more24
                                                 case st24 =>
                                                   go_simp
                                                   refine hK.out _ _ (.inr ?hS24) (fun hHeld => ?rest24)
                                                   case hS24 => ((try dsimp only); (first | with_reducible exact VarL.quadB HK9.out | (refine VarL.quadB (LS.box (g := g) (C := C) (n := n) (cap := cap) (xs := xs) (w0 := w) (K := K0 + 2 + 2 + 2 + 2) ?_); (repeat (first | with_reducible exact HL8.out | with_reducible refine LS.ext ?_ (ext_drew _) | with_reducible refine LS.ext ?_ (ext_alloc _ _))); done) | (refine VarL.quadB (LS.box (g := g) (C := C) (n := n) (cap := cap) (xs := xs) (w0 := w) (K := K0 + 2 + 2 + 2) ?_); (repeat (first | with_reducible exact HL7.out | with_reducible refine LS.ext ?_ (ext_drew _) | with_reducible refine LS.ext ?_ (ext_alloc _ _))); done) | (refine VarL.quadB (LS.box (g := g) (C := C) (n := n) (cap := cap) (xs := xs) (w0 := w) (K := K0 + 2 + 2) ?_); (repeat (first | with_reducible exact HL6.out | with_reducible refine LS.ext ?_ (ext_drew _) | with_reducible refine LS.ext ?_ (ext_alloc _ _))); done)))
                                                   case rest24 =>
                                                     clear hK K
                                                     replace hHeld := hHeld.resolve_left (by decide)
                                                     try simp only [Act.put, List.setIfInBounds_toArray, List.set_cons_zero, List.set_cons_succ]
                                                     refine anyZ_ready (rs := [24]) (by kernel_rfl) (by simp) ?_
                                                     refine NextZ.cons (o := _) rfl (fun K hK => ?st25) ?more25
                                                     case st25 =>
                                                       (refine step_append_all_at (f := Four.ints) rfl (.tmp 35) (.tmp 57) 24 rfl (w.heap.size + 1) i0 _ 4 32 Try.underlying24 hi hy0 hy1 hy2 rfl (by decide) v xs rfl ?_ (some _) 1 [⟨z1, z2, min (wide - 1) (z1 + z3), min (high - 1) (z2 + z4)⟩] rfl ?_ (fun _ => rfl) ?_ (by decide) ?_ ?_; (repeat (first | with_reducible exact HL8.out.own | with_reducible refine OwnF.ext ?_ (ext_drew _) | with_reducible refine OwnF.ext ?_ (ext_alloc _ _))); (first | with_reducible exact four_box _ _ _ _ _ _ | with_reducible refine Fl.ext (four_box _ _ _ _ _ _) (ext_drew _)); (have := HXL.out; simp only [List.length_cons, List.length_nil]; omega); (first | omega | (simp; omega)); intro v9 w9 hown9 hg9 hb9 hat9; obtain ⟨A9, d9, hv9, _⟩ := hown9.form Four.ints_length; obtain ⟨l9, hl9⟩ : ∃ z, z = List.length (xs ++ [⟨z1, z2, min (wide - 1) (z1 + z3), min (high - 1) (z2 + z4)⟩]) := ⟨_, rfl⟩; rw [← hl9] at hv9; subst hv9; have HL99 := Lib.hid hl9; clear hl9; (first | with_reducible have hL9 := LS.app (LS.ext HL8.out (ext_alloc _ _)) hgw hwB hown9 hg9 hb9 hat9 | with_reducible have hL9 := LS.app (LS.ext (LS.ext HL8.out (ext_alloc _ _)) (ext_drew _)) hgw hwB hown9 hg9 hb9 hat9); have HK9 := Lib.hid hL9.1; have HL9 := Lib.hid hL9.2; have k0 := hL9.1.cell 0 _ rfl; have k1 := hL9.1.cell 1 _ rfl; have k2 := hL9.1.cell 2 _ rfl; have k3 := hL9.1.cell 3 _ rfl; have kl := hL9.1.lt; have kz := hL9.1.fz; clear hL9 hown9 hg9 hb9 hat9)
                                                       refine hK.out _ _ (.inr ?hS25) (fun hHeld => ?rest25)
                                                       case hS25 => ((try dsimp only); (first | with_reducible exact VarL.quadB HK9.out | (refine VarL.quadB (LS.box (g := g) (C := C) (n := n) (cap := cap) (xs := xs) (w0 := w) (K := K0 + 2 + 2 + 2 + 2) ?_); (repeat (first | with_reducible exact HL8.out | with_reducible refine LS.ext ?_ (ext_drew _) | with_reducible refine LS.ext ?_ (ext_alloc _ _))); done) | (refine VarL.quadB (LS.box (g := g) (C := C) (n := n) (cap := cap) (xs := xs) (w0 := w) (K := K0 + 2 + 2 + 2) ?_); (repeat (first | with_reducible exact HL7.out | with_reducible refine LS.ext ?_ (ext_drew _) | with_reducible refine LS.ext ?_ (ext_alloc _ _))); done) | (refine VarL.quadB (LS.box (g := g) (C := C) (n := n) (cap := cap) (xs := xs) (w0 := w) (K := K0 + 2 + 2) ?_); (repeat (first | with_reducible exact HL6.out | with_reducible refine LS.ext ?_ (ext_drew _) | with_reducible refine LS.ext ?_ (ext_alloc _ _))); done)))
                                                       case rest25 =>
                                                         clear hK K
                                                         replace hHeld := hHeld.resolve_left (by decide)
                                                         try simp only [Act.put, List.setIfInBounds_toArray, List.set_cons_zero, List.set_cons_succ]
                                                         refine anyZ_take (i := 25) (v := ?v26) rfl (by kernel_rfl) (by kernel_rfl) (by kernel_rfl) (by kernel_rfl) (fun _ _ _ h => h) (Or.inl ⟨by rfl, ?hy26⟩) (by assumption) ?rest26
                                                         case hy26 => ((intro w hSw; (try dsimp only at hSw); go_simp) <;> (with_reducible rfl))
                                                         case rest26 =>
                                                          try simp only [Act.put, List.setIfInBounds_toArray, List.set_cons_zero, List.set_cons_succ]
                                                          refine anyZ_ready (rs := [26]) (by kernel_rfl) (by simp) ?_
                                                          refine NextZ.cons (o := _) rfl (fun K hK => ?st27) ?more27
                                                          case st27 =>
                                                            go_simp
                                                            refine hK.out _ _ (.inl rfl) (fun hHeld => ?rest27)
                                                            case rest27 =>
                                                              clear hK K
                                                              try simp only [Act.put, List.setIfInBounds_toArray, List.set_cons_zero, List.set_cons_succ]
                                                              refine anyZ_done (by kernel_rfl) ?_ _
                                                              go_wp2
                                                              go_roundw
                                                              case rel => exact ⟨_, _, m - 1, by go_num, by omega, by have := HXL.out; simp only [List.length_append, List.length_cons, List.length_nil]; omega, HL9.out.mono (by have := HK0.out; omega)⟩
                                                              case measure => simp [intOf]; omega
                                                          case more27 =>
                                                           exact NextZ.nil
                                                     case more25 =>
                                                      exact NextZ.nil
                                                 case more24 =>
                                                  exact NextZ.nil
                                            case more22 =>
                                             exact NextZ.nil
                                       case more20 =>
                                        exact NextZ.nil
                                   case more19 =>
                                    exact NextZ.nil
                               case more18 =>
                                refine NextZ.cons (o := _) rfl (fun K hK => ?st28) ?more28
                                case st28 =>
                                  go_simp
                                  refine hK.out _ _ (.inr ?hS28) (fun hHeld => ?rest28)
                                  case hS28 => ((try dsimp only); (first | with_reducible exact VarL.quadB HK9.out | (refine VarL.quadB (LS.box (g := g) (C := C) (n := n) (cap := cap) (xs := xs) (w0 := w) (K := K0 + 2 + 2 + 2 + 2) ?_); (repeat (first | with_reducible exact HL8.out | with_reducible refine LS.ext ?_ (ext_drew _) | with_reducible refine LS.ext ?_ (ext_alloc _ _))); done) | (refine VarL.quadB (LS.box (g := g) (C := C) (n := n) (cap := cap) (xs := xs) (w0 := w) (K := K0 + 2 + 2 + 2) ?_); (repeat (first | with_reducible exact HL7.out | with_reducible refine LS.ext ?_ (ext_drew _) | with_reducible refine LS.ext ?_ (ext_alloc _ _))); done) | (refine VarL.quadB (LS.box (g := g) (C := C) (n := n) (cap := cap) (xs := xs) (w0 := w) (K := K0 + 2 + 2) ?_); (repeat (first | with_reducible exact HL6.out | with_reducible refine LS.ext ?_ (ext_drew _) | with_reducible refine LS.ext ?_ (ext_alloc _ _))); done)))
                                  case rest28 =>
                                    clear hK K
                                    replace hHeld := hHeld.resolve_left (by decide)
                                    try simp only [Act.put, List.setIfInBounds_toArray, List.set_cons_zero, List.set_cons_succ]
                                    refine anyZ_ready (rs := [12]) (by kernel_rfl) (by simp) ?_
                                    refine NextZ.cons (o := _) rfl (fun K hK => ?st29) ?more29
                                    case st29 =>
                                      ((try go_simp); (go_at_call 67; (with_reducible refine (l1Mn_any _ _ _).mono ?_); rintro e _ ⟨rfl, rfl⟩); (try go_wp2_with fail))
                                      refine hK.out _ _ (.inr ?hS29) (fun hHeld => ?rest29)
                                      case hS29 => ((try dsimp only); (first | with_reducible exact VarL.quadB HK9.out | (refine VarL.quadB (LS.box (g := g) (C := C) (n := n) (cap := cap) (xs := xs) (w0 := w) (K := K0 + 2 + 2 + 2 + 2) ?_); (repeat (first | with_reducible exact HL8.out | with_reducible refine LS.ext ?_ (ext_drew _) | with_reducible refine LS.ext ?_ (ext_alloc _ _))); done) | (refine VarL.quadB (LS.box (g := g) (C := C) (n := n) (cap := cap) (xs := xs) (w0 := w) (K := K0 + 2 + 2 + 2) ?_); (repeat (first | with_reducible exact HL7.out | with_reducible refine LS.ext ?_ (ext_drew _) | with_reducible refine LS.ext ?_ (ext_alloc _ _))); done) | (refine VarL.quadB (LS.box (g := g) (C := C) (n := n) (cap := cap) (xs := xs) (w0 := w) (K := K0 + 2 + 2) ?_); (repeat (first | with_reducible exact HL6.out | with_reducible refine LS.ext ?_ (ext_drew _) | with_reducible refine LS.ext ?_ (ext_alloc _ _))); done)))
                                      case rest29 =>
                                        clear hK K
                                        replace hHeld := hHeld.resolve_left (by decide)
                                        try simp only [Act.put, List.setIfInBounds_toArray, List.set_cons_zero, List.set_cons_succ]
                                        refine anyZ_ready (rs := [19]) (by kernel_rfl) (by simp) ?_
                                        refine NextZ.cons (o := _) rfl (fun K hK => ?st30) ?more30
                                        case st30 =>
                                          ((try go_simp); (go_at_call 43; (with_reducible refine (AM.out [0, 0, 1, 2] 4 rfl (by decide) (by decide) (K0 + 2 + 2 + 2) (by omega) _ _ ?_ ?_ ?_).mono ?_); (repeat (first | with_reducible exact HL7.out | with_reducible refine LS.ext ?_ (ext_drew _) | with_reducible refine LS.ext ?_ (ext_alloc _ _))); (repeat (first | with_reducible exact HF2.out | with_reducible exact lit_flo _ _ _ _ rfl | with_reducible exact lit_flo1 _ _ _ _ _ rfl | with_reducible refine FlO.ext ?_ (ext_drew _) | with_reducible refine FlO.ext ?_ (ext_alloc _ _))); (first | omega | (simp; omega)); rintro e w8 ⟨z4, hz4, rfl, hL8, hU8⟩; have b4 : 0 ≤ z4 ∧ z4 ≤ 2 := (by simp at hz4; omega); have q4 : IntKind.i64.wrap (z2 + z4) = z2 + z4 := IntWalk.i64_in _ (by omega); have HL8 := Lib.hid hL8; have hg8 : w.heap.size + 1 ≤ w8.heap.size := (by have := hU8.size; have := HL7.out.cur.lt; have := HL7.out.tch.size; have := HL7.out.box.lt; have := hL8.box.lt; omega); clear hL8 hU8 hz4); (try go_wp2_with fail))
                                          refine hK.out _ _ (.inr ?hS30) (fun hHeld => ?rest30)
                                          case hS30 => ((try dsimp only); (first | with_reducible exact VarL.quadB HK9.out | (refine VarL.quadB (LS.box (g := g) (C := C) (n := n) (cap := cap) (xs := xs) (w0 := w) (K := K0 + 2 + 2 + 2 + 2) ?_); (repeat (first | with_reducible exact HL8.out | with_reducible refine LS.ext ?_ (ext_drew _) | with_reducible refine LS.ext ?_ (ext_alloc _ _))); done) | (refine VarL.quadB (LS.box (g := g) (C := C) (n := n) (cap := cap) (xs := xs) (w0 := w) (K := K0 + 2 + 2 + 2) ?_); (repeat (first | with_reducible exact HL7.out | with_reducible refine LS.ext ?_ (ext_drew _) | with_reducible refine LS.ext ?_ (ext_alloc _ _))); done) | (refine VarL.quadB (LS.box (g := g) (C := C) (n := n) (cap := cap) (xs := xs) (w0 := w) (K := K0 + 2 + 2) ?_); (repeat (first | with_reducible exact HL6.out | with_reducible refine LS.ext ?_ (ext_drew _) | with_reducible refine LS.ext ?_ (ext_alloc _ _))); done)))
                                          case rest30 =>
                                            clear hK K
                                            replace hHeld := hHeld.resolve_left (by decide)
                                            try simp only [Act.put, List.setIfInBounds_toArray, List.set_cons_zero, List.set_cons_succ]
                                            refine anyZ_take (i := 20) (v := ?v31) rfl (by kernel_rfl) (by kernel_rfl) (by kernel_rfl) (by kernel_rfl) (fun _ _ _ h => h) (Or.inl ⟨by rfl, ?hy31⟩) (by assumption) ?rest31
                                            case hy31 => ((intro w hSw; (try dsimp only at hSw); go_simp) <;> (with_reducible rfl))
                                            case rest31 =>
                                             try simp only [Act.put, List.setIfInBounds_toArray, List.set_cons_zero, List.set_cons_succ]
                                             refine anyZ_ready (rs := [21]) (by kernel_rfl) (by simp) ?_
                                             refine NextZ.cons (o := _) rfl (fun K hK => ?st32) ?more32
                                             case st32 =>
                                               ((try go_simp); (go_at_call 67; (with_reducible refine (l1Mn_any _ _ _).mono ?_); rintro e _ ⟨rfl, rfl⟩); (try go_wp2_with fail))
                                               refine hK.out _ _ (.inr ?hS32) (fun hHeld => ?rest32)
                                               case hS32 => ((try dsimp only); (first | with_reducible exact VarL.quadB HK9.out | (refine VarL.quadB (LS.box (g := g) (C := C) (n := n) (cap := cap) (xs := xs) (w0 := w) (K := K0 + 2 + 2 + 2 + 2) ?_); (repeat (first | with_reducible exact HL8.out | with_reducible refine LS.ext ?_ (ext_drew _) | with_reducible refine LS.ext ?_ (ext_alloc _ _))); done) | (refine VarL.quadB (LS.box (g := g) (C := C) (n := n) (cap := cap) (xs := xs) (w0 := w) (K := K0 + 2 + 2 + 2) ?_); (repeat (first | with_reducible exact HL7.out | with_reducible refine LS.ext ?_ (ext_drew _) | with_reducible refine LS.ext ?_ (ext_alloc _ _))); done) | (refine VarL.quadB (LS.box (g := g) (C := C) (n := n) (cap := cap) (xs := xs) (w0 := w) (K := K0 + 2 + 2) ?_); (repeat (first | with_reducible exact HL6.out | with_reducible refine LS.ext ?_ (ext_drew _) | with_reducible refine LS.ext ?_ (ext_alloc _ _))); done)))
                                               case rest32 =>
                                                 clear hK K
                                                 replace hHeld := hHeld.resolve_left (by decide)
                                                 try simp only [Act.put, List.setIfInBounds_toArray, List.set_cons_zero, List.set_cons_succ]
                                                 refine anyZ_take (i := 22) (v := ?v33) rfl (by kernel_rfl) (by kernel_rfl) (by kernel_rfl) (by kernel_rfl) (fun _ _ _ h => h) (Or.inl ⟨by rfl, ?hy33⟩) (by assumption) ?rest33
                                                 case hy33 => ((intro w hSw; (try dsimp only at hSw); go_simp) <;> (with_reducible rfl))
                                                 case rest33 =>
                                                  try simp only [Act.put, List.setIfInBounds_toArray, List.set_cons_zero, List.set_cons_succ]
                                                  refine anyZ_ready (rs := [23]) (by kernel_rfl) (by simp) ?_
                                                  refine NextZ.cons (o := _) rfl (fun K hK => ?st34) ?more34
                                                  case st34 =>
                                                    go_simp
                                                    refine hK.out _ _ (.inr ?hS34) (fun hHeld => ?rest34)
                                                    case hS34 => ((try dsimp only); (first | with_reducible exact VarL.quadB HK9.out | (refine VarL.quadB (LS.box (g := g) (C := C) (n := n) (cap := cap) (xs := xs) (w0 := w) (K := K0 + 2 + 2 + 2 + 2) ?_); (repeat (first | with_reducible exact HL8.out | with_reducible refine LS.ext ?_ (ext_drew _) | with_reducible refine LS.ext ?_ (ext_alloc _ _))); done) | (refine VarL.quadB (LS.box (g := g) (C := C) (n := n) (cap := cap) (xs := xs) (w0 := w) (K := K0 + 2 + 2 + 2) ?_); (repeat (first | with_reducible exact HL7.out | with_reducible refine LS.ext ?_ (ext_drew _) | with_reducible refine LS.ext ?_ (ext_alloc _ _))); done) | (refine VarL.quadB (LS.box (g := g) (C := C) (n := n) (cap := cap) (xs := xs) (w0 := w) (K := K0 + 2 + 2) ?_); (repeat (first | with_reducible exact HL6.out | with_reducible refine LS.ext ?_ (ext_drew _) | with_reducible refine LS.ext ?_ (ext_alloc _ _))); done)))
                                                    case rest34 =>
                                                      clear hK K
                                                      replace hHeld := hHeld.resolve_left (by decide)
                                                      try simp only [Act.put, List.setIfInBounds_toArray, List.set_cons_zero, List.set_cons_succ]
                                                      refine anyZ_ready (rs := [24]) (by kernel_rfl) (by simp) ?_
                                                      refine NextZ.cons (o := _) rfl (fun K hK => ?st35) ?more35
                                                      case st35 =>
                                                        (refine step_append_all_at (f := Four.ints) rfl (.tmp 35) (.tmp 57) 24 rfl (w.heap.size + 1) i0 _ 4 32 Try.underlying24 hi hy0 hy1 hy2 rfl (by decide) v xs rfl ?_ (some _) 1 [⟨z1, z2, min (wide - 1) (z1 + z3), min (high - 1) (z2 + z4)⟩] rfl ?_ (fun _ => rfl) ?_ (by decide) ?_ ?_; (repeat (first | with_reducible exact HL8.out.own | with_reducible refine OwnF.ext ?_ (ext_drew _) | with_reducible refine OwnF.ext ?_ (ext_alloc _ _))); (first | with_reducible exact four_box _ _ _ _ _ _ | with_reducible refine Fl.ext (four_box _ _ _ _ _ _) (ext_drew _)); (have := HXL.out; simp only [List.length_cons, List.length_nil]; omega); (first | omega | (simp; omega)); intro v9 w9 hown9 hg9 hb9 hat9; obtain ⟨A9, d9, hv9, _⟩ := hown9.form Four.ints_length; obtain ⟨l9, hl9⟩ : ∃ z, z = List.length (xs ++ [⟨z1, z2, min (wide - 1) (z1 + z3), min (high - 1) (z2 + z4)⟩]) := ⟨_, rfl⟩; rw [← hl9] at hv9; subst hv9; have HL99 := Lib.hid hl9; clear hl9; (first | with_reducible have hL9 := LS.app (LS.ext HL8.out (ext_alloc _ _)) hgw hwB hown9 hg9 hb9 hat9 | with_reducible have hL9 := LS.app (LS.ext (LS.ext HL8.out (ext_alloc _ _)) (ext_drew _)) hgw hwB hown9 hg9 hb9 hat9); have HK9 := Lib.hid hL9.1; have HL9 := Lib.hid hL9.2; have k0 := hL9.1.cell 0 _ rfl; have k1 := hL9.1.cell 1 _ rfl; have k2 := hL9.1.cell 2 _ rfl; have k3 := hL9.1.cell 3 _ rfl; have kl := hL9.1.lt; have kz := hL9.1.fz; clear hL9 hown9 hg9 hb9 hat9)
                                                        refine hK.out _ _ (.inr ?hS35) (fun hHeld => ?rest35)
                                                        case hS35 => ((try dsimp only); (first | with_reducible exact VarL.quadB HK9.out | (refine VarL.quadB (LS.box (g := g) (C := C) (n := n) (cap := cap) (xs := xs) (w0 := w) (K := K0 + 2 + 2 + 2 + 2) ?_); (repeat (first | with_reducible exact HL8.out | with_reducible refine LS.ext ?_ (ext_drew _) | with_reducible refine LS.ext ?_ (ext_alloc _ _))); done) | (refine VarL.quadB (LS.box (g := g) (C := C) (n := n) (cap := cap) (xs := xs) (w0 := w) (K := K0 + 2 + 2 + 2) ?_); (repeat (first | with_reducible exact HL7.out | with_reducible refine LS.ext ?_ (ext_drew _) | with_reducible refine LS.ext ?_ (ext_alloc _ _))); done) | (refine VarL.quadB (LS.box (g := g) (C := C) (n := n) (cap := cap) (xs := xs) (w0 := w) (K := K0 + 2 + 2) ?_); (repeat (first | with_reducible exact HL6.out | with_reducible refine LS.ext ?_ (ext_drew _) | with_reducible refine LS.ext ?_ (ext_alloc _ _))); done)))
                                                        case rest35 =>
                                                          clear hK K
                                                          replace hHeld := hHeld.resolve_left (by decide)
                                                          try simp only [Act.put, List.setIfInBounds_toArray, List.set_cons_zero, List.set_cons_succ]
                                                          refine anyZ_take (i := 25) (v := ?v36) rfl (by kernel_rfl) (by kernel_rfl) (by kernel_rfl) (by kernel_rfl) (fun _ _ _ h => h) (Or.inl ⟨by rfl, ?hy36⟩) (by assumption) ?rest36
                                                          case hy36 => ((intro w hSw; (try dsimp only at hSw); go_simp) <;> (with_reducible rfl))
                                                          case rest36 =>
                                                           try simp only [Act.put, List.setIfInBounds_toArray, List.set_cons_zero, List.set_cons_succ]
                                                           refine anyZ_ready (rs := [26]) (by kernel_rfl) (by simp) ?_
                                                           refine NextZ.cons (o := _) rfl (fun K hK => ?st37) ?more37
                                                           case st37 =>
                                                             go_simp
                                                             refine hK.out _ _ (.inl rfl) (fun hHeld => ?rest37)
                                                             case rest37 =>
                                                               clear hK K
                                                               try simp only [Act.put, List.setIfInBounds_toArray, List.set_cons_zero, List.set_cons_succ]
                                                               refine anyZ_done (by kernel_rfl) ?_ _
                                                               go_wp2
                                                               go_roundw
                                                               case rel => exact ⟨_, _, m - 1, by go_num, by omega, by have := HXL.out; simp only [List.length_append, List.length_cons, List.length_nil]; omega, HL9.out.mono (by have := HK0.out; omega)⟩
                                                               case measure => simp [intOf]; omega
                                                           case more37 =>
                                                            exact NextZ.nil
                                                      case more35 =>
                                                       exact NextZ.nil
                                                  case more34 =>
                                                   exact NextZ.nil
                                             case more32 =>
                                              exact NextZ.nil
                                        case more30 =>
                                         exact NextZ.nil
                                    case more29 =>
                                     exact NextZ.nil
                                case more28 =>
                                 exact NextZ.nil
                          case more16 =>
                           refine NextZ.cons (o := _) rfl (fun K hK => ?st38) ?more38
                           case st38 =>
                             go_simp
                             refine hK.out _ _ (.inr ?hS38) (fun hHeld => ?rest38)
                             case hS38 => ((try dsimp only); (first | with_reducible exact VarL.quadB HK9.out | (refine VarL.quadB (LS.box (g := g) (C := C) (n := n) (cap := cap) (xs := xs) (w0 := w) (K := K0 + 2 + 2 + 2 + 2) ?_); (repeat (first | with_reducible exact HL8.out | with_reducible refine LS.ext ?_ (ext_drew _) | with_reducible refine LS.ext ?_ (ext_alloc _ _))); done) | (refine VarL.quadB (LS.box (g := g) (C := C) (n := n) (cap := cap) (xs := xs) (w0 := w) (K := K0 + 2 + 2 + 2) ?_); (repeat (first | with_reducible exact HL7.out | with_reducible refine LS.ext ?_ (ext_drew _) | with_reducible refine LS.ext ?_ (ext_alloc _ _))); done) | (refine VarL.quadB (LS.box (g := g) (C := C) (n := n) (cap := cap) (xs := xs) (w0 := w) (K := K0 + 2 + 2) ?_); (repeat (first | with_reducible exact HL6.out | with_reducible refine LS.ext ?_ (ext_drew _) | with_reducible refine LS.ext ?_ (ext_alloc _ _))); done)))
                             case rest38 =>
                               clear hK K
                               replace hHeld := hHeld.resolve_left (by decide)
                               try simp only [Act.put, List.setIfInBounds_toArray, List.set_cons_zero, List.set_cons_succ]
                               refine anyZ_ready (rs := [10]) (by kernel_rfl) (by simp) ?_
                               refine NextZ.cons (o := _) rfl (fun K hK => ?st39) ?more39
                               case st39 =>
                                 ((try go_simp); (go_at_call 43; (with_reducible refine (AM.out [0, 0, 1, 3] 4 rfl (by decide) (by decide) (K0 + 2 + 2) (by omega) _ _ ?_ ?_ ?_).mono ?_); (repeat (first | with_reducible exact HL6.out | with_reducible refine LS.ext ?_ (ext_drew _) | with_reducible refine LS.ext ?_ (ext_alloc _ _))); (repeat (first | with_reducible exact HF2.out | with_reducible exact lit_flo _ _ _ _ rfl | with_reducible exact lit_flo1 _ _ _ _ _ rfl | with_reducible refine FlO.ext ?_ (ext_drew _) | with_reducible refine FlO.ext ?_ (ext_alloc _ _))); (first | omega | (simp; omega)); rintro e w7 ⟨z3, hz3, rfl, hL7, hU7⟩; have b3 : 0 ≤ z3 ∧ z3 ≤ 3 := (by simp at hz3; omega); have q3 : IntKind.i64.wrap (z1 + z3) = z1 + z3 := IntWalk.i64_in _ (by omega); have HL7 := Lib.hid hL7; have hg7 : g < w7.heap.size := hL7.cur.lt; (try (with_reducible have HF2 := Lib.hid (FlO.touch (HLA.out _) hU7 (.inr hg6s)))); (try (with_reducible have HF2 := Lib.hid (FlO.touch (HLB.out _) hU7 (.inr hg6t)))); clear hL7 hU7 hz3); (try go_wp2_with fail))
                                 refine hK.out _ _ (.inr ?hS39) (fun hHeld => ?rest39)
                                 case hS39 => ((try dsimp only); (first | with_reducible exact VarL.quadB HK9.out | (refine VarL.quadB (LS.box (g := g) (C := C) (n := n) (cap := cap) (xs := xs) (w0 := w) (K := K0 + 2 + 2 + 2 + 2) ?_); (repeat (first | with_reducible exact HL8.out | with_reducible refine LS.ext ?_ (ext_drew _) | with_reducible refine LS.ext ?_ (ext_alloc _ _))); done) | (refine VarL.quadB (LS.box (g := g) (C := C) (n := n) (cap := cap) (xs := xs) (w0 := w) (K := K0 + 2 + 2 + 2) ?_); (repeat (first | with_reducible exact HL7.out | with_reducible refine LS.ext ?_ (ext_drew _) | with_reducible refine LS.ext ?_ (ext_alloc _ _))); done) | (refine VarL.quadB (LS.box (g := g) (C := C) (n := n) (cap := cap) (xs := xs) (w0 := w) (K := K0 + 2 + 2) ?_); (repeat (first | with_reducible exact HL6.out | with_reducible refine LS.ext ?_ (ext_drew _) | with_reducible refine LS.ext ?_ (ext_alloc _ _))); done)))
                                 case rest39 =>
                                   clear hK K
                                   replace hHeld := hHeld.resolve_left (by decide)
                                   try simp only [Act.put, List.setIfInBounds_toArray, List.set_cons_zero, List.set_cons_succ]
                                   refine anyZ_take (i := 11) (v := ?v40) rfl (by kernel_rfl) (by kernel_rfl) (by kernel_rfl) (by kernel_rfl) (fun _ _ _ h => h) (Or.inl ⟨by rfl, ?hy40⟩) (by assumption) ?rest40
                                   case hy40 => ((intro w hSw; (try dsimp only at hSw); go_simp) <;> (with_reducible rfl))
                                   case rest40 =>
                                    try simp only [Act.put, List.setIfInBounds_toArray, List.set_cons_zero, List.set_cons_succ]
                                    refine anyZ_ready (rs := [12]) (by kernel_rfl) (by simp) ?_
                                    refine NextZ.cons (o := _) rfl (fun K hK => ?st41) ?more41
                                    case st41 =>
                                      ((try go_simp); (go_at_call 67; (with_reducible refine (l1Mn_any _ _ _).mono ?_); rintro e _ ⟨rfl, rfl⟩); (try go_wp2_with fail))
                                      refine hK.out _ _ (.inr ?hS41) (fun hHeld => ?rest41)
                                      case hS41 => ((try dsimp only); (first | with_reducible exact VarL.quadB HK9.out | (refine VarL.quadB (LS.box (g := g) (C := C) (n := n) (cap := cap) (xs := xs) (w0 := w) (K := K0 + 2 + 2 + 2 + 2) ?_); (repeat (first | with_reducible exact HL8.out | with_reducible refine LS.ext ?_ (ext_drew _) | with_reducible refine LS.ext ?_ (ext_alloc _ _))); done) | (refine VarL.quadB (LS.box (g := g) (C := C) (n := n) (cap := cap) (xs := xs) (w0 := w) (K := K0 + 2 + 2 + 2) ?_); (repeat (first | with_reducible exact HL7.out | with_reducible refine LS.ext ?_ (ext_drew _) | with_reducible refine LS.ext ?_ (ext_alloc _ _))); done) | (refine VarL.quadB (LS.box (g := g) (C := C) (n := n) (cap := cap) (xs := xs) (w0 := w) (K := K0 + 2 + 2) ?_); (repeat (first | with_reducible exact HL6.out | with_reducible refine LS.ext ?_ (ext_drew _) | with_reducible refine LS.ext ?_ (ext_alloc _ _))); done)))
                                      case rest41 =>
                                        clear hK K
                                        replace hHeld := hHeld.resolve_left (by decide)
                                        try simp only [Act.put, List.setIfInBounds_toArray, List.set_cons_zero, List.set_cons_succ]
                                        refine anyZ_ready (rs := [19]) (by kernel_rfl) (by simp) ?_
                                        refine NextZ.cons (o := _) rfl (fun K hK => ?st42) ?more42
                                        case st42 =>
                                          ((try go_simp); (go_at_call 43; (with_reducible refine (AM.out [0, 0, 1, 2] 4 rfl (by decide) (by decide) (K0 + 2 + 2 + 2) (by omega) _ _ ?_ ?_ ?_).mono ?_); (repeat (first | with_reducible exact HL7.out | with_reducible refine LS.ext ?_ (ext_drew _) | with_reducible refine LS.ext ?_ (ext_alloc _ _))); (repeat (first | with_reducible exact HF2.out | with_reducible exact lit_flo _ _ _ _ rfl | with_reducible exact lit_flo1 _ _ _ _ _ rfl | with_reducible refine FlO.ext ?_ (ext_drew _) | with_reducible refine FlO.ext ?_ (ext_alloc _ _))); (first | omega | (simp; omega)); rintro e w8 ⟨z4, hz4, rfl, hL8, hU8⟩; have b4 : 0 ≤ z4 ∧ z4 ≤ 2 := (by simp at hz4; omega); have q4 : IntKind.i64.wrap (z2 + z4) = z2 + z4 := IntWalk.i64_in _ (by omega); have HL8 := Lib.hid hL8; have hg8 : w.heap.size + 1 ≤ w8.heap.size := (by have := hU8.size; have := HL7.out.cur.lt; have := HL7.out.tch.size; have := HL7.out.box.lt; have := hL8.box.lt; omega); clear hL8 hU8 hz4); (try go_wp2_with fail))
                                          refine hK.out _ _ (.inr ?hS42) (fun hHeld => ?rest42)
                                          case hS42 => ((try dsimp only); (first | with_reducible exact VarL.quadB HK9.out | (refine VarL.quadB (LS.box (g := g) (C := C) (n := n) (cap := cap) (xs := xs) (w0 := w) (K := K0 + 2 + 2 + 2 + 2) ?_); (repeat (first | with_reducible exact HL8.out | with_reducible refine LS.ext ?_ (ext_drew _) | with_reducible refine LS.ext ?_ (ext_alloc _ _))); done) | (refine VarL.quadB (LS.box (g := g) (C := C) (n := n) (cap := cap) (xs := xs) (w0 := w) (K := K0 + 2 + 2 + 2) ?_); (repeat (first | with_reducible exact HL7.out | with_reducible refine LS.ext ?_ (ext_drew _) | with_reducible refine LS.ext ?_ (ext_alloc _ _))); done) | (refine VarL.quadB (LS.box (g := g) (C := C) (n := n) (cap := cap) (xs := xs) (w0 := w) (K := K0 + 2 + 2) ?_); (repeat (first | with_reducible exact HL6.out | with_reducible refine LS.ext ?_ (ext_drew _) | with_reducible refine LS.ext ?_ (ext_alloc _ _))); done)))
                                          case rest42 =>
                                            clear hK K
                                            replace hHeld := hHeld.resolve_left (by decide)
                                            try simp only [Act.put, List.setIfInBounds_toArray, List.set_cons_zero, List.set_cons_succ]
                                            refine anyZ_take (i := 20) (v := ?v43) rfl (by kernel_rfl) (by kernel_rfl) (by kernel_rfl) (by kernel_rfl) (fun _ _ _ h => h) (Or.inl ⟨by rfl, ?hy43⟩) (by assumption) ?rest43
                                            case hy43 => ((intro w hSw; (try dsimp only at hSw); go_simp) <;> (with_reducible rfl))
                                            case rest43 =>
                                             try simp only [Act.put, List.setIfInBounds_toArray, List.set_cons_zero, List.set_cons_succ]
                                             refine anyZ_ready (rs := [21]) (by kernel_rfl) (by simp) ?_
                                             refine NextZ.cons (o := _) rfl (fun K hK => ?st44) ?more44
                                             case st44 =>
                                               ((try go_simp); (go_at_call 67; (with_reducible refine (l1Mn_any _ _ _).mono ?_); rintro e _ ⟨rfl, rfl⟩); (try go_wp2_with fail))
                                               refine hK.out _ _ (.inr ?hS44) (fun hHeld => ?rest44)
                                               case hS44 => ((try dsimp only); (first | with_reducible exact VarL.quadB HK9.out | (refine VarL.quadB (LS.box (g := g) (C := C) (n := n) (cap := cap) (xs := xs) (w0 := w) (K := K0 + 2 + 2 + 2 + 2) ?_); (repeat (first | with_reducible exact HL8.out | with_reducible refine LS.ext ?_ (ext_drew _) | with_reducible refine LS.ext ?_ (ext_alloc _ _))); done) | (refine VarL.quadB (LS.box (g := g) (C := C) (n := n) (cap := cap) (xs := xs) (w0 := w) (K := K0 + 2 + 2 + 2) ?_); (repeat (first | with_reducible exact HL7.out | with_reducible refine LS.ext ?_ (ext_drew _) | with_reducible refine LS.ext ?_ (ext_alloc _ _))); done) | (refine VarL.quadB (LS.box (g := g) (C := C) (n := n) (cap := cap) (xs := xs) (w0 := w) (K := K0 + 2 + 2) ?_); (repeat (first | with_reducible exact HL6.out | with_reducible refine LS.ext ?_ (ext_drew _) | with_reducible refine LS.ext ?_ (ext_alloc _ _))); done)))
                                               case rest44 =>
                                                 clear hK K
                                                 replace hHeld := hHeld.resolve_left (by decide)
                                                 try simp only [Act.put, List.setIfInBounds_toArray, List.set_cons_zero, List.set_cons_succ]
                                                 refine anyZ_take (i := 22) (v := ?v45) rfl (by kernel_rfl) (by kernel_rfl) (by kernel_rfl) (by kernel_rfl) (fun _ _ _ h => h) (Or.inl ⟨by rfl, ?hy45⟩) (by assumption) ?rest45
                                                 case hy45 => ((intro w hSw; (try dsimp only at hSw); go_simp) <;> (with_reducible rfl))
                                                 case rest45 =>
                                                  try simp only [Act.put, List.setIfInBounds_toArray, List.set_cons_zero, List.set_cons_succ]
                                                  refine anyZ_ready (rs := [23]) (by kernel_rfl) (by simp) ?_
                                                  refine NextZ.cons (o := _) rfl (fun K hK => ?st46) ?more46
                                                  case st46 =>
                                                    go_simp
                                                    refine hK.out _ _ (.inr ?hS46) (fun hHeld => ?rest46)
                                                    case hS46 => ((try dsimp only); (first | with_reducible exact VarL.quadB HK9.out | (refine VarL.quadB (LS.box (g := g) (C := C) (n := n) (cap := cap) (xs := xs) (w0 := w) (K := K0 + 2 + 2 + 2 + 2) ?_); (repeat (first | with_reducible exact HL8.out | with_reducible refine LS.ext ?_ (ext_drew _) | with_reducible refine LS.ext ?_ (ext_alloc _ _))); done) | (refine VarL.quadB (LS.box (g := g) (C := C) (n := n) (cap := cap) (xs := xs) (w0 := w) (K := K0 + 2 + 2 + 2) ?_); (repeat (first | with_reducible exact HL7.out | with_reducible refine LS.ext ?_ (ext_drew _) | with_reducible refine LS.ext ?_ (ext_alloc _ _))); done) | (refine VarL.quadB (LS.box (g := g) (C := C) (n := n) (cap := cap) (xs := xs) (w0 := w) (K := K0 + 2 + 2) ?_); (repeat (first | with_reducible exact HL6.out | with_reducible refine LS.ext ?_ (ext_drew _) | with_reducible refine LS.ext ?_ (ext_alloc _ _))); done)))
                                                    case rest46 =>
                                                      clear hK K
                                                      replace hHeld := hHeld.resolve_left (by decide)
                                                      try simp only [Act.put, List.setIfInBounds_toArray, List.set_cons_zero, List.set_cons_succ]
                                                      refine anyZ_ready (rs := [24]) (by kernel_rfl) (by simp) ?_
                                                      refine NextZ.cons (o := _) rfl (fun K hK => ?st47) ?more47
                                                      case st47 =>
                                                        (refine step_append_all_at (f := Four.ints) rfl (.tmp 35) (.tmp 57) 24 rfl (w.heap.size + 1) i0 _ 4 32 Try.underlying24 hi hy0 hy1 hy2 rfl (by decide) v xs rfl ?_ (some _) 1 [⟨z1, z2, min (wide - 1) (z1 + z3), min (high - 1) (z2 + z4)⟩] rfl ?_ (fun _ => rfl) ?_ (by decide) ?_ ?_; (repeat (first | with_reducible exact HL8.out.own | with_reducible refine OwnF.ext ?_ (ext_drew _) | with_reducible refine OwnF.ext ?_ (ext_alloc _ _))); (first | with_reducible exact four_box _ _ _ _ _ _ | with_reducible refine Fl.ext (four_box _ _ _ _ _ _) (ext_drew _)); (have := HXL.out; simp only [List.length_cons, List.length_nil]; omega); (first | omega | (simp; omega)); intro v9 w9 hown9 hg9 hb9 hat9; obtain ⟨A9, d9, hv9, _⟩ := hown9.form Four.ints_length; obtain ⟨l9, hl9⟩ : ∃ z, z = List.length (xs ++ [⟨z1, z2, min (wide - 1) (z1 + z3), min (high - 1) (z2 + z4)⟩]) := ⟨_, rfl⟩; rw [← hl9] at hv9; subst hv9; have HL99 := Lib.hid hl9; clear hl9; (first | with_reducible have hL9 := LS.app (LS.ext HL8.out (ext_alloc _ _)) hgw hwB hown9 hg9 hb9 hat9 | with_reducible have hL9 := LS.app (LS.ext (LS.ext HL8.out (ext_alloc _ _)) (ext_drew _)) hgw hwB hown9 hg9 hb9 hat9); have HK9 := Lib.hid hL9.1; have HL9 := Lib.hid hL9.2; have k0 := hL9.1.cell 0 _ rfl; have k1 := hL9.1.cell 1 _ rfl; have k2 := hL9.1.cell 2 _ rfl; have k3 := hL9.1.cell 3 _ rfl; have kl := hL9.1.lt; have kz := hL9.1.fz; clear hL9 hown9 hg9 hb9 hat9)
                                                        refine hK.out _ _ (.inr ?hS47) (fun hHeld => ?rest47)
                                                        case hS47 => ((try dsimp only); (first | with_reducible exact VarL.quadB HK9.out | (refine VarL.quadB (LS.box (g := g) (C := C) (n := n) (cap := cap) (xs := xs) (w0 := w) (K := K0 + 2 + 2 + 2 + 2) ?_); (repeat (first | with_reducible exact HL8.out | with_reducible refine LS.ext ?_ (ext_drew _) | with_reducible refine LS.ext ?_ (ext_alloc _ _))); done) | (refine VarL.quadB (LS.box (g := g) (C := C) (n := n) (cap := cap) (xs := xs) (w0 := w) (K := K0 + 2 + 2 + 2) ?_); (repeat (first | with_reducible exact HL7.out | with_reducible refine LS.ext ?_ (ext_drew _) | with_reducible refine LS.ext ?_ (ext_alloc _ _))); done) | (refine VarL.quadB (LS.box (g := g) (C := C) (n := n) (cap := cap) (xs := xs) (w0 := w) (K := K0 + 2 + 2) ?_); (repeat (first | with_reducible exact HL6.out | with_reducible refine LS.ext ?_ (ext_drew _) | with_reducible refine LS.ext ?_ (ext_alloc _ _))); done)))
                                                        case rest47 =>
                                                          clear hK K
                                                          replace hHeld := hHeld.resolve_left (by decide)
                                                          try simp only [Act.put, List.setIfInBounds_toArray, List.set_cons_zero, List.set_cons_succ]
                                                          refine anyZ_take (i := 25) (v := ?v48) rfl (by kernel_rfl) (by kernel_rfl) (by kernel_rfl) (by kernel_rfl) (fun _ _ _ h => h) (Or.inl ⟨by rfl, ?hy48⟩) (by assumption) ?rest48
                                                          case hy48 => ((intro w hSw; (try dsimp only at hSw); go_simp) <;> (with_reducible rfl))
                                                          case rest48 =>
                                                           try simp only [Act.put, List.setIfInBounds_toArray, List.set_cons_zero, List.set_cons_succ]
                                                           refine anyZ_ready (rs := [26]) (by kernel_rfl) (by simp) ?_
                                                           refine NextZ.cons (o := _) rfl (fun K hK => ?st49) ?more49
                                                           case st49 =>
                                                             go_simp
                                                             refine hK.out _ _ (.inl rfl) (fun hHeld => ?rest49)
                                                             case rest49 =>
                                                               clear hK K
                                                               try simp only [Act.put, List.setIfInBounds_toArray, List.set_cons_zero, List.set_cons_succ]
                                                               refine anyZ_done (by kernel_rfl) ?_ _
                                                               go_wp2
                                                               go_roundw
                                                               case rel => exact ⟨_, _, m - 1, by go_num, by omega, by have := HXL.out; simp only [List.length_append, List.length_cons, List.length_nil]; omega, HL9.out.mono (by have := HK0.out; omega)⟩
                                                               case measure => simp [intOf]; omega
                                                           case more49 =>
                                                            exact NextZ.nil
                                                      case more47 =>
                                                       exact NextZ.nil
                                                  case more46 =>
                                                   exact NextZ.nil
                                             case more44 =>
                                              exact NextZ.nil
                                        case more42 =>
                                         exact NextZ.nil
                                    case more41 =>
                                     exact NextZ.nil
                               case more39 =>
                                exact NextZ.nil
                           case more38 =>
                            exact NextZ.nil
                      case more15 =>
                       refine NextZ.cons (o := _) rfl (fun K hK => ?st50) ?more50
                       case st50 =>
                         go_simp
                         refine hK.out _ _ (.inr ?hS50) (fun hHeld => ?rest50)
                         case hS50 => ((try dsimp only); (first | with_reducible exact VarL.quadB HK9.out | (refine VarL.quadB (LS.box (g := g) (C := C) (n := n) (cap := cap) (xs := xs) (w0 := w) (K := K0 + 2 + 2 + 2 + 2) ?_); (repeat (first | with_reducible exact HL8.out | with_reducible refine LS.ext ?_ (ext_drew _) | with_reducible refine LS.ext ?_ (ext_alloc _ _))); done) | (refine VarL.quadB (LS.box (g := g) (C := C) (n := n) (cap := cap) (xs := xs) (w0 := w) (K := K0 + 2 + 2 + 2) ?_); (repeat (first | with_reducible exact HL7.out | with_reducible refine LS.ext ?_ (ext_drew _) | with_reducible refine LS.ext ?_ (ext_alloc _ _))); done) | (refine VarL.quadB (LS.box (g := g) (C := C) (n := n) (cap := cap) (xs := xs) (w0 := w) (K := K0 + 2 + 2) ?_); (repeat (first | with_reducible exact HL6.out | with_reducible refine LS.ext ?_ (ext_drew _) | with_reducible refine LS.ext ?_ (ext_alloc _ _))); done)))
                         case rest50 =>
                           clear hK K
                           replace hHeld := hHeld.resolve_left (by decide)
                           try simp only [Act.put, List.setIfInBounds_toArray, List.set_cons_zero, List.set_cons_succ]
                           refine anyZ_ready (rs := [9]) (by kernel_rfl) (by simp) ?_
                           refine NextZ.cons (o := _) rfl (fun K hK => ?st51) ?more51
                           case st51 =>
                             go_simp
                             refine hK.out _ _ (.inr ?hS51) (fun hHeld => ?rest51)
                             case hS51 => ((try dsimp only); (first | with_reducible exact VarL.quadB HK9.out | (refine VarL.quadB (LS.box (g := g) (C := C) (n := n) (cap := cap) (xs := xs) (w0 := w) (K := K0 + 2 + 2 + 2 + 2) ?_); (repeat (first | with_reducible exact HL8.out | with_reducible refine LS.ext ?_ (ext_drew _) | with_reducible refine LS.ext ?_ (ext_alloc _ _))); done) | (refine VarL.quadB (LS.box (g := g) (C := C) (n := n) (cap := cap) (xs := xs) (w0 := w) (K := K0 + 2 + 2 + 2) ?_); (repeat (first | with_reducible exact HL7.out | with_reducible refine LS.ext ?_ (ext_drew _) | with_reducible refine LS.ext ?_ (ext_alloc _ _))); done) | (refine VarL.quadB (LS.box (g := g) (C := C) (n := n) (cap := cap) (xs := xs) (w0 := w) (K := K0 + 2 + 2) ?_); (repeat (first | with_reducible exact HL6.out | with_reducible refine LS.ext ?_ (ext_drew _) | with_reducible refine LS.ext ?_ (ext_alloc _ _))); done)))
                             case rest51 =>
                               clear hK K
                               replace hHeld := hHeld.resolve_left (by decide)
                               try simp only [Act.put, List.setIfInBounds_toArray, List.set_cons_zero, List.set_cons_succ]
                               refine anyZ_ready (rs := [10]) (by kernel_rfl) (by simp) ?_
                               refine NextZ.cons (o := _) rfl (fun K hK => ?st52) ?more52
                               case st52 =>
                                 ((try go_simp); (go_at_call 43; (with_reducible refine (AM.out [0, 0, 1, 3] 4 rfl (by decide) (by decide) (K0 + 2 + 2) (by omega) _ _ ?_ ?_ ?_).mono ?_); (repeat (first | with_reducible exact HL6.out | with_reducible refine LS.ext ?_ (ext_drew _) | with_reducible refine LS.ext ?_ (ext_alloc _ _))); (repeat (first | with_reducible exact HF2.out | with_reducible exact lit_flo _ _ _ _ rfl | with_reducible exact lit_flo1 _ _ _ _ _ rfl | with_reducible refine FlO.ext ?_ (ext_drew _) | with_reducible refine FlO.ext ?_ (ext_alloc _ _))); (first | omega | (simp; omega)); rintro e w7 ⟨z3, hz3, rfl, hL7, hU7⟩; have b3 : 0 ≤ z3 ∧ z3 ≤ 3 := (by simp at hz3; omega); have q3 : IntKind.i64.wrap (z1 + z3) = z1 + z3 := IntWalk.i64_in _ (by omega); have HL7 := Lib.hid hL7; have hg7 : g < w7.heap.size := hL7.cur.lt; (try (with_reducible have HF2 := Lib.hid (FlO.touch (HLA.out _) hU7 (.inr hg6s)))); (try (with_reducible have HF2 := Lib.hid (FlO.touch (HLB.out _) hU7 (.inr hg6t)))); clear hL7 hU7 hz3); (try go_wp2_with fail))
                                 refine hK.out _ _ (.inr ?hS52) (fun hHeld => ?rest52)
                                 case hS52 => ((try dsimp only); (first | with_reducible exact VarL.quadB HK9.out | (refine VarL.quadB (LS.box (g := g) (C := C) (n := n) (cap := cap) (xs := xs) (w0 := w) (K := K0 + 2 + 2 + 2 + 2) ?_); (repeat (first | with_reducible exact HL8.out | with_reducible refine LS.ext ?_ (ext_drew _) | with_reducible refine LS.ext ?_ (ext_alloc _ _))); done) | (refine VarL.quadB (LS.box (g := g) (C := C) (n := n) (cap := cap) (xs := xs) (w0 := w) (K := K0 + 2 + 2 + 2) ?_); (repeat (first | with_reducible exact HL7.out | with_reducible refine LS.ext ?_ (ext_drew _) | with_reducible refine LS.ext ?_ (ext_alloc _ _))); done) | (refine VarL.quadB (LS.box (g := g) (C := C) (n := n) (cap := cap) (xs := xs) (w0 := w) (K := K0 + 2 + 2) ?_); (repeat (first | with_reducible exact HL6.out | with_reducible refine LS.ext ?_ (ext_drew _) | with_reducible refine LS.ext ?_ (ext_alloc _ _))); done)))
                                 case rest52 =>
                                   clear hK K
                                   replace hHeld := hHeld.resolve_left (by decide)
                                   try simp only [Act.put, List.setIfInBounds_toArray, List.set_cons_zero, List.set_cons_succ]
                                   refine anyZ_take (i := 11) (v := ?v53) rfl (by kernel_rfl) (by kernel_rfl) (by kernel_rfl) (by kernel_rfl) (fun _ _ _ h => h) (Or.inl ⟨by rfl, ?hy53⟩) (by assumption) ?rest53
                                   case hy53 => ((intro w hSw; (try dsimp only at hSw); go_simp) <;> (with_reducible rfl))
                                   case rest53 =>
                                    try simp only [Act.put, List.setIfInBounds_toArray, List.set_cons_zero, List.set_cons_succ]
                                    refine anyZ_ready (rs := [12]) (by kernel_rfl) (by simp) ?_
                                    refine NextZ.cons (o := _) rfl (fun K hK => ?st54) ?more54
                                    case st54 =>
                                      ((try go_simp); (go_at_call 67; (with_reducible refine (l1Mn_any _ _ _).mono ?_); rintro e _ ⟨rfl, rfl⟩); (try go_wp2_with fail))
                                      refine hK.out _ _ (.inr ?hS54) (fun hHeld => ?rest54)
                                      case hS54 => ((try dsimp only); (first | with_reducible exact VarL.quadB HK9.out | (refine VarL.quadB (LS.box (g := g) (C := C) (n := n) (cap := cap) (xs := xs) (w0 := w) (K := K0 + 2 + 2 + 2 + 2) ?_); (repeat (first | with_reducible exact HL8.out | with_reducible refine LS.ext ?_ (ext_drew _) | with_reducible refine LS.ext ?_ (ext_alloc _ _))); done) | (refine VarL.quadB (LS.box (g := g) (C := C) (n := n) (cap := cap) (xs := xs) (w0 := w) (K := K0 + 2 + 2 + 2) ?_); (repeat (first | with_reducible exact HL7.out | with_reducible refine LS.ext ?_ (ext_drew _) | with_reducible refine LS.ext ?_ (ext_alloc _ _))); done) | (refine VarL.quadB (LS.box (g := g) (C := C) (n := n) (cap := cap) (xs := xs) (w0 := w) (K := K0 + 2 + 2) ?_); (repeat (first | with_reducible exact HL6.out | with_reducible refine LS.ext ?_ (ext_drew _) | with_reducible refine LS.ext ?_ (ext_alloc _ _))); done)))
                                      case rest54 =>
                                        clear hK K
                                        replace hHeld := hHeld.resolve_left (by decide)
                                        try simp only [Act.put, List.setIfInBounds_toArray, List.set_cons_zero, List.set_cons_succ]
                                        refine anyZ_ready (rs := [19]) (by kernel_rfl) (by simp) ?_
                                        refine NextZ.cons (o := _) rfl (fun K hK => ?st55) ?more55
                                        case st55 =>
                                          ((try go_simp); (go_at_call 43; (with_reducible refine (AM.out [0, 0, 1, 2] 4 rfl (by decide) (by decide) (K0 + 2 + 2 + 2) (by omega) _ _ ?_ ?_ ?_).mono ?_); (repeat (first | with_reducible exact HL7.out | with_reducible refine LS.ext ?_ (ext_drew _) | with_reducible refine LS.ext ?_ (ext_alloc _ _))); (repeat (first | with_reducible exact HF2.out | with_reducible exact lit_flo _ _ _ _ rfl | with_reducible exact lit_flo1 _ _ _ _ _ rfl | with_reducible refine FlO.ext ?_ (ext_drew _) | with_reducible refine FlO.ext ?_ (ext_alloc _ _))); (first | omega | (simp; omega)); rintro e w8 ⟨z4, hz4, rfl, hL8, hU8⟩; have b4 : 0 ≤ z4 ∧ z4 ≤ 2 := (by simp at hz4; omega); have q4 : IntKind.i64.wrap (z2 + z4) = z2 + z4 := IntWalk.i64_in _ (by omega); have HL8 := Lib.hid hL8; have hg8 : w.heap.size + 1 ≤ w8.heap.size := (by have := hU8.size; have := HL7.out.cur.lt; have := HL7.out.tch.size; have := HL7.out.box.lt; have := hL8.box.lt; omega); clear hL8 hU8 hz4); (try go_wp2_with fail))
                                          refine hK.out _ _ (.inr ?hS55) (fun hHeld => ?rest55)
                                          case hS55 => ((try dsimp only); (first | with_reducible exact VarL.quadB HK9.out | (refine VarL.quadB (LS.box (g := g) (C := C) (n := n) (cap := cap) (xs := xs) (w0 := w) (K := K0 + 2 + 2 + 2 + 2) ?_); (repeat (first | with_reducible exact HL8.out | with_reducible refine LS.ext ?_ (ext_drew _) | with_reducible refine LS.ext ?_ (ext_alloc _ _))); done) | (refine VarL.quadB (LS.box (g := g) (C := C) (n := n) (cap := cap) (xs := xs) (w0 := w) (K := K0 + 2 + 2 + 2) ?_); (repeat (first | with_reducible exact HL7.out | with_reducible refine LS.ext ?_ (ext_drew _) | with_reducible refine LS.ext ?_ (ext_alloc _ _))); done) | (refine VarL.quadB (LS.box (g := g) (C := C) (n := n) (cap := cap) (xs := xs) (w0 := w) (K := K0 + 2 + 2) ?_); (repeat (first | with_reducible exact HL6.out | with_reducible refine LS.ext ?_ (ext_drew _) | with_reducible refine LS.ext ?_ (ext_alloc _ _))); done)))
                                          case rest55 =>
                                            clear hK K
                                            replace hHeld := hHeld.resolve_left (by decide)
                                            try simp only [Act.put, List.setIfInBounds_toArray, List.set_cons_zero, List.set_cons_succ]
                                            refine anyZ_take (i := 20) (v := ?v56) rfl (by kernel_rfl) (by kernel_rfl) (by kernel_rfl) (by kernel_rfl) (fun _ _ _ h => h) (Or.inl ⟨by rfl, ?hy56⟩) (by assumption) ?rest56
                                            case hy56 => ((intro w hSw; (try dsimp only at hSw); go_simp) <;> (with_reducible rfl))
                                            case rest56 =>
                                             try simp only [Act.put, List.setIfInBounds_toArray, List.set_cons_zero, List.set_cons_succ]
                                             refine anyZ_ready (rs := [21]) (by kernel_rfl) (by simp) ?_
                                             refine NextZ.cons (o := _) rfl (fun K hK => ?st57) ?more57
                                             case st57 =>
                                               ((try go_simp); (go_at_call 67; (with_reducible refine (l1Mn_any _ _ _).mono ?_); rintro e _ ⟨rfl, rfl⟩); (try go_wp2_with fail))
                                               refine hK.out _ _ (.inr ?hS57) (fun hHeld => ?rest57)
                                               case hS57 => ((try dsimp only); (first | with_reducible exact VarL.quadB HK9.out | (refine VarL.quadB (LS.box (g := g) (C := C) (n := n) (cap := cap) (xs := xs) (w0 := w) (K := K0 + 2 + 2 + 2 + 2) ?_); (repeat (first | with_reducible exact HL8.out | with_reducible refine LS.ext ?_ (ext_drew _) | with_reducible refine LS.ext ?_ (ext_alloc _ _))); done) | (refine VarL.quadB (LS.box (g := g) (C := C) (n := n) (cap := cap) (xs := xs) (w0 := w) (K := K0 + 2 + 2 + 2) ?_); (repeat (first | with_reducible exact HL7.out | with_reducible refine LS.ext ?_ (ext_drew _) | with_reducible refine LS.ext ?_ (ext_alloc _ _))); done) | (refine VarL.quadB (LS.box (g := g) (C := C) (n := n) (cap := cap) (xs := xs) (w0 := w) (K := K0 + 2 + 2) ?_); (repeat (first | with_reducible exact HL6.out | with_reducible refine LS.ext ?_ (ext_drew _) | with_reducible refine LS.ext ?_ (ext_alloc _ _))); done)))
                                               case rest57 =>
                                                 clear hK K
                                                 replace hHeld := hHeld.resolve_left (by decide)
                                                 try simp only [Act.put, List.setIfInBounds_toArray, List.set_cons_zero, List.set_cons_succ]
                                                 refine anyZ_take (i := 22) (v := ?v58) rfl (by kernel_rfl) (by kernel_rfl) (by kernel_rfl) (by kernel_rfl) (fun _ _ _ h => h) (Or.inl ⟨by rfl, ?hy58⟩) (by assumption) ?rest58
                                                 case hy58 => ((intro w hSw; (try dsimp only at hSw); go_simp) <;> (with_reducible rfl))
                                                 case rest58 =>
                                                  try simp only [Act.put, List.setIfInBounds_toArray, List.set_cons_zero, List.set_cons_succ]
                                                  refine anyZ_ready (rs := [23]) (by kernel_rfl) (by simp) ?_
                                                  refine NextZ.cons (o := _) rfl (fun K hK => ?st59) ?more59
                                                  case st59 =>
                                                    go_simp
                                                    refine hK.out _ _ (.inr ?hS59) (fun hHeld => ?rest59)
                                                    case hS59 => ((try dsimp only); (first | with_reducible exact VarL.quadB HK9.out | (refine VarL.quadB (LS.box (g := g) (C := C) (n := n) (cap := cap) (xs := xs) (w0 := w) (K := K0 + 2 + 2 + 2 + 2) ?_); (repeat (first | with_reducible exact HL8.out | with_reducible refine LS.ext ?_ (ext_drew _) | with_reducible refine LS.ext ?_ (ext_alloc _ _))); done) | (refine VarL.quadB (LS.box (g := g) (C := C) (n := n) (cap := cap) (xs := xs) (w0 := w) (K := K0 + 2 + 2 + 2) ?_); (repeat (first | with_reducible exact HL7.out | with_reducible refine LS.ext ?_ (ext_drew _) | with_reducible refine LS.ext ?_ (ext_alloc _ _))); done) | (refine VarL.quadB (LS.box (g := g) (C := C) (n := n) (cap := cap) (xs := xs) (w0 := w) (K := K0 + 2 + 2) ?_); (repeat (first | with_reducible exact HL6.out | with_reducible refine LS.ext ?_ (ext_drew _) | with_reducible refine LS.ext ?_ (ext_alloc _ _))); done)))
                                                    case rest59 =>
                                                      clear hK K
                                                      replace hHeld := hHeld.resolve_left (by decide)
                                                      try simp only [Act.put, List.setIfInBounds_toArray, List.set_cons_zero, List.set_cons_succ]
                                                      refine anyZ_ready (rs := [24]) (by kernel_rfl) (by simp) ?_
                                                      refine NextZ.cons (o := _) rfl (fun K hK => ?st60) ?more60
                                                      case st60 =>
                                                        (refine step_append_all_at (f := Four.ints) rfl (.tmp 35) (.tmp 57) 24 rfl (w.heap.size + 1) i0 _ 4 32 Try.underlying24 hi hy0 hy1 hy2 rfl (by decide) v xs rfl ?_ (some _) 1 [⟨z1, z2, min (wide - 1) (z1 + z3), min (high - 1) (z2 + z4)⟩] rfl ?_ (fun _ => rfl) ?_ (by decide) ?_ ?_; (repeat (first | with_reducible exact HL8.out.own | with_reducible refine OwnF.ext ?_ (ext_drew _) | with_reducible refine OwnF.ext ?_ (ext_alloc _ _))); (first | with_reducible exact four_box _ _ _ _ _ _ | with_reducible refine Fl.ext (four_box _ _ _ _ _ _) (ext_drew _)); (have := HXL.out; simp only [List.length_cons, List.length_nil]; omega); (first | omega | (simp; omega)); intro v9 w9 hown9 hg9 hb9 hat9; obtain ⟨A9, d9, hv9, _⟩ := hown9.form Four.ints_length; obtain ⟨l9, hl9⟩ : ∃ z, z = List.length (xs ++ [⟨z1, z2, min (wide - 1) (z1 + z3), min (high - 1) (z2 + z4)⟩]) := ⟨_, rfl⟩; rw [← hl9] at hv9; subst hv9; have HL99 := Lib.hid hl9; clear hl9; (first | with_reducible have hL9 := LS.app (LS.ext HL8.out (ext_alloc _ _)) hgw hwB hown9 hg9 hb9 hat9 | with_reducible have hL9 := LS.app (LS.ext (LS.ext HL8.out (ext_alloc _ _)) (ext_drew _)) hgw hwB hown9 hg9 hb9 hat9); have HK9 := Lib.hid hL9.1; have HL9 := Lib.hid hL9.2; have k0 := hL9.1.cell 0 _ rfl; have k1 := hL9.1.cell 1 _ rfl; have k2 := hL9.1.cell 2 _ rfl; have k3 := hL9.1.cell 3 _ rfl; have kl := hL9.1.lt; have kz := hL9.1.fz; clear hL9 hown9 hg9 hb9 hat9)
                                                        refine hK.out _ _ (.inr ?hS60) (fun hHeld => ?rest60)
                                                        case hS60 => ((try dsimp only); (first | with_reducible exact VarL.quadB HK9.out | (refine VarL.quadB (LS.box (g := g) (C := C) (n := n) (cap := cap) (xs := xs) (w0 := w) (K := K0 + 2 + 2 + 2 + 2) ?_); (repeat (first | with_reducible exact HL8.out | with_reducible refine LS.ext ?_ (ext_drew _) | with_reducible refine LS.ext ?_ (ext_alloc _ _))); done) | (refine VarL.quadB (LS.box (g := g) (C := C) (n := n) (cap := cap) (xs := xs) (w0 := w) (K := K0 + 2 + 2 + 2) ?_); (repeat (first | with_reducible exact HL7.out | with_reducible refine LS.ext ?_ (ext_drew _) | with_reducible refine LS.ext ?_ (ext_alloc _ _))); done) | (refine VarL.quadB (LS.box (g := g) (C := C) (n := n) (cap := cap) (xs := xs) (w0 := w) (K := K0 + 2 + 2) ?_); (repeat (first | with_reducible exact HL6.out | with_reducible refine LS.ext ?_ (ext_drew _) | with_reducible refine LS.ext ?_ (ext_alloc _ _))); done)))
                                                        case rest60 =>
                                                          clear hK K
                                                          replace hHeld := hHeld.resolve_left (by decide)
                                                          try simp only [Act.put, List.setIfInBounds_toArray, List.set_cons_zero, List.set_cons_succ]
                                                          refine anyZ_take (i := 25) (v := ?v61) rfl (by kernel_rfl) (by kernel_rfl) (by kernel_rfl) (by kernel_rfl) (fun _ _ _ h => h) (Or.inl ⟨by rfl, ?hy61⟩) (by assumption) ?rest61
                                                          case hy61 => ((intro w hSw; (try dsimp only at hSw); go_simp) <;> (with_reducible rfl))
                                                          case rest61 =>
                                                           try simp only [Act.put, List.setIfInBounds_toArray, List.set_cons_zero, List.set_cons_succ]
                                                           refine anyZ_ready (rs := [26]) (by kernel_rfl) (by simp) ?_
                                                           refine NextZ.cons (o := _) rfl (fun K hK => ?st62) ?more62
                                                           case st62 =>
                                                             go_simp
                                                             refine hK.out _ _ (.inl rfl) (fun hHeld => ?rest62)
                                                             case rest62 =>
                                                               clear hK K
                                                               try simp only [Act.put, List.setIfInBounds_toArray, List.set_cons_zero, List.set_cons_succ]
                                                               refine anyZ_done (by kernel_rfl) ?_ _
                                                               go_wp2
                                                               go_roundw
                                                               case rel => exact ⟨_, _, m - 1, by go_num, by omega, by have := HXL.out; simp only [List.length_append, List.length_cons, List.length_nil]; omega, HL9.out.mono (by have := HK0.out; omega)⟩
                                                               case measure => simp [intOf]; omega
                                                           case more62 =>
                                                            exact NextZ.nil
                                                      case more60 =>
                                                       exact NextZ.nil
                                                  case more59 =>
                                                   exact NextZ.nil
                                             case more57 =>
                                              exact NextZ.nil
                                        case more55 =>
                                         exact NextZ.nil
                                    case more54 =>
                                     exact NextZ.nil
                               case more52 =>
                                exact NextZ.nil
                           case more51 =>
                            exact NextZ.nil
                       case more50 =>
                        exact NextZ.nil
    · have hm0 : m = 0 := by omega
      subst hm0
      obtain ⟨K0, hK0⟩ : ∃ z, z = k + 12 + (3 - 0) * 10 := ⟨_, rfl⟩
      rw [← hK0] at hL
      have hKb : K0 + 20 ≤ 549755813888 := by omega
      have hK1 : K0 + 20 ≤ k + 100 := by omega
      have HXL := Lib.hid (show xs.length ≤ 3 by omega)
      have HN2 := Lib.hid (hL.pick hgw hwB hn 32 (by omega))
      clear hL hK0 hxm hm
      go_wp2_with fail
      ((with_reducible refine (HN2.out).mono ?_); rintro e w6 ⟨z, rfl, _, _, hL6⟩)
      have HL6 := Lib.hid hL6
      have hg6 : g < w6.heap.size := HL6.out.cur.lt
      have dl := HL6.out.box.lt
      have AM := Lib.hid (fun (l : List Int) (m : Nat) (hm : m = l.length) (h0 : 0 < l.length) (h1 : l.length ≤ 1048576) (K : Nat) (hK : K ≤ 549755813888) (W : World) (b : Nat) (h : LS g C n cap B wide high v steep xs K w W) (hF : FlO one 1 b (b + 1) W (some ⟨b, 0, none⟩) l) (hb : g < b) => h.among hgw hwB hn hK l m hm h0 h1 b hF hb)
      clear hL6 HN2
      by_cases h10 : z = 0
      · subst h10
        obtain ⟨d0, d1, d2, d3⟩ := HL6.out.box.quadB
        have hs6 : w.heap.size + 1 ≤ w6.heap.size := by omega
        have hg6s : g + 1 ≤ w6.heap.size := hg6
        have hg6t : g + 1 ≤ w6.heap.size + 1 := Nat.le_succ_of_le hg6
        have HLA := Lib.hid (fun o : Obj => (((lit_flo w6 [0, wide, 2] 3 #[Value.int .i64 0, Value.int .i64 wide, Value.int .i64 2] rfl).ext (ext_alloc _ o)).ext (ext_drew _)))
        have HLB := Lib.hid (fun o : Obj => (lit_flo1 w6 o [0, wide, 2] 3 #[Value.int .i64 0, Value.int .i64 wide, Value.int .i64 2] rfl).ext (ext_drew _))
        go_upto_region 9 with fail
        refine wp_regionZ 14 (S := (fun w' => World.cell? w' ⟨B, 0, none⟩ = some (.int .i64 wide) ∧ World.cell? w' ⟨B, 1, none⟩ = some (.int .i64 high) ∧ World.cell? w' ⟨B, 2, none⟩ = some v ∧ World.cell? w' ⟨B, 3, none⟩ = some (.int .i64 steep))) (by kernel_rfl) ?hSb0 (fun hHeld => ?restb0)
        case hSb0 => (first | with_reducible exact VarL.quadB HK9.out | (refine VarL.quadB (LS.box (g := g) (C := C) (n := n) (cap := cap) (xs := xs) (w0 := w) (K := K0 + 2 + 2 + 2) ?_); (repeat (first | with_reducible exact HL8.out | with_reducible refine LS.ext ?_ (ext_drew _) | with_reducible refine LS.ext ?_ (ext_alloc _ _))); done) | (refine VarL.quadB (LS.box (g := g) (C := C) (n := n) (cap := cap) (xs := xs) (w0 := w) (K := K0 + 2 + 2) ?_); (repeat (first | with_reducible exact HL7.out | with_reducible refine LS.ext ?_ (ext_drew _) | with_reducible refine LS.ext ?_ (ext_alloc _ _))); done) | (refine VarL.quadB (LS.box (g := g) (C := C) (n := n) (cap := cap) (xs := xs) (w0 := w) (K := K0 + 2) ?_); (repeat (first | with_reducible exact HL6.out | with_reducible refine LS.ext ?_ (ext_drew _) | with_reducible refine LS.ext ?_ (ext_alloc _ _))); done))
        case restb0 =>
          refine anyZ_take (i := 0) (v := ?vb1) rfl (by kernel_rfl) (by kernel_rfl) (by kernel_rfl) (by kernel_rfl) (fun _ _ _ h => h) (Or.inl ⟨by rfl, ?hyb1⟩) (by assumption) ?restb1
          case hyb1 => ((intro w hSw; (try dsimp only at hSw); go_simp) <;> (with_reducible rfl))
          case restb1 =>
           try simp only [Act.put, List.setIfInBounds_toArray, List.set_cons_zero, List.set_cons_succ]
           refine anyZ_take (i := 1) (v := ?vb2) rfl (by kernel_rfl) (by kernel_rfl) (by kernel_rfl) (by kernel_rfl) (fun _ _ _ h => h) (Or.inl ⟨by rfl, ?hyb2⟩) (by assumption) ?restb2
           case hyb2 => ((intro w hSw; (try dsimp only at hSw); go_simp) <;> (with_reducible rfl))
           case restb2 =>
            try simp only [Act.put, List.setIfInBounds_toArray, List.set_cons_zero, List.set_cons_succ]
            refine anyZ_take (i := 2) (v := ?vb3) rfl (by kernel_rfl) (by kernel_rfl) (by kernel_rfl) (by kernel_rfl) (fun _ _ _ h => h) (Or.inl ⟨by rfl, ?hyb3⟩) (by assumption) ?restb3
            case hyb3 => ((intro w hSw; (try dsimp only at hSw); go_simp) <;> (with_reducible rfl))
            case restb3 =>
             try simp only [Act.put, List.setIfInBounds_toArray, List.set_cons_zero, List.set_cons_succ]
             refine anyZ_take (i := 5) (v := ?vb4) rfl (by kernel_rfl) (by kernel_rfl) (by kernel_rfl) (by kernel_rfl) (fun _ _ _ h => h) (Or.inl ⟨by rfl, ?hyb4⟩) (by assumption) ?restb4
             case hyb4 => ((intro w hSw; (try dsimp only at hSw); go_simp) <;> (with_reducible rfl))
             case restb4 =>
              try simp only [Act.put, List.setIfInBounds_toArray, List.set_cons_zero, List.set_cons_succ]
              refine anyZ_take (i := 6) (v := ?vb5) rfl (by kernel_rfl) (by kernel_rfl) (by kernel_rfl) (by kernel_rfl) (fun _ _ _ h => h) (Or.inl ⟨by rfl, ?hyb5⟩) (by assumption) ?restb5
              case hyb5 => ((intro w hSw; (try dsimp only at hSw); go_simp) <;> (with_reducible rfl))
              case restb5 =>
               try simp only [Act.put, List.setIfInBounds_toArray, List.set_cons_zero, List.set_cons_succ]
               refine anyZ_take (i := 7) (v := ?vb6) rfl (by kernel_rfl) (by kernel_rfl) (by kernel_rfl) (by kernel_rfl) (fun _ _ _ h => h) (Or.inl ⟨by rfl, ?hyb6⟩) (by assumption) ?restb6
               case hyb6 => ((intro w hSw; (try dsimp only at hSw); go_simp) <;> (with_reducible rfl))
               case restb6 =>
                try simp only [Act.put, List.setIfInBounds_toArray, List.set_cons_zero, List.set_cons_succ]
                refine anyZ_ready (rs := [3, 8]) (by kernel_rfl) (by simp) ?_
                refine NextZ.cons (o := _) rfl (fun K hK => ?stb7) ?moreb7
                case stb7 =>
                  go_simp
                  refine hK.out _ _ (.inr ?hSb7) (fun hHeld => ?restb7)
                  case hSb7 => ((try dsimp only); (first | with_reducible exact VarL.quadB HK9.out | (refine VarL.quadB (LS.box (g := g) (C := C) (n := n) (cap := cap) (xs := xs) (w0 := w) (K := K0 + 2 + 2 + 2) ?_); (repeat (first | with_reducible exact HL8.out | with_reducible refine LS.ext ?_ (ext_drew _) | with_reducible refine LS.ext ?_ (ext_alloc _ _))); done) | (refine VarL.quadB (LS.box (g := g) (C := C) (n := n) (cap := cap) (xs := xs) (w0 := w) (K := K0 + 2 + 2) ?_); (repeat (first | with_reducible exact HL7.out | with_reducible refine LS.ext ?_ (ext_drew _) | with_reducible refine LS.ext ?_ (ext_alloc _ _))); done) | (refine VarL.quadB (LS.box (g := g) (C := C) (n := n) (cap := cap) (xs := xs) (w0 := w) (K := K0 + 2) ?_); (repeat (first | with_reducible exact HL6.out | with_reducible refine LS.ext ?_ (ext_drew _) | with_reducible refine LS.ext ?_ (ext_alloc _ _))); done)))
                  case restb7 =>
                    clear hK K
                    replace hHeld := hHeld.resolve_left (by decide)
                    try simp only [Act.put, List.setIfInBounds_toArray, List.set_cons_zero, List.set_cons_succ]
                    refine anyZ_ready (rs := [4, 8]) (by kernel_rfl) (by simp) ?_
                    refine NextZ.cons (o := _) rfl (fun K hK => ?stb8) ?moreb8
                    case stb8 =>
                      ((try go_simp); (go_at_call 43; (with_reducible refine (AM.out [-1, 0, 3] 3 rfl (by decide) (by decide) (K0 + 2) (by omega) _ _ ?_ ?_ ?_).mono ?_); (repeat (first | with_reducible exact HL6.out | with_reducible refine LS.ext ?_ (ext_drew _) | with_reducible refine LS.ext ?_ (ext_alloc _ _))); (repeat (first | with_reducible exact HF2.out | with_reducible exact lit_flo _ _ _ _ rfl | with_reducible exact lit_flo1 _ _ _ _ _ rfl | with_reducible refine FlO.ext ?_ (ext_drew _) | with_reducible refine FlO.ext ?_ (ext_alloc _ _))); (first | omega | (simp; omega)); rintro e w7 ⟨z3, hz3, rfl, hL7, hU7⟩; have HL7 := Lib.hid hL7; have hg7 : g < w7.heap.size := hL7.cur.lt; (try (with_reducible have HF2 := Lib.hid (FlO.touch (HLA.out _) hU7 (.inr hg6s)))); (try (with_reducible have HF2 := Lib.hid (FlO.touch (HLB.out _) hU7 (.inr hg6t)))); clear hL7 hU7 hz3); (try go_wp2_with fail))
                      refine hK.out _ _ (.inr ?hSb8) (fun hHeld => ?restb8)
                      case hSb8 => ((try dsimp only); (first | with_reducible exact VarL.quadB HK9.out | (refine VarL.quadB (LS.box (g := g) (C := C) (n := n) (cap := cap) (xs := xs) (w0 := w) (K := K0 + 2 + 2 + 2) ?_); (repeat (first | with_reducible exact HL8.out | with_reducible refine LS.ext ?_ (ext_drew _) | with_reducible refine LS.ext ?_ (ext_alloc _ _))); done) | (refine VarL.quadB (LS.box (g := g) (C := C) (n := n) (cap := cap) (xs := xs) (w0 := w) (K := K0 + 2 + 2) ?_); (repeat (first | with_reducible exact HL7.out | with_reducible refine LS.ext ?_ (ext_drew _) | with_reducible refine LS.ext ?_ (ext_alloc _ _))); done) | (refine VarL.quadB (LS.box (g := g) (C := C) (n := n) (cap := cap) (xs := xs) (w0 := w) (K := K0 + 2) ?_); (repeat (first | with_reducible exact HL6.out | with_reducible refine LS.ext ?_ (ext_drew _) | with_reducible refine LS.ext ?_ (ext_alloc _ _))); done)))
                      case restb8 =>
                        clear hK K
                        replace hHeld := hHeld.resolve_left (by decide)
                        try simp only [Act.put, List.setIfInBounds_toArray, List.set_cons_zero, List.set_cons_succ]
                        refine anyZ_ready (rs := [8]) (by kernel_rfl) (by simp) ?_
                        refine NextZ.cons (o := _) rfl (fun K hK => ?stb9) ?moreb9
                        case stb9 =>
                          go_simp
                          refine hK.out _ _ (.inr ?hSb9) (fun hHeld => ?restb9)
                          case hSb9 => ((try dsimp only); (first | with_reducible exact VarL.quadB HK9.out | (refine VarL.quadB (LS.box (g := g) (C := C) (n := n) (cap := cap) (xs := xs) (w0 := w) (K := K0 + 2 + 2 + 2) ?_); (repeat (first | with_reducible exact HL8.out | with_reducible refine LS.ext ?_ (ext_drew _) | with_reducible refine LS.ext ?_ (ext_alloc _ _))); done) | (refine VarL.quadB (LS.box (g := g) (C := C) (n := n) (cap := cap) (xs := xs) (w0 := w) (K := K0 + 2 + 2) ?_); (repeat (first | with_reducible exact HL7.out | with_reducible refine LS.ext ?_ (ext_drew _) | with_reducible refine LS.ext ?_ (ext_alloc _ _))); done) | (refine VarL.quadB (LS.box (g := g) (C := C) (n := n) (cap := cap) (xs := xs) (w0 := w) (K := K0 + 2) ?_); (repeat (first | with_reducible exact HL6.out | with_reducible refine LS.ext ?_ (ext_drew _) | with_reducible refine LS.ext ?_ (ext_alloc _ _))); done)))
                          case restb9 =>
                            clear hK K
                            replace hHeld := hHeld.resolve_left (by decide)
                            try simp only [Act.put, List.setIfInBounds_toArray, List.set_cons_zero, List.set_cons_succ]
                            refine anyZ_ready (rs := [9]) (by kernel_rfl) (by simp) ?_
                            refine NextZ.cons (o := _) rfl (fun K hK => ?stb10) ?moreb10
                            case stb10 =>
                              ((try go_simp); (go_at_call 43; (with_reducible refine (AM.out [0, wide, 2] 3 rfl (by simp) (by simp) (K0 + 2 + 2) (by omega) _ _ ?_ ?_ ?_).mono ?_); (repeat (first | with_reducible exact HL7.out | with_reducible refine LS.ext ?_ (ext_drew _) | with_reducible refine LS.ext ?_ (ext_alloc _ _))); (repeat (first | with_reducible exact HF2.out | with_reducible exact lit_flo _ _ _ _ rfl | with_reducible exact lit_flo1 _ _ _ _ _ rfl | with_reducible refine FlO.ext ?_ (ext_drew _) | with_reducible refine FlO.ext ?_ (ext_alloc _ _))); (first | omega | (simp; omega)); rintro e w8 ⟨z4, hz4, rfl, hL8, hU8⟩; have HL8 := Lib.hid hL8; have hg8 : w.heap.size + 1 ≤ w8.heap.size := (by have := hU8.size; have := HL7.out.cur.lt; have := HL7.out.tch.size; have := HL7.out.box.lt; have := hL8.box.lt; omega); clear hL8 hU8 hz4); (try go_wp2_with fail))
                              refine hK.out _ _ (.inr ?hSb10) (fun hHeld => ?restb10)
                              case hSb10 => ((try dsimp only); (first | with_reducible exact VarL.quadB HK9.out | (refine VarL.quadB (LS.box (g := g) (C := C) (n := n) (cap := cap) (xs := xs) (w0 := w) (K := K0 + 2 + 2 + 2) ?_); (repeat (first | with_reducible exact HL8.out | with_reducible refine LS.ext ?_ (ext_drew _) | with_reducible refine LS.ext ?_ (ext_alloc _ _))); done) | (refine VarL.quadB (LS.box (g := g) (C := C) (n := n) (cap := cap) (xs := xs) (w0 := w) (K := K0 + 2 + 2) ?_); (repeat (first | with_reducible exact HL7.out | with_reducible refine LS.ext ?_ (ext_drew _) | with_reducible refine LS.ext ?_ (ext_alloc _ _))); done) | (refine VarL.quadB (LS.box (g := g) (C := C) (n := n) (cap := cap) (xs := xs) (w0 := w) (K := K0 + 2) ?_); (repeat (first | with_reducible exact HL6.out | with_reducible refine LS.ext ?_ (ext_drew _) | with_reducible refine LS.ext ?_ (ext_alloc _ _))); done)))
                              case restb10 =>
                                clear hK K
                                replace hHeld := hHeld.resolve_left (by decide)
                                try simp only [Act.put, List.setIfInBounds_toArray, List.set_cons_zero, List.set_cons_succ]
                                refine anyZ_take (i := 10) (v := ?vb11) rfl (by kernel_rfl) (by kernel_rfl) (by kernel_rfl) (by kernel_rfl) (fun _ _ _ h => h) (Or.inl ⟨by rfl, ?hyb11⟩) (by assumption) ?restb11
                                case hyb11 => ((intro w hSw; (try dsimp only at hSw); go_simp) <;> (with_reducible rfl))
                                case restb11 =>
                                 try simp only [Act.put, List.setIfInBounds_toArray, List.set_cons_zero, List.set_cons_succ]
                                 refine anyZ_ready (rs := [11]) (by kernel_rfl) (by simp) ?_
                                 refine NextZ.cons (o := _) rfl (fun K hK => ?stb12) ?moreb12
                                 case stb12 =>
                                   go_simp
                                   refine hK.out _ _ (.inr ?hSb12) (fun hHeld => ?restb12)
                                   case hSb12 => ((try dsimp only); (first | with_reducible exact VarL.quadB HK9.out | (refine VarL.quadB (LS.box (g := g) (C := C) (n := n) (cap := cap) (xs := xs) (w0 := w) (K := K0 + 2 + 2 + 2) ?_); (repeat (first | with_reducible exact HL8.out | with_reducible refine LS.ext ?_ (ext_drew _) | with_reducible refine LS.ext ?_ (ext_alloc _ _))); done) | (refine VarL.quadB (LS.box (g := g) (C := C) (n := n) (cap := cap) (xs := xs) (w0 := w) (K := K0 + 2 + 2) ?_); (repeat (first | with_reducible exact HL7.out | with_reducible refine LS.ext ?_ (ext_drew _) | with_reducible refine LS.ext ?_ (ext_alloc _ _))); done) | (refine VarL.quadB (LS.box (g := g) (C := C) (n := n) (cap := cap) (xs := xs) (w0 := w) (K := K0 + 2) ?_); (repeat (first | with_reducible exact HL6.out | with_reducible refine LS.ext ?_ (ext_drew _) | with_reducible refine LS.ext ?_ (ext_alloc _ _))); done)))
                                   case restb12 =>
                                     clear hK K
                                     replace hHeld := hHeld.resolve_left (by decide)
                                     try simp only [Act.put, List.setIfInBounds_toArray, List.set_cons_zero, List.set_cons_succ]
                                     refine anyZ_ready (rs := [12]) (by kernel_rfl) (by simp) ?_
                                     refine NextZ.cons (o := _) rfl (fun K hK => ?stb13) ?moreb13
                                     case stb13 =>
                                       (refine step_append_all_at (f := Four.ints) rfl (.tmp 65) (.tmp 75) 24 rfl (w.heap.size + 1) i0 _ 4 32 Try.underlying24 hi hy0 hy1 hy2 rfl (by decide) v xs rfl ?_ (some _) 1 [⟨z3, 0, z4, 0⟩] rfl ?_ (fun _ => rfl) ?_ (by decide) ?_ ?_; (repeat (first | with_reducible exact HL8.out.own | with_reducible refine OwnF.ext ?_ (ext_drew _) | with_reducible refine OwnF.ext ?_ (ext_alloc _ _))); (first | with_reducible exact four_box _ _ _ _ _ _ | with_reducible refine Fl.ext (four_box _ _ _ _ _ _) (ext_drew _)); (have := HXL.out; simp only [List.length_cons, List.length_nil]; omega); (first | omega | (simp; omega)); intro v9 w9 hown9 hg9 hb9 hat9; obtain ⟨A9, d9, hv9, _⟩ := hown9.form Four.ints_length; obtain ⟨l9, hl9⟩ : ∃ z, z = List.length (xs ++ [⟨z3, 0, z4, 0⟩]) := ⟨_, rfl⟩; rw [← hl9] at hv9; subst hv9; have HL99 := Lib.hid hl9; clear hl9; (first | with_reducible have hL9 := LS.app (LS.ext HL8.out (ext_alloc _ _)) hgw hwB hown9 hg9 hb9 hat9 | with_reducible have hL9 := LS.app (LS.ext (LS.ext HL8.out (ext_alloc _ _)) (ext_drew _)) hgw hwB hown9 hg9 hb9 hat9); have HK9 := Lib.hid hL9.1; have HL9 := Lib.hid hL9.2; have k0 := hL9.1.cell 0 _ rfl; have k1 := hL9.1.cell 1 _ rfl; have k2 := hL9.1.cell 2 _ rfl; have k3 := hL9.1.cell 3 _ rfl; have kl := hL9.1.lt; have kz := hL9.1.fz; clear hL9 hown9 hg9 hb9 hat9)
                                       refine hK.out _ _ (.inr ?hSb13) (fun hHeld => ?restb13)
                                       case hSb13 => ((try dsimp only); (first | with_reducible exact VarL.quadB HK9.out | (refine VarL.quadB (LS.box (g := g) (C := C) (n := n) (cap := cap) (xs := xs) (w0 := w) (K := K0 + 2 + 2 + 2) ?_); (repeat (first | with_reducible exact HL8.out | with_reducible refine LS.ext ?_ (ext_drew _) | with_reducible refine LS.ext ?_ (ext_alloc _ _))); done) | (refine VarL.quadB (LS.box (g := g) (C := C) (n := n) (cap := cap) (xs := xs) (w0 := w) (K := K0 + 2 + 2) ?_); (repeat (first | with_reducible exact HL7.out | with_reducible refine LS.ext ?_ (ext_drew _) | with_reducible refine LS.ext ?_ (ext_alloc _ _))); done) | (refine VarL.quadB (LS.box (g := g) (C := C) (n := n) (cap := cap) (xs := xs) (w0 := w) (K := K0 + 2) ?_); (repeat (first | with_reducible exact HL6.out | with_reducible refine LS.ext ?_ (ext_drew _) | with_reducible refine LS.ext ?_ (ext_alloc _ _))); done)))
                                       case restb13 =>
                                         clear hK K
                                         replace hHeld := hHeld.resolve_left (by decide)
                                         try simp only [Act.put, List.setIfInBounds_toArray, List.set_cons_zero, List.set_cons_succ]
                                         refine anyZ_take (i := 13) (v := ?vb14) rfl (by kernel_rfl) (by kernel_rfl) (by kernel_rfl) (by kernel_rfl) (fun _ _ _ h => h) (Or.inl ⟨by rfl, ?hyb14⟩) (by assumption) ?restb14
                                         case hyb14 => ((intro w hSw; (try dsimp only at hSw); go_simp) <;> (with_reducible rfl))
                                         case restb14 =>
                                          try simp only [Act.put, List.setIfInBounds_toArray, List.set_cons_zero, List.set_cons_succ]
                                          refine anyZ_ready (rs := [14]) (by kernel_rfl) (by simp) ?_
                                          refine NextZ.cons (o := _) rfl (fun K hK => ?stb15) ?moreb15
                                          case stb15 =>
                                            go_simp
                                            refine hK.out _ _ (.inl rfl) (fun hHeld => ?restb15)
                                            case restb15 =>
                                              clear hK K
                                              try simp only [Act.put, List.setIfInBounds_toArray, List.set_cons_zero, List.set_cons_succ]
                                              refine anyZ_done (by kernel_rfl) ?_ _
                                              have HLZ := Lib.hid (HL9.out)
                                              have HLW := Lib.hid ((show LS g C n cap B wide high (.slice A9 l9 d9) steep _ _ w _ from HL9.out))
                                              have HKZ := Lib.hid ((by omega : K0 + 2 + 2 + 2 ≤ k + 100))
                                              have e0 := HLW.out.box.cell 0 _ rfl
                                              have e1 := HLW.out.box.cell 1 _ rfl
                                              have e2 := HLW.out.box.cell 2 _ rfl
                                              have e3 := HLW.out.box.cell 3 _ rfl
                                              have f0 := HLW.out.res.cell 0 _ rfl
                                              have f1 := HLW.out.res.cell 1 _ rfl
                                              have f2 := HLW.out.res.cell 2 _ rfl
                                              have f3 := HLW.out.res.cell 3 _ rfl
                                              have el := HLW.out.box.lt
                                              have ez := HLW.out.box.fz
                                              have fl := HLW.out.res.lt
                                              have fz := HLW.out.res.fz
                                              have hne : w.heap.size ≠ B := by omega
                                              clear AM
                                              go_wp2
                                              refine bodyPost_ret (v := .agg #[.int .i64 (wide), .int .i64 high, .slice A9 l9 d9, .int .i64 (steep)]) (by simp [results, Try.results42, go_sem, e0, e1, e2, e3, el, f0, f1, f2, f3, fl, hne, hne.symm]) rfl (finL HLZ.out HL99.out hgw (by have := HXL.out; simp only [List.length_append, List.length_cons, List.length_nil]; omega) HKZ.out _ _ _ _)
                                          case moreb15 =>
                                           exact NextZ.nil
                                     case moreb13 =>
                                      exact NextZ.nil
                                 case moreb12 =>
                                  exact NextZ.nil
                            case moreb10 =>
                             exact NextZ.nil
                        case moreb9 =>
                         exact NextZ.nil
                    case moreb8 =>
                     refine NextZ.cons (o := _) rfl (fun K hK => ?stb16) ?moreb16
                     case stb16 =>
                       go_simp
                       refine hK.out _ _ (.inr ?hSb16) (fun hHeld => ?restb16)
                       case hSb16 => ((try dsimp only); (first | with_reducible exact VarL.quadB HK9.out | (refine VarL.quadB (LS.box (g := g) (C := C) (n := n) (cap := cap) (xs := xs) (w0 := w) (K := K0 + 2 + 2 + 2) ?_); (repeat (first | with_reducible exact HL8.out | with_reducible refine LS.ext ?_ (ext_drew _) | with_reducible refine LS.ext ?_ (ext_alloc _ _))); done) | (refine VarL.quadB (LS.box (g := g) (C := C) (n := n) (cap := cap) (xs := xs) (w0 := w) (K := K0 + 2 + 2) ?_); (repeat (first | with_reducible exact HL7.out | with_reducible refine LS.ext ?_ (ext_drew _) | with_reducible refine LS.ext ?_ (ext_alloc _ _))); done) | (refine VarL.quadB (LS.box (g := g) (C := C) (n := n) (cap := cap) (xs := xs) (w0 := w) (K := K0 + 2) ?_); (repeat (first | with_reducible exact HL6.out | with_reducible refine LS.ext ?_ (ext_drew _) | with_reducible refine LS.ext ?_ (ext_alloc _ _))); done)))
                       case restb16 =>
                         clear hK K
                         replace hHeld := hHeld.resolve_left (by decide)
                         try simp only [Act.put, List.setIfInBounds_toArray, List.set_cons_zero, List.set_cons_succ]
                         refine anyZ_ready (rs := [4]) (by kernel_rfl) (by simp) ?_
                         refine NextZ.cons (o := _) rfl (fun K hK => ?stb17) ?moreb17
                         case stb17 =>
                           ((try go_simp); (go_at_call 43; (with_reducible refine (AM.out [-1, 0, 3] 3 rfl (by decide) (by decide) (K0 + 2) (by omega) _ _ ?_ ?_ ?_).mono ?_); (repeat (first | with_reducible exact HL6.out | with_reducible refine LS.ext ?_ (ext_drew _) | with_reducible refine LS.ext ?_ (ext_alloc _ _))); (repeat (first | with_reducible exact HF2.out | with_reducible exact lit_flo _ _ _ _ rfl | with_reducible exact lit_flo1 _ _ _ _ _ rfl | with_reducible refine FlO.ext ?_ (ext_drew _) | with_reducible refine FlO.ext ?_ (ext_alloc _ _))); (first | omega | (simp; omega)); rintro e w7 ⟨z3, hz3, rfl, hL7, hU7⟩; have HL7 := Lib.hid hL7; have hg7 : g < w7.heap.size := hL7.cur.lt; (try (with_reducible have HF2 := Lib.hid (FlO.touch (HLA.out _) hU7 (.inr hg6s)))); (try (with_reducible have HF2 := Lib.hid (FlO.touch (HLB.out _) hU7 (.inr hg6t)))); clear hL7 hU7 hz3); (try go_wp2_with fail))
                           refine hK.out _ _ (.inr ?hSb17) (fun hHeld => ?restb17)
                           case hSb17 => ((try dsimp only); (first | with_reducible exact VarL.quadB HK9.out | (refine VarL.quadB (LS.box (g := g) (C := C) (n := n) (cap := cap) (xs := xs) (w0 := w) (K := K0 + 2 + 2 + 2) ?_); (repeat (first | with_reducible exact HL8.out | with_reducible refine LS.ext ?_ (ext_drew _) | with_reducible refine LS.ext ?_ (ext_alloc _ _))); done) | (refine VarL.quadB (LS.box (g := g) (C := C) (n := n) (cap := cap) (xs := xs) (w0 := w) (K := K0 + 2 + 2) ?_); (repeat (first | with_reducible exact HL7.out | with_reducible refine LS.ext ?_ (ext_drew _) | with_reducible refine LS.ext ?_ (ext_alloc _ _))); done) | (refine VarL.quadB (LS.box (g := g) (C := C) (n := n) (cap := cap) (xs := xs) (w0 := w) (K := K0 + 2) ?_); (repeat (first | with_reducible exact HL6.out | with_reducible refine LS.ext ?_ (ext_drew _) | with_reducible refine LS.ext ?_ (ext_alloc _ _))); done)))
                           case restb17 =>
                             clear hK K
                             replace hHeld := hHeld.resolve_left (by decide)
                             try simp only [Act.put, List.setIfInBounds_toArray, List.set_cons_zero, List.set_cons_succ]
                             refine anyZ_ready (rs := [9]) (by kernel_rfl) (by simp) ?_
                             refine NextZ.cons (o := _) rfl (fun K hK => ?stb18) ?moreb18
                             case stb18 =>
                               ((try go_simp); (go_at_call 43; (with_reducible refine (AM.out [0, wide, 2] 3 rfl (by simp) (by simp) (K0 + 2 + 2) (by omega) _ _ ?_ ?_ ?_).mono ?_); (repeat (first | with_reducible exact HL7.out | with_reducible refine LS.ext ?_ (ext_drew _) | with_reducible refine LS.ext ?_ (ext_alloc _ _))); (repeat (first | with_reducible exact HF2.out | with_reducible exact lit_flo _ _ _ _ rfl | with_reducible exact lit_flo1 _ _ _ _ _ rfl | with_reducible refine FlO.ext ?_ (ext_drew _) | with_reducible refine FlO.ext ?_ (ext_alloc _ _))); (first | omega | (simp; omega)); rintro e w8 ⟨z4, hz4, rfl, hL8, hU8⟩; have HL8 := Lib.hid hL8; have hg8 : w.heap.size + 1 ≤ w8.heap.size := (by have := hU8.size; have := HL7.out.cur.lt; have := HL7.out.tch.size; have := HL7.out.box.lt; have := hL8.box.lt; omega); clear hL8 hU8 hz4); (try go_wp2_with fail))
                               refine hK.out _ _ (.inr ?hSb18) (fun hHeld => ?restb18)
                               case hSb18 => ((try dsimp only); (first | with_reducible exact VarL.quadB HK9.out | (refine VarL.quadB (LS.box (g := g) (C := C) (n := n) (cap := cap) (xs := xs) (w0 := w) (K := K0 + 2 + 2 + 2) ?_); (repeat (first | with_reducible exact HL8.out | with_reducible refine LS.ext ?_ (ext_drew _) | with_reducible refine LS.ext ?_ (ext_alloc _ _))); done) | (refine VarL.quadB (LS.box (g := g) (C := C) (n := n) (cap := cap) (xs := xs) (w0 := w) (K := K0 + 2 + 2) ?_); (repeat (first | with_reducible exact HL7.out | with_reducible refine LS.ext ?_ (ext_drew _) | with_reducible refine LS.ext ?_ (ext_alloc _ _))); done) | (refine VarL.quadB (LS.box (g := g) (C := C) (n := n) (cap := cap) (xs := xs) (w0 := w) (K := K0 + 2) ?_); (repeat (first | with_reducible exact HL6.out | with_reducible refine LS.ext ?_ (ext_drew _) | with_reducible refine LS.ext ?_ (ext_alloc _ _))); done)))
                               case restb18 =>
                                 clear hK K
                                 replace hHeld := hHeld.resolve_left (by decide)
                                 try simp only [Act.put, List.setIfInBounds_toArray, List.set_cons_zero, List.set_cons_succ]
                                 refine anyZ_take (i := 10) (v := ?vb19) rfl (by kernel_rfl) (by kernel_rfl) (by kernel_rfl) (by kernel_rfl) (fun _ _ _ h => h) (Or.inl ⟨by rfl, ?hyb19⟩) (by assumption) ?restb19
                                 case hyb19 => ((intro w hSw; (try dsimp only at hSw); go_simp) <;> (with_reducible rfl))
                                 case restb19 =>
                                  try simp only [Act.put, List.setIfInBounds_toArray, List.set_cons_zero, List.set_cons_succ]
                                  refine anyZ_ready (rs := [11]) (by kernel_rfl) (by simp) ?_
                                  refine NextZ.cons (o := _) rfl (fun K hK => ?stb20) ?moreb20
                                  case stb20 =>
                                    go_simp
                                    refine hK.out _ _ (.inr ?hSb20) (fun hHeld => ?restb20)
                                    case hSb20 => ((try dsimp only); (first | with_reducible exact VarL.quadB HK9.out | (refine VarL.quadB (LS.box (g := g) (C := C) (n := n) (cap := cap) (xs := xs) (w0 := w) (K := K0 + 2 + 2 + 2) ?_); (repeat (first | with_reducible exact HL8.out | with_reducible refine LS.ext ?_ (ext_drew _) | with_reducible refine LS.ext ?_ (ext_alloc _ _))); done) | (refine VarL.quadB (LS.box (g := g) (C := C) (n := n) (cap := cap) (xs := xs) (w0 := w) (K := K0 + 2 + 2) ?_); (repeat (first | with_reducible exact HL7.out | with_reducible refine LS.ext ?_ (ext_drew _) | with_reducible refine LS.ext ?_ (ext_alloc _ _))); done) | (refine VarL.quadB (LS.box (g := g) (C := C) (n := n) (cap := cap) (xs := xs) (w0 := w) (K := K0 + 2) ?_); (repeat (first | with_reducible exact HL6.out | with_reducible refine LS.ext ?_ (ext_drew _) | with_reducible refine LS.ext ?_ (ext_alloc _ _))); done)))
                                    case restb20 =>
                                      clear hK K
                                      replace hHeld := hHeld.resolve_left (by decide)
                                      try simp only [Act.put, List.setIfInBounds_toArray, List.set_cons_zero, List.set_cons_succ]
                                      refine anyZ_ready (rs := [12]) (by kernel_rfl) (by simp) ?_
                                      refine NextZ.cons (o := _) rfl (fun K hK => ?stb21) ?moreb21
                                      case stb21 =>
                                        (refine step_append_all_at (f := Four.ints) rfl (.tmp 65) (.tmp 75) 24 rfl (w.heap.size + 1) i0 _ 4 32 Try.underlying24 hi hy0 hy1 hy2 rfl (by decide) v xs rfl ?_ (some _) 1 [⟨z3, 0, z4, 0⟩] rfl ?_ (fun _ => rfl) ?_ (by decide) ?_ ?_; (repeat (first | with_reducible exact HL8.out.own | with_reducible refine OwnF.ext ?_ (ext_drew _) | with_reducible refine OwnF.ext ?_ (ext_alloc _ _))); (first | with_reducible exact four_box _ _ _ _ _ _ | with_reducible refine Fl.ext (four_box _ _ _ _ _ _) (ext_drew _)); (have := HXL.out; simp only [List.length_cons, List.length_nil]; omega); (first | omega | (simp; omega)); intro v9 w9 hown9 hg9 hb9 hat9; obtain ⟨A9, d9, hv9, _⟩ := hown9.form Four.ints_length; obtain ⟨l9, hl9⟩ : ∃ z, z = List.length (xs ++ [⟨z3, 0, z4, 0⟩]) := ⟨_, rfl⟩; rw [← hl9] at hv9; subst hv9; have HL99 := Lib.hid hl9; clear hl9; (first | with_reducible have hL9 := LS.app (LS.ext HL8.out (ext_alloc _ _)) hgw hwB hown9 hg9 hb9 hat9 | with_reducible have hL9 := LS.app (LS.ext (LS.ext HL8.out (ext_alloc _ _)) (ext_drew _)) hgw hwB hown9 hg9 hb9 hat9); have HK9 := Lib.hid hL9.1; have HL9 := Lib.hid hL9.2; have k0 := hL9.1.cell 0 _ rfl; have k1 := hL9.1.cell 1 _ rfl; have k2 := hL9.1.cell 2 _ rfl; have k3 := hL9.1.cell 3 _ rfl; have kl := hL9.1.lt; have kz := hL9.1.fz; clear hL9 hown9 hg9 hb9 hat9)
                                        refine hK.out _ _ (.inr ?hSb21) (fun hHeld => ?restb21)
                                        case hSb21 => ((try dsimp only); (first | with_reducible exact VarL.quadB HK9.out | (refine VarL.quadB (LS.box (g := g) (C := C) (n := n) (cap := cap) (xs := xs) (w0 := w) (K := K0 + 2 + 2 + 2) ?_); (repeat (first | with_reducible exact HL8.out | with_reducible refine LS.ext ?_ (ext_drew _) | with_reducible refine LS.ext ?_ (ext_alloc _ _))); done) | (refine VarL.quadB (LS.box (g := g) (C := C) (n := n) (cap := cap) (xs := xs) (w0 := w) (K := K0 + 2 + 2) ?_); (repeat (first | with_reducible exact HL7.out | with_reducible refine LS.ext ?_ (ext_drew _) | with_reducible refine LS.ext ?_ (ext_alloc _ _))); done) | (refine VarL.quadB (LS.box (g := g) (C := C) (n := n) (cap := cap) (xs := xs) (w0 := w) (K := K0 + 2) ?_); (repeat (first | with_reducible exact HL6.out | with_reducible refine LS.ext ?_ (ext_drew _) | with_reducible refine LS.ext ?_ (ext_alloc _ _))); done)))
                                        case restb21 =>
                                          clear hK K
                                          replace hHeld := hHeld.resolve_left (by decide)
                                          try simp only [Act.put, List.setIfInBounds_toArray, List.set_cons_zero, List.set_cons_succ]
                                          refine anyZ_take (i := 13) (v := ?vb22) rfl (by kernel_rfl) (by kernel_rfl) (by kernel_rfl) (by kernel_rfl) (fun _ _ _ h => h) (Or.inl ⟨by rfl, ?hyb22⟩) (by assumption) ?restb22
                                          case hyb22 => ((intro w hSw; (try dsimp only at hSw); go_simp) <;> (with_reducible rfl))
                                          case restb22 =>
                                           try simp only [Act.put, List.setIfInBounds_toArray, List.set_cons_zero, List.set_cons_succ]
                                           refine anyZ_ready (rs := [14]) (by kernel_rfl) (by simp) ?_
                                           refine NextZ.cons (o := _) rfl (fun K hK => ?stb23) ?moreb23
                                           case stb23 =>
                                             go_simp
                                             refine hK.out _ _ (.inl rfl) (fun hHeld => ?restb23)
                                             case restb23 =>
                                               clear hK K
                                               try simp only [Act.put, List.setIfInBounds_toArray, List.set_cons_zero, List.set_cons_succ]
                                               refine anyZ_done (by kernel_rfl) ?_ _
                                               have HLZ := Lib.hid (HL9.out)
                                               have HLW := Lib.hid ((show LS g C n cap B wide high (.slice A9 l9 d9) steep _ _ w _ from HL9.out))
                                               have HKZ := Lib.hid ((by omega : K0 + 2 + 2 + 2 ≤ k + 100))
                                               have e0 := HLW.out.box.cell 0 _ rfl
                                               have e1 := HLW.out.box.cell 1 _ rfl
                                               have e2 := HLW.out.box.cell 2 _ rfl
                                               have e3 := HLW.out.box.cell 3 _ rfl
                                               have f0 := HLW.out.res.cell 0 _ rfl
                                               have f1 := HLW.out.res.cell 1 _ rfl
                                               have f2 := HLW.out.res.cell 2 _ rfl
                                               have f3 := HLW.out.res.cell 3 _ rfl
                                               have el := HLW.out.box.lt
                                               have ez := HLW.out.box.fz
                                               have fl := HLW.out.res.lt
                                               have fz := HLW.out.res.fz
                                               have hne : w.heap.size ≠ B := by omega
                                               clear AM
                                               go_wp2
                                               refine bodyPost_ret (v := .agg #[.int .i64 (wide), .int .i64 high, .slice A9 l9 d9, .int .i64 (steep)]) (by simp [results, Try.results42, go_sem, e0, e1, e2, e3, el, f0, f1, f2, f3, fl, hne, hne.symm]) rfl (finL HLZ.out HL99.out hgw (by have := HXL.out; simp only [List.length_append, List.length_cons, List.length_nil]; omega) HKZ.out _ _ _ _)
                                           case moreb23 =>
                                            exact NextZ.nil
                                      case moreb21 =>
                                       exact NextZ.nil
                                  case moreb20 =>
                                   exact NextZ.nil
                             case moreb18 =>
                              exact NextZ.nil
                         case moreb17 =>
                          exact NextZ.nil
                     case moreb16 =>
                      exact NextZ.nil
                case moreb7 =>
                 refine NextZ.cons (o := _) rfl (fun K hK => ?stb24) ?moreb24
                 case stb24 =>
                   go_simp
                   refine hK.out _ _ (.inr ?hSb24) (fun hHeld => ?restb24)
                   case hSb24 => ((try dsimp only); (first | with_reducible exact VarL.quadB HK9.out | (refine VarL.quadB (LS.box (g := g) (C := C) (n := n) (cap := cap) (xs := xs) (w0 := w) (K := K0 + 2 + 2 + 2) ?_); (repeat (first | with_reducible exact HL8.out | with_reducible refine LS.ext ?_ (ext_drew _) | with_reducible refine LS.ext ?_ (ext_alloc _ _))); done) | (refine VarL.quadB (LS.box (g := g) (C := C) (n := n) (cap := cap) (xs := xs) (w0 := w) (K := K0 + 2 + 2) ?_); (repeat (first | with_reducible exact HL7.out | with_reducible refine LS.ext ?_ (ext_drew _) | with_reducible refine LS.ext ?_ (ext_alloc _ _))); done) | (refine VarL.quadB (LS.box (g := g) (C := C) (n := n) (cap := cap) (xs := xs) (w0 := w) (K := K0 + 2) ?_); (repeat (first | with_reducible exact HL6.out | with_reducible refine LS.ext ?_ (ext_drew _) | with_reducible refine LS.ext ?_ (ext_alloc _ _))); done)))
                   case restb24 =>
                     clear hK K
                     replace hHeld := hHeld.resolve_left (by decide)
                     try simp only [Act.put, List.setIfInBounds_toArray, List.set_cons_zero, List.set_cons_succ]
                     refine anyZ_ready (rs := [3]) (by kernel_rfl) (by simp) ?_
                     refine NextZ.cons (o := _) rfl (fun K hK => ?stb25) ?moreb25
                     case stb25 =>
                       go_simp
                       refine hK.out _ _ (.inr ?hSb25) (fun hHeld => ?restb25)
                       case hSb25 => ((try dsimp only); (first | with_reducible exact VarL.quadB HK9.out | (refine VarL.quadB (LS.box (g := g) (C := C) (n := n) (cap := cap) (xs := xs) (w0 := w) (K := K0 + 2 + 2 + 2) ?_); (repeat (first | with_reducible exact HL8.out | with_reducible refine LS.ext ?_ (ext_drew _) | with_reducible refine LS.ext ?_ (ext_alloc _ _))); done) | (refine VarL.quadB (LS.box (g := g) (C := C) (n := n) (cap := cap) (xs := xs) (w0 := w) (K := K0 + 2 + 2) ?_); (repeat (first | with_reducible exact HL7.out | with_reducible refine LS.ext ?_ (ext_drew _) | with_reducible refine LS.ext ?_ (ext_alloc _ _))); done) | (refine VarL.quadB (LS.box (g := g) (C := C) (n := n) (cap := cap) (xs := xs) (w0 := w) (K := K0 + 2) ?_); (repeat (first | with_reducible exact HL6.out | with_reducible refine LS.ext ?_ (ext_drew _) | with_reducible refine LS.ext ?_ (ext_alloc _ _))); done)))
                       case restb25 =>
                         clear hK K
                         replace hHeld := hHeld.resolve_left (by decide)
                         try simp only [Act.put, List.setIfInBounds_toArray, List.set_cons_zero, List.set_cons_succ]
                         refine anyZ_ready (rs := [4]) (by kernel_rfl) (by simp) ?_
                         refine NextZ.cons (o := _) rfl (fun K hK => ?stb26) ?moreb26
                         case stb26 =>
                           ((try go_simp); (go_at_call 43; (with_reducible refine (AM.out [-1, 0, 3] 3 rfl (by decide) (by decide) (K0 + 2) (by omega) _ _ ?_ ?_ ?_).mono ?_); (repeat (first | with_reducible exact HL6.out | with_reducible refine LS.ext ?_ (ext_drew _) | with_reducible refine LS.ext ?_ (ext_alloc _ _))); (repeat (first | with_reducible exact HF2.out | with_reducible exact lit_flo _ _ _ _ rfl | with_reducible exact lit_flo1 _ _ _ _ _ rfl | with_reducible refine FlO.ext ?_ (ext_drew _) | with_reducible refine FlO.ext ?_ (ext_alloc _ _))); (first | omega | (simp; omega)); rintro e w7 ⟨z3, hz3, rfl, hL7, hU7⟩; have HL7 := Lib.hid hL7; have hg7 : g < w7.heap.size := hL7.cur.lt; (try (with_reducible have HF2 := Lib.hid (FlO.touch (HLA.out _) hU7 (.inr hg6s)))); (try (with_reducible have HF2 := Lib.hid (FlO.touch (HLB.out _) hU7 (.inr hg6t)))); clear hL7 hU7 hz3); (try go_wp2_with fail))
                           refine hK.out _ _ (.inr ?hSb26) (fun hHeld => ?restb26)
                           case hSb26 => ((try dsimp only); (first | with_reducible exact VarL.quadB HK9.out | (refine VarL.quadB (LS.box (g := g) (C := C) (n := n) (cap := cap) (xs := xs) (w0 := w) (K := K0 + 2 + 2 + 2) ?_); (repeat (first | with_reducible exact HL8.out | with_reducible refine LS.ext ?_ (ext_drew _) | with_reducible refine LS.ext ?_ (ext_alloc _ _))); done) | (refine VarL.quadB (LS.box (g := g) (C := C) (n := n) (cap := cap) (xs := xs) (w0 := w) (K := K0 + 2 + 2) ?_); (repeat (first | with_reducible exact HL7.out | with_reducible refine LS.ext ?_ (ext_drew _) | with_reducible refine LS.ext ?_ (ext_alloc _ _))); done) | (refine VarL.quadB (LS.box (g := g) (C := C) (n := n) (cap := cap) (xs := xs) (w0 := w) (K := K0 + 2) ?_); (repeat (first | with_reducible exact HL6.out | with_reducible refine LS.ext ?_ (ext_drew _) | with_reducible refine LS.ext ?_ (ext_alloc _ _))); done)))
                           case restb26 =>
                             clear hK K
                             replace hHeld := hHeld.resolve_left (by decide)
                             try simp only [Act.put, List.setIfInBounds_toArray, List.set_cons_zero, List.set_cons_succ]
                             refine anyZ_ready (rs := [9]) (by kernel_rfl) (by simp) ?_
                             refine NextZ.cons (o := _) rfl (fun K hK => ?stb27) ?moreb27
                             case stb27 =>
                               ((try go_simp); (go_at_call 43; (with_reducible refine (AM.out [0, wide, 2] 3 rfl (by simp) (by simp) (K0 + 2 + 2) (by omega) _ _ ?_ ?_ ?_).mono ?_); (repeat (first | with_reducible exact HL7.out | with_reducible refine LS.ext ?_ (ext_drew _) | with_reducible refine LS.ext ?_ (ext_alloc _ _))); (repeat (first | with_reducible exact HF2.out | with_reducible exact lit_flo _ _ _ _ rfl | with_reducible exact lit_flo1 _ _ _ _ _ rfl | with_reducible refine FlO.ext ?_ (ext_drew _) | with_reducible refine FlO.ext ?_ (ext_alloc _ _))); (first | omega | (simp; omega)); rintro e w8 ⟨z4, hz4, rfl, hL8, hU8⟩; have HL8 := Lib.hid hL8; have hg8 : w.heap.size + 1 ≤ w8.heap.size := (by have := hU8.size; have := HL7.out.cur.lt; have := HL7.out.tch.size; have := HL7.out.box.lt; have := hL8.box.lt; omega); clear hL8 hU8 hz4); (try go_wp2_with fail))
                               refine hK.out _ _ (.inr ?hSb27) (fun hHeld => ?restb27)
                               case hSb27 => ((try dsimp only); (first | with_reducible exact VarL.quadB HK9.out | (refine VarL.quadB (LS.box (g := g) (C := C) (n := n) (cap := cap) (xs := xs) (w0 := w) (K := K0 + 2 + 2 + 2) ?_); (repeat (first | with_reducible exact HL8.out | with_reducible refine LS.ext ?_ (ext_drew _) | with_reducible refine LS.ext ?_ (ext_alloc _ _))); done) | (refine VarL.quadB (LS.box (g := g) (C := C) (n := n) (cap := cap) (xs := xs) (w0 := w) (K := K0 + 2 + 2) ?_); (repeat (first | with_reducible exact HL7.out | with_reducible refine LS.ext ?_ (ext_drew _) | with_reducible refine LS.ext ?_ (ext_alloc _ _))); done) | (refine VarL.quadB (LS.box (g := g) (C := C) (n := n) (cap := cap) (xs := xs) (w0 := w) (K := K0 + 2) ?_); (repeat (first | with_reducible exact HL6.out | with_reducible refine LS.ext ?_ (ext_drew _) | with_reducible refine LS.ext ?_ (ext_alloc _ _))); done)))
                               case restb27 =>
                                 clear hK K
                                 replace hHeld := hHeld.resolve_left (by decide)
                                 try simp only [Act.put, List.setIfInBounds_toArray, List.set_cons_zero, List.set_cons_succ]
                                 refine anyZ_take (i := 10) (v := ?vb28) rfl (by kernel_rfl) (by kernel_rfl) (by kernel_rfl) (by kernel_rfl) (fun _ _ _ h => h) (Or.inl ⟨by rfl, ?hyb28⟩) (by assumption) ?restb28
                                 case hyb28 => ((intro w hSw; (try dsimp only at hSw); go_simp) <;> (with_reducible rfl))
                                 case restb28 =>
                                  try simp only [Act.put, List.setIfInBounds_toArray, List.set_cons_zero, List.set_cons_succ]
                                  refine anyZ_ready (rs := [11]) (by kernel_rfl) (by simp) ?_
                                  refine NextZ.cons (o := _) rfl (fun K hK => ?stb29) ?moreb29
                                  case stb29 =>
                                    go_simp
                                    refine hK.out _ _ (.inr ?hSb29) (fun hHeld => ?restb29)
                                    case hSb29 => ((try dsimp only); (first | with_reducible exact VarL.quadB HK9.out | (refine VarL.quadB (LS.box (g := g) (C := C) (n := n) (cap := cap) (xs := xs) (w0 := w) (K := K0 + 2 + 2 + 2) ?_); (repeat (first | with_reducible exact HL8.out | with_reducible refine LS.ext ?_ (ext_drew _) | with_reducible refine LS.ext ?_ (ext_alloc _ _))); done) | (refine VarL.quadB (LS.box (g := g) (C := C) (n := n) (cap := cap) (xs := xs) (w0 := w) (K := K0 + 2 + 2) ?_); (repeat (first | with_reducible exact HL7.out | with_reducible refine LS.ext ?_ (ext_drew _) | with_reducible refine LS.ext ?_ (ext_alloc _ _))); done) | (refine VarL.quadB (LS.box (g := g) (C := C) (n := n) (cap := cap) (xs := xs) (w0 := w) (K := K0 + 2) ?_); (repeat (first | with_reducible exact HL6.out | with_reducible refine LS.ext ?_ (ext_drew _) | with_reducible refine LS.ext ?_ (ext_alloc _ _))); done)))
                                    case restb29 =>
                                      clear hK K
                                      replace hHeld := hHeld.resolve_left (by decide)
                                      try simp only [Act.put, List.setIfInBounds_toArray, List.set_cons_zero, List.set_cons_succ]
                                      refine anyZ_ready (rs := [12]) (by kernel_rfl) (by simp) ?_
                                      refine NextZ.cons (o := _) rfl (fun K hK => ?stb30) ?moreb30
                                      case stb30 =>
                                        (refine step_append_all_at (f := Four.ints) rfl (.tmp 65) (.tmp 75) 24 rfl (w.heap.size + 1) i0 _ 4 32 Try.underlying24 hi hy0 hy1 hy2 rfl (by decide) v xs rfl ?_ (some _) 1 [⟨z3, 0, z4, 0⟩] rfl ?_ (fun _ => rfl) ?_ (by decide) ?_ ?_; (repeat (first | with_reducible exact HL8.out.own | with_reducible refine OwnF.ext ?_ (ext_drew _) | with_reducible refine OwnF.ext ?_ (ext_alloc _ _))); (first | with_reducible exact four_box _ _ _ _ _ _ | with_reducible refine Fl.ext (four_box _ _ _ _ _ _) (ext_drew _)); (have := HXL.out; simp only [List.length_cons, List.length_nil]; omega); (first | omega | (simp; omega)); intro v9 w9 hown9 hg9 hb9 hat9; obtain ⟨A9, d9, hv9, _⟩ := hown9.form Four.ints_length; obtain ⟨l9, hl9⟩ : ∃ z, z = List.length (xs ++ [⟨z3, 0, z4, 0⟩]) := ⟨_, rfl⟩; rw [← hl9] at hv9; subst hv9; have HL99 := Lib.hid hl9; clear hl9; (first | with_reducible have hL9 := LS.app (LS.ext HL8.out (ext_alloc _ _)) hgw hwB hown9 hg9 hb9 hat9 | with_reducible have hL9 := LS.app (LS.ext (LS.ext HL8.out (ext_alloc _ _)) (ext_drew _)) hgw hwB hown9 hg9 hb9 hat9); have HK9 := Lib.hid hL9.1; have HL9 := Lib.hid hL9.2; have k0 := hL9.1.cell 0 _ rfl; have k1 := hL9.1.cell 1 _ rfl; have k2 := hL9.1.cell 2 _ rfl; have k3 := hL9.1.cell 3 _ rfl; have kl := hL9.1.lt; have kz := hL9.1.fz; clear hL9 hown9 hg9 hb9 hat9)
                                        refine hK.out _ _ (.inr ?hSb30) (fun hHeld => ?restb30)
                                        case hSb30 => ((try dsimp only); (first | with_reducible exact VarL.quadB HK9.out | (refine VarL.quadB (LS.box (g := g) (C := C) (n := n) (cap := cap) (xs := xs) (w0 := w) (K := K0 + 2 + 2 + 2) ?_); (repeat (first | with_reducible exact HL8.out | with_reducible refine LS.ext ?_ (ext_drew _) | with_reducible refine LS.ext ?_ (ext_alloc _ _))); done) | (refine VarL.quadB (LS.box (g := g) (C := C) (n := n) (cap := cap) (xs := xs) (w0 := w) (K := K0 + 2 + 2) ?_); (repeat (first | with_reducible exact HL7.out | with_reducible refine LS.ext ?_ (ext_drew _) | with_reducible refine LS.ext ?_ (ext_alloc _ _))); done) | (refine VarL.quadB (LS.box (g := g) (C := C) (n := n) (cap := cap) (xs := xs) (w0 := w) (K := K0 + 2) ?_); (repeat (first | with_reducible exact HL6.out | with_reducible refine LS.ext ?_ (ext_drew _) | with_reducible refine LS.ext ?_ (ext_alloc _ _))); done)))
                                        case restb30 =>
                                          clear hK K
                                          replace hHeld := hHeld.resolve_left (by decide)
                                          try simp only [Act.put, List.setIfInBounds_toArray, List.set_cons_zero, List.set_cons_succ]
                                          refine anyZ_take (i := 13) (v := ?vb31) rfl (by kernel_rfl) (by kernel_rfl) (by kernel_rfl) (by kernel_rfl) (fun _ _ _ h => h) (Or.inl ⟨by rfl, ?hyb31⟩) (by assumption) ?restb31
                                          case hyb31 => ((intro w hSw; (try dsimp only at hSw); go_simp) <;> (with_reducible rfl))
                                          case restb31 =>
                                           try simp only [Act.put, List.setIfInBounds_toArray, List.set_cons_zero, List.set_cons_succ]
                                           refine anyZ_ready (rs := [14]) (by kernel_rfl) (by simp) ?_
                                           refine NextZ.cons (o := _) rfl (fun K hK => ?stb32) ?moreb32
                                           case stb32 =>
                                             go_simp
                                             refine hK.out _ _ (.inl rfl) (fun hHeld => ?restb32)
                                             case restb32 =>
                                               clear hK K
                                               try simp only [Act.put, List.setIfInBounds_toArray, List.set_cons_zero, List.set_cons_succ]
                                               refine anyZ_done (by kernel_rfl) ?_ _
                                               have HLZ := Lib.hid (HL9.out)
                                               have HLW := Lib.hid ((show LS g C n cap B wide high (.slice A9 l9 d9) steep _ _ w _ from HL9.out))
                                               have HKZ := Lib.hid ((by omega : K0 + 2 + 2 + 2 ≤ k + 100))
                                               have e0 := HLW.out.box.cell 0 _ rfl
                                               have e1 := HLW.out.box.cell 1 _ rfl
                                               have e2 := HLW.out.box.cell 2 _ rfl
                                               have e3 := HLW.out.box.cell 3 _ rfl
                                               have f0 := HLW.out.res.cell 0 _ rfl
                                               have f1 := HLW.out.res.cell 1 _ rfl
                                               have f2 := HLW.out.res.cell 2 _ rfl
                                               have f3 := HLW.out.res.cell 3 _ rfl
                                               have el := HLW.out.box.lt
                                               have ez := HLW.out.box.fz
                                               have fl := HLW.out.res.lt
                                               have fz := HLW.out.res.fz
                                               have hne : w.heap.size ≠ B := by omega
                                               clear AM
                                               go_wp2
                                               refine bodyPost_ret (v := .agg #[.int .i64 (wide), .int .i64 high, .slice A9 l9 d9, .int .i64 (steep)]) (by simp [results, Try.results42, go_sem, e0, e1, e2, e3, el, f0, f1, f2, f3, fl, hne, hne.symm]) rfl (finL HLZ.out HL99.out hgw (by have := HXL.out; simp only [List.length_append, List.length_cons, List.length_nil]; omega) HKZ.out _ _ _ _)
                                           case moreb32 =>
                                            exact NextZ.nil
                                      case moreb30 =>
                                       exact NextZ.nil
                                  case moreb29 =>
                                   exact NextZ.nil
                             case moreb27 =>
                              exact NextZ.nil
                         case moreb26 =>
                          exact NextZ.nil
                     case moreb25 =>
                      exact NextZ.nil
                 case moreb24 =>
                  exact NextZ.nil
      · have i10 : (z == 0) = false := by simp [h10]
        obtain ⟨A9, d9, hv9, _⟩ := HL6.out.own.form Four.ints_length
        obtain ⟨l9, hl9⟩ : ∃ z, z = List.length xs := ⟨_, rfl⟩
        rw [← hl9] at hv9
        subst hv9
        have HL99 := Lib.hid hl9
        clear hl9
        by_cases h11 : z = 1
        · subst h11
          go_wp2_with fail
          ((with_reducible refine (AM.out [0, 101] 2 rfl (by decide) (by decide) (K0 + 2) (by omega) _ _ ?_ ?_ ?_).mono ?_); (repeat (first | with_reducible exact HL6.out | with_reducible refine LS.ext ?_ (ext_drew _) | with_reducible refine LS.ext ?_ (ext_alloc _ _))); (repeat (first | with_reducible exact HF2.out | with_reducible exact lit_flo _ _ _ _ rfl | with_reducible exact lit_flo1 _ _ _ _ _ rfl | with_reducible refine FlO.ext ?_ (ext_drew _) | with_reducible refine FlO.ext ?_ (ext_alloc _ _))); (first | omega | (simp; omega)); rintro e w7 ⟨z3, hz3, rfl, hL7, hU7⟩)
          have hL8 := hL7.set hgw hwB (hL7.box.set 3 (.int .i64 z3) (by simp))
          have HLZ := Lib.hid (hL8)
          have HLW := Lib.hid (hL7)
          have HKZ := Lib.hid ((by omega : K0 + 2 + 2 ≤ k + 100))
          have e0 := HLW.out.box.cell 0 _ rfl
          have e1 := HLW.out.box.cell 1 _ rfl
          have e2 := HLW.out.box.cell 2 _ rfl
          have e3 := HLW.out.box.cell 3 _ rfl
          have f0 := HLW.out.res.cell 0 _ rfl
          have f1 := HLW.out.res.cell 1 _ rfl
          have f2 := HLW.out.res.cell 2 _ rfl
          have f3 := HLW.out.res.cell 3 _ rfl
          have el := HLW.out.box.lt
          have ez := HLW.out.box.fz
          have fl := HLW.out.res.lt
          have fz := HLW.out.res.fz
          have hne : w.heap.size ≠ B := by omega
          clear hL7 hL8 hU7 hz3
          go_wp2
          refine bodyPost_ret (v := .agg #[.int .i64 (wide), .int .i64 high, .slice A9 l9 d9, .int .i64 (z3)]) (by simp [results, Try.results42, go_sem, e0, e1, e2, e3, el, f0, f1, f2, f3, fl, hne, hne.symm]) rfl (finL HLZ.out HL99.out hgw (by have := HXL.out; omega) HKZ.out _ _ _ _)
        · have i11 : (z == 1) = false := by simp [h11]
          by_cases h12 : z = 2
          · subst h12
            go_wp2_with fail
            ((with_reducible refine (AM.out [0, 2001] 2 rfl (by decide) (by decide) (K0 + 2) (by omega) _ _ ?_ ?_ ?_).mono ?_); (repeat (first | with_reducible exact HL6.out | with_reducible refine LS.ext ?_ (ext_drew _) | with_reducible refine LS.ext ?_ (ext_alloc _ _))); (repeat (first | with_reducible exact HF2.out | with_reducible exact lit_flo _ _ _ _ rfl | with_reducible exact lit_flo1 _ _ _ _ _ rfl | with_reducible refine FlO.ext ?_ (ext_drew _) | with_reducible refine FlO.ext ?_ (ext_alloc _ _))); (first | omega | (simp; omega)); rintro e w7 ⟨z3, hz3, rfl, hL7, hU7⟩)
            have hL8 := hL7.set hgw hwB (hL7.box.set 0 (.int .i64 z3) (by simp))
            have HLZ := Lib.hid (hL8)
            have HLW := Lib.hid (hL7)
            have HKZ := Lib.hid ((by omega : K0 + 2 + 2 ≤ k + 100))
            have e0 := HLW.out.box.cell 0 _ rfl
            have e1 := HLW.out.box.cell 1 _ rfl
            have e2 := HLW.out.box.cell 2 _ rfl
            have e3 := HLW.out.box.cell 3 _ rfl
            have f0 := HLW.out.res.cell 0 _ rfl
            have f1 := HLW.out.res.cell 1 _ rfl
            have f2 := HLW.out.res.cell 2 _ rfl
            have f3 := HLW.out.res.cell 3 _ rfl
            have el := HLW.out.box.lt
            have ez := HLW.out.box.fz
            have fl := HLW.out.res.lt
            have fz := HLW.out.res.fz
            have hne : w.heap.size ≠ B := by omega
            clear hL7 hL8 hU7 hz3
            go_wp2
            refine bodyPost_ret (v := .agg #[.int .i64 (z3), .int .i64 high, .slice A9 l9 d9, .int .i64 (steep)]) (by simp [results, Try.results42, go_sem, e0, e1, e2, e3, el, f0, f1, f2, f3, fl, hne, hne.symm]) rfl (finL HLZ.out HL99.out hgw (by have := HXL.out; omega) HKZ.out _ _ _ _)
          · have i12 : (z == 2) = false := by simp [h12]
            have HLZ := Lib.hid (HL6.out)
            have HLW := Lib.hid (HL6.out)
            have HKZ := Lib.hid ((by omega : K0 + 2 ≤ k + 100))
            have e0 := HLW.out.box.cell 0 _ rfl
            have e1 := HLW.out.box.cell 1 _ rfl
            have e2 := HLW.out.box.cell 2 _ rfl
            have e3 := HLW.out.box.cell 3 _ rfl
            have f0 := HLW.out.res.cell 0 _ rfl
            have f1 := HLW.out.res.cell 1 _ rfl
            have f2 := HLW.out.res.cell 2 _ rfl
            have f3 := HLW.out.res.cell 3 _ rfl
            have el := HLW.out.box.lt
            have ez := HLW.out.box.fz
            have fl := HLW.out.res.lt
            have fz := HLW.out.res.fz
            have hne : w.heap.size ≠ B := by omega
            clear AM
            go_wp2
            refine bodyPost_ret (v := .agg #[.int .i64 (wide), .int .i64 high, .slice A9 l9 d9, .int .i64 (steep)]) (by simp [results, Try.results42, go_sem, e0, e1, e2, e3, el, f0, f1, f2, f3, fl, hne, hne.symm]) rfl (finL HLZ.out HL99.out hgw (by have := HXL.out; omega) HKZ.out _ _ _ _)
  
end Go.Proofs.Ytlkojpmhniokfaa
