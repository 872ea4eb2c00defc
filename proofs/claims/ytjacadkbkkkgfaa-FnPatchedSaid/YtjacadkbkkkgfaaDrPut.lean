/- The draw of a scan and a tile. No condition. -/
import Derived.Test.YtjacadkbkkkgfaaDrD
import Derived.Test.YtjacadkbkkkgfaaScan17
import Derived.Deep.DeepCutAuto
import Derived.Deep.RegionLaw
namespace Go.Proofs.Ytjacadkbkkkgfaa
open Go.RowKit
set_option linter.unusedVariables false
set_option linter.unusedSimpArgs false

structure DP (g : Nat) (C : Option Addr) (n cap B lo hi : Nat) (r c : Int) (A : Option Addr) (d : Nat) (xs : List Tile) (K : Nat) (w0 w : World) : Prop where
  cur : CurAt g C n cap K w
  box : Var3 w B (.int .i64 r) (.int .i64 c) (.slice A xs.length d)
  fl : FlO Tile.ints 3 lo hi w A xs
  bel : Below w0.heap.size w0 w
  r0 : Var3 w w0.heap.size (.int .i64 0) (.int .i64 0) (.slice none 0 0)
  r1 : Var3 w (w0.heap.size + 1) (.int .i64 0) (.int .i64 0) (.int .i64 0)
  len : xs.length ≤ 40
  s0 : w0.heap.size + 1 < g
  s1 : g < lo
  s2 : hi ≤ B
  s3 : lo ≤ B
theorem DP.ext {g : Nat} {C : Option Addr} {n cap B lo hi : Nat} {r c : Int} {A : Option Addr} {d : Nat} {xs : List Tile} {K : Nat} {w0 w w' : World} (h : DP g C n cap B lo hi r c A d xs K w0 w) (hb : Below w.heap.size w w') : DP g C n cap B lo hi r c A d xs K w0 w' :=
  ⟨h.cur.ext hb, h.box.ext hb, h.fl.ext hb, h.bel.trans (hb.mono h.bel.size), h.r0.ext hb, h.r1.ext hb, h.len, h.s0, h.s1, h.s2, h.s3⟩
theorem DP.draw {g : Nat} {C : Option Addr} {n cap B lo hi : Nat} {r c : Int} {A : Option Addr} {d : Nat} {xs : List Tile} {K K' : Nat} {w0 w w' : World} (h : DP g C n cap B lo hi r c A d xs K w0 w) (hc : CurAt g C n cap K' w') (ht : Touch g (g + 1) w w') : DP g C n cap B lo hi r c A d xs K' w0 w' :=
  ⟨hc, h.box.touch ht (.inr (by have := h.s1; have := h.s3; omega)), h.fl.touch ht (.inr (by have := h.s1; omega)), ht.below h.bel (by have := h.s0; omega), h.r0.touch ht (.inl (by have := h.s0; omega)), h.r1.touch ht (.inl (by have := h.s0; omega)), h.len, h.s0, h.s1, h.s2, h.s3⟩
theorem DP.far {g : Nat} {C : Option Addr} {n cap B lo hi p : Nat} {r c : Int} {A : Option Addr} {d : Nat} {xs : List Tile} {K : Nat} {w0 w w' : World} (h : DP g C n cap B lo hi r c A d xs K w0 w) (ht : Touch p (p + 1) w w') (hp : B < p) : DP g C n cap B lo hi r c A d xs K w0 w' :=
  ⟨h.cur.touch ht (by have := h.s1; have := h.s3; omega), h.box.touch ht (.inl (by omega)), h.fl.touch ht (.inl (by have := h.s2; omega)), ht.below h.bel (by have := h.s0; have := h.s1; have := h.s3; omega), h.r0.touch ht (.inl (by have := h.s0; have := h.s1; have := h.s3; omega)), h.r1.touch ht (.inl (by have := h.s0; have := h.s1; have := h.s3; omega)), h.len, h.s0, h.s1, h.s2, h.s3⟩
theorem pick_dp (m : Int) {g : Nat} {C : Option Addr} {n cap B lo hi : Nat} {r c : Int} {A : Option Addr} {d : Nat} {xs : List Tile} (K : Nat) {w0 w : World} (h : DP g C n cap B lo hi r c A d xs K w0 w) (hk : K ≤ 549755813888) (hn : n ≤ 1099511627776) :
    Calls Try.prog 55 #[.pointer (some ⟨g, 0, none⟩), .int .i64 m] w (fun e w' => ∃ z : Int, e = .returned (.int .i64 z) ∧ DP g C n cap B lo hi r c A d xs (K + 2) w0 w' ∧ Touch g (g + 1) w w') :=
  (pick_any m g C n cap K w h.cur hk hn).mono fun _ _ ⟨_, he, ⟨z, hz, _⟩, hC, hT⟩ => ⟨z, by rw [he, hz], h.draw hC hT, hT⟩
theorem sum_dp {g : Nat} {C : Option Addr} {n cap B lo hi : Nat} {r c : Int} {A : Option Addr} {d : Nat} {xs : List Tile} (K : Nat) {w0 w : World} (h : DP g C n cap B lo hi r c A d xs K w0 w) (hk : K ≤ 549755813888) (hn : n ≤ 1099511627776) :
    Calls Try.prog 60 #[.pointer (some ⟨g, 0, none⟩)] w (fun e w' => ∃ z : Int, e = .returned (.int .i64 z) ∧ DP g C n cap B lo hi r c A d xs (K + 2) w0 w' ∧ Touch g (g + 1) w w') :=
  (sum17_any g C n cap K w h.cur hk hn).mono fun _ _ ⟨_, he, ⟨z, hz, _⟩, hC, hT⟩ => ⟨z, by rw [he, hz], h.draw hC hT, hT⟩
theorem least_any (a b : Int) (w : World) : Calls Try.prog 59 #[.int .i64 a, .int .i64 b] w (fun e w' => ∃ z : Int, e = .returned (.int .i64 z) ∧ w = w') := by
  go_enter Try.func59, Try.ntmps59
  go_wp2
  all_goals go_ret
  all_goals first | exact ⟨⟨a, rfl⟩, rfl⟩ | exact ⟨⟨b, rfl⟩, rfl⟩ | exact ⟨a, rfl, rfl⟩ | exact ⟨b, rfl, rfl⟩
theorem most_any (a b : Int) (w : World) : Calls Try.prog 58 #[.int .i64 a, .int .i64 b] w (fun e w' => ∃ z : Int, e = .returned (.int .i64 z) ∧ w = w') := by
  go_enter Try.func58, Try.ntmps58
  go_wp2
  all_goals go_ret
  all_goals first | exact ⟨⟨a, rfl⟩, rfl⟩ | exact ⟨⟨b, rfl⟩, rfl⟩ | exact ⟨a, rfl, rfl⟩ | exact ⟨b, rfl, rfl⟩
theorem one_dp (m : Int) {g : Nat} {C : Option Addr} {n cap B lo hi : Nat} {r c : Int} {A : Option Addr} {d : Nat} {xs : List Tile} (K : Nat) {w0 w : World} (h : DP g C n cap B lo hi r c A d xs K w0 w) (hk : K ≤ 549755813888) (hn : n ≤ 1099511627776) :
    Calls Try.prog 51 #[.pointer (some ⟨g, 0, none⟩), .int .i64 m] w (fun e w' => ∃ b : Bool, e = .returned (.bool b) ∧ DP g C n cap B lo hi r c A d xs (K + 2) w0 w' ∧ Touch g (g + 1) w w') :=
  (one_any m g C n cap K w h.cur hk hn).mono fun _ _ ⟨_, he, ⟨z, hz⟩, hC, hT⟩ => ⟨z, by rw [he, hz], h.draw hC hT, hT⟩
theorem among_dp (w : World) (ys : List Int) (cs : Array Value) (l : Nat) (hcs : cs = (ys.map (Value.int .i64)).toArray) (hl : l = ys.length) (h1 : 0 < ys.length) (h2 : ys.length ≤ 1048576) {g : Nat} {C : Option Addr} {n cap B lo hi : Nat} {r c : Int} {A : Option Addr} {d : Nat} {xs : List Tile} (K : Nat) {w0 : World} (h : DP g C n cap B lo hi r c A d xs K w0 w) (hk : K ≤ 549755813888) (hn : n ≤ 1099511627776) (e : TypeId) :
    Calls Try.prog 50 #[.pointer (some ⟨g, 0, none⟩), .slice (some ⟨w.heap.size, 0, none⟩) l l] (w.alloc (.cells cs e)) (fun r' w' => ∃ z : Int, r' = .returned (.int .i64 z) ∧ DP g C n cap B lo hi r c A d xs (K + 2) w0 w' ∧ Touch g (g + 1) (w.alloc (.cells cs e)) w') :=
  (among_any (some ⟨w.heap.size, 0, none⟩) l l ys hl w.heap.size (w.heap.size + 1) g C n cap K _ (h.cur.ext (ext_alloc _ _)) hk hn (lit_flo w ys e cs hcs) h1 h2 (.inl h.cur.lt)).mono fun _ _ ⟨_, he, ⟨z, _, hz⟩, hC, hT⟩ => ⟨z, by rw [he, hz], (h.ext (ext_alloc _ _)).draw hC hT, hT⟩
theorem var3_drew (w : World) (a b c : Value) (t : TypeId) : Var3 (w.alloc (.cells #[a, b, c] t)).drew w.heap.size a b c := (var3_box w a b c t).ext (ext_drew _)
/-- what DrawPutTile hands back -/
def PutDr (w : World) (e : Ending) (w' : World) : Prop :=
  ∃ (r c : Int) (A : Option Addr) (d : Nat) (xs : List Tile) (t : Tile), e = .returned (.tuple #[.agg #[.int .i64 r, .int .i64 c, .slice A xs.length d], .agg #[.int .i64 t.row, .int .i64 t.col, .int .i64 t.sum]]) ∧ xs.length ≤ 40 ∧ FlO Tile.ints 3 w.heap.size w'.heap.size w' A xs ∧ Below w.heap.size w w'
theorem finPut {g : Nat} {C : Option Addr} {n cap B lo hi : Nat} {r c : Int} {A : Option Addr} {d : Nat} {xs : List Tile} {K : Nat} {w0 w : World} (h : DP g C n cap B lo hi r c A d xs K w0 w) (a b q : Int) (x y z x' y' z' : Value) :
    PutDr w0 (.returned (.tuple #[.agg #[.int .i64 r, .int .i64 c, .slice A xs.length d], .agg #[.int .i64 a, .int .i64 b, .int .i64 q]])) (World.drew ((((((w.setCell ⟨w0.heap.size, 0, none⟩ x).setCell ⟨w0.heap.size, 1, none⟩ y).setCell ⟨w0.heap.size, 2, none⟩ z).setCell ⟨w0.heap.size + 1, 0, none⟩ x').setCell ⟨w0.heap.size + 1, 1, none⟩ y').setCell ⟨w0.heap.size + 1, 2, none⟩ z')) := by
  have t1 := set3_touch w w0.heap.size x y z
  have t2 := set3_touch (((w.setCell ⟨w0.heap.size, 0, none⟩ x).setCell ⟨w0.heap.size, 1, none⟩ y).setCell ⟨w0.heap.size, 2, none⟩ z) (w0.heap.size + 1) x' y' z'
  have s0 := h.s0
  have s1 := h.s1
  exact ⟨r, c, A, d, xs, ⟨a, b, q⟩, rfl, h.len, ((((h.fl.touch t1 (.inr (by omega))).touch t2 (.inr (by omega))).ext (ext_drew _)).mono (by omega) (Nat.le_trans (show hi ≤ w.heap.size from by have h1 := h.s2; have h2 := h.box.lt; omega) (Nat.le_trans t1.size (Nat.le_trans t2.size (ext_drew _).size)))), (t2.below (t1.below h.bel (Nat.le_refl _)) (by omega)).drew⟩
set_option maxHeartbeats 8000000 in
set_option maxRecDepth 100000 in
theorem drawPutTile_any (A : Option Addr) (n cap : Nat) (w : World) (hA : Bytes w A n) (hn : n ≤ 1099511627776) :
    Calls Try.prog 20 #[.slice A n cap] w (PutDr w) := by
  obtain ⟨V0, hV0, hB0, hz0, hu0, hf0⟩ := box_world w #[Value.int .i64 0, .int .i64 0, .slice none 0 0] 26
  obtain ⟨V1, hV1, hB1, hz1, hu1, hf1⟩ := box_world V0 #[Value.int .i64 0, .int .i64 0, .int .i64 0] 39
  obtain ⟨V2, hV2, hB2, hz2, hu2, hf2⟩ := box_world V1 #[Value.slice A n cap, .int .i64 0, .int .u64 0] 70
  have hC0 : CurAt V1.heap.size A n cap 0 V2 := hV2 ▸ CurAt.start (hA.ext (ext_trans hB0 hB1)) cap _
  obtain ⟨g, hg⟩ : ∃ g, g = V1.heap.size := ⟨_, rfl⟩
  rw [← hg] at hC0
  have hgw : w.heap.size ≤ g := by have := hB0.size; have := hB1.size; omega
  have hT0 : Below w.heap.size w V2 := ext_trans (ext_trans hB0 hB1) hB2
  have HG := Lib.hid hg
  have HN := Lib.hid (size17_any g A n cap 0 V2 hC0 (by omega) hn)
  clear hg hC0 hu0 hf0 hu1 hf1 hu2 hf2
  go_enter Try.func20, Try.ntmps20
  go_wp2_with fail
  rw [← HG.out]
  ((with_reducible refine (HN.out).mono ?_); rintro e w1 ⟨_, rfl, ⟨r, rfl, hr1, hr6⟩, hC1, hT1⟩)
  obtain ⟨R, rfl⟩ : ∃ R : Nat, r = R := ⟨r.toNat, by omega⟩
  have HN2 := Lib.hid (size17_any g A n cap _ w1 hC1 (by omega) hn)
  have HT1 := Lib.hid hT1
  clear hC1 hT1
  go_wp2_with fail
  ((with_reducible refine (HN2.out).mono ?_); rintro e w2 ⟨_, rfl, ⟨q, rfl, hq1, hq6⟩, hC2, hT2⟩)
  obtain ⟨Q, rfl⟩ : ∃ Q : Nat, q = Q := ⟨q.toNat, by omega⟩
  have HN3 := Lib.hid (scan17_any R Q (by omega) (by omega) g A n cap _ w2 hC2 (by omega) hn)
  have HT2 := Lib.hid (HT1.out.trans hT2)
  clear hC2 hT2
  go_wp2_with fail
  ((with_reducible refine (HN3.out).mono ?_); rintro e w3 ⟨sr, sc, SA, sd, xs, rfl, hxl, hF3, hC3, hT3⟩)
  obtain ⟨V6, hV6, hB6, hz6, hu6, hf6⟩ := box_world w3 #[Value.int .i64 sr, .int .i64 sc, .slice SA xs.length sd] 26
  have hv6 : Var3 V6 w3.heap.size (.int .i64 sr) (.int .i64 sc) (.slice SA xs.length sd) := hV6 ▸ var3_box w3 _ _ _ _
  have HT3 := HT2.out.trans hT3
  have hv0 : Var3 V0 w.heap.size (.int .i64 0) (.int .i64 0) (.slice none 0 0) := hV0 ▸ var3_box w _ _ _ _
  have hv1 : Var3 V1 V0.heap.size (.int .i64 0) (.int .i64 0) (.int .i64 0) := hV1 ▸ var3_box V0 _ _ _ _
  have hVs : V0.heap.size = w.heap.size + 1 := by rw [← hV0]; simp
  have HVS := Lib.hid hVs
  have hVt : V1.heap.size = w.heap.size + 2 := by rw [← hV1]; simp [hVs]
  have hge := HG.out
  have hzw : V2.heap.size ≤ w2.heap.size := HT2.out.size
  have hzw3 : w2.heap.size ≤ w3.heap.size := hT3.size
  rw [hVs] at hv1
  have HD := Lib.hid (show DP g A n cap w3.heap.size w2.heap.size w3.heap.size sr sc SA sd xs 404 w V6 from
    ⟨hC3.ext hB6, hv6, hF3.ext hB6, ((HT3.below hT0 (by omega)).trans (hB6.mono (by omega))), ((hv0.ext (ext_trans hB1 hB2)).touch HT3 (.inl (by omega))).ext hB6, ((hv1.ext hB2).touch HT3 (.inl (by omega))).ext hB6, hxl, by omega, by omega, Nat.le_refl _, hzw3⟩)
  obtain ⟨B, hBB⟩ : ∃ B, B = w3.heap.size := ⟨_, rfl⟩
  have HBB := Lib.hid hBB
  clear hC3 hT3 hF3 HT3 hv0 hv1 hv6 hge hVs hVt hV0 hV1 hV2
  go_upto_region 4 with fail
  clear hV6 hu6 hf6
  go_cut [7] from 18 to 30 (fun v wx => ∃ (p : Nat) (t0 t1 t2 : Int), v = .pointer (some ⟨p, 0, none⟩) ∧ DP g A n cap w3.heap.size w2.heap.size w3.heap.size sr sc SA sd xs 410 w wx ∧ Var3 wx p (.int .i64 t0) (.int .i64 t1) (.int .i64 t2) ∧ w3.heap.size < p)
  case first =>
    have hD0 := HD.out
    have q1 := hD0.box.c1
    have ql := hD0.box.lt
    have gw : g + 1 ≤ V6.heap.size := by have h1 := hD0.s1; have h3 := hD0.s3; omega
    clear hD0
    have PK := Lib.hid (fun (m : Int) (K : Nat) (W : World) (h : DP g A n cap w3.heap.size w2.heap.size w3.heap.size sr sc SA sd xs K w W) hk => pick_dp m K h hk hn)
    have SK := Lib.hid (fun (K : Nat) (W : World) (h : DP g A n cap w3.heap.size w2.heap.size w3.heap.size sr sc SA sd xs K w W) hk => sum_dp K h hk hn)
    clear hA hB0 hB1 hB2 hT0 HG HN HN2 HN3 HT1 HT2 hzw hzw3 hz0 hz1 hz2 hgw hB6 hr1 hr6 hq1 hq6
    go_region_held3 (fun w' => World.cell? w' ⟨w3.heap.size, 1, none⟩ = some (.int .i64 sc)) (first | with_reducible exact q1 | with_reducible exact bx1 | with_reducible exact cx1 | with_reducible exact dx1 | with_reducible exact (HD.out.ext (ext_drew _)).box.c1 | with_reducible exact ((HD.out.ext (ext_alloc _ _)).ext (ext_drew _)).box.c1 | with_reducible exact (HDb.out.ext (ext_alloc _ _)).box.c1 | with_reducible exact (HDc.out.ext (ext_alloc _ _)).box.c1 | with_reducible exact (HDd.out.ext (ext_alloc _ _)).box.c1 | (with_reducible refine (HDd.out.far (set3_touch _ _ _ _ _) ?_).box.c1; omega) | (with_reducible refine ((HDd.out.ext (ext_alloc _ _)).far (set3_touch _ _ _ _ _) ?_).box.c1; omega)) (first | (go_at_call 55; (with_reducible refine (PK.out _ 406 _ ?_ (by decide)).mono ?_); (first | with_reducible exact HDb.out | with_reducible exact HDb.out.ext (ext_alloc _ _)); rintro e w8 ⟨z2, rfl, hDc, hTc⟩; have cx1 := hDc.box.c1; have cx2 := hDc.box.lt; have gc : g + 1 ≤ w8.heap.size := (by have h := hTc.size; (try simp at h); omega); (try (with_reducible have tc := tb.touch hTc (.inr gw); have tc0 := tc.c0; have tc1 := tc.c1; have tc2 := tc.c2; have tcz := tc.fz; have tcl := tc.lt)); (try (with_reducible have tc : Var3 w8 w7.heap.size (.int .i64 0) (.int .i64 0) (.int .i64 0) := (var3_box w7 _ _ _ _).touch hTc (.inr gb); have tc0 := tc.c0; have tc1 := tc.c1; have tc2 := tc.c2; have tcz := tc.fz; have tcl := tc.lt)); have HDc := Lib.hid hDc; clear hDc) | (go_at_call 55; (with_reducible refine (PK.out _ 404 _ ?_ (by decide)).mono ?_); (first | with_reducible exact HD.out.ext (ext_drew _) | with_reducible exact (HD.out.ext (ext_alloc _ _)).ext (ext_drew _)); rintro e w7 ⟨z1, rfl, hDb, hTb⟩; have bx1 := hDb.box.c1; have bx2 := hDb.box.lt; have gb : g + 1 ≤ w7.heap.size := (by have h := hTb.size; (try simp at h); omega); (try (with_reducible have tb : Var3 w7 V6.heap.size (.int .i64 0) (.int .i64 0) (.int .i64 0) := (var3_drew V6 _ _ _ _).touch hTb (.inr gw); have tb0 := tb.c0; have tb1 := tb.c1; have tb2 := tb.c2; have tbz := tb.fz; have tbl := tb.lt)); have HDb := Lib.hid hDb; clear hDb) | (go_at_call 59; (with_reducible refine (least_any _ _ _).mono ?_); rintro e _ ⟨zl, rfl, rfl⟩) | (go_at_call 58; (with_reducible refine (most_any _ _ _).mono ?_); rintro e _ ⟨zm, rfl, rfl⟩) | (go_at_call 60; (with_reducible refine (SK.out 408 _ ?_ (by decide)).mono ?_); (first | with_reducible exact HDc.out | with_reducible exact HDc.out.ext (ext_alloc _ _)); rintro e w9 ⟨z3, rfl, hDd, hTd⟩; have dx1 := hDd.box.c1; have dx2 := hDd.box.lt; have gd : g + 1 ≤ w9.heap.size := (by have h := hTd.size; (try simp at h); omega); (try (with_reducible have td := tc.touch hTd (.inr gw); have td0 := td.c0; have td1 := td.c1; have td2 := td.c2; have tdz := td.fz; have tdl := td.lt)); (try (with_reducible have td := tc.touch hTd (.inr gb); have td0 := td.c0; have td1 := td.c1; have td2 := td.c2; have tdz := td.fz; have tdl := td.lt)); (try (with_reducible have td : Var3 w9 w8.heap.size (.int .i64 0) (.int .i64 0) (.int .i64 0) := (var3_box w8 _ _ _ _).touch hTd (.inr gc); have td0 := td.c0; have td1 := td.c1; have td2 := td.c2; have tdz := td.fz; have tdl := td.lt)); have HDd := Lib.hid hDd; clear hDd))
    all_goals (go_wp2_with fail)
    all_goals go_meet
    all_goals first
      | exact ⟨_, z1, z2, z3, rfl, HDd.out.far (set3_touch _ _ _ _ _) (by omega), ((td.set0 _).set1 _).set2 _, by omega⟩
      | exact ⟨_, z1, z2, z3, rfl, HDd.out.ext (ext_alloc _ _), var3_box _ _ _ _ _, by omega⟩
  case rest =>
    obtain ⟨p, t0, t1, t2, rfl, hD, hv, hp⟩ := hcut
    have HD1 := Lib.hid hD
    have HV1 := Lib.hid hv
    have HO0 := Lib.hid (one_dp 8 410 hD (by decide) hn)
    clear hD hv
    go_wp2_with fail
    ((with_reducible refine (HO0.out).mono ?_); rintro e wa ⟨b0, rfl, hE0, hU0⟩)
    have HE0 := Lib.hid hE0
    have HW0 := Lib.hid (HV1.out.touch hU0 (.inr (by have := HD1.out.s1; have := HD1.out.s3; omega)))
    clear hE0 hU0
    cases b0
    · have HO1 := Lib.hid (one_dp 14 412 HE0.out (by decide) hn)
      go_wp2_with fail
      ((with_reducible refine (HO1.out).mono ?_); rintro e wo1 ⟨b1, rfl, hE1, hU1⟩)
      have HE1 := Lib.hid hE1
      have HW1 := Lib.hid (HW0.out.touch hU1 (.inr (by have := HE0.out.s1; have := HE0.out.s3; omega)))
      clear hE1 hU1
      cases b1
      · have d0 := HE1.out.box.c0
        have d1 := HE1.out.box.c1
        have d2 := HE1.out.box.c2
        have dz := HE1.out.box.fz
        have dl := HE1.out.box.lt
        have e0 := HW1.out.c0
        have e1 := HW1.out.c1
        have e2 := HW1.out.c2
        have ez := HW1.out.fz
        have el := HW1.out.lt
        have f0 := HE1.out.r0.c0
        have f1 := HE1.out.r0.c1
        have f2 := HE1.out.r0.c2
        have fz := HE1.out.r0.fz
        have fl := HE1.out.r0.lt
        have h0 := HE1.out.r1.c0
        have h1 := HE1.out.r1.c1
        have h2 := HE1.out.r1.c2
        have hz := HE1.out.r1.fz
        have hl := HE1.out.r1.lt
        rw [HVS.out] 
        go_wp2_with fail
        go_region
        all_goals (go_wp2_with fail)
        all_goals (refine bodyPost_ret (v := .tuple #[.agg #[.int .i64 sr, .int .i64 sc, .slice SA xs.length sd], .agg #[.int .i64 t0, .int .i64 t1, .int .i64 t2]]) (by simp [results, Try.results20, go_sem, f0, f1, f2, fl, h0, h1, h2, hl]) rfl (finPut HE1.out _ _ _ _ _ _ _ _ _))
      · have hl1 := HE1.out.cur.lt
        have HL1 := Lib.hid (among_dp wo1 [-1, 65521] #[.int .i64 (-1), .int .i64 65521] 2 rfl rfl (by decide) (by decide) 414 HE1.out (by decide) hn 3)
        have HX1 := Lib.hid (HW1.out.ext (ext_alloc wo1 (.cells #[.int .i64 (-1), .int .i64 65521] 3)))
        go_wp2_with fail
        ((with_reducible refine (HL1.out).mono ?_); rintro e wp1 ⟨y1, rfl, hF1, hR1⟩)
        have hY1 := HX1.out.touch hR1 (.inr (by have := HE0.out.s1; have := HE0.out.s3; omega))
        have e0 := hY1.c0
        have e1 := hY1.c1
        have e2 := hY1.c2
        have ez := hY1.fz
        have el := hY1.lt
        have HY1 := Lib.hid (hY1.set2 (.int .i64 y1))
        have HF1 := Lib.hid (hF1.far (Touch.of_set wp1 ⟨p, 2, none⟩ (.int .i64 y1) (Nat.le_refl _) (Nat.lt_succ_self _)) hp)
        clear hY1 hF1 hR1
        obtain ⟨wq1, hwq1⟩ : ∃ z, z = wp1.setCell ⟨p, 2, none⟩ (.int .i64 y1) := ⟨_, rfl⟩
        rw [← hwq1] at HY1 HF1
        go_upto_region 9 with fail
        rw [← hwq1]
        clear hwq1 e0 e1 e2 ez el
        have d0 := HF1.out.box.c0
        have d1 := HF1.out.box.c1
        have d2 := HF1.out.box.c2
        have dz := HF1.out.box.fz
        have dl := HF1.out.box.lt
        have e0 := HY1.out.c0
        have e1 := HY1.out.c1
        have e2 := HY1.out.c2
        have ez := HY1.out.fz
        have el := HY1.out.lt
        have f0 := HF1.out.r0.c0
        have f1 := HF1.out.r0.c1
        have f2 := HF1.out.r0.c2
        have fz := HF1.out.r0.fz
        have fl := HF1.out.r0.lt
        have h0 := HF1.out.r1.c0
        have h1 := HF1.out.r1.c1
        have h2 := HF1.out.r1.c2
        have hz := HF1.out.r1.fz
        have hl := HF1.out.r1.lt
        rw [HVS.out] 
        go_wp2_with fail
        go_region
        all_goals (go_wp2_with fail)
        all_goals (refine bodyPost_ret (v := .tuple #[.agg #[.int .i64 sr, .int .i64 sc, .slice SA xs.length sd], .agg #[.int .i64 t0, .int .i64 t1, .int .i64 y1]]) (by simp [results, Try.results20, go_sem, f0, f1, f2, fl, h0, h1, h2, hl]) rfl (finPut HF1.out _ _ _ _ _ _ _ _ _))
    · have hl0 := HE0.out.cur.lt
      have HL0 := Lib.hid (among_dp wa [-1, (R : Int)] #[.int .i64 (-1), .int .i64 (R : Int)] 2 rfl rfl (by simp) (by simp) 412 HE0.out (by decide) hn 3)
      have HX0 := Lib.hid (HW0.out.ext (ext_alloc wa (.cells #[.int .i64 (-1), .int .i64 (R : Int)] 3)))
      go_wp2_with fail
      ((with_reducible refine (HL0.out).mono ?_); rintro e wp0 ⟨y0, rfl, hF0, hR0⟩)
      have hY0 := HX0.out.touch hR0 (.inr (by have := HE0.out.s1; have := HE0.out.s3; omega))
      have e0 := hY0.c0
      have e1 := hY0.c1
      have e2 := hY0.c2
      have ez := hY0.fz
      have el := hY0.lt
      have HV0 := Lib.hid (hY0.set0 (.int .i64 y0))
      have HG0 := Lib.hid (hF0.far (Touch.of_set wp0 ⟨p, 0, none⟩ (.int .i64 y0) (Nat.le_refl _) (Nat.lt_succ_self _)) hp)
      clear hY0 hF0 hR0
      obtain ⟨wq0, hwq0⟩ : ∃ z, z = wp0.setCell ⟨p, 0, none⟩ (.int .i64 y0) := ⟨_, rfl⟩
      rw [← hwq0] at HV0 HG0
      go_upto_region 7 with fail
      rw [← hwq0]
      clear hwq0 e0 e1 e2 ez el
      have HO2 := Lib.hid (one_dp 14 414 HG0.out (by decide) hn)
      go_wp2_with fail
      ((with_reducible refine (HO2.out).mono ?_); rintro e wo2 ⟨b2, rfl, hE2, hU2⟩)
      have HE2 := Lib.hid hE2
      have HW2 := Lib.hid (HV0.out.touch hU2 (.inr (by have := HG0.out.s1; have := HG0.out.s3; omega)))
      clear hE2 hU2
      cases b2
      · have d0 := HE2.out.box.c0
        have d1 := HE2.out.box.c1
        have d2 := HE2.out.box.c2
        have dz := HE2.out.box.fz
        have dl := HE2.out.box.lt
        have e0 := HW2.out.c0
        have e1 := HW2.out.c1
        have e2 := HW2.out.c2
        have ez := HW2.out.fz
        have el := HW2.out.lt
        have f0 := HE2.out.r0.c0
        have f1 := HE2.out.r0.c1
        have f2 := HE2.out.r0.c2
        have fz := HE2.out.r0.fz
        have fl := HE2.out.r0.lt
        have h0 := HE2.out.r1.c0
        have h1 := HE2.out.r1.c1
        have h2 := HE2.out.r1.c2
        have hz := HE2.out.r1.fz
        have hl := HE2.out.r1.lt
        rw [HVS.out] 
        go_wp2_with fail
        go_region
        all_goals (go_wp2_with fail)
        all_goals (refine bodyPost_ret (v := .tuple #[.agg #[.int .i64 sr, .int .i64 sc, .slice SA xs.length sd], .agg #[.int .i64 y0, .int .i64 t1, .int .i64 t2]]) (by simp [results, Try.results20, go_sem, f0, f1, f2, fl, h0, h1, h2, hl]) rfl (finPut HE2.out _ _ _ _ _ _ _ _ _))
      · have hl2 := HE2.out.cur.lt
        have HL2 := Lib.hid (among_dp wo2 [-1, 65521] #[.int .i64 (-1), .int .i64 65521] 2 rfl rfl (by decide) (by decide) 416 HE2.out (by decide) hn 3)
        have HX2 := Lib.hid (HW2.out.ext (ext_alloc wo2 (.cells #[.int .i64 (-1), .int .i64 65521] 3)))
        go_wp2_with fail
        ((with_reducible refine (HL2.out).mono ?_); rintro e wp2 ⟨y2, rfl, hF2, hR2⟩)
        have hY2 := HX2.out.touch hR2 (.inr (by have := HG0.out.s1; have := HG0.out.s3; omega))
        have e0 := hY2.c0
        have e1 := hY2.c1
        have e2 := hY2.c2
        have ez := hY2.fz
        have el := hY2.lt
        have HY2 := Lib.hid (hY2.set2 (.int .i64 y2))
        have HF2 := Lib.hid (hF2.far (Touch.of_set wp2 ⟨p, 2, none⟩ (.int .i64 y2) (Nat.le_refl _) (Nat.lt_succ_self _)) hp)
        clear hY2 hF2 hR2
        obtain ⟨wq2, hwq2⟩ : ∃ z, z = wp2.setCell ⟨p, 2, none⟩ (.int .i64 y2) := ⟨_, rfl⟩
        rw [← hwq2] at HY2 HF2
        go_upto_region 9 with fail
        rw [← hwq2]
        clear hwq2 e0 e1 e2 ez el
        have d0 := HF2.out.box.c0
        have d1 := HF2.out.box.c1
        have d2 := HF2.out.box.c2
        have dz := HF2.out.box.fz
        have dl := HF2.out.box.lt
        have e0 := HY2.out.c0
        have e1 := HY2.out.c1
        have e2 := HY2.out.c2
        have ez := HY2.out.fz
        have el := HY2.out.lt
        have f0 := HF2.out.r0.c0
        have f1 := HF2.out.r0.c1
        have f2 := HF2.out.r0.c2
        have fz := HF2.out.r0.fz
        have fl := HF2.out.r0.lt
        have h0 := HF2.out.r1.c0
        have h1 := HF2.out.r1.c1
        have h2 := HF2.out.r1.c2
        have hz := HF2.out.r1.fz
        have hl := HF2.out.r1.lt
        rw [HVS.out] 
        go_wp2_with fail
        go_region
        all_goals (go_wp2_with fail)
        all_goals (refine bodyPost_ret (v := .tuple #[.agg #[.int .i64 sr, .int .i64 sc, .slice SA xs.length sd], .agg #[.int .i64 y0, .int .i64 t1, .int .i64 y2]]) (by simp [results, Try.results20, go_sem, f0, f1, f2, fl, h0, h1, h2, hl]) rfl (finPut HF2.out _ _ _ _ _ _ _ _ _))
end Go.Proofs.Ytjacadkbkkkgfaa
