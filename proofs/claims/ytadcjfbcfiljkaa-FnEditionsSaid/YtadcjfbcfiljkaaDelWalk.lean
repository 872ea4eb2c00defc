/- slices.DeleteFunc over editions that the call itself has made: the walk. -/
import Derived.Test.YtadcjfbcfiljkaaDelEd
namespace Go.Proofs.Ytadcjfbcfiljkaa
open Go.RowKit
set_option linter.unusedVariables false
set_option linter.unusedSimpArgs false

theorem zero_ed : ∀ w, (zeroValue 53).run Try.prog w = .ok (.agg #[.int .i64 0, .int .i64 0, .int .i64 0, .slice none 0 0]) w := fun w => by
  obtain ⟨i0, hi, hz0, _, _⟩ := info_parts infoEdition
  simp [zeroValue, typeInfo, hi, hz0]
set_option maxHeartbeats 2000000 in
set_option maxRecDepth 100000 in
theorem deleteEd_any (sheet cnt : Int) (b1 b2 lo : Nat) (v : Value) (ys : List (GV Nest)) (w : World) (hlen : ys.length ≤ 16777216) (hlo : lo ≤ w.heap.size) (hown : OwnG hdN Nest.l 3 lo 53 3 w v ys) (hb1 : b1 < lo) (hb2 : b2 < lo)
    (h1 : w.cell? ⟨b1, 0, none⟩ = some (.int .i64 sheet)) (h2 : w.cell? ⟨b2, 0, none⟩ = some (.int .i64 cnt)) :
    Calls Try.prog 37 #[v, .func (.func 38) #[] #[.pointer (some ⟨b1, 0, none⟩), .pointer (some ⟨b2, 0, none⟩)]] w fun e w' =>
      ∃ v' zs, e = .returned v' ∧ OwnG hdN Nest.l 3 lo 53 3 w' v' zs ∧ zs.map GV.x = (ys.map GV.x).filter (fun x => !delB sheet cnt x) ∧ Below lo w w' := by
  obtain ⟨A0, cp, hv0, hcap0, hcm0, hG⟩ := hown.full (fun _ => rfl) (by decide)
  have hidx := idxDel_any A0 cp (ys.map GV.x) sheet cnt b1 b2 w (by rw [List.length_map]; exact hlen) hG.n.nl (by omega) (by omega) h1 h2
  rw [List.length_map] at hidx hv0
  obtain ⟨n, hnn⟩ : ∃ n, n = List.length ys := ⟨_, rfl⟩
  rw [← hnn] at hidx hv0
  have hN := Lib.hid hnn
  have HI := Lib.hid hidx
  have HO := Lib.hid hown
  have HV := Lib.hid hv0
  clear hidx hcap0 hG hown hnn
  subst hv0
  go_enter Try.func37, Try.ntmps37
  go_wp2_with fail
  refine (HI.out).mono ?_
  rintro e w1 ⟨r, rfl, hr, hb1'⟩
  rcases hr with ⟨j, y, rfl, hy, hd, hall⟩ | ⟨rfl, hall⟩
  · have hmap : ∀ {i : Nat} {x : Nest}, (ys.map GV.x)[i]? = some x → ∃ z, ys[i]? = some z ∧ z.x = x := fun {i x} hx => by
      rw [List.getElem?_map] at hx
      rcases hz : ys[i]? with _ | z
      · rw [hz] at hx; cases hx
      · rw [hz] at hx; cases hx; exact ⟨z, rfl, rfl⟩
    obtain ⟨yj, hyj, rfl⟩ := hmap hy
    have hjn : j < n := by rw [hN.out]; exact lt_of_get hyj
    obtain ⟨g, hA0, hgl, hblk, hB0, hcapn⟩ : ∃ g, A0 = some ⟨g, 0, none⟩ ∧ lo ≤ g ∧ (∃ cur : Array Value, w.heap[g]? = some (.cells cur 53 (0, 0)) ∧ cur.size = cp * 4) ∧ (∀ (m : Nat) (z : GV Nest), ys[m]? = some z → NAt w g (m * 4) z.x z.A z.d) ∧ n ≤ cp := by
      rcases HO.out.out.2 with ⟨hv, h0⟩ | ⟨g, cap, cur, hv, hg, hh, hnc, hcm, hcs, htk⟩
      · rw [← hN.out] at h0; omega
      · injection hv with e1 e2 e3
        subst e1 e3
        refine ⟨g, rfl, hg, ⟨cur, hh, hcs⟩, fun m z hz => ?_, by rw [hN.out]; exact hnc⟩
        have hc : ∀ q u, (z.cells hdN Nest.l)[q]? = some u → w.cell? ⟨g, m * 4 + q, none⟩ = some u := fun q u hq => by
          have hr := rowG_get (hd := hdN) (tl := Nest.l) (p := 3) (fun _ => rfl) ys m z hz q u hq
          rw [cell_of_row w g _ cur 53 (0, 0) hh]
          rw [← htk, List.getElem?_take] at hr
          split at hr
          · simpa using hr
          · cases hr
        exact ⟨hc 0 _ rfl, hc 1 _ rfl, hc 2 _ rfl, hc 3 _ rfl⟩
    subst hA0
    have hcm1 : cp ≤ maxLen := by
      rcases HO.out.out.2 with ⟨hv, h0⟩ | ⟨g', cap, cur, hv, hg, hh, hnc, hcm, hcs, htk⟩
      · cases hv
      · simp only [Value.slice.injEq] at hv
        obtain ⟨_, _, e3⟩ := hv
        omega
    have hgw : g < w.heap.size := by
      obtain ⟨cur, hc, _⟩ := hblk
      rcases Nat.lt_or_ge g w.heap.size with hlt | hge
      · exact hlt
      · rw [Array.getElem?_eq_none hge] at hc; cases hc
    have hS0 : DelSt g cp 53 ys (ys.take j) (j + 1) w w1 := by
      have h0 : DelSt g cp 53 ys (ys.take j) (j + 1) w w := ⟨hblk, (fun m z hz => by
        rw [List.getElem?_take] at hz
        split at hz
        · exact hB0 m z hz
        · cases hz), fun m z _ hz => hB0 m z hz, Touch.refl _ _ _⟩
      exact h0.ext hb1'
    have hz0 : ys.take j = (ys.take (j + 1)).filter fun z => !delB sheet cnt z.x := by
      rw [take_get hyj, List.filter_append, List.filter_cons_of_neg (by rw [hd]; simp), List.filter_nil, List.append_nil, Eq.comm, List.filter_eq_self]
      intro z hz
      obtain ⟨i, hi⟩ := List.mem_iff_getElem?.1 hz
      have hij := lt_of_get hi
      rw [List.length_take] at hij
      rw [List.getElem?_take] at hi
      split at hi
      · rw [hall i z.x (by omega) (by rw [List.getElem?_map, hi]; rfl)]; rfl
      · cases hi
    have HZ0 := Lib.hid hz0
    have hjl : (ys.take j).length = j := by rw [List.length_take, ← hN.out]; omega
    have hnb : ∀ (wr : World), Touch g (g + 1) w wr → wr.cell? ⟨b1, 0, none⟩ = some (.int .i64 sheet) ∧ wr.cell? ⟨b2, 0, none⟩ = some (.int .i64 cnt) := fun wr hT => ⟨(hT.cell (by omega) (by omega)).trans h1, (hT.cell (by omega) (by omega)).trans h2⟩
    have HNB := Lib.hid hnb
    have hjne : ((j : Int) == -1) = false := by rw [beq_eq_false_iff_ne]; omega
    clear hall hy hd hmap hB0 hblk hz0 hnb h1 h2
    go_wp2
    go_loopw [5, 6] (fun i q wr => ∃ (jj : Nat) (zs : List (GV Nest)), jj ≤ n ∧ q = .int .i64 jj ∧ i = .int .i64 zs.length ∧ zs.length < jj ∧ Hid (zs = (ys.take jj).filter fun z => !delB sheet cnt z.x) ∧ DelSt g cp 53 ys zs jj w wr) (fun _ q _ => n - (intOf q).toNat)
    case atStart => exact ⟨j + 1, ys.take j, by omega, by go_num, by rw [hjl], by omega, HZ0.out, hS0⟩
    case round =>
      clear hS0 hjl HZ0
      obtain ⟨jj, zs, hjj, rfl, rfl, hzl, hzs, hS⟩ := hrel
      by_cases hlt : jj < n
      · obtain ⟨x, hx⟩ : ∃ x, ys[jj]? = some x := ⟨_, List.getElem?_eq_getElem (by rw [← hN.out]; exact hlt)⟩
        have hc := hS.B jj x (Nat.le_refl _) hx
        have c0 : World.cell? wr ⟨g, jj * 4, none⟩ = some (.int .i64 x.x.a) := hc.ca
        have c1 : World.cell? wr ⟨g, jj * 4 + 1, none⟩ = some (.int .i64 x.x.b) := hc.cb
        have c2 : World.cell? wr ⟨g, jj * 4 + 2, none⟩ = some (.int .i64 x.x.c) := hc.cc
        have c3 : World.cell? wr ⟨g, jj * 4 + 3, none⟩ = some (.slice x.A x.x.l.length x.d) := hc.cl
        have hgr := hS.lt
        obtain ⟨W0, hW0, hB0, hz0', hg, hfz⟩ := box_world wr #[Value.int .i64 x.x.a, .int .i64 x.x.b, .int .i64 x.x.c, .slice x.A x.x.l.length x.d] 53
        have g0 : World.cell? W0 ⟨wr.heap.size, 0, none⟩ = some (.int .i64 x.x.a) := hg 0
        have g1 : World.cell? W0 ⟨wr.heap.size, 1, none⟩ = some (.int .i64 x.x.b) := hg 1
        have g2 : World.cell? W0 ⟨wr.heap.size, 2, none⟩ = some (.int .i64 x.x.c) := hg 2
        have g3 : World.cell? W0 ⟨wr.heap.size, 3, none⟩ = some (.slice x.A x.x.l.length x.d) := hg 3
        have hSW := hS.ext hB0
        have hnb := HNB.out W0 hSW.touch
        have hsw := hSW.touch.size
        have HX := Lib.hid hx
        clear hc hx hg
        have hk0 : (0 : Int) ≤ (jj : Int) := by omega
        have hk1 : (jj : Int) < (n : Int) := by omega
        go_wp2_with fail
        refine (delEd_any x.x x.A x.d sheet cnt b1 b2 W0 (by omega) (by omega) hnb.1 hnb.2).mono ?_
        rintro e w2 ⟨rfl, hb2'⟩
        have hS2 := hSW.ext hb2'
        have k0 : World.cell? w2 ⟨wr.heap.size, 0, none⟩ = some (.int .i64 x.x.a) := (hb2'.cell (p := ⟨wr.heap.size, 0, none⟩) hz0').trans g0
        have k1 : World.cell? w2 ⟨wr.heap.size, 1, none⟩ = some (.int .i64 x.x.b) := (hb2'.cell (p := ⟨wr.heap.size, 1, none⟩) hz0').trans g1
        have k2 : World.cell? w2 ⟨wr.heap.size, 2, none⟩ = some (.int .i64 x.x.c) := (hb2'.cell (p := ⟨wr.heap.size, 2, none⟩) hz0').trans g2
        have k3 : World.cell? w2 ⟨wr.heap.size, 3, none⟩ = some (.slice x.A x.x.l.length x.d) := (hb2'.cell (p := ⟨wr.heap.size, 3, none⟩) hz0').trans g3
        clear g0 g1 g2 g3 hnb
        rcases hd : delB sheet cnt x.x with _ | _
        · have HD := Lib.hid hd
          have hK := hS2.keep HX.out (by omega) (by omega)
          have hzs' : Hid (zs ++ [x] = (ys.take (jj + 1)).filter fun z => !delB sheet cnt z.x) := by
            unfold Hid
            rw [take_get HX.out, List.filter_append, ← hzs.out, List.filter_cons_of_pos (by rw [HD.out]; rfl), List.filter_nil]
          have hf2 := hS2.frozen
          obtain ⟨L, hL⟩ : ∃ L, L = zs.length := ⟨_, rfl⟩
          rw [← hL] at hK hzl ⊢
          have hLc : L * 4 + 3 < cp * 4 := by omega
          obtain ⟨u0, z0⟩ : ∃ u, World.cell? w2 ⟨g, L * 4, none⟩ = some u := hS2.there (by omega)
          obtain ⟨u1, z1⟩ : ∃ u, World.cell? w2 ⟨g, L * 4 + 1, none⟩ = some u := hS2.there (by omega)
          obtain ⟨u2, z2⟩ : ∃ u, World.cell? w2 ⟨g, L * 4 + 2, none⟩ = some u := hS2.there (by omega)
          obtain ⟨u3, z3⟩ : ∃ u, World.cell? w2 ⟨g, L * 4 + 3, none⟩ = some u := hS2.there (by omega)
          have hl0 : (0 : Int) ≤ (L : Int) := by omega
          have hl1 : (L : Int) < (n : Int) := by omega
          have HL := Lib.hid hL
          have HK := Lib.hid hK
          clear hd hL hK hS2 hS hSW
          go_wp2
          go_roundw
          case rel => exact ⟨jj + 1, zs ++ [x], by omega, by go_num, by rw [List.length_append, ← HL.out]; go_num, by rw [List.length_append, ← HL.out]; simp; omega, hzs', (HK.out : DelSt _ _ _ _ _ _ _ (setRow w2 g (L * 4) _))⟩
          case measure => simp [intOf]; omega
        · have HD := Lib.hid hd
          have hzs' : Hid (zs = (ys.take (jj + 1)).filter fun z => !delB sheet cnt z.x) := by
            unfold Hid
            rw [take_get HX.out, List.filter_append, ← hzs.out, List.filter_cons_of_neg (by rw [HD.out]; simp), List.filter_nil, List.append_nil]
          clear hd
          go_wp2
          go_roundw
          case rel => exact ⟨jj + 1, zs, by omega, by go_num, rfl, by omega, hzs', hS2.skip⟩
          case measure => simp [intOf]; omega
      · have hkn : jj = n := by omega
        subst hkn
        obtain ⟨vs, hvl, hcl⟩ := run_clear_rows (P := Try.prog) wr 24 53 _ Try.underlying24 zero_ed (by simp [Value.cells, Value.oneCell']) (by decide) g (zs.length * 4) (jj - zs.length) (cp - zs.length) (by omega)
          (fun q hq => by
            have hq' : q < (jj - zs.length) * 4 := hq
            obtain ⟨u, hu⟩ := hS.there (j := zs.length * 4 + q) (by omega)
            rw [hu]; rfl) (fun q hq => hS.frozen _)
        obtain ⟨L, hL⟩ : ∃ L, L = zs.length := ⟨_, rfl⟩
        rw [← hL] at hcl hvl hzl ⊢
        have hl0 : (0 : Int) ≤ (L : Int) := by omega
        have hl1 : (L : Int) < (jj : Int) := by omega
        have hl2 : (L : Int) ≤ (cp : Int) := by omega
        have hl3 : (L : Int) ≤ (jj : Int) := by omega
        have HL := Lib.hid hL
        have HVL := Lib.hid hvl
        clear hL hvl
        have HCL := hcl
        go_wp2
        rw [setCells_setRow]
        have hT : Touch g (g + 1) w (setRow wr g (L * 4) vs) := hS.touch.trans (setRow_touch g (Nat.le_refl g) (Nat.lt_succ_self g) vs wr (L * 4))
        have hA : ∀ (m : Nat) (y : GV Nest), zs[m]? = some y → NAt (setRow wr g (L * 4) vs) g (m * 4) y.x y.A y.d := fun m y hy => by
          have hm := lt_of_get hy
          rw [← HL.out] at hm
          have h := hS.A m y hy
          exact ⟨(setRow_other g g _ vs wr (L * 4) (by omega)).trans h.ca, (setRow_other g g _ vs wr (L * 4) (by omega)).trans h.cb, (setRow_other g g _ vs wr (L * 4) (by omega)).trans h.cc, (setRow_other g g _ vs wr (L * 4) (by omega)).trans h.cl⟩
        have hblk : ∃ cur : Array Value, (setRow wr g (L * 4) vs).heap[g]? = some (.cells cur 53 (0, 0)) ∧ cur.size = cp * 4 := by
          obtain ⟨cur, h1, h2⟩ := hS.blk
          obtain ⟨cur', h3, h4⟩ := heap_setRow_blk g 53 vs wr (L * 4) cur h1
          exact ⟨cur', h3, by omega⟩
        have hzs' := hzs.out
        rw [take_all (by rw [← hN.out]; exact Nat.le_refl _)] at hzs'
        have hsub : zs.Sublist ys := by rw [hzs']; exact List.filter_sublist
        have ho := HO.out.moved (by decide) rfl hsub hT (ownsRow_of_cells hgl hblk hA (by have := HL.out; omega) hcm1)
        rw [← HL.out] at ho
        go_ret
        refine ⟨_, zs, rfl, ho, ?_, hT.belowLo hgl hlo⟩
        rw [hzs', List.filter_map]
        rfl
  · go_wp2
    go_ret
    refine ⟨_, ys, rfl, HO.out.ext hb1', ?_, hb1'.mono hlo⟩
    rw [Eq.comm, List.filter_eq_self]
    intro x hx
    obtain ⟨i, hi⟩ := List.mem_iff_getElem?.1 hx
    rw [hall i x hi]
    rfl
end Go.Proofs.Ytadcjfbcfiljkaa
