/- Editions drawn. No condition. -/
import Derived.Test.YtadcjfbcfiljkaaDoorPl18
import Derived.Test.YtadcjfbcfiljkaaDoorEdV
import Derived.Test.YtadcjfbcfiljkaaDoorGoodEds
import Derived.Test.YtadcjfbcfiljkaaDoorNestOwn2
import Derived.Test.YtadcjfbcfiljkaaDoorBoxLaw
import Derived.Deep.DeepCutAuto
import Derived.Deep.RegionLaw
namespace Go.Proofs.YtadcjfbcfiljkaaDoor
open Go.RowKit
set_option linter.unusedVariables false
set_option linter.unusedSimpArgs false

set_option maxHeartbeats 16000000 in
set_option maxRecDepth 100000 in
theorem editions_any (g : Nat) (C : Option Addr) (n cap k : Nat) (w : World) (hC : CurAt g C n cap k w) (hk : k ≤ 274877906944) (hn : n ≤ 1099511627776) :
    Calls Tryd.prog 33 #[.pointer (some ⟨g, 0, none⟩)] w (fun r w' => ∃ (A : Option Addr) (m d : Nat) (xs : List Nest), r = .returned (.slice A m d) ∧ m = xs.length ∧ m ≤ d ∧ d ≤ 9223372036854775807 ∧ wt xs ≤ 400 ∧ NlA w.heap.size w' A xs ∧ CurAt g C n cap (k + 2000) w' ∧ Touch g (g + 1) w w') := by
  have hgw : g < w.heap.size := hC.lt
  have hT := Touch.refl g (g + 1) w
  obtain ⟨i0, hi, hz0e, hz1e, hz2e⟩ := info_parts infoEdition
  have hee : (33 : TypeId) ≠ 3 := by decide
  have HOE := Lib.hid (EdSt.start (e := 33) (et := 3) (Nat.le_refl w.heap.size))
  have hx0 := ext_alloc w (.cells #[] 33)
  have hC0 := hC.ext hx0
  have hT0 := Touch.of_ext (lo := g) (hi := g + 1) hx0
  obtain ⟨w0, hw0⟩ : ∃ z, z = w.alloc (.cells #[] 33) := ⟨_, rfl⟩
  have hO : EdSt w.heap.size 33 3 w0 (.slice (some ⟨w.heap.size, 0, none⟩) 0 0) [] := by rw [hw0]; exact HOE.out
  rw [← hw0] at hC0 hT0
  have hs0 : w.heap.size ≤ w0.heap.size := hT0.size
  clear hC hT hx0 HOE
  have hC := hC0
  have hT := hT0
  clear hC0 hT0
  go_enter Tryd.func33, Tryd.ntmps33
  go_upto_region 2 with fail
  rw [← hw0]
  clear hw0
  have hlt1 : g < (World.heap w0).size := hC.lt
  have HN1 := Lib.hid (among_any (some ⟨(World.heap w0).size, 0, none⟩) 4 4 [0, 0, 100, 3900] rfl (World.heap w0).size ((World.heap w0).size + 1) g C n cap _ (World.alloc w0 (.cells #[Value.int .i64 (0), Value.int .i64 (0), Value.int .i64 (100), Value.int .i64 (3900)] 3)) (hC.ext (ext_alloc _ _)) (by omega) hn (lit_flo w0 [0, 0, 100, 3900] _ _ rfl) (by simp) (by simp) (.inl hlt1))
  clear hC
  go_wp2_with fail
  ((with_reducible refine (HN1.out).mono ?_); rintro e w1 ⟨_, rfl, ⟨day0, _, rfl⟩, hC, hU1⟩)
  replace hU1 := (Touch.of_ext (ext_alloc w0 (.cells #[Value.int .i64 (0), Value.int .i64 (0), Value.int .i64 (100), Value.int .i64 (3900)] 3))).trans hU1
  replace hO := hO.touch hU1 (by omega)
  replace hT := hT.trans hU1
  have hz_w1 : (World.heap w0).size ≤ (World.heap w1).size := hU1.size
  clear hU1
  have HN2 := Lib.hid (pick_any 9 g C n cap _ w1 hC (by omega) hn)
  clear hC
  go_wp2_with fail
  ((with_reducible refine (HN2.out).mono ?_); rintro e w2 ⟨_, rfl, ⟨z, rfl, z0, z1⟩, hC, hU2⟩)
  replace hO := hO.touch hU2 (by omega)
  replace hT := hT.trans hU2
  have hz_w2 : (World.heap w1).size ≤ (World.heap w2).size := hU2.size
  clear hU2
  obtain ⟨N, rfl⟩ : ∃ N : Nat, z = N := ⟨z.toNat, by omega⟩
  have hs1 : w.heap.size ≤ (World.heap w2).size := by omega
  have HC1 := Lib.hid hC
  have HO1 := Lib.hid hO
  have HT1 := Lib.hid hT
  clear hC hO hT
  go_wp2
  go_loopw [3, 4, 5, 6, 7, 8] (fun out dv nv _ _ _ wr => ∃ (v : Value) (ys : List NV) (dy : Int) (m : Nat), out = v ∧ dv = .int .i64 dy ∧ nv = .int .i64 (m : Int) ∧ m ≤ 8 ∧ ys.length + m ≤ 8 ∧ EdSt w.heap.size 33 3 wr v ys ∧ w.heap.size ≤ wr.heap.size ∧ CurAt g C n cap (k + 4 + (8 - m) * 100) wr ∧ Touch g (g + 1) w wr) (fun _ _ nv _ _ _ _ => (intOf nv).toNat)
  case atStart => exact ⟨_, [], day0, N, rfl, rfl, rfl, by omega, by simp; omega, HO1.out, hs1, HC1.out.mono (by omega), HT1.out⟩
  case round =>
    clear HC1 HO1 HT1 hs1 z0 z1
    obtain ⟨v, ys, dy, m, rfl, rfl, rfl, hm8, hxm, hO, hsr, hC, hT⟩ := hrel
    by_cases hm : 0 < m
    · have hmi : (0 : Int) < (m : Int) := by omega
      obtain ⟨K0, hK0⟩ : ∃ z, z = k + 4 + (8 - m) * 100 := ⟨_, rfl⟩
      rw [← hK0] at hC
      have hKb : K0 + 200 ≤ 412316860416 := by omega
      have HK0 := Lib.hid hK0
      clear hK0
      have hlt1 : g < (World.heap wr).size := hC.lt
      have HN1 := Lib.hid (among_any (some ⟨(World.heap wr).size, 0, none⟩) 6 6 [1, 1, 1, 2, 7, 999] rfl (World.heap wr).size ((World.heap wr).size + 1) g C n cap _ (World.alloc wr (.cells #[Value.int .i64 (1), Value.int .i64 (1), Value.int .i64 (1), Value.int .i64 (2), Value.int .i64 (7), Value.int .i64 (999)] 3)) (hC.ext (ext_alloc _ _)) (by omega) hn (lit_flo wr [1, 1, 1, 2, 7, 999] _ _ rfl) (by simp) (by simp) (.inl hlt1))
      clear hC
      go_wp2_with fail
      ((with_reducible refine (HN1.out).mono ?_); rintro e w1 ⟨_, rfl, ⟨q1, _, rfl⟩, hC, hU1⟩)
      replace hU1 := (Touch.of_ext (ext_alloc wr (.cells #[Value.int .i64 (1), Value.int .i64 (1), Value.int .i64 (1), Value.int .i64 (2), Value.int .i64 (7), Value.int .i64 (999)] 3))).trans hU1
      replace hO := hO.touch hU1 (by omega)
      replace hT := hT.trans hU1
      have hz_w1 : (World.heap wr).size ≤ (World.heap w1).size := hU1.size
      clear hU1
      have HN2 := Lib.hid (places18_any g C n cap _ w1 hC (by omega) hn)
      clear hC
      go_wp2_with fail
      ((with_reducible refine (HN2.out).mono ?_); rintro e w2 ⟨A1, n1, d1, l1, rfl, hn1, hl1, hS, hC, hU2⟩)
      have HS := Lib.hid hS
      have HN9 := Lib.hid hn1
      clear hS hn1
      replace hO := hO.touch hU2 (by omega)
      replace hT := hT.trans hU2
      have hz_w2 : (World.heap w1).size ≤ (World.heap w2).size := hU2.size
      clear hU2
      have hs2 : w.heap.size ≤ (World.heap w2).size := by omega
      have hwe : w.heap.size ≤ (World.heap w1).size := by omega
      have hg1 : g + 1 ≤ (World.heap w1).size := by omega
      obtain ⟨b, c, hv, hpc, hcm, hbo, hbl, hbz, hat, hNA⟩ := hO.read
      subst hv
      obtain ⟨p, hp⟩ : ∃ z, z = ys.length := ⟨_, rfl⟩
      rw [← hp] at hO hpc hxm ⊢
      have hmap : (ys.map NV.x).length = p := by rw [List.length_map, hp]
      have HP := Lib.hid hp
      have HMP := Lib.hid hmap
      have HAT := Lib.hid hat
      have HO2 := Lib.hid hO
      have HT2 := Lib.hid hT
      have HNA := Lib.hid hNA
      clear hp hmap hat hNA hbz
      obtain ⟨E1, hVE1, hbE1, hzE1, huE1, hfE1⟩ := box_world w2 #[Value.int .i64 q1, .int .i64 1, .int .i64 dy, .slice A1 n1 d1] 33
      have ve : VarL E1 (World.heap w2).size [Value.int .i64 q1, .int .i64 1, .int .i64 dy, .slice A1 n1 d1] := hVE1 ▸ VarL.box w2 _ _
      replace hO := hO.ext hbE1
      replace hC := hC.ext hbE1
      replace hT := hT.trans (Touch.of_ext hbE1)
      have hyE1 : (World.heap w2).size + 1 ≤ (World.heap E1).size := hzE1
      clear huE1 hfE1
      go_upto_region 7 with fail
      clear hVE1
      have hgb : g + 1 ≤ (World.heap w2).size := by omega
      have hS2 : OwnF one 1 (World.heap w1).size 3 E1 (.slice A1 n1 d1) l1 := HS.out.ext hbE1
      have hSq : ∀ q, (Value.slice A1 n1 d1).ownBlock = some q → q < (World.heap w2).size ∨ (World.heap w2).size + 1 ≤ q := fun q hq => .inl (HS.out.ownBlock q hq).2
      have HLA := Lib.hid (show Calls Tryd.prog 51 #[.slice (some ⟨b, 0, none⟩) p c, .int .i64 q1] E1 (fun e w' => e = .returned (.int .i64 (lastI q1 (ys.map NV.x) p)) ∧ E1 = w') from by have h := l18Last_any (some ⟨b, 0, none⟩) c (ys.map NV.x) q1 E1 (by have := HMP.out; omega) (HNA.out.ext hbE1).nl; rwa [HMP.out] at h)
      have hlp := lastI_p q1 (ys.map NV.x) p (by have := HMP.out; omega)
      obtain ⟨kk, hkk⟩ : ∃ z, z = lastI q1 (ys.map NV.x) p := ⟨_, rfl⟩
      rw [← hkk] at hlp HLA
      have e0 := ve.cell 0 _ rfl
      have e1 := ve.cell 1 _ rfl
      have e2 := ve.cell 2 _ rfl
      have e3 := ve.cell 3 _ rfl
      have ez := ve.fz
      have el := ve.lt
      have hTE : Touch g (g + 1) w2 E1 := Touch.of_ext hbE1
      clear hkk HS
      go_wp2_with fail
      ((with_reducible refine (HLA.out).mono ?_); rintro e wl ⟨rfl, rfl⟩)
      clear HLA
      have HVE := Lib.hid ve
      have HC := Lib.hid hC
      have HTE := Lib.hid hTE
      have HS := Lib.hid hS2
      have HQ := Lib.hid hSq
      have HBE := Lib.hid hbE1
      clear ve hC hT hTE hO hS2 hSq hbE1
      go_upto_if 32 with fail
      go_cut [] (fun wx => ∃ (nb : Int) (SA : Option Addr) (sn sd : Nat) (sl : List Int), Hid (sn = sl.length) ∧ sn ≤ 12 ∧ VarL wx (World.heap w2).size [.int .i64 q1, .int .i64 nb, .int .i64 dy, .slice SA sn sd] ∧ OwnF one 1 w.heap.size 3 wx (.slice SA sn sd) sl ∧ (∀ q, (Value.slice SA sn sd).ownBlock = some q → q < (World.heap w2).size ∨ (World.heap w2).size + 1 ≤ q) ∧ (World.heap w2).size + 1 ≤ wx.heap.size ∧ CurAt g C n cap (K0 + 80) wx ∧ Touch g (g + 1) w2 wx)
      case first =>
        rcases hlp with ⟨hr, _⟩ | ⟨j, l, hr, hjp, hj, _⟩
        · subst hr
          have HON := Lib.hid (one_any 30 g C n cap _ E1 HC.out (by omega) hn)
          go_wp2_with fail
          ((with_reducible refine (HON.out).mono ?_); rintro e w5 ⟨_, rfl, ⟨b5, rfl⟩, hC5, hU5⟩)
          have hv5 := HVE.out.touch hU5 (.inr hgb)
          have hz5 : (World.heap E1).size ≤ (World.heap w5).size := hU5.size
          have HS5 := Lib.hid ((HS.out.touch hU5 hg1).from_ hwe)
          have HC5 := Lib.hid hC5
          have HT5 := Lib.hid (HTE.out.trans hU5)
          clear e0 e1 e2 e3 ez el hC5 hU5
          cases b5
          · have e3 := hv5.cell 3 _ rfl
            have ez := hv5.fz
            have el := hv5.lt
            have HV5 := Lib.hid hv5
            clear hv5
            go_wp2
            go_meet
            have ht := Touch.of_set w5 ⟨(World.heap w2).size, 3, none⟩ (.slice (some ⟨w5.heap.size, 0, none⟩) 0 0) (Nat.le_refl _) (Nat.lt_succ_self _)
            have hx := ext_alloc (w5.setCell ⟨(World.heap w2).size, 3, none⟩ (.slice (some ⟨w5.heap.size, 0, none⟩) 0 0)) (.cells #[] 3)
            have ho : OwnF one 1 ((World.heap w2).size + 1) 3 ((w5.setCell ⟨(World.heap w2).size, 3, none⟩ (.slice (some ⟨w5.heap.size, 0, none⟩) 0 0)).alloc (.cells #[] 3)) (.slice (some ⟨w5.heap.size, 0, none⟩) 0 0) [] := by
              have h := OwnF.empty (f := one) (sz := 1) (e := 3) (w := w5.setCell ⟨(World.heap w2).size, 3, none⟩ (.slice (some ⟨w5.heap.size, 0, none⟩) 0 0)) (lo := (World.heap w2).size + 1) (by rw [setCell_size]; omega)
              rwa [setCell_size] at h
            exact ⟨1, some ⟨w5.heap.size, 0, none⟩, 0, 0, [], rfl, by omega, (HV5.out.set3' _).ext hx, ho.from_ (by omega), fun q hq => .inr (by simp [Value.ownBlock] at hq; omega), by simp [setCell_size]; omega, ((HC5.out.touch' (l := (World.heap w2).size) ht (by omega)).ext hx).mono (by omega), (HT5.out.over' (B := (World.heap w2).size) ht (Nat.le_refl _)).trans (Touch.of_ext hx)⟩
          · have HV5 := Lib.hid hv5
            clear hv5
            go_wp2
            go_meet
            exact ⟨1, A1, n1, d1, l1, HN9.out, hl1, HV5.out, HS5.out, HQ.out, by omega, HC5.out.mono (by omega), HT5.out⟩
        · subst hr
          obtain ⟨y, hy, hyl⟩ : ∃ y, ys[j]? = some y ∧ y.x = l := by
            rw [List.getElem?_map] at hj
            obtain ⟨y, h1, h2⟩ := Option.map_eq_some_iff.1 hj
            exact ⟨y, h1, h2⟩
          have hcb := HAT.out j y hy
          have c1 : World.cell? E1 ⟨b, j * 4 + 1, none⟩ = some (.int .i64 y.x.b) := by have h := (HBE.out.cell (p := ⟨b, _, none⟩) hbl).trans hcb.cb; simpa using h
          have hj0 : (0 : Int) ≤ (j : Int) := by omega
          have hj1 : (j : Int) < (p : Int) := by omega
          clear hcb hy hyl hj
          go_wp2
          go_meet
          have ht := fun v => Touch.of_set E1 ⟨(World.heap w2).size, 1, none⟩ v (Nat.le_refl _) (Nat.lt_succ_self _)
          exact ⟨_, A1, n1, d1, l1, HN9.out, hl1, HVE.out.set1' _, (HS.out.off (ht _) HQ.out).from_ hwe, HQ.out, by rw [setCell_size]; omega, (HC.out.touch' (l := (World.heap w2).size) (ht _) (by omega)).mono (by omega), HTE.out.over' (B := (World.heap w2).size) (ht _) (Nat.le_refl _)⟩
      case rest =>
        obtain ⟨nb, SA, sn, sd, sl, hsl, hsl12, ve, hS, hq, hsx, hC, hTE⟩ := hcut
        clear HVE HC HTE HS HQ HBE HN9 e0 e1 e2 e3 ez el hlp
        obtain ⟨wz, hwz⟩ : ∃ z, z = wc := ⟨_, rfl⟩
        subst hwz
        have HSL := hsl
        have HQ := Lib.hid hq
        clear hsl hq
        have hT := hTE
        clear hTE
        have HN11 := Lib.hid (one_any 60 g C n cap _ wz hC (by omega) hn)
        clear hC
        go_wp2_with fail
        ((with_reducible refine (HN11.out).mono ?_); rintro e w11 ⟨_, rfl, ⟨b6, rfl⟩, hC, hU11⟩)
        replace ve := ve.touch hU11 (by omega)
        replace hS := hS.touch hU11 (by omega)
        replace hT := hT.trans hU11
        have hz_w11 : (World.heap wz).size ≤ (World.heap w11).size := hU11.size
        clear hU11
        have HVE := Lib.hid ve
        have HC := Lib.hid hC
        have HT := Lib.hid hT
        have HS := Lib.hid hS
        clear ve hC hT hS
        go_upto_if 46 with fail
        go_cut [] (fun wx => ∃ (nb : Int) (SA : Option Addr) (sn sd : Nat) (sl : List Int), Hid (sn = sl.length) ∧ sn ≤ 12 ∧ VarL wx (World.heap w2).size [.int .i64 q1, .int .i64 nb, .int .i64 dy, .slice SA sn sd] ∧ OwnF one 1 w.heap.size 3 wx (.slice SA sn sd) sl ∧ (∀ q, (Value.slice SA sn sd).ownBlock = some q → q < (World.heap w2).size ∨ (World.heap w2).size + 1 ≤ q) ∧ (World.heap w2).size + 1 ≤ wx.heap.size ∧ CurAt g C n cap (K0 + 90) wx ∧ Touch g (g + 1) w2 wx)
        case first =>
          cases b6
          · go_wp2
            go_meet
            exact ⟨nb, SA, sn, sd, sl, HSL.out, hsl12, HVE.out, HS.out, HQ.out, by omega, HC.out.mono (by omega), HT.out⟩
          · have hC := HC.out
            have hT := HT.out
            have hS := HS.out
            have ve := HVE.out
            clear HC HT HS HVE
            have hlt12 : g < (World.heap w11).size := hC.lt
            have HN12 := Lib.hid (among_any (some ⟨(World.heap w11).size, 0, none⟩) 4 4 [0, 1, 3, 10] rfl (World.heap w11).size ((World.heap w11).size + 1) g C n cap _ (World.alloc w11 (.cells #[Value.int .i64 (0), Value.int .i64 (1), Value.int .i64 (3), Value.int .i64 (10)] 3)) (hC.ext (ext_alloc _ _)) (by omega) hn (lit_flo w11 [0, 1, 3, 10] _ _ rfl) (by simp) (by simp) (.inl hlt12))
            clear hC
            go_wp2_with fail
            ((with_reducible refine (HN12.out).mono ?_); rintro e w12 ⟨_, rfl, ⟨q9, _, rfl⟩, hC, hU12⟩)
            replace hU12 := (Touch.of_ext (ext_alloc w11 (.cells #[Value.int .i64 (0), Value.int .i64 (1), Value.int .i64 (3), Value.int .i64 (10)] 3))).trans hU12
            replace ve := ve.touch hU12 (by omega)
            replace hS := hS.touch hU12 (by omega)
            replace hT := hT.trans hU12
            have hz_w12 : (World.heap w11).size ≤ (World.heap w12).size := hU12.size
            clear hU12
            have e1 := ve.cell 1 _ rfl
            have ez := ve.fz
            have el := ve.lt
            have HVE := Lib.hid ve
            have HC := Lib.hid hC
            have HT := Lib.hid hT
            have HS := Lib.hid hS
            clear ve hC hT hS
            go_wp2
            go_meet
            have ht := Touch.of_set w12 ⟨(World.heap w2).size, 1, none⟩ (.int .i64 q9) (Nat.le_refl _) (Nat.lt_succ_self _)
            exact ⟨q9, SA, sn, sd, sl, HSL.out, hsl12, HVE.out.set1' _, HS.out.off ht HQ.out, HQ.out, by rw [setCell_size]; omega, (HC.out.touch' (l := (World.heap w2).size) ht (by omega)).mono (by omega), HT.out.over' (B := (World.heap w2).size) ht (Nat.le_refl _)⟩
        case rest =>
          clear HVE HC HT HS HSL HQ
          obtain ⟨nb, SA, sn, sd, sl, hsl, hsl12, ve, hS, hq, hsx, hC, hT⟩ := hcut
          obtain ⟨wy, hwy⟩ : ∃ z, z = wc := ⟨_, rfl⟩
          subst hwy
          have HSL := hsl
          have e0 := ve.cell 0 _ rfl
          have e1 := ve.cell 1 _ rfl
          have e2 := ve.cell 2 _ rfl
          have e3 := ve.cell 3 _ rfl
          have ez := ve.fz
          have el := ve.lt
          have hsy : w.heap.size ≤ wy.heap.size := by omega
          have HVE := Lib.hid ve
          have HC := Lib.hid hC
          have HT := Lib.hid (HT2.out.trans hT)
          have HS := Lib.hid hS
          have HO := Lib.hid (HO2.out.touch hT (by omega))
          have HAT := Lib.hid (fun i y h => (HAT.out i y h).cells fun o => hT.cell (b := b) (o := o) hbl (by omega))
          clear ve hC hT hS hq hsl
        
          have HE1 := Lib.hid ((OwnV.empty (e := 33) (Nat.le_refl wy.heap.size)).ext (ext_drew _))
          have HE2 := Lib.hid (((OwnV.empty (e := 33) (Nat.le_refl wy.heap.size)).ext (ext_alloc _ (Obj.cells #[Value.int .i64 q1, .int .i64 nb, .int .i64 dy, .slice SA sn sd] 33))).ext (ext_drew _))
          have HE3 := Lib.hid (show OwnV wy.heap.size 33 (((wy.alloc (Obj.cells #[Value.int .i64 q1, .int .i64 nb, .int .i64 dy, .slice SA sn sd] 33)).alloc (Obj.cells #[] 33)).drew) (.slice (some ⟨wy.heap.size + 1, 0, none⟩) 0 0) [] from ownV_two wy (Obj.cells #[Value.int .i64 q1, .int .i64 nb, .int .i64 dy, .slice SA sn sd] 33) 33)
          have HLN := Lib.hid (fun W : World => lit_nat W q1 nb dy SA sn sd sl HSL.out 33)
          have HLA2 := Lib.hid (show NAt (((wy.alloc (Obj.cells #[] 33)).alloc (Obj.cells #[Value.int .i64 q1, .int .i64 nb, .int .i64 dy, .slice SA sn sd] 33)).drew) (wy.heap.size + 1) 0 ⟨q1, nb, dy, sl⟩ SA sd from lit_two wy (Obj.cells #[] 33) q1 nb dy SA sn sd sl HSL.out 33)
          have HLA3 := Lib.hid (show NAt (((wy.alloc (Obj.cells #[Value.int .i64 q1, .int .i64 nb, .int .i64 dy, .slice SA sn sd] 33)).alloc (Obj.cells #[] 33)).drew) wy.heap.size 0 ⟨q1, nb, dy, sl⟩ SA sd from lit_one wy (Obj.cells #[] 33) q1 nb dy SA sn sd sl HSL.out 33)
          have hl12 : sl.length ≤ 12 := by rw [← HSL.out]; exact hsl12
          have hS9 := HS.out
          rw [HSL.out] at hS9
          have HS9 := Lib.hid hS9
          clear hS9
          have hbwy : b < wy.heap.size := by omega
          have hEy : (World.heap w2).size < wy.heap.size := by omega
          have HATB := Lib.hid (fun (W : World) (hb : Below wy.heap.size wy W) => (fun i y h => (HAT.out i y h).cells fun o => hb.cell (p := ⟨b, o, none⟩) hbwy : ∀ i y, ys[i]? = some y → NAt W b (0 + i * 4) y.x y.A y.d))
          have HMK := Lib.hid (fun (v4 : Value) (w4 : World) (h1 : OwnV wy.heap.size 33 w4 v4 (ys ++ [⟨⟨q1, nb, dy, sl⟩, SA, sd⟩])) (h2 : Below wy.heap.size wy w4) => ed_next (lo := w.heap.size) (et := 3) hsy h1 HO.out HS9.out hl12 HP.out h2)
          go_upto_region 14 with fail
          go_cut [8] (fun nv wx => ∃ (bn cn : Nat), nv = .slice (some ⟨bn, 0, none⟩) (p + 1) cn ∧ EdSt w.heap.size 33 3 wx (.slice (some ⟨bn, 0, none⟩) (p + 1) cn) (ys ++ [⟨⟨q1, nb, dy, sl⟩, SA, sd⟩]) ∧ Below wy.heap.size wy wx)
          case first =>
            go_region_law (first | (refine step_append_nvs rfl (.tmp 51) (.tmp 52) 24 rfl wy.heap.size i0 _ 48 Tryd.underlying24 hi hz0e hz1e hz2e rfl (.slice (some ⟨wy.heap.size, 0, none⟩) 0 0) [] rfl ?_ b 0 c ys ?_ ?_ ?_ (by decide) ?_ ?_; with_reducible exact HE1.out; (simp [Act.eval]; exact HP.out); with_reducible exact HATB.out _ (ext_trans (ext_alloc _ _) (ext_drew _)); (have h9 := HP.out; simp; omega); simp; intro v3 w3 hown3 hg3 hb3; have hbz3 : Below wy.heap.size wy w3 := (((Below.refl wy.heap.size wy).alloc (Nat.le_refl _) _).drew).trans hb3; have hs3 : wy.heap.size ≤ w3.heap.size := hbz3.size; rw [List.nil_append] at hown3; have hv3 := HVE.out.below hbz3 hEy; have f0 := hv3.cell 0 _ rfl; have f1 := hv3.cell 1 _ rfl; have f2 := hv3.cell 2 _ rfl; have f3 := hv3.cell 3 _ rfl; have fz := hv3.fz; have fl := hv3.lt; clear hv3) | (refine step_append_nvs rfl (.tmp 51) (.tmp 52) 24 rfl wy.heap.size i0 _ 48 Tryd.underlying24 hi hz0e hz1e hz2e rfl (.slice (some ⟨wy.heap.size, 0, none⟩) 0 0) [] rfl ?_ b 0 c ys ?_ ?_ ?_ (by decide) ?_ ?_; with_reducible exact HE2.out; (simp [Act.eval]; exact HP.out); with_reducible exact HATB.out _ (ext_trans (ext_trans (ext_alloc _ _) (ext_alloc _ _)) (ext_drew _)); (have h9 := HP.out; simp; omega); (simp; omega); intro v3 w3 hown3 hg3 hb3; have hbz3 : Below wy.heap.size wy w3 := ((((Below.refl wy.heap.size wy).alloc (Nat.le_refl _) _).alloc (ext_alloc wy _).size _).drew).trans hb3; have hs3 : wy.heap.size ≤ w3.heap.size := hbz3.size; rw [List.nil_append] at hown3; have HL3 := Lib.hid (HLA2.out.grown hg3 (by simp [Value.ownBlock] <;> omega) (by simp <;> omega))) | (refine step_append_nvs rfl (.tmp 51) (.tmp 52) 24 rfl wy.heap.size i0 _ 48 Tryd.underlying24 hi hz0e hz1e hz2e rfl (.slice (some ⟨wy.heap.size + 1, 0, none⟩) 0 0) [] rfl ?_ b 0 c ys ?_ ?_ ?_ (by decide) ?_ ?_; with_reducible exact HE3.out; (simp [Act.eval]; exact HP.out); with_reducible exact HATB.out _ (ext_trans (ext_trans (ext_alloc _ _) (ext_alloc _ _)) (ext_drew _)); (have h9 := HP.out; simp; omega); (simp; omega); intro v3 w3 hown3 hg3 hb3; have hbz3 : Below wy.heap.size wy w3 := ((((Below.refl wy.heap.size wy).alloc (Nat.le_refl _) _).alloc (ext_alloc wy _).size _).drew).trans hb3; have hs3 : wy.heap.size ≤ w3.heap.size := hbz3.size; rw [List.nil_append] at hown3; have HL3 := Lib.hid (HLA3.out.grown hg3 (by simp [Value.ownBlock] <;> omega) (by simp <;> omega))) | (refine step_append_nvs rfl (.tmp 53) (.tmp 55) 24 rfl wy.heap.size i0 _ 48 Tryd.underlying24 hi hz0e hz1e hz2e rfl (v3) ys rfl ?_ (w3.heap.size) 0 1 [⟨⟨q1, nb, dy, sl⟩, SA, sd⟩] ?_ ?_ ?_ (by decide) ?_ ?_; with_reducible exact hown3.ext (ext_alloc _ _); simp [Act.eval]; exact one_nat (HLN.out w3); (have h9 := HP.out; simp; omega); (simp; omega); intro v4 w4 hown4 hg4 hb4; have hbz4 : Below wy.heap.size wy w4 := (hbz3.alloc hs3 _).trans hb4; have hE4 := HMK.out v4 w4 hown4 hbz4; obtain ⟨bn, cn, hvn, hE4⟩ := hE4; subst hvn; have HE4 := Lib.hid hE4; have HB4 := Lib.hid hbz4; clear hown4 hg4 hb4 hE4 hbz4) | (refine step_append_nvs rfl (.tmp 53) (.tmp 55) 24 rfl wy.heap.size i0 _ 48 Tryd.underlying24 hi hz0e hz1e hz2e rfl (v3) ys rfl ?_ (wy.heap.size + 1) 0 1 [⟨⟨q1, nb, dy, sl⟩, SA, sd⟩] ?_ ?_ ?_ (by decide) ?_ ?_; with_reducible exact hown3; simp [Act.eval]; exact one_nat HL3.out; (have h9 := HP.out; simp; omega); exact hs3; intro v4 w4 hown4 hg4 hb4; have hbz4 : Below wy.heap.size wy w4 := hbz3.trans hb4; have hE4 := HMK.out v4 w4 hown4 hbz4; obtain ⟨bn, cn, hvn, hE4⟩ := hE4; subst hvn; have HE4 := Lib.hid hE4; have HB4 := Lib.hid hbz4; clear hown4 hg4 hb4 hE4 hbz4) | (refine step_append_nvs rfl (.tmp 53) (.tmp 55) 24 rfl wy.heap.size i0 _ 48 Tryd.underlying24 hi hz0e hz1e hz2e rfl (v3) ys rfl ?_ (wy.heap.size) 0 1 [⟨⟨q1, nb, dy, sl⟩, SA, sd⟩] ?_ ?_ ?_ (by decide) ?_ ?_; with_reducible exact hown3; simp [Act.eval]; exact one_nat HL3.out; (have h9 := HP.out; simp; omega); exact hs3; intro v4 w4 hown4 hg4 hb4; have hbz4 : Below wy.heap.size wy w4 := hbz3.trans hb4; have hE4 := HMK.out v4 w4 hown4 hbz4; obtain ⟨bn, cn, hvn, hE4⟩ := hE4; subst hvn; have HE4 := Lib.hid hE4; have HB4 := Lib.hid hbz4; clear hown4 hg4 hb4 hE4 hbz4))
            all_goals (go_wp2_with fail)
            all_goals go_meet
            all_goals exact ⟨bn, cn, rfl, HE4.out, HB4.out⟩
          case rest =>
            obtain ⟨bn, cn, rfl, hN, hbn⟩ := hcut
            clear HE1 HE2 HE3 HLN HLA2 HLA3 HATB HMK e0 e1 e2 e3 ez el HVE HS HS9 HAT
            obtain ⟨wn, hwn⟩ : ∃ z, z = wc := ⟨_, rfl⟩
            subst hwn
            obtain ⟨zs, hzs⟩ : ∃ z, z = ys ++ [⟨⟨q1, nb, dy, sl⟩, SA, sd⟩] := ⟨_, rfl⟩
            rw [← hzs] at hN
            have hzl : zs.length = p + 1 := by rw [hzs, List.length_append, ← HP.out]; rfl
            have hsn : wy.heap.size ≤ wn.heap.size := hbn.size
            have HO := Lib.hid (HO.out.ext hbn)
            have HC := Lib.hid (HC.out.ext hbn)
            have HT := Lib.hid (HT.out.trans (Touch.of_ext hbn))
            obtain ⟨b9, c9, hv9, hpc9, hcm9, _, _, _, _, hNA9⟩ := hN.read
            have hwt := hN.lens
            injection hv9 with hb9 hp9 hc9
            injection hb9 with hb9
            injection hb9 with hb9 _ _
            subst hb9 hc9
            have HGD := Lib.hid (show Calls Tryd.prog 29 #[.slice (some ⟨bn, 0, none⟩) (p + 1) cn] wn (fun e w' => e = .returned (.bool (tb (Eds (zs.map NV.x)))) ∧ Below wn.heap.size wn w') from by have h := l18Good_any (some ⟨bn, 0, none⟩) cn (zs.map NV.x) wn (by omega) (by rw [List.length_map]; omega) hcm9 hNA9.nl; rwa [List.length_map, hzl] at h)
            have HN := Lib.hid hN
            have HZL := Lib.hid hzl
            have HPL := HP.out
            have hpb : p + m ≤ 8 := by omega
            clear hN hbn hzs hzl hNA9 hwt hpc9 hcm9 hp9 HPL
            go_upto_region 15 with fail
            go_cut [62] (fun bv wx => ∃ bb : Bool, bv = .bool bb ∧ EdSt w.heap.size 33 3 wx (.slice (some ⟨b, 0, none⟩) p c) ys ∧ EdSt w.heap.size 33 3 wx (.slice (some ⟨bn, 0, none⟩) (p + 1) cn) zs ∧ w.heap.size ≤ wx.heap.size ∧ CurAt g C n cap (K0 + 94) wx ∧ Touch g (g + 1) w wx)
            case first =>
              go_wp2_with fail
              ((with_reducible refine (HGD.out).mono ?_); rintro e wg ⟨rfl, hbg⟩)
              have HO := Lib.hid (HO.out.ext hbg)
              have HN := Lib.hid (HN.out.ext hbg)
              have hC := HC.out.ext hbg
              have hT := HT.out.trans (Touch.of_ext hbg)
              have hsg : wn.heap.size ≤ wg.heap.size := hbg.size
              clear HC HT hbg HGD
              by_cases hE : Eds (zs.map NV.x)
              · rw [tb_t hE]
                have HC := Lib.hid hC
                have HT := Lib.hid hT
                clear hC hT hE
                go_wp2
                go_meet
                exact ⟨true, rfl, HO.out, HN.out, by omega, HC.out.mono (by omega), HT.out⟩
              · rw [tb_f hE]
                have HON := Lib.hid (one_any 40 g C n cap _ wg hC (by omega) hn)
                have HT := Lib.hid hT
                clear hC hT hE
                go_wp2_with fail
                ((with_reducible refine (HON.out).mono ?_); rintro e w5 ⟨_, rfl, ⟨b5, rfl⟩, hC5, hU5⟩)
                have HO := Lib.hid (HO.out.touch hU5 (by omega))
                have HN := Lib.hid (HN.out.touch hU5 (by omega))
                have HC := Lib.hid hC5
                have hs5 : wg.heap.size ≤ w5.heap.size := hU5.size
                have HT := Lib.hid (HT.out.trans hU5)
                clear hC5 hU5
                cases b5
                · go_wp2
                  go_meet
                  exact ⟨_, rfl, HO.out, HN.out, by omega, HC.out.mono (by omega), HT.out⟩
                · go_wp2
                  go_meet
                  exact ⟨_, rfl, HO.out, HN.out, by omega, HC.out.mono (by omega), HT.out⟩
            case rest =>
              obtain ⟨bb, rfl, hO, hN, hsx, hC, hT⟩ := hcut
              clear HO HC HT HN HGD
              obtain ⟨wq, hwq⟩ : ∃ z, z = wc := ⟨_, rfl⟩
              subst hwq
              have HO := Lib.hid hO
              have HN := Lib.hid hN
              have HC := Lib.hid hC
              have HT := Lib.hid hT
              clear hO hN hC hT
              go_upto_if 62 with fail
              go_cut [3] (fun out wx => ∃ (v : Value) (us : List NV), out = v ∧ us.length ≤ p + 1 ∧ EdSt w.heap.size 33 3 wx v us ∧ w.heap.size ≤ wx.heap.size ∧ CurAt g C n cap (K0 + 94) wx ∧ Touch g (g + 1) w wx)
              case first =>
                cases bb
                · go_wp2
                  go_meet
                  exact ⟨_, ys, rfl, by have := HP.out; omega, HO.out, hsx, HC.out, HT.out⟩
                · go_wp2
                  go_meet
                  exact ⟨_, zs, rfl, by have := HZL.out; omega, HN.out, hsx, HC.out, HT.out⟩
              case rest =>
                clear HO HC HT HN
                obtain ⟨v, us, rfl, hul, hO, hsx, hC, hT⟩ := hcut
                obtain ⟨wu, hwu⟩ : ∃ z, z = wc := ⟨_, rfl⟩
                subst hwu
                have hlt41 : g < (World.heap wu).size := hC.lt
                have HN41 := Lib.hid (among_any (some ⟨(World.heap wu).size, 0, none⟩) 4 4 [0, 1, 10, 30] rfl (World.heap wu).size ((World.heap wu).size + 1) g C n cap _ (World.alloc wu (.cells #[Value.int .i64 (0), Value.int .i64 (1), Value.int .i64 (10), Value.int .i64 (30)] 3)) (hC.ext (ext_alloc _ _)) (by omega) hn (lit_flo wu [0, 1, 10, 30] _ _ rfl) (by simp) (by simp) (.inl hlt41))
                clear hC
                go_wp2_with fail
                ((with_reducible refine (HN41.out).mono ?_); rintro e w41 ⟨_, rfl, ⟨q7, _, rfl⟩, hC, hU41⟩)
                replace hU41 := (Touch.of_ext (ext_alloc wu (.cells #[Value.int .i64 (0), Value.int .i64 (1), Value.int .i64 (10), Value.int .i64 (30)] 3))).trans hU41
                replace hO := hO.touch hU41 (by omega)
                replace hT := hT.trans hU41
                have hz_w41 : (World.heap wu).size ≤ (World.heap w41).size := hU41.size
                clear hU41
                have HN42 := Lib.hid (pick_any 150 g C n cap _ w41 hC (by omega) hn)
                clear hC
                go_wp2_with fail
                ((with_reducible refine (HN42.out).mono ?_); rintro e w42 ⟨_, rfl, ⟨z7, rfl, z70, z71⟩, hC, hU42⟩)
                replace hO := hO.touch hU42 (by omega)
                replace hT := hT.trans hU42
                have hz_w42 : (World.heap w41).size ≤ (World.heap w42).size := hU42.size
                clear hU42
                have hs9 : w.heap.size ≤ (World.heap w42).size := by omega
                have HO := Lib.hid hO
                have HC := Lib.hid hC
                have HT := Lib.hid hT
                clear hO hC hT
                go_wp2
                go_roundw
                case rel => exact ⟨_, us, _, m - 1, rfl, rfl, by go_num, by omega, by omega, HO.out, hs9, HC.out.mono (by have := HK0.out; omega), HT.out⟩
                case measure => simp [intOf]; omega
    · have hm0 : m = 0 := by omega
      subst hm0
      have hyl : ys.length ≤ 8 := by omega
      clear hm hm8 hxm
      have HN1 := Lib.hid (one_any 24 g C n cap _ wr hC (by omega) hn)
      clear hC
      go_wp2_with fail
      ((with_reducible refine (HN1.out).mono ?_); rintro e w1 ⟨_, rfl, ⟨b, rfl⟩, hC, hU1⟩)
      replace hO := hO.touch hU1 (by omega)
      replace hT := hT.trans hU1
      have hz_w1 : (World.heap wr).size ≤ (World.heap w1).size := hU1.size
      clear hU1
      have hs2 : w.heap.size ≤ (World.heap w1).size := by omega
      cases b
      · have hln := hO.lens
        obtain ⟨b9, c9, hv9, hpc9, hcm9, _, _, _, _, hNA9⟩ := hO.read
        subst hv9
        obtain ⟨p9, hp9⟩ : ∃ z, z = ys.length := ⟨_, rfl⟩
        rw [← hp9] at hpc9 hln hyl ⊢
        have HP9 := Lib.hid hp9
        have HNA := Lib.hid hNA9
        have HC := Lib.hid hC
        have HT := Lib.hid hT
        clear hO hC hT hNA9 hp9
        go_wp2
        go_ret
        exact ⟨_, p9, c9, ys.map NV.x, rfl, by rw [List.length_map]; exact HP9.out, hpc9, hcm9, by omega, HNA.out, HC.out.mono (by omega), HT.out⟩
      · have hx9 := ext_alloc w1 (.cells #[] 33)
        have HOE := Lib.hid (OwnV.empty (e := 33) hs2)
        have HC := Lib.hid (hC.ext hx9)
        have HT := Lib.hid (hT.trans (Touch.of_ext hx9))
        have hs4 : w.heap.size ≤ (w1.alloc (.cells #[] 33)).heap.size := Nat.le_trans hs2 hx9.size
        clear hO hC hT hx9
        go_wp2
        go_loopw [3, 9] (fun out nv wr => ∃ (v : Value) (zs : List NV) (j : Nat), out = v ∧ nv = .int .i64 (j : Int) ∧ j ≤ 16 ∧ zs.length = j ∧ OwnV w.heap.size 33 wr v zs ∧ (∃ g c, v = .slice (some ⟨g, 0, none⟩) zs.length c) ∧ (∀ y ∈ zs, y.x.l = [] ∧ y.A = none ∧ y.d = 0) ∧ w.heap.size ≤ wr.heap.size ∧ CurAt g C n cap (k + 1000 + j * 2) wr ∧ Touch g (g + 1) w wr) (fun _ nv _ => 16 - (intOf nv).toNat)
        case atStart => exact ⟨_, [], 0, rfl, rfl, by omega, rfl, HOE.out, ⟨_, _, rfl⟩, by simp, hs4, HC.out.mono (by omega), HT.out⟩
        case round =>
          clear HOE HC HT hs4
          obtain ⟨v, zs, j, rfl, rfl, hj, hzj, hO, had, hnil, hsr, hC, hT⟩ := hrel
          have HN31 := Lib.hid (pick_any 2 g C n cap _ wr hC (by omega) hn)
          clear hC
          go_wp2_with fail
          ((with_reducible refine (HN31.out).mono ?_); rintro e w31 ⟨_, rfl, ⟨u, rfl, u0, u1⟩, hC, hU31⟩)
          replace hO := hO.touch hU31 (by omega)
          replace hT := hT.trans hU31
          have hz_w31 : (World.heap wr).size ≤ (World.heap w31).size := hU31.size
          clear hU31
          have hs4 : w.heap.size ≤ (World.heap w31).size := by omega
          have HAD := Lib.hid had
          have HNIL := Lib.hid hnil
          clear had hnil
          by_cases hlt : (j : Int) < 15 + u
          · go_wp2_with (at_builtin; refine wpList_append_nv (y := ⟨⟨_, _, _, []⟩, none, 0⟩) rfl _ _ _ rfl w.heap.size i0 _ 48 Tryd.underlying24 hi hz0e hz1e hz2e rfl _ zs rfl rfl hO ?_ (by decide) hs4 ?_; omega; intro v6 w6 hown6 hg6 hb6; have HC6 := Lib.hid (hC.below' hb6 hgw); have HT6 := Lib.hid (hT.far' hb6 (Nat.le_refl _)); have hs6 : w.heap.size ≤ w6.heap.size := Nat.le_trans hs4 hb6.size; have HO6 := Lib.hid hown6; clear hown6 hg6 hb6)
            go_roundw
            case rel =>
              obtain ⟨A8, c8, hv8, hF8⟩ := HO6.out.form
              obtain ⟨g8, hA8, _⟩ := hF8 (by simp)
              exact ⟨_, _, j + 1, rfl, by go_num, by omega, by simp; omega, HO6.out, ⟨g8, c8, by rw [hv8, hA8]⟩, fun y hy => by
                rcases List.mem_append.1 hy with hy | hy
                · exact HNIL.out y hy
                · rw [List.mem_singleton] at hy
                  rw [hy]
                  exact ⟨rfl, rfl, rfl⟩, hs6, HC6.out.mono (by omega), HT6.out⟩
            case measure => simp [intOf]; omega
          · have hS : EdSt w.heap.size 33 3 w31 _ zs := ⟨hO, HAD.out, fun y hy => by
              obtain ⟨h1, h2, h3⟩ := HNIL.out y hy
              rw [h1, h2, h3]
              exact ⟨OwnF.none_, by simp⟩⟩
            have hln := hS.lens
            obtain ⟨b9, c9, hv9, hpc9, hcm9, _, _, _, _, hNA9⟩ := hS.read
            subst hv9
            rw [hzj] at hpc9 hln ⊢
            have HZJ := Lib.hid hzj
            have HNA := Lib.hid hNA9
            have HC := Lib.hid hC
            have HT := Lib.hid hT
            clear hO hS hC hT hNA9 hzj HAD
            go_wp2
            go_ret
            exact ⟨_, j, c9, zs.map NV.x, rfl, by rw [List.length_map]; exact HZJ.out.symm, hpc9, hcm9, by omega, HNA.out, HC.out.mono (by omega), HT.out⟩
end Go.Proofs.YtadcjfbcfiljkaaDoor
