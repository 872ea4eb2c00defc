/- OverlapOf: the reference's side; whether two zones touch: both sides. No condition. -/
import Derived.Test.YtpjapemclbminaaOvI
import Derived.Test.YtpjapemclbminaaCutP
import Derived.BigQuiet
namespace Go.Proofs.Ytpjapemclbminaa
open Go.RowKit
set_option linter.unusedVariables false
set_option linter.unusedSimpArgs false

theorem l1Mx_any (a b : Int) (w : World) :
    Calls Try.prog 57 #[.int .i64 a, .int .i64 b] w fun e w' => e = .returned (.int .i64 (max a b)) ∧ w = w' := by
  by_cases h : b < a
  · rw [show max a b = a by omega]
    go_enter Try.func57, Try.ntmps57
    go_wp2
    go_ret
    exact ⟨rfl, rfl⟩
  · rw [show max a b = b by omega]
    go_enter Try.func57, Try.ntmps57
    go_wp2
    go_ret
    exact ⟨rfl, rfl⟩
theorem l1Mn_any (a b : Int) (w : World) :
    Calls Try.prog 56 #[.int .i64 a, .int .i64 b] w fun e w' => e = .returned (.int .i64 (min a b)) ∧ w = w' := by
  by_cases h : a < b
  · rw [show min a b = a by omega]
    go_enter Try.func56, Try.ntmps56
    go_wp2
    go_ret
    exact ⟨rfl, rfl⟩
  · rw [show min a b = b by omega]
    go_enter Try.func56, Try.ntmps56
    go_wp2
    go_ret
    exact ⟨rfl, rfl⟩
set_option maxHeartbeats 4000000 in
set_option maxRecDepth 100000 in
theorem l6Both_any (a b : Zone) (w : World) (ha : ZB a) (hb : ZB b) :
    Calls Try.prog 63 #[.agg #[.int .i64 a.id, .int .i64 a.west, .int .i64 a.south, .int .i64 a.east, .int .i64 a.north], .agg #[.int .i64 b.id, .int .i64 b.west, .int .i64 b.south, .int .i64 b.east, .int .i64 b.north]] w fun e w' => e = .returned (.int .i64 (bothZ a b)) ∧ Below w.heap.size w w' := by
  obtain ⟨x1, x2, x3, x4, x5, x6⟩ := ha
  obtain ⟨y1, y2, y3, y4, y5, y6⟩ := hb
  obtain ⟨V0, hV0, hB0, hs0, hu0, _⟩ := box_world w #[Value.int .i64 a.id, Value.int .i64 a.west, Value.int .i64 a.south, Value.int .i64 a.east, Value.int .i64 a.north] 35
  obtain ⟨V1, hV1, hB1, hs1, hu1, _⟩ := box_world V0 #[Value.int .i64 b.id, Value.int .i64 b.west, Value.int .i64 b.south, Value.int .i64 b.east, Value.int .i64 b.north] 35
  have hs2 : w.heap.size < V1.heap.size := Nat.lt_of_lt_of_le hs0 hB1.size
  have a0 : World.cell? V1 ⟨w.heap.size, 0, none⟩ = some (.int .i64 a.id) := (hB1.cell (p := ⟨w.heap.size, 0, none⟩) hs0).trans (hu0 0)
  have a1 : World.cell? V1 ⟨w.heap.size, 1, none⟩ = some (.int .i64 a.west) := (hB1.cell (p := ⟨w.heap.size, 1, none⟩) hs0).trans (hu0 1)
  have a2 : World.cell? V1 ⟨w.heap.size, 2, none⟩ = some (.int .i64 a.south) := (hB1.cell (p := ⟨w.heap.size, 2, none⟩) hs0).trans (hu0 2)
  have a3 : World.cell? V1 ⟨w.heap.size, 3, none⟩ = some (.int .i64 a.east) := (hB1.cell (p := ⟨w.heap.size, 3, none⟩) hs0).trans (hu0 3)
  have a4 : World.cell? V1 ⟨w.heap.size, 4, none⟩ = some (.int .i64 a.north) := (hB1.cell (p := ⟨w.heap.size, 4, none⟩) hs0).trans (hu0 4)
  have b0 : World.cell? V1 ⟨V0.heap.size, 0, none⟩ = some (.int .i64 b.id) := hu1 0
  have b1 : World.cell? V1 ⟨V0.heap.size, 1, none⟩ = some (.int .i64 b.west) := hu1 1
  have b2 : World.cell? V1 ⟨V0.heap.size, 2, none⟩ = some (.int .i64 b.south) := hu1 2
  have b3 : World.cell? V1 ⟨V0.heap.size, 3, none⟩ = some (.int .i64 b.east) := hu1 3
  have b4 : World.cell? V1 ⟨V0.heap.size, 4, none⟩ = some (.int .i64 b.north) := hu1 4
  have hB01 := ext_trans hB0 hB1
  clear hu0 hu1
  have hpc := plus_cell V1
  go_enter Try.func63, Try.ntmps63
  go_wp2_with fail
  refine wp_region_grow (by kernel_rfl) (by kernel_rfl) ?_
  repeat (go_big_quiet_step ((first | (go_at_call 57; exact quiet_same (l1Mx_any _ _ _)) | (go_at_call 56; exact quiet_same (l1Mn_any _ _ _)))))
  refine wpQuiet_nil ?_
  intro w1 hb1
  obtain ⟨W2, hW2⟩ : ∃ z, z = w1 := ⟨_, rfl⟩
  subst hW2
  have hB2 := hb1
  have ca0 := (hB2.cell (p := ⟨w.heap.size, 0, none⟩) hs2).trans a0
  have ca1 := (hB2.cell (p := ⟨w.heap.size, 1, none⟩) hs2).trans a1
  have ca2 := (hB2.cell (p := ⟨w.heap.size, 2, none⟩) hs2).trans a2
  have ca3 := (hB2.cell (p := ⟨w.heap.size, 3, none⟩) hs2).trans a3
  have ca4 := (hB2.cell (p := ⟨w.heap.size, 4, none⟩) hs2).trans a4
  have cb0 := (hB2.cell (p := ⟨V0.heap.size, 0, none⟩) hs1).trans b0
  have cb1 := (hB2.cell (p := ⟨V0.heap.size, 1, none⟩) hs1).trans b1
  have cb2 := (hB2.cell (p := ⟨V0.heap.size, 2, none⟩) hs1).trans b2
  have cb3 := (hB2.cell (p := ⟨V0.heap.size, 3, none⟩) hs1).trans b3
  have cb4 := (hB2.cell (p := ⟨V0.heap.size, 4, none⟩) hs1).trans b4
  have cl1 : w.heap.size < (World.heap W2).size := Nat.lt_of_lt_of_le hs2 (hB2).size
  have cl2 : V0.heap.size < (World.heap W2).size := Nat.lt_of_lt_of_le hs1 (hB2).size
  clear hpc
  have hpc2 := plus_cell W2
  go_wp2_with fail
  refine wp_region_grow (by kernel_rfl) (by kernel_rfl) ?_
  repeat (go_big_quiet_step ((first | (go_at_call 57; exact quiet_same (l1Mx_any _ _ _)) | (go_at_call 56; exact quiet_same (l1Mn_any _ _ _)))))
  refine wpQuiet_nil ?_
  intro w1 hb1
  have hB3 := ext_trans hB01 (ext_trans hB2 hb1)
  have hbd := bothZ_bd a b (by omega) (by omega) (by omega) (by omega)
  have hw : wrap64 (max 0 (min a.east b.east - max a.west b.west) * max 0 (min a.north b.north - max a.south b.south)) = bothZ a b := by
    rw [show max 0 (min a.east b.east - max a.west b.west) * max 0 (min a.north b.north - max a.south b.south) = bothZ a b from rfl]
    unfold wrap64; omega
  have HW := Lib.hid hw
  have HB3 := Lib.hid hB3
  clear hw hbd
  go_wp2_with fail
  ((with_reducible refine (l1Mx_any _ _ _).mono ?_); rintro e w4 ⟨rfl, rfl⟩)
  go_wp2_with fail
  ((with_reducible refine (l1Mx_any _ _ _).mono ?_); rintro e w4 ⟨rfl, rfl⟩)
  go_wp2
  go_ret
  exact ⟨ret_int HW.out, HB3.out⟩
set_option maxHeartbeats 1000000 in
set_option maxRecDepth 100000 in
theorem specOverlapOf_any (A : Option Addr) (c : Nat) (zs : List Zone) (a b : Int) (w : World) (hn : zs.length ≤ 1048576) (hA : Fl Zone.ints 5 w A zs) :
    Calls Try.prog 33 #[.slice A zs.length c, .int .i64 a, .int .i64 b] w (fun e w' => e = .returned (.tuple #[.int .i64 (seli (OvOk zs (atZ zs a) (atZ zs b)) (ovZ zs (atZ zs a) (atZ zs b))), .bool (tb (OvOk zs (atZ zs a) (atZ zs b)))]) ∧ Below w.heap.size w w') := by
  have hare := fun W hW => l6Zones_any A c zs W (by omega) hW
  have hat := fun (id : Int) W hW => l6Find_any A c zs id W (by omega) hW
  have hp := fun id : Int => atZ_p zs id
  have hzb := fun (h : Zons zs) (x : Zone) (j : Nat) (hx : zs[j]? = some x) => h.zb x (List.mem_of_getElem? hx)
  have hgt := fun W (hW : Fl Zone.ints 5 W A zs) (j : Nat) (hj : j < zs.length) => hW.at_ hj
  have hlt := fun (j : Nat) (z : Zone) (h : zs[j]? = some z) => lt_of_get h
  simp only [show ∀ id : Int, idxB (fun x : Zone => decide (x.id = id)) 0 zs = atZ zs id from fun _ => rfl] at hat
  obtain ⟨r, hr⟩ : ∃ r, r = atZ zs a := ⟨_, rfl⟩
  obtain ⟨s, hs⟩ : ∃ s, s = atZ zs b := ⟨_, rfl⟩
  have hpa := hp a
  have hpb := hp b
  have hta := fun W hW => hat a W hW
  have htb := fun W hW => hat b W hW
  rw [← hr] at hpa hta
  rw [← hs] at hpb htb
  rw [← hr, ← hs]
  clear hp hat hr hs
  obtain ⟨n, hnn⟩ : ∃ n, n = List.length zs := ⟨_, rfl⟩
  rw [← hnn] at hare hta htb hlt hgt ⊢
  have HA := Lib.hid hare
  have HTA := Lib.hid hta
  have HTB := Lib.hid htb
  have HPA := Lib.hid hpa
  have HPB := Lib.hid hpb
  have HLT := Lib.hid hlt
  have HGT := Lib.hid hgt
  have HZB := Lib.hid hzb
  clear hnn hare hta htb hpa hpb hlt hgt hzb
  go_enter Try.func33, Try.ntmps33
  go_wp2_with fail
  refine (HTA.out w hA).mono ?_
  rintro e w0 ⟨rfl, hb0w⟩
  have hb00a : Below w.heap.size w w0 := by subst hb0w; exact Below.refl _ _
  clear hb0w
  go_wp2_with fail
  refine (HTB.out w0 (hA.ext hb00a)).mono ?_
  rintro e w00 ⟨rfl, hb0v⟩
  have hb00 : Below w.heap.size w w00 := by subst hb0v; exact hb00a
  clear hb0v
  go_wp2_with fail
  refine (HA.out _ (hA.ext hb00)).mono ?_
  rintro e w01 ⟨rfl, hb01⟩
  by_cases h1 : Zons zs
  · rw [tb_t h1]
    have H1 := Lib.hid h1
    clear h1
    by_cases h2 : 0 ≤ r
    · obtain ⟨j, x, rfl, hj⟩ := HPA.out h2
      have hjn := HLT.out j x hj
      have hjr : ¬ (j : Int) < 0 := by omega
      by_cases h3 : 0 ≤ s
      · obtain ⟨i, y, rfl, hi⟩ := HPB.out h3
        have hin := HLT.out i y hi
        have hir : ¬ (i : Int) < 0 := by omega
        have HO : Hid (OvOk zs (j : Int) (i : Int)) := ⟨H1.out, h2, h3⟩
        obtain ⟨x', bx, ox, hx', hAe, hbx, hcx⟩ := HGT.out _ (hA.ext (ext_trans hb00 hb01)) j hjn
        obtain ⟨y', by_, oy, hy', hAe2, hby, hcy⟩ := HGT.out _ (hA.ext (ext_trans hb00 hb01)) i hin
        rw [hj] at hx'
        cases hx'
        rw [hi] at hy'
        cases hy'
        rw [hAe] at hAe2
        cases hAe2
        subst hAe
        have hjn' : (j : Int) < (n : Int) := by omega
        have hin' : (i : Int) < (n : Int) := by omega
        have hj0 : (0 : Int) ≤ (j : Int) := by omega
        have hi0 : (0 : Int) ≤ (i : Int) := by omega
        have c0 : World.cell? w01 ⟨bx, ox + j * 5, none⟩ = some (.int .i64 x.id) := hcx 0 _ rfl
        have c1 : World.cell? w01 ⟨bx, ox + j * 5 + 1, none⟩ = some (.int .i64 x.west) := hcx 1 _ rfl
        have c2 : World.cell? w01 ⟨bx, ox + j * 5 + 2, none⟩ = some (.int .i64 x.south) := hcx 2 _ rfl
        have c3 : World.cell? w01 ⟨bx, ox + j * 5 + 3, none⟩ = some (.int .i64 x.east) := hcx 3 _ rfl
        have c4 : World.cell? w01 ⟨bx, ox + j * 5 + 4, none⟩ = some (.int .i64 x.north) := hcx 4 _ rfl
        have d0 : World.cell? w01 ⟨bx, ox + i * 5, none⟩ = some (.int .i64 y.id) := hcy 0 _ rfl
        have d1 : World.cell? w01 ⟨bx, ox + i * 5 + 1, none⟩ = some (.int .i64 y.west) := hcy 1 _ rfl
        have d2 : World.cell? w01 ⟨bx, ox + i * 5 + 2, none⟩ = some (.int .i64 y.south) := hcy 2 _ rfl
        have d3 : World.cell? w01 ⟨bx, ox + i * 5 + 3, none⟩ = some (.int .i64 y.east) := hcy 3 _ rfl
        have d4 : World.cell? w01 ⟨bx, ox + i * 5 + 4, none⟩ = some (.int .i64 y.north) := hcy 4 _ rfl
        have HOV := Lib.hid (fun W => l6Both_any x y W (HZB.out H1.out x j hj) (HZB.out H1.out y i hi))
        have HV : Hid (ovZ zs (j : Int) (i : Int) = bothZ x y) := by unfold Hid ovZ; rw [show ((j : Int)).toNat = j from rfl, show ((i : Int)).toNat = i from rfl, hj, hi]
        have hpc := plus_cell w01
        clear hcx hcy hj hi hjr hir
        go_wp2_with fail
        refine wp_region_grow (by kernel_rfl) (by kernel_rfl) ?_
        repeat (go_big_quiet_step ((first | (go_at_call 63; exact quiet_below (HOV.out _)))))
        refine wpQuiet_nil ?_
        intro w1 hb1
        go_wp2
        go_ret2
        rw [seli_t HO.out, tb_t HO.out, HV.out]
        exact ⟨rfl, ext_trans (ext_trans hb00 hb01) hb1⟩
      · have hslt : s < 0 := by omega
        go_wp2
        go_ret2
        have hok : ¬ (OvOk zs (j : Int) s) := fun h => (fun (q : 0 ≤ s) => (by omega : False)) h.2.2
        rw [seli_f hok, tb_f hok]
        exact ⟨rfl, (ext_trans hb00 hb01)⟩
    · have hrlt : r < 0 := by omega
      go_wp2
      go_ret2
      have hok : ¬ (OvOk zs r s) := fun h => (fun (q : 0 ≤ r) => (by omega : False)) h.2.1
      rw [seli_f hok, tb_f hok]
      exact ⟨rfl, (ext_trans hb00 hb01)⟩
  · rw [tb_f h1]
    have H1 := Lib.hid h1
    clear h1
    go_wp2
    go_ret2
    have hok : ¬ (OvOk zs r s) := fun h => H1.out h.1
    rw [seli_f hok, tb_f hok]
    exact ⟨rfl, (ext_trans hb00 hb01)⟩
set_option maxHeartbeats 4000000 in
theorem adjoin_any (a b : Zone) (w : World) (ha : ZB a) (hb : ZB b) :
    Calls Try.prog 59 #[.agg #[.int .i64 a.id, .int .i64 a.west, .int .i64 a.south, .int .i64 a.east, .int .i64 a.north], .agg #[.int .i64 b.id, .int .i64 b.west, .int .i64 b.south, .int .i64 b.east, .int .i64 b.north]] w fun e w' => e = .returned (.bool (tb (Tch a b))) ∧ Below w.heap.size w w' := by
  obtain ⟨x1, x2, x3, x4, x5, x6⟩ := ha
  obtain ⟨y1, y2, y3, y4, y5, y6⟩ := hb
  go_enter Try.func59, Try.ntmps59
  go_wp2
  all_goals
    go_ret
    refine ⟨ret_bool ?_, by first | exact hB3 | go_grown⟩
    first | exact (tb_t (by unfold Tch wideZ highZZ; omega)).symm | exact (tb_f (by unfold Tch wideZ highZZ; omega)).symm | exact tb_dec (by unfold Tch wideZ highZZ; omega) | (symm; rw [tb_iff (q := _) Iff.rfl]; simp; unfold Tch wideZ highZZ; omega)
set_option maxHeartbeats 4000000 in
set_option maxRecDepth 100000 in
theorem l6Touch_any (a b : Zone) (w : World) (ha : ZB a) (hb : ZB b) :
    Calls Try.prog 60 #[.agg #[.int .i64 a.id, .int .i64 a.west, .int .i64 a.south, .int .i64 a.east, .int .i64 a.north], .agg #[.int .i64 b.id, .int .i64 b.west, .int .i64 b.south, .int .i64 b.east, .int .i64 b.north]] w fun e w' => e = .returned (.bool (tb (Tch a b))) ∧ Below w.heap.size w w' := by
  obtain ⟨x1, x2, x3, x4, x5, x6⟩ := ha
  obtain ⟨y1, y2, y3, y4, y5, y6⟩ := hb
  obtain ⟨V0, hV0, hB0, hs0, hu0, _⟩ := box_world w #[Value.int .i64 a.id, Value.int .i64 a.west, Value.int .i64 a.south, Value.int .i64 a.east, Value.int .i64 a.north] 35
  obtain ⟨V1, hV1, hB1, hs1, hu1, _⟩ := box_world V0 #[Value.int .i64 b.id, Value.int .i64 b.west, Value.int .i64 b.south, Value.int .i64 b.east, Value.int .i64 b.north] 35
  have hs2 : w.heap.size < V1.heap.size := Nat.lt_of_lt_of_le hs0 hB1.size
  have a0 : World.cell? V1 ⟨w.heap.size, 0, none⟩ = some (.int .i64 a.id) := (hB1.cell (p := ⟨w.heap.size, 0, none⟩) hs0).trans (hu0 0)
  have a1 : World.cell? V1 ⟨w.heap.size, 1, none⟩ = some (.int .i64 a.west) := (hB1.cell (p := ⟨w.heap.size, 1, none⟩) hs0).trans (hu0 1)
  have a2 : World.cell? V1 ⟨w.heap.size, 2, none⟩ = some (.int .i64 a.south) := (hB1.cell (p := ⟨w.heap.size, 2, none⟩) hs0).trans (hu0 2)
  have a3 : World.cell? V1 ⟨w.heap.size, 3, none⟩ = some (.int .i64 a.east) := (hB1.cell (p := ⟨w.heap.size, 3, none⟩) hs0).trans (hu0 3)
  have a4 : World.cell? V1 ⟨w.heap.size, 4, none⟩ = some (.int .i64 a.north) := (hB1.cell (p := ⟨w.heap.size, 4, none⟩) hs0).trans (hu0 4)
  have b0 : World.cell? V1 ⟨V0.heap.size, 0, none⟩ = some (.int .i64 b.id) := hu1 0
  have b1 : World.cell? V1 ⟨V0.heap.size, 1, none⟩ = some (.int .i64 b.west) := hu1 1
  have b2 : World.cell? V1 ⟨V0.heap.size, 2, none⟩ = some (.int .i64 b.south) := hu1 2
  have b3 : World.cell? V1 ⟨V0.heap.size, 3, none⟩ = some (.int .i64 b.east) := hu1 3
  have b4 : World.cell? V1 ⟨V0.heap.size, 4, none⟩ = some (.int .i64 b.north) := hu1 4
  have hB01 := ext_trans hB0 hB1
  clear hu0 hu1
  have hpc := plus_cell V1
  go_enter Try.func60, Try.ntmps60
  go_wp2_with fail
  refine wp_region_grow (by kernel_rfl) (by kernel_rfl) ?_
  repeat (go_big_quiet_step ((first | (go_at_call 57; exact quiet_same (l1Mx_any _ _ _)) | (go_at_call 56; exact quiet_same (l1Mn_any _ _ _)))))
  refine wpQuiet_nil ?_
  intro w1 hb1
  obtain ⟨W2, hW2⟩ : ∃ z, z = w1 := ⟨_, rfl⟩
  subst hW2
  have hB2 := hb1
  have ca0 := (hB2.cell (p := ⟨w.heap.size, 0, none⟩) hs2).trans a0
  have ca1 := (hB2.cell (p := ⟨w.heap.size, 1, none⟩) hs2).trans a1
  have ca2 := (hB2.cell (p := ⟨w.heap.size, 2, none⟩) hs2).trans a2
  have ca3 := (hB2.cell (p := ⟨w.heap.size, 3, none⟩) hs2).trans a3
  have ca4 := (hB2.cell (p := ⟨w.heap.size, 4, none⟩) hs2).trans a4
  have cb0 := (hB2.cell (p := ⟨V0.heap.size, 0, none⟩) hs1).trans b0
  have cb1 := (hB2.cell (p := ⟨V0.heap.size, 1, none⟩) hs1).trans b1
  have cb2 := (hB2.cell (p := ⟨V0.heap.size, 2, none⟩) hs1).trans b2
  have cb3 := (hB2.cell (p := ⟨V0.heap.size, 3, none⟩) hs1).trans b3
  have cb4 := (hB2.cell (p := ⟨V0.heap.size, 4, none⟩) hs1).trans b4
  have cl1 : w.heap.size < (World.heap W2).size := Nat.lt_of_lt_of_le hs2 (hB2).size
  have cl2 : V0.heap.size < (World.heap W2).size := Nat.lt_of_lt_of_le hs1 (hB2).size
  clear hpc
  have hpc2 := plus_cell W2
  go_wp2_with fail
  refine wp_region_grow (by kernel_rfl) (by kernel_rfl) ?_
  repeat (go_big_quiet_step ((first | (go_at_call 57; exact quiet_same (l1Mx_any _ _ _)) | (go_at_call 56; exact quiet_same (l1Mn_any _ _ _)))))
  refine wpQuiet_nil ?_
  intro w1 hb1
  have hB3 := ext_trans hB01 (ext_trans hB2 hb1)
  go_wp2
  all_goals
    go_ret
    refine ⟨ret_bool ?_, by first | exact hB3 | go_grown⟩
    first | exact (tb_t (by unfold Tch wideZ highZZ; omega)).symm | exact (tb_f (by unfold Tch wideZ highZZ; omega)).symm | exact tb_dec (by unfold Tch wideZ highZZ; omega) | (symm; rw [tb_iff (q := _) Iff.rfl]; simp; unfold Tch wideZ highZZ; omega)
end Go.Proofs.Ytpjapemclbminaa
