/- OverlapOf: the program's side. No condition. -/
import Derived.Test.YtpjapemclbminaaAreaU
import Derived.Test.YtpjapemclbminaaAreaA
import Derived.Test.YtpjapemclbminaaFindZ
import Derived.Test.YtpjapemclbminaaZonesOk
import Derived.StillTailTactics
namespace Go.Proofs.Ytpjapemclbminaa
open Go.RowKit
set_option linter.unusedVariables false
set_option linter.unusedSimpArgs false

def bothZ (a b : Zone) : Int := max 0 (min a.east b.east - max a.west b.west) * max 0 (min a.north b.north - max a.south b.south)
theorem bothZ_bd (a b : Zone) (h1 : 0 ≤ a.west) (h2 : a.east ≤ 9999) (h3 : 0 ≤ a.south) (h4 : a.north ≤ 9999) : 0 ≤ bothZ a b ∧ bothZ a b ≤ 100000000 := by
  unfold bothZ
  obtain ⟨p, hp⟩ : ∃ p, p = max 0 (min a.east b.east - max a.west b.west) := ⟨_, rfl⟩
  obtain ⟨q, hq⟩ : ∃ q, q = max 0 (min a.north b.north - max a.south b.south) := ⟨_, rfl⟩
  rw [← hp, ← hq]
  have hp1 : 0 ≤ p ∧ p ≤ 9999 := by omega
  have hq1 : 0 ≤ q ∧ q ≤ 9999 := by omega
  refine ⟨Int.mul_nonneg hp1.1 hq1.1, ?_⟩
  have : p * q ≤ 9999 * 9999 := Int.mul_le_mul hp1.2 hq1.2 hq1.1 (by decide)
  omega
theorem bothZ_self {z : Zone} (h : ZB z) : bothZ z z = ownA z := by
  unfold ZB at h
  unfold bothZ ownA
  rw [show max 0 (min z.east z.east - max z.west z.west) = z.east - z.west by omega, show max 0 (min z.north z.north - max z.south z.south) = z.north - z.south by omega]
set_option maxHeartbeats 4000000 in
theorem overlap_any (x y : Zone) (w : World) (hx : ZB x) (hy : ZB y) :
    Calls Try.prog 43 #[.agg #[.int .i64 x.id, .int .i64 x.west, .int .i64 x.south, .int .i64 x.east, .int .i64 x.north], .agg #[.int .i64 y.id, .int .i64 y.west, .int .i64 y.south, .int .i64 y.east, .int .i64 y.north]] w fun e w' => e = .returned (.int .i64 (bothZ x y)) ∧ Below w.heap.size w w' := by
  obtain ⟨x1, x2, x3, x4, x5, x6⟩ := hx
  obtain ⟨y1, y2, y3, y4, y5, y6⟩ := hy
  go_enter Try.func43, Try.ntmps43
  have hb := bothZ_bd x y (by omega) (by omega) (by omega) (by omega)
  have hw : wrap64 (max 0 (min x.east y.east - max x.west y.west) * max 0 (min x.north y.north - max x.south y.south)) = bothZ x y := by
    rw [show max 0 (min x.east y.east - max x.west y.west) * max 0 (min x.north y.north - max x.south y.south) = bothZ x y from rfl]
    unfold wrap64; omega
  have HW := Lib.hid hw
  clear hw hb
  go_wp2
  go_ret
  refine ⟨ret_int HW.out, by go_grown⟩
def OvOk (zs : List Zone) (r s : Int) : Prop := Zons zs ∧ 0 ≤ r ∧ 0 ≤ s
def ovZ (zs : List Zone) (r s : Int) : Int := match zs[r.toNat]?, zs[s.toNat]? with
  | some x, some y => bothZ x y
  | _, _ => 0
set_option maxHeartbeats 1000000 in
set_option maxRecDepth 100000 in
theorem overlapOf_any (A : Option Addr) (c : Nat) (zs : List Zone) (a b : Int) (w : World) (hn : zs.length ≤ 1048576) (hA : Fl Zone.ints 5 w A zs) :
    Calls Try.prog 13 #[.slice A zs.length c, .int .i64 a, .int .i64 b] w (fun e w' => e = .returned (.tuple #[.int .i64 (seli (OvOk zs (atZ zs a) (atZ zs b)) (ovZ zs (atZ zs a) (atZ zs b))), .bool (tb (OvOk zs (atZ zs a) (atZ zs b)))]) ∧ Below w.heap.size w w') := by
  have hare := fun W hW => areZones_any A c zs W (by omega) hW
  have hat := fun (id : Int) W hW => zoneAt_any A c zs id W (by omega) hW
  have hp := fun id : Int => atZ_p zs id
  have hzb := fun (h : Zons zs) (x : Zone) (j : Nat) (hx : zs[j]? = some x) => h.zb x (List.mem_of_getElem? hx)
  have hgt := fun W (hW : Fl Zone.ints 5 W A zs) (j : Nat) (hj : j < zs.length) => hW.at_ hj
  have hlt := fun (j : Nat) (z : Zone) (h : zs[j]? = some z) => lt_of_get h
  simp only [show ∀ id : Int, idxB (fun x : Zone => decide (x.id = id)) 0 zs = atZ zs id from fun _ => rfl] at hat
  obtain ⟨r, hr⟩ : ∃ r, r = atZ zs a := ⟨_, rfl⟩
  obtain ⟨s, hs⟩ : ∃ s, s = atZ zs b := ⟨_, rfl⟩
  have hpa := hp a
  have hpb := hp b
  have hta := fun W hW => hat a W hW
  have htb := fun W hW => hat b W hW
  rw [← hr] at hpa hta
  rw [← hs] at hpb htb
  rw [← hr, ← hs]
  clear hp hat hr hs
  obtain ⟨n, hnn⟩ : ∃ n, n = List.length zs := ⟨_, rfl⟩
  rw [← hnn] at hare hta htb hlt hgt ⊢
  have HA := Lib.hid hare
  have HTA := Lib.hid hta
  have HTB := Lib.hid htb
  have HPA := Lib.hid hpa
  have HPB := Lib.hid hpb
  have HLT := Lib.hid hlt
  have HGT := Lib.hid hgt
  have HZB := Lib.hid hzb
  clear hnn hare hta htb hpa hpb hlt hgt hzb
  go_enter Try.func13, Try.ntmps13
  go_wp2_with fail
  refine (HTA.out w hA).mono ?_
  rintro e w0 ⟨rfl, hb0w⟩
  have hb00a : Below w.heap.size w w0 := hb0w
  clear hb0w
  go_wp2_with fail
  refine (HTB.out w0 (hA.ext hb00a)).mono ?_
  rintro e w00 ⟨rfl, hb0v⟩
  have hb00 : Below w.heap.size w w00 := ext_trans hb00a hb0v
  clear hb0v
  go_wp2_with fail
  refine (HA.out _ (hA.ext hb00)).mono ?_
  rintro e w01 ⟨rfl, hb01⟩
  by_cases h1 : Zons zs
  · rw [tb_t h1]
    have H1 := Lib.hid h1
    clear h1
    by_cases h2 : 0 ≤ r
    · obtain ⟨j, x, rfl, hj⟩ := HPA.out h2
      have hjn := HLT.out j x hj
      have hjr : ¬ (j : Int) < 0 := by omega
      by_cases h3 : 0 ≤ s
      · obtain ⟨i, y, rfl, hi⟩ := HPB.out h3
        have hin := HLT.out i y hi
        have hir : ¬ (i : Int) < 0 := by omega
        have HO : Hid (OvOk zs (j : Int) (i : Int)) := ⟨H1.out, h2, h3⟩
        obtain ⟨x', bx, ox, hx', hAe, hbx, hcx⟩ := HGT.out _ (hA.ext (ext_trans hb00 hb01)) j hjn
        obtain ⟨y', by_, oy, hy', hAe2, hby, hcy⟩ := HGT.out _ (hA.ext (ext_trans hb00 hb01)) i hin
        rw [hj] at hx'
        cases hx'
        rw [hi] at hy'
        cases hy'
        rw [hAe] at hAe2
        cases hAe2
        subst hAe
        have hjn' : (j : Int) < (n : Int) := by omega
        have hin' : (i : Int) < (n : Int) := by omega
        have hj0 : (0 : Int) ≤ (j : Int) := by omega
        have hi0 : (0 : Int) ≤ (i : Int) := by omega
        have c0 : World.cell? w01 ⟨bx, ox + j * 5, none⟩ = some (.int .i64 x.id) := hcx 0 _ rfl
        have c1 : World.cell? w01 ⟨bx, ox + j * 5 + 1, none⟩ = some (.int .i64 x.west) := hcx 1 _ rfl
        have c2 : World.cell? w01 ⟨bx, ox + j * 5 + 2, none⟩ = some (.int .i64 x.south) := hcx 2 _ rfl
        have c3 : World.cell? w01 ⟨bx, ox + j * 5 + 3, none⟩ = some (.int .i64 x.east) := hcx 3 _ rfl
        have c4 : World.cell? w01 ⟨bx, ox + j * 5 + 4, none⟩ = some (.int .i64 x.north) := hcx 4 _ rfl
        have d0 : World.cell? w01 ⟨bx, ox + i * 5, none⟩ = some (.int .i64 y.id) := hcy 0 _ rfl
        have d1 : World.cell? w01 ⟨bx, ox + i * 5 + 1, none⟩ = some (.int .i64 y.west) := hcy 1 _ rfl
        have d2 : World.cell? w01 ⟨bx, ox + i * 5 + 2, none⟩ = some (.int .i64 y.south) := hcy 2 _ rfl
        have d3 : World.cell? w01 ⟨bx, ox + i * 5 + 3, none⟩ = some (.int .i64 y.east) := hcy 3 _ rfl
        have d4 : World.cell? w01 ⟨bx, ox + i * 5 + 4, none⟩ = some (.int .i64 y.north) := hcy 4 _ rfl
        have HOV := Lib.hid (fun W => overlap_any x y W (HZB.out H1.out x j hj) (HZB.out H1.out y i hi))
        have HV : Hid (ovZ zs (j : Int) (i : Int) = bothZ x y) := by unfold Hid ovZ; rw [show ((j : Int)).toNat = j from rfl, show ((i : Int)).toNat = i from rfl, hj, hi]
        have hpc := plus_cell w01
        clear hcx hcy hj hi hjr hir
        go_wp2_with fail
        refine wp_region_grow (by kernel_rfl) (by kernel_rfl) ?_
        repeat (go_big_quiet_step ((first | (go_at_call 43; exact quiet_below (HOV.out _)))))
        refine wpQuiet_nil ?_
        intro w1 hb1
        go_wp2
        go_ret2
        rw [seli_t HO.out, tb_t HO.out, HV.out]
        exact ⟨rfl, ext_trans (ext_trans hb00 hb01) hb1⟩
      · have hslt : s < 0 := by omega
        go_wp2
        go_ret2
        have hok : ¬ (OvOk zs (j : Int) s) := fun h => (fun (q : 0 ≤ s) => (by omega : False)) h.2.2
        rw [seli_f hok, tb_f hok]
        exact ⟨rfl, (ext_trans hb00 hb01)⟩
    · have hrlt : r < 0 := by omega
      go_wp2
      go_ret2
      have hok : ¬ (OvOk zs r s) := fun h => (fun (q : 0 ≤ r) => (by omega : False)) h.2.1
      rw [seli_f hok, tb_f hok]
      exact ⟨rfl, (ext_trans hb00 hb01)⟩
  · rw [tb_f h1]
    have H1 := Lib.hid h1
    clear h1
    go_wp2
    go_ret2
    have hok : ¬ (OvOk zs r s) := fun h => H1.out h.1
    rw [seli_f hok, tb_f hok]
    exact ⟨rfl, (ext_trans hb00 hb01)⟩
end Go.Proofs.Ytpjapemclbminaa
