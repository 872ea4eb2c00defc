/- AreaOfAll and AreaOnlyIn on both sides. -/
import Derived.Test.YtpjapemclbminaaAreaW
import Derived.Test.YtpjapemclbminaaFindZ
import Derived.Test.YtpjapemclbminaaWithout
import Derived.Test.YtpjapemclbminaaZonesOk
namespace Go.Proofs.Ytpjapemclbminaa
open Go.RowKit
set_option linter.unusedVariables false
set_option linter.unusedSimpArgs false

theorem Zons.zb {zs : List Zone} (h : Zons zs) : ∀ z ∈ zs, ZB z := fun z hz => by
  obtain ⟨i, hi⟩ := List.mem_iff_getElem?.1 hz
  have := h.1.1 i z hi
  unfold IsZon at this
  unfold ZB
  omega
theorem zb_without {zs : List Zone} (h : ∀ z ∈ zs, ZB z) (j : Nat) : ∀ z ∈ zs.take j ++ zs.drop (j + 1), ZB z := fun z hz => by
  rcases List.mem_append.1 hz with h1 | h1
  · exact h z (List.mem_of_mem_take h1)
  · exact h z (List.mem_of_mem_drop h1)
theorem without_len (zs : List Zone) (j : Nat) : (zs.take j ++ zs.drop (j + 1)).length ≤ zs.length := by rw [List.length_append, List.length_take, List.length_drop]; omega
def woZ (zs : List Zone) (r : Int) : List Zone := zs.take r.toNat ++ zs.drop (r.toNat + 1)
def atZ (zs : List Zone) (id : Int) : Int := idxB (fun x => decide (x.id = id)) 0 zs
theorem atZ_p (zs : List Zone) (id : Int) (h : 0 ≤ atZ zs id) : ∃ (j : Nat) (y : Zone), atZ zs id = (j : Int) ∧ zs[j]? = some y := by
  rcases idxB_p (fun x : Zone => decide (x.id = id)) zs 0 with ⟨h4, _⟩ | ⟨j', e', h4, h5, h6⟩
  · unfold atZ at h; omega
  · exact ⟨j', e', by unfold atZ; omega, h5⟩
def AyOk (zs : List Zone) (r : Int) : Prop := Zons zs ∧ 0 ≤ r
set_option maxHeartbeats 1000000 in
theorem areaOfAll_any (A : Option Addr) (c : Nat) (zs : List Zone) (w : World) (hn : zs.length ≤ 1048576) (hA : Fl Zone.ints 5 w A zs) :
    Calls Try.prog 7 #[.slice A zs.length c] w fun e w' => e = .returned (.tuple #[.int .i64 (seli (Zons zs) (areaZ zs)), .bool (tb (Zons zs))]) ∧ Below w.heap.size w w' := by
  have hare := areZones_any A c zs w (by omega) hA
  by_cases h1 : Zons zs
  · have har := fun W hW => areaOf_any A c zs W h1.2 h1.zb hW
    rw [tb_t h1] at hare
    rw [tb_t h1, seli_t h1]
    generalize zs.length = n at *
    have HA := Lib.hid hare
    have HR := Lib.hid har
    clear hare har
    go_enter Try.func7, Try.ntmps7
    go_wp2_with fail
    refine (HA.out).mono ?_
    rintro e w1 ⟨rfl, hb1⟩
    go_wp2_with fail
    refine (HR.out w1 (hA.ext hb1)).mono ?_
    rintro e w2 ⟨rfl, _, hb2⟩
    go_wp2
    go_ret2
    exact ⟨rfl, ext_trans hb1 hb2⟩
  · rw [tb_f h1] at hare
    rw [tb_f h1, seli_f h1]
    generalize zs.length = n at *
    have HA := Lib.hid hare
    clear hare
    go_enter Try.func7, Try.ntmps7
    go_wp2_with fail
    refine (HA.out).mono ?_
    rintro e w1 ⟨rfl, hb1⟩
    go_wp2
    go_ret2
    exact ⟨rfl, hb1⟩
set_option maxHeartbeats 1000000 in
theorem specAreaOfAll_any (A : Option Addr) (c : Nat) (zs : List Zone) (w : World) (hn : zs.length ≤ 1048576) (hA : Fl Zone.ints 5 w A zs) :
    Calls Try.prog 8 #[.slice A zs.length c] w fun e w' => e = .returned (.tuple #[.int .i64 (seli (Zons zs) (areaZ zs)), .bool (tb (Zons zs))]) ∧ Below w.heap.size w w' := by
  have hare := l6Zones_any A c zs w (by omega) hA
  by_cases h1 : Zons zs
  · have har := fun W hW => l6Area_any A c zs W h1.2 h1.zb hW
    rw [tb_t h1] at hare
    rw [tb_t h1, seli_t h1]
    generalize zs.length = n at *
    have HA := Lib.hid hare
    have HR := Lib.hid har
    clear hare har
    go_enter Try.func8, Try.ntmps8
    go_wp2_with fail
    refine (HA.out).mono ?_
    rintro e w1 ⟨rfl, hb1⟩
    go_wp2_with fail
    refine (HR.out w1 (hA.ext hb1)).mono ?_
    rintro e w2 ⟨rfl, _, hb2⟩
    go_wp2
    go_ret2
    exact ⟨rfl, ext_trans hb1 hb2⟩
  · rw [tb_f h1] at hare
    rw [tb_f h1, seli_f h1]
    generalize zs.length = n at *
    have HA := Lib.hid hare
    clear hare
    go_enter Try.func8, Try.ntmps8
    go_wp2_with fail
    refine (HA.out).mono ?_
    rintro e w1 ⟨rfl, hb1⟩
    go_wp2
    go_ret2
    exact ⟨rfl, hb1⟩
set_option maxHeartbeats 400000 in
set_option maxRecDepth 100000 in
theorem areaOnlyIn_any (A : Option Addr) (c : Nat) (zs : List Zone) (id : Int) (w : World) (hn : zs.length ≤ 1048576) (hcap : zs.length ≤ c) (hcm : c ≤ 9223372036854775807) (hA : Fl Zone.ints 5 w A zs) :
    Calls Try.prog 14 #[.slice A zs.length c, .int .i64 id] w (fun e w' => e = .returned (.tuple #[.int .i64 (seli (AyOk zs (atZ zs id)) (areaZ zs - areaZ (woZ zs (atZ zs id)))), .bool (tb (AyOk zs (atZ zs id)))]) ∧ Below w.heap.size w w') := by
  have hare := fun W hW => areZones_any A c zs W (by omega) hW
  have hat := zoneAt_any A c zs id w (by omega) hA
  have hp := atZ_p zs id
  have hwo := fun (j : Nat) (hj : j < zs.length) W hW => others_any A c zs j W hj hn hcap hcm hW
  have har1 := fun (h : Zons zs) W hW => areaOf_any A c zs W h.2 h.zb hW
  have har2 := fun (h : Zons zs) (j : Nat) B d W hW => areaOf_any B d (zs.take j ++ zs.drop (j + 1)) W (Nat.le_trans (without_len zs j) h.2) (zb_without h.zb j) hW
  have hlt := fun (j : Nat) (z : Zone) (h : zs[j]? = some z) => lt_of_get h
  rw [show idxB (fun x : Zone => decide (x.id = id)) 0 zs = atZ zs id from rfl] at hat
  generalize atZ zs id = r at hat hp ⊢
  obtain ⟨n, hnn⟩ : ∃ n, n = List.length zs := ⟨_, rfl⟩
  rw [← hnn] at hare hat hwo har1 hlt ⊢
  have HA := Lib.hid hare
  have HAT := Lib.hid hat
  have HP := Lib.hid hp
  have HWO := Lib.hid hwo
  have HR1 := Lib.hid har1
  have HR2 := Lib.hid har2
  have HLT := Lib.hid hlt
  clear hnn hare hat hp hwo har1 har2 hlt
  go_enter Try.func14, Try.ntmps14
  go_wp2_with fail
  refine (HAT.out).mono ?_
  rintro e w0 ⟨rfl, hb0w⟩
  have hb00 : Below w.heap.size w w0 := hb0w
  clear hb0w
  go_wp2_with fail
  refine (HA.out _ (hA.ext hb00)).mono ?_
  rintro e w1 ⟨rfl, hb1⟩
  by_cases h1 : Zons zs
  · rw [tb_t h1]
    have H1 := Lib.hid h1
    clear h1
    by_cases h2 : 0 ≤ r
    · obtain ⟨j, y0, rfl, hj⟩ := HP.out h2
      have hjn := HLT.out j y0 hj
      clear hj
      have HO : Hid (AyOk zs (j : Int)) := ⟨H1.out, h2⟩
      have hjr : ¬ (j : Int) < 0 := by omega
      have hwj := fun W hW => HWO.out j hjn W hW
      have hrj := HR2.out H1.out j
      obtain ⟨zo, hzo⟩ : ∃ zo, zo = zs.take j ++ zs.drop (j + 1) := ⟨_, rfl⟩
      rw [← hzo] at hwj hrj
      have HZO := Lib.hid hzo
      have HWJ := Lib.hid hwj
      have HRJ := Lib.hid hrj
      clear hzo hwj hrj
      go_wp2_with fail
      refine (HR1.out H1.out _ (hA.ext (ext_trans hb00 hb1))).mono ?_
      rintro e w3 ⟨rfl, ⟨q1, q2⟩, hb3⟩
      have hx3 := ext_trans (ext_trans hb00 hb1) hb3
      go_wp2_with fail
      refine (HWJ.out w3 (hA.ext hx3)).mono ?_
      rintro e w4 ⟨B, d, rfl, hF, hb4⟩
      go_wp2_with fail
      refine (HRJ.out B d w4 hF).mono ?_
      rintro e w5 ⟨rfl, ⟨q3, q4⟩, hb5⟩
      go_wp2
      go_ret2
      rw [seli_t HO.out, tb_t HO.out]
      have hwz : woZ zs (j : Int) = zo := by rw [HZO.out]; rfl
      rw [hwz]
      exact ⟨rfl, ext_trans hx3 (ext_trans hb4 hb5)⟩
    · have hrlt : r < 0 := by omega
      go_wp2
      go_ret2
      have hok : ¬ (AyOk zs r) := fun h => (fun (q : 0 ≤ r) => (by omega : False)) h.2
      rw [seli_f hok, tb_f hok]
      exact ⟨rfl, (ext_trans hb00 hb1)⟩
  · rw [tb_f h1]
    have H1 := Lib.hid h1
    clear h1
    go_wp2
    go_ret2
    have hok : ¬ (AyOk zs r) := fun h => H1.out h.1
    rw [seli_f hok, tb_f hok]
    exact ⟨rfl, (ext_trans hb00 hb1)⟩
set_option maxHeartbeats 400000 in
set_option maxRecDepth 100000 in
theorem specAreaOnlyIn_any (A : Option Addr) (c : Nat) (zs : List Zone) (id : Int) (w : World) (hn : zs.length ≤ 1048576) (hcap : zs.length ≤ c) (hcm : c ≤ 9223372036854775807) (hA : Fl Zone.ints 5 w A zs) :
    Calls Try.prog 35 #[.slice A zs.length c, .int .i64 id] w (fun e w' => e = .returned (.tuple #[.int .i64 (seli (AyOk zs (atZ zs id)) (areaZ zs - areaZ (woZ zs (atZ zs id)))), .bool (tb (AyOk zs (atZ zs id)))]) ∧ Below w.heap.size w w') := by
  have hare := fun W hW => l6Zones_any A c zs W (by omega) hW
  have hat := l6Find_any A c zs id w (by omega) hA
  have hp := atZ_p zs id
  have hwo := fun (j : Nat) (hj : j < zs.length) W hW => l6Without_any A c zs j W hj hn hcap hcm hW
  have har1 := fun (h : Zons zs) W hW => l6Area_any A c zs W h.2 h.zb hW
  have har2 := fun (h : Zons zs) (j : Nat) B d W hW => l6Area_any B d (zs.take j ++ zs.drop (j + 1)) W (Nat.le_trans (without_len zs j) h.2) (zb_without h.zb j) hW
  have hlt := fun (j : Nat) (z : Zone) (h : zs[j]? = some z) => lt_of_get h
  rw [show idxB (fun x : Zone => decide (x.id = id)) 0 zs = atZ zs id from rfl] at hat
  generalize atZ zs id = r at hat hp ⊢
  obtain ⟨n, hnn⟩ : ∃ n, n = List.length zs := ⟨_, rfl⟩
  rw [← hnn] at hare hat hwo har1 hlt ⊢
  have HA := Lib.hid hare
  have HAT := Lib.hid hat
  have HP := Lib.hid hp
  have HWO := Lib.hid hwo
  have HR1 := Lib.hid har1
  have HR2 := Lib.hid har2
  have HLT := Lib.hid hlt
  clear hnn hare hat hp hwo har1 har2 hlt
  go_enter Try.func35, Try.ntmps35
  go_wp2_with fail
  refine (HAT.out).mono ?_
  rintro e w0 ⟨rfl, hb0w⟩
  have hb00 : Below w.heap.size w w0 := by subst hb0w; exact Below.refl _ _
  clear hb0w
  go_wp2_with fail
  refine (HA.out _ (hA.ext hb00)).mono ?_
  rintro e w1 ⟨rfl, hb1⟩
  by_cases h1 : Zons zs
  · rw [tb_t h1]
    have H1 := Lib.hid h1
    clear h1
    by_cases h2 : 0 ≤ r
    · obtain ⟨j, y0, rfl, hj⟩ := HP.out h2
      have hjn := HLT.out j y0 hj
      clear hj
      have HO : Hid (AyOk zs (j : Int)) := ⟨H1.out, h2⟩
      have hjr : ¬ (j : Int) < 0 := by omega
      have hwj := fun W hW => HWO.out j hjn W hW
      have hrj := HR2.out H1.out j
      obtain ⟨zo, hzo⟩ : ∃ zo, zo = zs.take j ++ zs.drop (j + 1) := ⟨_, rfl⟩
      rw [← hzo] at hwj hrj
      have HZO := Lib.hid hzo
      have HWJ := Lib.hid hwj
      have HRJ := Lib.hid hrj
      clear hzo hwj hrj
      go_wp2_with fail
      refine (HR1.out H1.out _ (hA.ext (ext_trans hb00 hb1))).mono ?_
      rintro e w3 ⟨rfl, ⟨q1, q2⟩, hb3⟩
      have hx3 := ext_trans (ext_trans hb00 hb1) hb3
      go_wp2_with fail
      refine (HWJ.out w3 (hA.ext hx3)).mono ?_
      rintro e w4 ⟨B, d, rfl, hF, hb4⟩
      go_wp2_with fail
      refine (HRJ.out B d w4 hF).mono ?_
      rintro e w5 ⟨rfl, ⟨q3, q4⟩, hb5⟩
      go_wp2
      go_ret2
      rw [seli_t HO.out, tb_t HO.out]
      have hwz : woZ zs (j : Int) = zo := by rw [HZO.out]; rfl
      rw [hwz]
      exact ⟨rfl, ext_trans hx3 (ext_trans hb4 hb5)⟩
    · have hrlt : r < 0 := by omega
      go_wp2
      go_ret2
      have hok : ¬ (AyOk zs r) := fun h => (fun (q : 0 ≤ r) => (by omega : False)) h.2
      rw [seli_f hok, tb_f hok]
      exact ⟨rfl, (ext_trans hb00 hb1)⟩
  · rw [tb_f h1]
    have H1 := Lib.hid h1
    clear h1
    go_wp2
    go_ret2
    have hok : ¬ (AyOk zs r) := fun h => H1.out h.1
    rw [seli_f hok, tb_f hok]
    exact ⟨rfl, (ext_trans hb00 hb1)⟩
end Go.Proofs.Ytpjapemclbminaa
