/- Lands: what the law asks. No condition. -/
import Derived.Test.YtlkojpmhniokfaaLandOpen
import Derived.Test.YtlkojpmhniokfaaFreeD
import Derived.Test.YtlkojpmhniokfaaAreaU
namespace Go.Proofs.Ytlkojpmhniokfaa
open Go.RowKit
set_option linter.unusedVariables false
set_option linter.unusedSimpArgs false

noncomputable def barred (px py : Int) (xs : List Four) : Bool := tb (∃ b ∈ xs, InBar px py b)
theorem barred_nil (px py : Int) : barred px py [] = false := tb_f (by simp)
theorem barred_t {px py : Int} {xs : List Four} {k : Nat} {x : Four} (h : xs[k]? = some x) (q : InBar px py x) : barred px py (xs.take (k + 1)) = true :=
  tb_t ⟨x, by rw [take_get h]; simp, q⟩
theorem barred_f {px py : Int} {xs : List Four} {k : Nat} {x : Four} (h : xs[k]? = some x) (q : ¬ InBar px py x) : barred px py (xs.take (k + 1)) = barred px py (xs.take k) := by
  unfold barred
  refine tb_iff ⟨fun ⟨b, hb, hq⟩ => ?_, fun ⟨b, hb, hq⟩ => ⟨b, ?_, hq⟩⟩
  · rw [take_get h, List.mem_append] at hb
    rcases hb with hb | hb
    · exact ⟨b, hb, hq⟩
    · rw [List.mem_singleton.1 hb] at hq; exact absurd hq q
  · rw [take_get h]; exact List.mem_append_left _ hb
theorem barred_up {px py : Int} {xs : List Four} {k : Nat} {x : Four} (h : xs[k]? = some x) (q : barred px py (xs.take k) = true) : barred px py (xs.take (k + 1)) = true := by
  obtain ⟨b, hb, hq⟩ := tb_true q
  exact tb_t ⟨b, by rw [take_get h]; exact List.mem_append_left _ hb, hq⟩
/-- a square of the land is free if and only if it is in no bar -/
theorem open_barred {wide high px py : Int} {xs : List Four} (h : InLand wide high px py) : (tb (OpenSq wide high xs px py) == barred px py xs) = false := by
  by_cases q : ∃ b ∈ xs, InBar px py b
  · have h1 : barred px py xs = true := tb_t q
    have h2 : tb (OpenSq wide high xs px py) = false := tb_f (fun ho => by
      obtain ⟨b, hb, hq⟩ := q
      obtain ⟨i, hi⟩ := List.mem_iff_getElem?.1 hb
      exact ho.1.1 i b hi hq)
    rw [h1, h2]; rfl
  · have h1 : barred px py xs = false := tb_f q
    have h2 : tb (OpenSq wide high xs px py) = true := tb_t ⟨⟨fun i x hx hq => q ⟨x, List.mem_of_getElem? hx, hq⟩, fun _ _ _ _ _ => trivial⟩, h⟩
    rw [h1, h2]; rfl
def sizeF (b : Four) : Int := (b.c - b.a + 1) * (b.d - b.b + 1)
theorem own_size (b : Four) : ownA (barZ 0 b) = sizeF b := by
  unfold ownA barZ sizeF
  simp only
  rw [show b.c + 1 - b.a = b.c - b.a + 1 by omega, show b.d + 1 - b.b = b.d - b.b + 1 by omega]
theorem size_area {wide high steep : Int} {xs : List Four} (h : Lnd wide high steep xs) {b : Four} (hb : b ∈ xs) : sizeF b ≤ areaZ (implZ xs) := by
  have hz := zb_impl h
  have hm : barZ 0 b ∈ implZ xs := List.mem_map.2 ⟨b, hb, rfl⟩
  rw [← own_size b, ← area_own (hz _ hm)]
  exact area_le (fun z hz' => by rw [List.mem_singleton.1 hz']; exact hz _ hm) hz (fun z hz' => by rw [List.mem_singleton.1 hz']; exact hm)
theorem area_sizes {wide high steep : Int} {xs : List Four} (h : Lnd wide high steep xs) : areaZ (implZ xs) ≤ ownTo (implZ xs) := area_sum (zb_impl h)
theorem sizes_step {xs : List Four} {k : Nat} {x : Four} (h : xs[k]? = some x) : ownTo (implZ (xs.take (k + 1))) = ownTo (implZ (xs.take k)) + sizeF x := by
  rw [take_get h, implZ_snoc, ownTo_snoc, own_size]
theorem size_bd {wide high steep : Int} {xs : List Four} (h : Lnd wide high steep xs) {k : Nat} {x : Four} (hx : xs[k]? = some x) : (0 ≤ x.a ∧ x.a ≤ x.c ∧ x.c < 2000 ∧ 0 ≤ x.b ∧ x.b ≤ x.d ∧ x.d < 2000) ∧ 0 ≤ (x.c - x.a + 1) * (x.d - x.b + 1) ∧ (x.c - x.a + 1) * (x.d - x.b + 1) ≤ 4000000 := by
  have h1 := h.1.1 k x hx
  obtain ⟨_, _, h2, _, h3, _⟩ := h
  unfold BarOk at h1
  refine ⟨by omega, Int.mul_nonneg (by omega) (by omega), ?_⟩
  have : (x.c - x.a + 1) * (x.d - x.b + 1) ≤ 2000 * 2000 := Int.mul_le_mul (by omega) (by omega) (by omega) (by decide)
  omega
theorem sizes_bd {wide high steep : Int} {xs : List Four} (h : Lnd wide high steep xs) : ∀ k, k ≤ xs.length → 0 ≤ ownTo (implZ (xs.take k)) ∧ ownTo (implZ (xs.take k)) ≤ 4000000 * (k : Int)
  | 0, _ => by simp [implZ, ownTo]
  | k + 1, hk => by
    have ih := sizes_bd h k (by omega)
    have hx : xs[k]? = some (xs[k]) := List.getElem?_eq_getElem (by omega)
    have h2 := (size_bd h hx).2
    have h3 := sizes_step hx
    unfold sizeF at h3
    omega
end Go.Proofs.Ytlkojpmhniokfaa
