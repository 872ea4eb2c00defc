/- The words of an edition's text. No condition. -/
import Derived.Test.YtadcjfbcfiljkaaDoorEdOk
import Derived.Test.YtadcjfbcfiljkaaDoorErrOne
namespace Go.Proofs.YtadcjfbcfiljkaaDoor
open Go.RowKit
set_option linter.unusedVariables false
set_option linter.unusedSimpArgs false

def edH (a b c : Nat) : ByteArray := dig a ++ ⟨#[46]⟩ ++ dig b ++ ⟨#[32, 111, 110, 32]⟩ ++ dig c
def edF (s : ByteArray) (l : List Int) : ByteArray := l.foldl (fun s z => s ++ ⟨#[32]⟩ ++ dig z.toNat) s
def edT (a b c : Nat) (l : List Int) : ByteArray := if l.length = 0 then edH a b c else edF (edH a b c ++ ⟨#[58]⟩) l
def edX (x : Nest) : ByteArray := edT x.a.toNat x.b.toNat x.c.toNat x.l
theorem edF_snoc (s : ByteArray) (l : List Int) (z : Int) : edF s (l ++ [z]) = edF s l ++ ⟨#[32]⟩ ++ dig z.toNat := by simp [edF]
theorem edH_size {a b c : Nat} (ha : a ≤ 4000) (hb : b ≤ 4000) (hc : c ≤ 4000) : (edH a b c).size ≤ 20000 := by
  have h1 := dig_size a
  have h2 := dig_size b
  have h3 := dig_size c
  have h4 : ByteArray.size ⟨#[46]⟩ = 1 := rfl
  have h5 : ByteArray.size ⟨#[32, 111, 110, 32]⟩ = 4 := rfl
  unfold edH
  simp only [ByteArray.size_append]
  omega
theorem edF_size (s : ByteArray) : ∀ (l : List Int), (∀ z ∈ l, z ≤ 999) → (edF s l).size ≤ s.size + l.length * 1001
  | [], _ => by simp [edF]
  | z :: r, h => by
    have h1 := edF_size (s ++ ⟨#[32]⟩ ++ dig z.toNat) r (fun y hy => h y (by simp [hy]))
    have h2 := h z (by simp)
    have h3 := dig_size z.toNat
    have h4 : ByteArray.size ⟨#[32]⟩ = 1 := rfl
    have h5 : edF s (z :: r) = edF (s ++ ⟨#[32]⟩ ++ dig z.toNat) r := rfl
    rw [h5, List.length_cons]
    rw [ByteArray.size_append, ByteArray.size_append] at h1
    omega
theorem edF_take {s : ByteArray} {l : List Int} {n k : Nat} (hs : s.size ≤ 30000) (hl : ∀ (i : Nat) (z : Int), l[i]? = some z → InR 0 999 z) (hn : l.length ≤ 10) : (edF s (l.take k)).size ≤ 60000 := by
  have h1 := edF_size s (l.take k) (fun z hz => by
    obtain ⟨i, hi⟩ := List.getElem?_of_mem (List.mem_of_mem_take hz)
    exact (hl i z hi).2)
  have h2 := List.length_take_le' k l
  omega
end Go.Proofs.YtadcjfbcfiljkaaDoor
