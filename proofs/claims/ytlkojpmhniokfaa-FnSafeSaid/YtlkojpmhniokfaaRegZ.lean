/- A law for a region that draws its order, whose last operation stores into a cell that the region loads. No Go text is spoken of here. -/
import Derived.Test.YtlkojpmhniokfaaBase
import Derived.Deep.RegionHeld3
namespace Go.Proofs.Ytlkojpmhniokfaa
open Go.RowKit
set_option linter.unusedVariables false
set_option linter.unusedSimpArgs false

/-- whatever order is picked from here on, and S holds behind every operation but number z -/
def wpAnyZ (z : Nat) (P : Program) (md : Region.Mode) (ops : Array Oper) (Q : Exit → Act → World → Prop) (S : World → Prop) : Nat → Array Bool → Act → World → Prop
  | 0, listed, a, w => Region.ready md ops listed = [] ∧ Q .normal a w
  | fuel + 1, listed, a, w => (Region.ready md ops listed = [] → Q .normal a w) ∧
    ∀ i ∈ Region.ready md ops listed, wpOp P ops Q i (fun a' w' => (i = z ∨ S w') ∧ wpAnyZ z P md ops Q S fuel (listed.setIfInBounds i true) a' w') a w
section
variable {P : Program} {ops : Array Oper} {Q : Exit → Act → World → Prop} {md : Region.Mode} {S : World → Prop} {z : Nat}
theorem anyZ_sound : ∀ (fuel : Nat) (listed : Array Bool) (a : Act) (w : World), wpAnyZ z P md ops Q S fuel listed a w → wpAny P md ops Q fuel listed a w
  | 0, _, _, _, h => h
  | fuel + 1, _, _, _, ⟨h0, h1⟩ => ⟨h0, fun i hi => wpOp_mono (fun _ _ h => anyZ_sound fuel _ _ _ h.2) (h1 i hi)⟩
/-- operation z waits for operation i -/
def waits (md : Region.Mode) (ops : Array Oper) (z i : Nat) : Bool := match ops[z]? with
  | some o => o.after.any fun e => Region.binds md e && e.on == i
  | none => false
theorem not_yet {i : Nat} {listed : Array Bool} (hw : waits md ops z i = true) (hi : i ∈ Region.ready md ops listed) : ¬ z ∈ Region.ready md ops listed := fun hz => by
  unfold waits at hw
  obtain ⟨h0, o, ho, hall⟩ := mem_ready.1 hz
  rw [ho] at hw
  obtain ⟨e, he, hq⟩ := Array.any_eq_true'.1 hw
  simp only [Bool.and_eq_true, beq_iff_eq] at hq
  have h1 := hall e he hq.1
  rw [hq.2] at h1
  have h2 := (mem_ready.1 hi).1
  rcases Nat.lt_or_ge i listed.size with h' | h'
  · simp [h'] at h1 h2; rw [h2] at h1; cases h1
  · simp [Array.getElem?_eq_none h'] at h1
/-- an operation that yields its value in every world that meets S, and for which z waits, may be taken first -/
theorem anyZ_first {i : Nat} {oi : Oper} {v : Value} (hi : ops[i]? = some oi) (hsel : ∀ (j : Nat) (o : Oper) cs b, ops[j]? = some o → o.op ≠ .select cs b) (hwz : waits md ops z i = true)
    (hQ : ∀ c a w, Q (.panic c) (a.put oi.dst v) w → Q (.panic c) a w) : ∀ (fuel : Nat) (listed : Array Bool) (a : Act) (w : World),
      (∀ j oj, ops[j]? = some oj → j ≠ i → listed.getD j true = false → (∀ e ∈ oj.after, Region.binds md e = true → e.on ≠ i) → oi.apart ops oj = true) →
      i ∈ Region.ready md ops listed → YieldsIf P ops S oi v a → S w →
      wpAnyZ z P md ops Q S fuel (listed.setIfInBounds i true) (a.put oi.dst v) w → wpAnyZ z P md ops Q S (fuel + 1) listed a w
  | fuel, listed, a, w, hfree, hr, hy, hS, H => by
    refine ⟨fun h0 => by rw [h0] at hr; simp at hr, fun j hj => ?_⟩
    by_cases hji : j = i
    · subst hji
      exact hy.wpOp hi hS ⟨.inr hS, H⟩
    · have hjr := ready_mono hj hji
      match fuel, H with
      | 0, H => rw [H.1] at hjr; simp at hjr
      | fuel + 1, H =>
        obtain ⟨hjun, oj, hoj, hall⟩ := mem_ready.1 hj
        have hnot : ∀ e ∈ oj.after, Region.binds md e = true → e.on ≠ i := fun e he hb heq => by
          have h1 := hall e he hb
          have h2 := (mem_ready.1 hr).1
          rw [heq] at h1
          rcases Nat.lt_or_ge i listed.size with h' | h'
          · simp [h'] at h1 h2; rw [h2] at h1; cases h1
          · simp [Array.getElem?_eq_none h'] at h1
        have hstep := wpOp_putIf hoj (hfree j oj hoj hji hjun hnot) (fun cs b => hsel i oi cs b hi) (fun cs b => hsel j oj cs b hoj) hQ hy (H.2 j hjr)
        refine wpOp_mono (fun a' w' hk => ?_) hstep
        obtain ⟨hy', hS', hrest⟩ := hk
        have hSw : S w' := by
          rcases hS' with e | e
          · exact absurd (e ▸ hj) (not_yet hwz hr)
          · exact e
        refine ⟨.inr hSw, anyZ_first hi hsel hwz hQ fuel (listed.setIfInBounds j true) a' w' (fun m om hm hmi hun hno => hfree m om hm hmi ?_ hno) (ready_mono hr (Ne.symm hji)) hy' hSw ?_⟩
        · by_cases hjm : j = m
          · subst hjm; exact hjun
          · rwa [getD_set_ne true hjm] at hun
        · rw [Array.setIfInBounds_comm _ _ hji]; exact hrest
theorem anyZ_take {i : Nat} {oi : Oper} {v : Value} {fuel : Nat} {listed : Array Bool} {a : Act} {w : World} (hi : ops[i]? = some oi) (hs : Region.noSelect ops = true) (hf : Region.free md ops listed i = true) (hr : (Region.ready md ops listed).contains i = true) (hwz : waits md ops z i = true)
    (hQ : ∀ c a w, Q (.panic c) (a.put oi.dst v) w → Q (.panic c) a w) (hy : YieldsIf P ops S oi v a) (hS : S w)
    (h : wpAnyZ z P md ops Q S fuel (listed.setIfInBounds i true) (a.put oi.dst v) w) : wpAnyZ z P md ops Q S (fuel + 1) listed a w :=
  anyZ_first hi (Region.noSelect_spec hs) hwz hQ fuel listed a w (Region.free_spec hi hf) (by simpa using hr) hy hS h
theorem anyZ_done {listed : Array Bool} {a : Act} {w : World} (hr : Region.ready md ops listed = []) (h : Q .normal a w) : ∀ fuel, wpAnyZ z P md ops Q S fuel listed a w
  | 0 => ⟨hr, h⟩
  | _ + 1 => ⟨fun _ => h, fun i hi => by rw [hr] at hi; simp at hi⟩
/-- the operations rs come up next, each by itself -/
def NextZ (z : Nat) (P : Program) (md : Region.Mode) (ops : Array Oper) (Q : Exit → Act → World → Prop) (S : World → Prop) (fuel : Nat) (listed : Array Bool) (a : Act) (w : World) (rs : List Nat) : Prop :=
  ∀ i ∈ rs, wpOp P ops Q i (fun a' w' => (i = z ∨ S w') ∧ wpAnyZ z P md ops Q S fuel (listed.setIfInBounds i true) a' w') a w
theorem NextZ.nil {fuel : Nat} {listed : Array Bool} {a : Act} {w : World} : NextZ z P md ops Q S fuel listed a w [] := fun _ h => by simp at h
theorem NextZ.cons {fuel : Nat} {listed : Array Bool} {a : Act} {w : World} {i : Nat} {o : Oper} {rs : List Nat} (ho : ops[i]? = some o)
    (h : ∀ K' : Act → World → Prop, Shut (∀ a w, (i = z ∨ S w) → ((i = z ∨ S w) → wpAnyZ z P md ops Q S fuel (listed.setIfInBounds i true) a w) → K' a w) → if Region.wanted o (yielded ops a.tmps) = true then Oper.wp P o a w K' Q else K' (a.put o.dst undef) w)
    (hs : NextZ z P md ops Q S fuel listed a w rs) : NextZ z P md ops Q S fuel listed a w (i :: rs) := fun j hj => by
  rcases List.mem_cons.1 hj with rfl | hj
  · exact wpOp_step ho (fun K' hK => h K' (fun a w hS hW => hK a w ⟨hS, hW hS⟩))
  · exact hs j hj
theorem anyZ_ready {rs : List Nat} {fuel : Nat} {listed : Array Bool} {a : Act} {w : World} (hr : Region.ready md ops listed = rs) (hne : rs ≠ [])
    (h : NextZ z P md ops Q S fuel listed a w rs) : wpAnyZ z P md ops Q S (fuel + 1) listed a w :=
  ⟨fun h0 => absurd (hr ▸ h0) hne, fun i hi => h i (hr ▸ hi)⟩
theorem wp_regionZ (z : Nat) {id : Nat} {a : Act} {w : World} (hm : P.follows .mixedOrders = true) (hS : S w.drew)
    (h : S w.drew → wpAnyZ z P .any ops Q S ops.size (Array.replicate ops.size false) a w.drew) : (Code.region id ops true).wp P Q a w :=
  wp_region_any hm (anyZ_sound _ _ _ _ (h hS))
end
end Go.Proofs.Ytlkojpmhniokfaa
