/-
  DERIVED. GIVEN WITH THE SEED: THE CARDS: each row of YthoicjdkpkbbfaaDoorRows.lean that lists a variable, with what it lists TIED to the program's text (the seventh form; the later family's looks); each row that meets fmt, with fmt's text TOLD by the authors' own Lean function (tested against real Go, not proved from fmt's source: count such statements apart). THE CARD IS WHAT COUNTS. Prove the row's statement (the work); the ties are given (YthoicjdkpkbbfaaDoorTie.lean); close each card by the builder's one call (the guide's Derived/Test/ToyasCard.lean, 'card_holds'). Laid BY PROGRAM, IN A SANDBOX (cutbox-door.mjs). By AI agents, Wed Nov 11 2026. No macro, syntax, notation, axiom, sorry.
-/
import Derived.Test.YthoicjdkpkbbfaaDoorRows
import GoSem.ClaimSeven
namespace Go.Proofs.YthoicjdkpkbbfaaDoor
namespace Rows

/-- THE TIED CARD OF 'laws.FnExactErratumText'. -/
def fnExactErratumTextCard : Claim7 := { stood := { row := fnExactErratumTextRow, standIns := [], harness := (true, "f5b383a145ffeb24092ab8c1fe9f2cf2ac0dde5718a77dd2f4a5f49c2ceaf74e"), looks := false }, kinds := [], alts := [], laidByText := true, laidKinds := [.data, .data, .data], laidTests := true, laidLooks := .later }
def FnExactErratumTextCardSaid : Prop := Claim7.holds Tryd.pinned (.plain (OpenSpec.ofChange fnExactErratumTextSpec)) fnExactErratumTextCard

/-- THE TIED CARD OF 'laws.FnExactEditionText'. -/
def fnExactEditionTextCard : Claim7 := { stood := { row := fnExactEditionTextRow, standIns := [], harness := (true, "f5b383a145ffeb24092ab8c1fe9f2cf2ac0dde5718a77dd2f4a5f49c2ceaf74e"), looks := false }, kinds := [], alts := [], laidByText := true, laidKinds := [.data, .data, .data], laidTests := true, laidLooks := .later }
def FnExactEditionTextCardSaid : Prop := Claim7.holds Tryd.pinned (.plain (OpenSpec.ofChange fnExactEditionTextSpec)) fnExactEditionTextCard

/-- THE SECOND FORM's CARD OF 'laws.FnExactErratumText'. -/
def fnExactErratumTextUptoCard : Claim7 := { stood := { row := fnExactErratumTextUptoRow, standIns := [], harness := (true, "f5b383a145ffeb24092ab8c1fe9f2cf2ac0dde5718a77dd2f4a5f49c2ceaf74e"), looks := false }, kinds := [], alts := [], laidByText := true, laidKinds := [.data, .data, .data], laidTests := true, laidLooks := .later }
def FnExactErratumTextUptoCardSaid : Prop := Claim7.holds Tryd.pinned (.plain (OpenSpec.upto fnExactErratumTextSpec)) fnExactErratumTextUptoCard

/-- THE SECOND FORM's CARD OF 'laws.FnExactEditionText'. -/
def fnExactEditionTextUptoCard : Claim7 := { stood := { row := fnExactEditionTextUptoRow, standIns := [], harness := (true, "f5b383a145ffeb24092ab8c1fe9f2cf2ac0dde5718a77dd2f4a5f49c2ceaf74e"), looks := false }, kinds := [], alts := [], laidByText := true, laidKinds := [.data, .data, .data], laidTests := true, laidLooks := .later }
def FnExactEditionTextUptoCardSaid : Prop := Claim7.holds Tryd.pinned (.plain (OpenSpec.upto fnExactEditionTextSpec)) fnExactEditionTextUptoCard
end Rows
end Go.Proofs.YthoicjdkpkbbfaaDoor
