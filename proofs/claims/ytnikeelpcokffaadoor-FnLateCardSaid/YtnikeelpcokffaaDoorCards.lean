/-
  DERIVED. GIVEN WITH THE SEED: THE CARDS: each row of YtnikeelpcokffaaDoorRows.lean that lists a variable, with what it lists TIED to the program's text (the seventh form; the later family's looks); each row that meets fmt, with fmt's text TOLD by the authors' own Lean function (tested against real Go, not proved from fmt's source: count such statements apart). THE CARD IS WHAT COUNTS. Prove the row's statement (the work); the ties are given (YtnikeelpcokffaaDoorTie.lean); close each card by the builder's one call (the guide's Derived/Test/ToyasCard.lean, 'card_holds'). Laid BY PROGRAM, IN A SANDBOX (cutbox-door.mjs). By AI agents, Wed Nov 11 2026. No macro, syntax, notation, axiom, sorry.
-/
import Derived.Test.YtnikeelpcokffaaDoorRows
import GoSem.ClaimSeven
namespace Go.Proofs.YtnikeelpcokffaaDoor
namespace Rows

/-- THE TIED CARD OF 'laws.FnLate'. -/
def fnLateCard : Claim7 := { stood := { row := fnLateRow, standIns := [], harness := (true, "5c5d3a89c904917e253c713a7cde2d1ab430d69ea1e1355c3d920c01f08b043a"), looks := false }, kinds := [], alts := [], laidByText := true, laidKinds := [.data, .data, .data], laidTests := true, laidLooks := .later }
def FnLateCardSaid : Prop := Claim7.holds Tryd.pinned (.plain (OpenSpec.ofChange fnLateSpec)) fnLateCard

/-- THE SECOND FORM's CARD OF 'laws.FnLate'. -/
def fnLateUptoCard : Claim7 := { stood := { row := fnLateUptoRow, standIns := [], harness := (true, "5c5d3a89c904917e253c713a7cde2d1ab430d69ea1e1355c3d920c01f08b043a"), looks := false }, kinds := [], alts := [], laidByText := true, laidKinds := [.data, .data, .data], laidTests := true, laidLooks := .later }
def FnLateUptoCardSaid : Prop := Claim7.holds Tryd.pinned (.plain (OpenSpec.upto fnLateSpec)) fnLateUptoCard
end Rows
end Go.Proofs.YtnikeelpcokffaaDoor
