/-
  DERIVED. GIVEN WITH THE SEED: THE CARDS: each row of YtadcjfbcfiljkaaDoorRows.lean that lists a variable, with what it lists TIED to the program's text (the seventh form; the later family's looks); each row that meets fmt, with fmt's text TOLD by the authors' own Lean function (tested against real Go, not proved from fmt's source: count such statements apart). THE CARD IS WHAT COUNTS. Prove the row's statement (the work); the ties are given (YtadcjfbcfiljkaaDoorTie.lean); close each card by the builder's one call (the guide's Derived/Test/ToyasCard.lean, 'card_holds'). Laid BY PROGRAM, IN A SANDBOX (cutbox-door.mjs). By AI agents, Wed Nov 11 2026. No macro, syntax, notation, axiom, sorry.
-/
import Derived.Test.YtadcjfbcfiljkaaDoorRows
import GoSem.ClaimSeven
namespace Go.Proofs.YtadcjfbcfiljkaaDoor
namespace Rows

/-- THE TIED CARD OF 'laws.FnOldEditions'. -/
def fnOldEditionsCard : Claim7 := { stood := { row := fnOldEditionsRow, standIns := [], harness := (true, "1835405b1d208b11a842b2ca3c077e18f47a4a8b0a2583bd34e9a38e11f7da65"), looks := false }, kinds := [], alts := [], laidByText := true, laidKinds := [.data, .data, .data], laidTests := true, laidLooks := .later }
def FnOldEditionsCardSaid : Prop := Claim7.holds Tryd.pinned (.plain (OpenSpec.ofChange fnOldEditionsSpec)) fnOldEditionsCard

/-- THE SECOND FORM's CARD OF 'laws.FnOldEditions'. -/
def fnOldEditionsUptoCard : Claim7 := { stood := { row := fnOldEditionsUptoRow, standIns := [], harness := (true, "1835405b1d208b11a842b2ca3c077e18f47a4a8b0a2583bd34e9a38e11f7da65"), looks := false }, kinds := [], alts := [], laidByText := true, laidKinds := [.data, .data, .data], laidTests := true, laidLooks := .later }
def FnOldEditionsUptoCardSaid : Prop := Claim7.holds Tryd.pinned (.plain (OpenSpec.upto fnOldEditionsSpec)) fnOldEditionsUptoCard
end Rows
end Go.Proofs.YtadcjfbcfiljkaaDoor
