/-
  DERIVED. GIVEN WITH THE SEED: THE CARDS: each row of YtlagfeccdcjimaaDoorRows.lean that lists a variable, with what it lists TIED to the program's text (the seventh form; the later family's looks); each row that meets fmt, with fmt's text TOLD by the authors' own Lean function (tested against real Go, not proved from fmt's source: count such statements apart). THE CARD IS WHAT COUNTS. Prove the row's statement (the work); the ties are given (YtlagfeccdcjimaaDoorTie.lean); close each card by the builder's one call (the guide's Derived/Test/ToyasCard.lean, 'card_holds'). Laid BY PROGRAM, IN A SANDBOX (cutbox-door.mjs). By AI agents, Wed Nov 11 2026. No macro, syntax, notation, axiom, sorry.
-/
import Derived.Test.YtlagfeccdcjimaaDoorRows
import GoSem.ClaimSeven
namespace Go.Proofs.YtlagfeccdcjimaaDoor
namespace Rows

/-- THE TIED CARD OF 'laws.FnRouteCards'. -/
def fnRouteCardsCard : Claim7 := { stood := { row := fnRouteCardsRow, standIns := [], harness := (true, "59d3a39cb351c7f71bd26b8eeed11669e5ef20365732c2434e03944ebdbd19a8"), looks := false }, kinds := [], alts := [], laidByText := true, laidKinds := [.data, .data, .data], laidTests := true, laidLooks := .later }
def FnRouteCardsCardSaid : Prop := Claim7.holds Tryd.pinned (.plain (OpenSpec.ofChange fnRouteCardsSpec)) fnRouteCardsCard

/-- THE SECOND FORM's CARD OF 'laws.FnRouteCards'. -/
def fnRouteCardsUptoCard : Claim7 := { stood := { row := fnRouteCardsUptoRow, standIns := [], harness := (true, "59d3a39cb351c7f71bd26b8eeed11669e5ef20365732c2434e03944ebdbd19a8"), looks := false }, kinds := [], alts := [], laidByText := true, laidKinds := [.data, .data, .data], laidTests := true, laidLooks := .later }
def FnRouteCardsUptoCardSaid : Prop := Claim7.holds Tryd.pinned (.plain (OpenSpec.upto fnRouteCardsSpec)) fnRouteCardsUptoCard
end Rows
end Go.Proofs.YtlagfeccdcjimaaDoor
