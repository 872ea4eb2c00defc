/-
  DERIVED. GIVEN WITH THE SEED: THE CARDS: each row of YtbnlbcbdhmmlgaaGreatDoorRows.lean that lists a variable, with what it lists TIED to the program's text (the seventh form; the later family's looks); each row that meets fmt, with fmt's text TOLD by the authors' own Lean function (tested against real Go, not proved from fmt's source: count such statements apart). THE CARD IS WHAT COUNTS. Prove the row's statement (the work); the ties are given (YtbnlbcbdhmmlgaaGreatDoorTie.lean); close each card by the builder's one call (the guide's Derived/Test/ToyasCard.lean, 'card_holds'). Laid BY PROGRAM, IN A SANDBOX (cutbox-door.mjs). By AI agents, Wed Nov 11 2026. No macro, syntax, notation, axiom, sorry.
-/
import Derived.Test.YtbnlbcbdhmmlgaaGreatDoorRows
import GoSem.ClaimSeven
namespace Go.Proofs.YtbnlbcbdhmmlgaaGreatDoor
namespace Rows

/-- THE TIED CARD OF 'laws.FnSlips'. -/
def fnSlipsCard : Claim7 := { stood := { row := fnSlipsRow, standIns := [], harness := (true, "6d38bcbea5f35fe6c043d0603ca96c5108c5e6cd14c5b7d00d747c528a312540"), looks := false }, kinds := [], alts := [], laidByText := true, laidKinds := [.data, .data, .data], laidTests := true, laidLooks := .later }
def FnSlipsCardSaid : Prop := Claim7.holds Tryz.pinned (.plain (OpenSpec.ofChange fnSlipsSpec)) fnSlipsCard

/-- THE SECOND FORM's CARD OF 'laws.FnSlips'. -/
def fnSlipsUptoCard : Claim7 := { stood := { row := fnSlipsUptoRow, standIns := [], harness := (true, "6d38bcbea5f35fe6c043d0603ca96c5108c5e6cd14c5b7d00d747c528a312540"), looks := false }, kinds := [], alts := [], laidByText := true, laidKinds := [.data, .data, .data], laidTests := true, laidLooks := .later }
def FnSlipsUptoCardSaid : Prop := Claim7.holds Tryz.pinned (.plain (OpenSpec.upto fnSlipsSpec)) fnSlipsUptoCard
end Rows
end Go.Proofs.YtbnlbcbdhmmlgaaGreatDoor
