/- Whether a zone has a square. -/
import Derived.Test.YtpjapemclbminaaTypes
namespace Go.Proofs.Ytpjapemclbminaa
def zHas (x y : Int) (z : Zone) : Bool := decide (z.west ≤ x ∧ x < z.east ∧ z.south ≤ y ∧ y < z.north)
end Go.Proofs.Ytpjapemclbminaa
