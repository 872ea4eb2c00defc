/- Whether a zone has a square. -/
import Derived.Test.YtlkojpmhniokfaaTypes
namespace Go.Proofs.Ytlkojpmhniokfaa
def zHas (x y : Int) (z : Zone) : Bool := decide (z.west ≤ x ∧ x < z.east ∧ z.south ≤ y ∧ y < z.north)
end Go.Proofs.Ytlkojpmhniokfaa
