/- large.Rat: Mul, Div. -/
import Derived.Test.YtfigffaghaaaoaaGreatDoorRK
namespace Go.Proofs.YtfigffaghaaaoaaGreatDoor
open Go.RowKit

end Go.Proofs.YtfigffaghaaaoaaGreatDoor
