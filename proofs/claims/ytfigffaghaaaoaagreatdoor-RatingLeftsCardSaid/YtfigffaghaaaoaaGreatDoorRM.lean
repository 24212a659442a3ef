/- large.Rat: Add. -/
import Derived.Test.YtfigffaghaaaoaaGreatDoorRK
namespace Go.Proofs.YtfigffaghaaaoaaGreatDoor
open Go.RowKit

end Go.Proofs.YtfigffaghaaaoaaGreatDoor
