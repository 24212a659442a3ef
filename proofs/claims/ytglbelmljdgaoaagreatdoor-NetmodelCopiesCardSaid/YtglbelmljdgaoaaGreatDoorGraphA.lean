/- graph.Check -/
import Derived.Test.YtglbelmljdgaoaaGreatDoorMem
import Derived.Test.YtglbelmljdgaoaaGreatDoorGraphPlain
import Derived.Test.YtglbelmljdgaoaaGreatDoorProg
namespace Go.Proofs.YtglbelmljdgaoaaGreatDoor
open Go.RowKit

end Go.Proofs.YtglbelmljdgaoaaGreatDoor
