/- topology.Of. -/
import Derived.Test.YtglbelmljdgaoaaGreatDoorGet
namespace Go.Proofs.YtglbelmljdgaoaaGreatDoor
open Go.RowKit

def ofL (n : NetD) : (List Int × List Int) × Int := if checkN n = 0 then ((busesL n, islandsL n), 0) else (([], []), checkN n)
def RetOf (w : World) (r : (List Int × List Int) × Int) (e : Ending) (w' : World) : Prop :=
  ∃ bv iv, e = .returned (.tuple #[.agg #[bv, iv], I r.2]) ∧ Row w' w.heap.size 3 1 bv r.1.1.length (r.1.1.map I) ∧ Row w' w.heap.size 3 1 iv r.1.2.length (r.1.2.map I) ∧ Below w.heap.size w w'

end Go.Proofs.YtglbelmljdgaoaaGreatDoor
