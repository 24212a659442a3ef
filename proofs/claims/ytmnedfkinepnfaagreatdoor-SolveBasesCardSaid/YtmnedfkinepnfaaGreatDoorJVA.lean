/- matrix.each, matrix.Add, matrix.Scale. matrix.Add, matrix.Scale. -/
import Derived.Test.YtmnedfkinepnfaaGreatDoorJV
import Derived.Test.YtmnedfkinepnfaaGreatDoorJU
namespace Go.Proofs.YtmnedfkinepnfaaGreatDoor
open Go.RowKit

theorem Fit2.entry {m : List (List Rat)} (h : Fit2 m) (i j : Nat) : FitR 210 (at2 m i j) := (h.at_ i).at_ j
end Go.Proofs.YtmnedfkinepnfaaGreatDoor
namespace Go.Proofs.YtmnedfkinepnfaaGreatDoor
open Go.RowKit

end Go.Proofs.YtmnedfkinepnfaaGreatDoor
