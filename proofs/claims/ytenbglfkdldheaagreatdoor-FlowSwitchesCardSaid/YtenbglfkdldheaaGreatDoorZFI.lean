/- flow: Grow. -/
import Derived.Test.YtenbglfkdldheaaGreatDoorZFH
namespace Go.Proofs.YtenbglfkdldheaaGreatDoor
open Go.RowKit
theorem fitL_zero (nb : Nat) : FitL 1 (List.replicate nb 0) := fun i => by
 rw [gD, List.getElem?_replicate]
 split <;> exact fitR_zero
end Go.Proofs.YtenbglfkdldheaaGreatDoor
