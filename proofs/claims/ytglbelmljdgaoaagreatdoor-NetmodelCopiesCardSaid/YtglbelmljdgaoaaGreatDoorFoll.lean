/- The follower's Network and Topology. -/
import Derived.Test.YtglbelmljdgaoaaGreatDoorNew
namespace Go.Proofs.YtglbelmljdgaoaaGreatDoor
open Go.RowKit

/-- a topology that is read -/
def RetTopoR (w : World) (bus isl : List Int) (e : Ending) (w' : World) : Prop :=
  ∃ bA bc iA ic, e = .returned (.agg #[.slice bA bus.length bc, .slice iA isl.length ic]) ∧ Reads w' w'.heap.size 1 bA bus.length (bus.map I) ∧ Reads w' w'.heap.size 1 iA isl.length (isl.map I) ∧ Below w.heap.size w w'
theorem oneI (l : List Int) : ∀ u ∈ l.map I, u.oneCell' = true := by
  intro u hu
  obtain ⟨x, _, rfl⟩ := List.mem_map.1 hu
  rfl

end Go.Proofs.YtglbelmljdgaoaaGreatDoor
