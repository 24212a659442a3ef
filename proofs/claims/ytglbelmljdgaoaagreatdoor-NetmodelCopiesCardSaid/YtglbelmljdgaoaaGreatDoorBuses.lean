/- station.Buses, topology.Of's check; station.check. -/
import Derived.Test.YtglbelmljdgaoaaGreatDoorEdges
namespace Go.Proofs.YtglbelmljdgaoaaGreatDoor
open Go.RowKit

def RetRow (w : World) (r : List Int) (e : Ending) (w' : World) : Prop := ∃ v, e = .returned v ∧ Row w' w.heap.size 3 1 v r.length (r.map I) ∧ Below w.heap.size w w'
def busesL (n : NetD) : List Int := (guardE n.nodes.length ((edgesL n false).map (·.1)) [] (parts n.nodes.length ((edgesL n false).map (·.1)) (-1))).1

theorem edgesFrom_len (nodes : List ByteArray) (o : Bool) (i : Nat) (s : List SwitchD) : (edgesFrom nodes o i s).length ≤ s.length := by
  induction s generalizing i with
  | nil => simp [edgesFrom]
  | cons x s ih =>
    rw [edgesFrom]
    split
    · have := ih (i + 1); simp; omega
    · have := ih (i + 1); simp; omega

def stCheck (n : NetD) (names : List ByteArray) : Int := if checkN n = 0 then (if (names.all fun s => Lib.containsS n.nodes s) = true then 0 else 6) else checkN n

end Go.Proofs.YtglbelmljdgaoaaGreatDoor
