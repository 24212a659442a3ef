/- matrix.Dot, matrix.Apply. -/
import Derived.Test.YtfigffaghaaaoaaGreatDoorRU
namespace Go.Proofs.YtfigffaghaaaoaaGreatDoor
open Go.RowKit

/-- a vector of strings that is read -/
def SV (w : World) (A : Option Addr) (n : Nat) (l : List ByteArray) : Prop := Reads w w.heap.size 1 A n (l.map Sv)
theorem SV.below {w w' : World} {A : Option Addr} {n : Nat} {l : List ByteArray} (h : SV w A n l) (hb : Below w.heap.size w w') : SV w' A n l := (Reads.below h hb).more hb.size
theorem SV.len {w : World} {A : Option Addr} {n : Nat} {l : List ByteArray} (h : SV w A n l) : l.length = n := by have := h.1; simpa using this
theorem val1_of {l : List ByteArray} (h : chkV (tx1 l) = 0) : Val1 l := fun s hs => (chkV_ok h).2 _ (List.mem_map.2 ⟨s, hs, rfl⟩)
theorem fit1_of {l : List ByteArray} (h : chkV (tx1 l) = 0) : Fit1 (valsV (tx1 l)) := fit_vals1 (chkV_ok h).2
end Go.Proofs.YtfigffaghaaaoaaGreatDoor
