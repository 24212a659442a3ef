/- 'out[k] = append(out[k], x)' at matrices of numbers. matrix.transposed. matrix.Text: rows of texts that the call owns. -/
import Derived.Test.YtfigffaghaaaoaaGreatDoorRQ
import Derived.Test.YtfigffaghaaaoaaGreatDoorRDO
namespace Go.Proofs.YtfigffaghaaaoaaGreatDoor
open Go.RowKit

theorem cell_below {w w' : World} {p : Addr} {v : Value} (h : w.cell? p = some v) (hb : Below w.heap.size w w') : w'.cell? p = some v := (hb.cell (World.block_lt_of_cell? w p h)).trans h
theorem below_draw (w : World) : Below w.heap.size w w.drew := (Below.refl _ _).drew
theorem below_new (w : World) (o : Obj) : Below w.heap.size w (w.alloc o) := (Below.refl _ _).alloc (Nat.le_refl _) _
theorem C4.kw {w w' : World} {b o : Nat} {nb : Bool} {B1 B2 : Option Addr} {l1 c1 l2 c2 : Nat} (h : C4 w b o (.bool nb) (.slice B1 l1 c1) (.bool false) (.slice B2 l2 c2)) (hk : w'.heap[b]? = w.heap[b]?) : C4 w' b o (.bool nb) (.slice B1 l1 c1) (.bool false) (.slice B2 l2 c2) :=
  ⟨(World.cell?_of_block (a := ⟨b, o, none⟩) hk).trans h.c0, (World.cell?_of_block (a := ⟨b, o + 1, none⟩) hk).trans h.c1, (World.cell?_of_block (a := ⟨b, o + 2, none⟩) hk).trans h.c2, (World.cell?_of_block (a := ⟨b, o + 3, none⟩) hk).trans h.c3⟩
end Go.Proofs.YtfigffaghaaaoaaGreatDoor
namespace Go.Proofs.YtfigffaghaaaoaaGreatDoor
open Go.RowKit

end Go.Proofs.YtfigffaghaaaoaaGreatDoor
namespace Go.Proofs.YtfigffaghaaaoaaGreatDoor
open Go.RowKit

end Go.Proofs.YtfigffaghaaaoaaGreatDoor
