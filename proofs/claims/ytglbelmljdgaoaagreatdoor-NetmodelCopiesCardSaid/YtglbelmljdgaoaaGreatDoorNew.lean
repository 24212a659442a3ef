/- topology.New. -/
import Derived.Test.YtglbelmljdgaoaaGreatDoorSetSw
namespace Go.Proofs.YtglbelmljdgaoaaGreatDoor
open Go.RowKit

theorem hold8 {w' : World} {a b : Nat} {x0 x1 x2 x3 x4 x5 y0 y1 : Value} {t u : TypeId} (h : Blk w' a t #[x0, x1, x2, x3, x4, x5]) (k : Blk w' b u #[y0, y1]) :
    w'.cell? ⟨a, 0, none⟩ = some x0 ∧ w'.cell? ⟨a, 1, none⟩ = some x1 ∧ w'.cell? ⟨a, 2, none⟩ = some x2 ∧ w'.cell? ⟨a, 3, none⟩ = some x3 ∧ w'.cell? ⟨a, 4, none⟩ = some x4 ∧ w'.cell? ⟨a, 5, none⟩ = some x5 ∧ w'.cell? ⟨b, 0, none⟩ = some y0 ∧ w'.cell? ⟨b, 1, none⟩ = some y1 :=
  ⟨h.cell 0, h.cell 1, h.cell 2, h.cell 3, h.cell 4, h.cell 5, k.cell 0, k.cell 1⟩
theorem Blk.drew {w : World} {g : Nat} {t : TypeId} {cs : Array Value} (h : Blk w g t cs) : Blk w.drew g t cs := h
theorem NetIn.drew {w : World} {n : NetD} {v : NetV} (h : NetIn w n v) : NetIn w.drew n v := ⟨h.nodes.drew, h.switches.drew, h.branches.drew, h.gens.drew, h.loads.drew, h.stores.drew⟩

end Go.Proofs.YtglbelmljdgaoaaGreatDoor
