/- topology.Get. -/
import Derived.Test.YtglbelmljdgaoaaGreatDoorNetLaw
namespace Go.Proofs.YtglbelmljdgaoaaGreatDoor
open Go.RowKit

def manyL (l : List Int) : Int := l.foldl (fun m b => max m (b + 1)) 0
def branchEdges (n : NetD) : List (Int × Int) := n.branches.map fun b => (at_ (busesL n) (Lib.idxOfS n.nodes b.src), at_ (busesL n) (Lib.idxOfS n.nodes b.dst))
def islandsL (n : NetD) : List Int := (guardE (manyL (busesL n)) (branchEdges n) [] (parts (manyL (busesL n)).toNat (branchEdges n) (-1))).1

def RetTopo (w : World) (bus isl : List Int) (e : Ending) (w' : World) : Prop :=
  ∃ bv iv, e = .returned (.agg #[bv, iv]) ∧ Row w' w.heap.size 3 1 bv bus.length (bus.map I) ∧ Row w' w.heap.size 3 1 iv isl.length (isl.map I) ∧ Below w.heap.size w w'

theorem many_bounds (l : List Int) (N : Int) (_h0 : 0 ≤ N) (h : ∀ x ∈ l, 0 ≤ x ∧ x < N) : ∀ m, 0 ≤ m → m ≤ N → 0 ≤ l.foldl (fun m b => max m (b + 1)) m ∧ l.foldl (fun m b => max m (b + 1)) m ≤ N := by
  induction l with
  | nil => intro m a b; exact ⟨a, b⟩
  | cons x l ih =>
    intro m a b
    have := h x (by simp)
    exact ih (fun y hy => h y (List.mem_cons_of_mem _ hy)) _ (show 0 ≤ max m (x + 1) by omega) (show max m (x + 1) ≤ N by omega)
theorem many_snoc (l : List Int) (x : Int) : manyL (l ++ [x]) = max (manyL l) (x + 1) := by simp [manyL]
theorem many_range {l : List Int} {N : Int} (h0 : 0 ≤ N) (h : ∀ x ∈ l, 0 ≤ x ∧ x < N) : 0 ≤ manyL l ∧ manyL l ≤ N := many_bounds l N h0 h 0 (by omega) h0

/-- a cell that the row does not hold is as it was behind an append in a region -/
theorem app_keep {w W1 w2 : World} {o : Obj} {base : Nat} {e : TypeId} {sz n : Nat} {v : Value} {xs : List Value} (h : Row w base e sz v n xs) (hg : (W1.alloc o).drew.grownBy w2 v.ownBlock) {g o1 : Nat} {u : Value}
    (hc : W1.cell? ⟨g, o1, none⟩ = some u) (k : g < base ∨ w.heap.size ≤ g) : w2.cell? ⟨g, o1, none⟩ = some u :=
  h.cell_far hg ((World.cell?_alloc_lt W1 o ⟨g, o1, none⟩ (World.block_lt_of_cell? W1 _ hc)).trans hc) k

theorem Row.set_away {w : World} {base : Nat} {e : TypeId} {sz n : Nat} {v : Value} {xs : List Value} (h : Row w base e sz v n xs) {p : Addr} (hne : ∀ g, v.ownBlock = some g → g ≠ p.block) (u : Value) : Row (w.setCell p u) base e sz v n xs := by
  obtain ⟨h1, h2⟩ := h
  refine ⟨h1, h2.imp id ?_⟩
  rintro ⟨g, off, cap, cur, rfl, hb, hh, r⟩
  exact ⟨g, off, cap, cur, rfl, hb, hh.far (hne g (by simp [Value.ownBlock])) u, r⟩

end Go.Proofs.YtglbelmljdgaoaaGreatDoor
