/- topology.Live at the network of the facts. -/
import Derived.Test.YtglbelmljdgaoaaGreatDoorPair
import Derived.LoopN
namespace Go.Proofs.YtglbelmljdgaoaaGreatDoor
open Go.RowKit

theorem Row.int_cells {w : World} {base : Nat} {e : TypeId} {A : Option Addr} {c n : Nat} {xs : List Int} (h : Row w base e 1 (.slice A n c) n (xs.map I)) (hn : 0 < n) :
    ∃ b off, A = some ⟨b, off, none⟩ ∧ base ≤ b ∧ b < w.heap.size ∧ ∀ i, i < n → w.cell? ⟨b, off + i, none⟩ = some (I (xs.getD i 0)) := by
  obtain ⟨b, off, cap, hv, hb, hnc, hc⟩ := h.ints hn
  injection hv with hA
  refine ⟨b, off, hA, ?_, hb, hc⟩
  exact (h.own_block (g := b) (by rw [hA]; rfl)).1

theorem old_of {w : World} {p : Addr} {u : Value} (h : w.cell? p = some u) : w.cell? p = some (oldCell w p) := by rw [oldCell, h]; rfl
abbrev Live1S (gO gT gN og bb boff bc ib ioff ic nc : Nat) (na : Option Addr) (w' : World) : Prop := w'.cell? ⟨gO, 0, none⟩ = some (.slice (some ⟨og, 0, none⟩) 1 1) ∧ w'.cell? ⟨gT, 0, none⟩ = some (.slice (some ⟨bb, boff, none⟩) 3 bc) ∧ w'.cell? ⟨gT, 1, none⟩ = some (.slice (some ⟨ib, ioff, none⟩) 2 ic) ∧ w'.cell? ⟨gN, 0, none⟩ = some (.slice na 3 nc) ∧ w'.cell? ⟨bb, boff + 1, none⟩ = some (I 0) ∧ w'.cell? ⟨ib, ioff, none⟩ = some (I 0) ∧ w'.frozen? ⟨og, 0, none⟩ = false ∧ w'.cell? ⟨og, 0, none⟩ = some (oldCell w' ⟨og, 0, none⟩)
theorem cell_set_far {w : World} {p : Addr} {u v : Value} {g o : Nat} (h : w.cell? ⟨g, o, none⟩ = some v) (hg : g ≠ p.block) : (w.setCell p u).cell? ⟨g, o, none⟩ = some v := by
  have := Below.heap_setCell w p u g hg
  simp only [World.cell?] at h ⊢
  rw [this]
  exact h
theorem Live1S.set {gO gT gN og bb boff bc ib ioff ic nc : Nat} {na : Option Addr} {w' : World} (h : Live1S gO gT gN og bb boff bc ib ioff ic nc na w') (n1 : gO ≠ og) (n2 : gT ≠ og) (n3 : gN ≠ og) (n4 : bb ≠ og) (n5 : ib ≠ og) (u : Value) : Live1S gO gT gN og bb boff bc ib ioff ic nc na (w'.setCell ⟨og, 0, none⟩ u) := by
  obtain ⟨h1, h2, h3, h4, h5, h6, h7, h8⟩ := h
  have far : ∀ {g o : Nat} {v : Value}, w'.cell? ⟨g, o, none⟩ = some v → g ≠ og → (w'.setCell ⟨og, 0, none⟩ u).cell? ⟨g, o, none⟩ = some v := fun hc hg => cell_set_far (p := ⟨og, 0, none⟩) hc hg
  refine ⟨far h1 n1, far h2 n2, far h3 n2, far h4 n3, far h5 n4, far h6 n5, ?_, ?_⟩
  · simpa using h7
  · exact old_of (World.cell?_setCell_same _ _ _ h8)

/-- four new blocks -/
structure Chain4 (w : World) (o1 o2 o3 : Obj) (W : World) : Prop where
  a1 : W.heap[w.heap.size]? = some o1
  a2 : W.heap[w.heap.size + 1]? = some o2
  a3 : W.heap[w.heap.size + 1 + 1]? = some o3
  below : Below w.heap.size w W
theorem chain4 (w : World) (o1 o2 o3 o4 : Obj) : Chain4 w o1 o2 o3 ((((w.alloc o1).alloc o2).alloc o3).alloc o4) := by
  refine ⟨?_, ?_, ?_, ?_⟩
  · have := heap_alloc_new w o1
    rw [Below.heap_alloc _ _ _ (by simp only [World.size_alloc]; omega), Below.heap_alloc _ _ _ (by simp only [World.size_alloc]; omega), Below.heap_alloc _ _ _ (by simp only [World.size_alloc]; omega)]
    exact this
  · have := heap_alloc_new (w.alloc o1) o2
    simp only [World.size_alloc] at this
    rw [Below.heap_alloc _ _ _ (by simp only [World.size_alloc]; omega), Below.heap_alloc _ _ _ (by simp only [World.size_alloc]; omega)]
    exact this
  · have := heap_alloc_new ((w.alloc o1).alloc o2) o3
    simp only [World.size_alloc] at this
    rw [Below.heap_alloc _ _ _ (by simp only [World.size_alloc]; omega)]
    exact this
  · have h := Below.refl w.heap.size w
    exact (((h.alloc (Nat.le_refl _) o1).alloc (by simp only [World.size_alloc]; omega) o2).alloc (by simp only [World.size_alloc]; omega) o3).alloc (by simp only [World.size_alloc]; omega) o4

def RetLive (w : World) (e : Ending) (w' : World) : Prop := ∃ g, e = .returned (.tuple #[.slice (some ⟨g, 0, none⟩) 1 1, I 0]) ∧ Blk w' g 4 #[.bool true] ∧ Below w.heap.size w w'

end Go.Proofs.YtglbelmljdgaoaaGreatDoor
