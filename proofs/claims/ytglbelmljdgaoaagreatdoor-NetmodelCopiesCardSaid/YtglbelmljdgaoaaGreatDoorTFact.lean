/- topologyFact returns true. -/
import Derived.Test.YtglbelmljdgaoaaGreatDoorFSet
namespace Go.Proofs.YtglbelmljdgaoaaGreatDoor
open Go.RowKit

theorem pair_set : setSw (pairN false) 0 true = pairN true := rfl
theorem pair_bus : busesL (pairN false) = [0, 0, 1] := by decide +kernel
theorem pair_isl : islandsL (pairN false) = [0, 0] := by decide +kernel
theorem pair_bus' : busesL (pairN true) = [0, 1, 2] := by decide +kernel
theorem pair_isl' : islandsL (pairN true) = [0, 1, 0] := by decide +kernel
theorem pair_idx : nmIdx SwitchD.name ⟨#[83]⟩ (pairN false).switches 0 = 0 := by decide +kernel

theorem cell_at0 (W : World) (t : TypeId) (u : Value) (N : Nat) (hN : W.heap.size = N) : (W.alloc (.cells #[u] t)).cell? ⟨N, 0, none⟩ = some u := by
  subst hN; exact (Blk.new W t #[u]).cell 0
theorem field47_0 (a b c d e f : Option Addr) (n1 c1 n2 c2 n3 c3 n4 c4 n5 c5 n6 c6 : Nat) (w : World) : (Instr.field 29 (.agg #[.slice a n1 c1, .slice b n2 c2, .slice c n3 c3, .slice d n4 c4, .slice e n5 c5, .slice f n6 c6]) 0).run Tryz.prog w = .ok (.slice a n1 c1) w := by kernel_rfl
theorem Ext.trans' {a b c : World} (h : Ext a b) (k : Below b.heap.size b c) : Ext a c := Ext.trans h k
theorem Ext.cell {w w' : World} (h : Ext w w') {g o : Nat} {u : Value} (hc : w.cell? ⟨g, o, none⟩ = some u) : w'.cell? ⟨g, o, none⟩ = some u :=
  (Below.cell h (World.block_lt_of_cell? w _ hc)).trans hc

end Go.Proofs.YtglbelmljdgaoaaGreatDoor
