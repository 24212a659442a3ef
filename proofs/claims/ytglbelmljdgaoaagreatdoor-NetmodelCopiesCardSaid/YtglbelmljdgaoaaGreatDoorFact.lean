/- fine, slices.Equal at ints, and graphFact: the examples of the document hold. -/
import Derived.Test.YtglbelmljdgaoaaGreatDoorCyc
namespace Go.Proofs.YtglbelmljdgaoaaGreatDoor
open Go.RowKit

theorem reads_new (W : World) (t : TypeId) (xs : List Value) (n sz : Nat) (hn : xs.length = n * sz) : Reads (W.alloc (.cells xs.toArray t)) (W.heap.size + 1) sz (some ⟨W.heap.size, 0, none⟩) n xs := by
  refine ⟨hn, fun _ => ⟨_, _, rfl, by omega, fun j u hu => ?_⟩⟩
  rw [(Blk.new W t xs.toArray).cell]
  simpa using hu

set_option maxRecDepth 100000 in
set_option maxHeartbeats 400000 in
theorem nz_false (w : World) : Calls Tryz.prog 32 #[I 0] w fun e w' => e = .returned (.bool false) ∧ w = w' := by
  go_enter Tryz.func32, Tryz.ntmps32
  go_wp2
  go_ret
  exact ⟨rfl, rfl⟩

set_option maxRecDepth 100000 in
set_option maxHeartbeats 400000 in
theorem idx_ok (n : Nat) (A : Option Addr) (c : Nat) (w : World) (B : Nat) (hr : Reads w B 1 A n (List.replicate n (I 0))) (hn : n ≤ 1000000) :
    Calls Tryz.prog 57 #[.slice A n c, .func (.func 32) #[] #[]] w fun e w' => e = .returned (I (-1)) ∧ w = w' := by
  go_enter Tryz.func57, Tryz.ntmps57
  go_wp2
  go_loopg [8] (n - 0) (fun r v wr => ∃ k : Nat, r = n - k ∧ v = I k ∧ k ≤ n ∧ w = wr)
  case atStart => exact ⟨0, rfl, rfl, by omega, rfl⟩
  case round =>
    obtain ⟨k, rfl, rfl, hk, rfl⟩ := hrel
    by_cases hlt : k < n
    · obtain ⟨b, off, u, rfl, _, hu, hc⟩ := hr.at1 hlt
      obtain rfl : u = I 0 := by simp [hlt] at hu; exact hu.symm
      clear hu hr
      go_wp2_with (go_at_call 32; refine (nz_false _).mono ?_; rintro e w' ⟨rfl, rfl⟩)
      go_roundg (n - (k + 1))
      case measure => omega
      case rel => exact ⟨k + 1, rfl, by go_num, by omega, rfl⟩
    · obtain rfl : k = n := by omega
      go_wp2
      go_ret
      exact ⟨rfl, rfl⟩

set_option maxRecDepth 100000 in
set_option maxHeartbeats 400000 in
theorem fine_ok (n : Nat) (A : Option Addr) (c : Nat) (w : World) (B : Nat) (hr : Reads w B 1 A n (List.replicate n (I 0))) (hn : n ≤ 1000000) :
    Calls Tryz.prog 12 #[.slice A n c] w fun e w' => e = .returned (.bool true) ∧ w = w' := by
  have h41 : ∀ w, Reads w B 1 A n (List.replicate n (I 0)) → Calls Tryz.prog 31 #[.slice A n c, .func (.func 32) #[] #[]] w fun e w' => e = .returned (.bool false) ∧ w = w' := by
    intro w hr
    go_enter Tryz.func31, Tryz.ntmps31
    go_wp2_with (go_at_call 57; refine (idx_ok n A c _ B hr hn).mono ?_; rintro e w' ⟨rfl, rfl⟩)
    go_ret
    exact ⟨rfl, rfl⟩
  have H41 := Lib.hid h41
  clear h41
  go_enter Tryz.func12, Tryz.ntmps12
  go_wp2_with (go_at_call 31; refine (H41.out _ hr).mono ?_; rintro e w' ⟨rfl, rfl⟩)
  go_ret
  exact ⟨rfl, rfl⟩

/-- w' is a later world -/
def Ext (w w' : World) : Prop := Below w.heap.size w w'
theorem Ext.refl (w : World) : Ext w w := Below.refl _ _
theorem Ext.trans {a b c : World} (h : Ext a b) (k : Ext b c) : Ext a c := Below.trans h (k.mono h.size)
theorem Ext.alloc {a b : World} (h : Ext a b) (o : Obj) : Ext a (b.alloc o) := Below.alloc h h.size o
theorem Ext.drewN {a b : World} (h : Ext a b) (n : Nat) : Ext a (b.drewN n) := below_drewN h n
theorem Reads.ext {w w' : World} {sz n : Nat} {A : Option Addr} {xs : List Value} (h : Reads w w.heap.size sz A n xs) (hb : Ext w w') : Reads w' w'.heap.size sz A n xs := (h.below hb).more hb.size

theorem reads_newD (W : World) (q : Nat) (t : TypeId) (xs : List Value) (n sz : Nat) (hn : xs.length = n * sz) : Reads ((W.alloc (.cells xs.toArray t)).drewN q) (W.heap.size + 1) sz (some ⟨W.heap.size, 0, none⟩) n xs := reads_new W t xs n sz hn
theorem reads_at (W : World) (q : Nat) (t : TypeId) (xs : List Value) (n sz N : Nat) (hN : W.heap.size = N) (hn : xs.length = n * sz) : Reads ((W.alloc (.cells xs.toArray t)).drewN q) (N + 1) sz (some ⟨N, 0, none⟩) n xs := by
  subst hN; exact reads_new W t xs n sz hn
theorem reads_at0 (W : World) (t : TypeId) (xs : List Value) (n sz N : Nat) (hN : W.heap.size = N) (hn : xs.length = n * sz) : Reads (W.alloc (.cells xs.toArray t)) (N + 1) sz (some ⟨N, 0, none⟩) n xs := by
  subst hN; exact reads_new W t xs n sz hn
theorem fact1 : guardE (4 : Int) [(0, 1), (2, 3)] [] (parts (4 : Int).toNat [(0, 1), (2, 3)] (-1)) = ([0, 0, 1, 1], 0) := by decide +kernel
theorem fact2 : guardE (4 : Int) [(0, 1), (2, 3), (3, 2)] [] (bridgesL (4 : Int).toNat [(0, 1), (2, 3), (3, 2)]) = ([0], 0) := by decide +kernel
theorem fact3 : guardE (3 : Int) [(0, 1), (1, 2), (2, 0)] [] (treeL (3 : Int).toNat [(0, 1), (1, 2), (2, 0)]) = ([0, 1], 0) := by decide +kernel
theorem fact4 : pathE (3 : Int) [(0, 1), (1, 2), (2, 0)] 0 2 = ([2], 0) := by decide +kernel
theorem fact5 : guardE (3 : Int) [(0, 1), (1, 2), (2, 0)] [] (cyclesL (3 : Int).toNat [(0, 1), (1, 2), (2, 0)]) = ([[2, 0, 1]], 0) := by decide +kernel
theorem fact6 : gchk 1 [(0, 1), (1, 2), (2, 0)] = 4 := by decide +kernel

end Go.Proofs.YtglbelmljdgaoaaGreatDoor
