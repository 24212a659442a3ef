/- graph.tree, graph.Tree, graph.Bridges, graph.Components. -/
import Derived.Test.YtglbelmljdgaoaaGreatDoorParts
import Derived.Test.YtglbelmljdgaoaaGreatDoorGraphA
import Derived.Deep.QuietTactic
import Derived.BigQuiet
namespace Go.Proofs.YtglbelmljdgaoaaGreatDoor
open Go.RowKit

theorem Valid.take {n : Nat} {l : List (Int × Int)} (h : Valid n l) (k : Nat) : Valid n (l.take k) := fun x hx => h x (List.mem_of_mem_take hx)

theorem getD_at {α : Type} {l : List α} {k : Nat} {d : α} (h : k < l.length) : l.getD k d = l[k] := by simp [h]

structure SelInv (w : World) (p : Nat → Bool) (len k : Nat) (v : Value) (wr : World) : Prop where
  hk : k ≤ len
  row : Row wr w.heap.size 3 1 v (sel p k).length ((sel p k).map I)
  below : Below w.heap.size w wr
theorem SelInv.no {w : World} {p : Nat → Bool} {len k : Nat} {v : Value} {wr w2 : World} (h : SelInv w p len k v wr) (hp : p k = false) (hk : k < len) (hb : Below wr.heap.size wr w2) : SelInv w p len (k + 1) v w2 :=
  ⟨hk, by rw [sel_succ_no hp]; exact h.row.call hb, h.below.trans (hb.mono h.below.size)⟩
theorem SelInv.yes {w : World} {p : Nat → Bool} {len k : Nat} {v v2 : Value} {wr w2 : World} (h : SelInv w p len k v wr) (hp : p k = true) (hk : k < len) (hb : Below w.heap.size wr w2)
    (hrow : Row w2 w.heap.size 3 1 v2 ((sel p k).length + 1) ((sel p k).map I ++ [I k])) : SelInv w p len (k + 1) v2 w2 :=
  ⟨hk, by rw [sel_succ_yes hp]; simpa using hrow, h.below.trans hb⟩

/-- a call that returns a new slice of ints and an error -/
def RetIntsE (w : World) (r : List Int × Int) (e : Ending) (w' : World) : Prop := ∃ v, e = .returned (.tuple #[v, I r.2]) ∧ Row w' w.heap.size 3 1 v r.1.length (r.1.map I) ∧ Below w.heap.size w w'

theorem gchk_ok {n : Int} {l : List (Int × Int)} (h : gchk n l = 0) : 0 ≤ n ∧ n ≤ 24 ∧ l.length ≤ 64 ∧ Valid n.toNat l := by
  unfold gchk at h
  split at h
  · cases h
  · split at h
    · rename_i h1 h2
      refine ⟨by omega, by omega, by omega, fun x hx => ?_⟩
      have := of_decide_eq_true (List.all_eq_true.1 h2 x hx)
      omega
    · cases h

/-- the arguments that a law or a chapter's function gets: an int and a slice of edges -/
structure GArgs (w : World) (n : Int) (l : List (Int × Int)) (A : Option Addr) (c : Nat) : Prop where
  reads : Reads w w.heap.size 2 A l.length (cells2 l)
  len : l.length ≤ 9223372036854775807
  lo : -9223372036854775808 ≤ n
  hi : n ≤ 9223372036854775807
  cap : l.length ≤ c
theorem GArgs.below {w w' : World} {n : Int} {l : List (Int × Int)} {A : Option Addr} {c : Nat} (h : GArgs w n l A c) (hb : Below w.heap.size w w') : GArgs w' n l A c :=
  ⟨(h.reads.below hb).more hb.size, h.len, h.lo, h.hi, h.cap⟩
end Go.Proofs.YtglbelmljdgaoaaGreatDoor
