/- slices.Repeat at []int, of one element. -/
import Derived.Test.YtglbelmljdgaoaaGreatDoorMem
import Derived.Test.YtglbelmljdgaoaaGreatDoorShelf
import Derived.Laws.CopyOwn
import Derived.Deep.RegionLaw
namespace Go.Proofs.YtglbelmljdgaoaaGreatDoor
open Go.RowKit

theorem Tryz.info3 : (Tryz.prog.info? 3).map (fun i => (i.zero, i.size, i.bytes)) = some (some (.int .i64 0), 1, 8) := by kernel_rfl
theorem Tryz.size3 : (Tryz.prog.info? 3).map (·.size) = some 1 := by kernel_rfl

theorem made_int (n : Nat) : madeCells (Value.int .i64 0).cells (n * 1) = Array.replicate n (I 0) := by
  apply Array.ext
  · simp [size_madeCells]
  · intro i h1 h2
    simp [madeCells, Value.cells, Nat.mod_one]

theorem rep_splice (x : Value) (n m k : Nat) (_hk : m + k ≤ n) :
    splice (List.replicate m x ++ List.replicate (n - m) (I 0)) m (List.replicate k x) = List.replicate (m + k) x ++ List.replicate (n - (m + k)) (I 0) := by
  unfold splice
  rw [List.take_append_of_le_length (by simp), List.take_of_length_le (by simp), List.drop_append, List.drop_of_length_le (by simp)]
  simp
  rw [← List.append_assoc, List.replicate_append_replicate]
  congr 2
  omega

theorem rep_one (x : Int) {w : World} {b off : Nat} {o : Obj} (n : Nat) (hb : b < w.heap.size) (hc : w.cell? ⟨b, off, none⟩ = some (I x)) :
    ∀ j v, (List.replicate (min 1 n) (I x))[j]? = some v → (w.alloc o).cell? ((⟨b, off, none⟩ : Addr).add j) = some v := by
  intro j v hv
  rw [List.getElem?_replicate] at hv
  split at hv
  · rename_i h
    obtain rfl : j = 0 := by omega
    rw [Addr.add_lit, World.cell?_alloc_lt _ _ _ hb, Nat.add_zero, hc]
    exact hv
  · cases hv

theorem rep_self (x : Int) {w : World} {g n m k : Nat} (hg : w.heap[g]? = some (.cells (List.replicate m (I x) ++ List.replicate (n - m) (I 0)).toArray 3 (0, 0))) (hk : k ≤ m) :
    ∀ j v, (List.replicate k (I x))[j]? = some v → w.cell? ((⟨g, 0, none⟩ : Addr).add j) = some v := by
  intro j v hv
  rw [List.getElem?_replicate] at hv
  split at hv
  · rename_i h
    rw [Addr.add_lit, Nat.zero_add, cell_of_row w g j _ _ _ hg]
    simp only [List.getElem?_toArray]
    rw [List.getElem?_append_left (by simp; omega), List.getElem?_replicate, if_pos (by omega)]
    exact hv
  · cases hv

theorem rep_plain (x : Int) (k : Nat) : ∀ v ∈ List.replicate k (I x), v.oneCell' = true := by
  intro v hv
  rw [List.mem_replicate] at hv
  rw [hv.2]
  rfl

theorem rep_start (x : Int) (n : Nat) : splice (List.replicate n (I 0)) 0 (List.replicate (min 1 n) (I x)) = List.replicate (min 1 n) (I x) ++ List.replicate (n - min 1 n) (I 0) := by
  simp [splice]

/-- the loop of slices.Repeat: m cells are filled -/
structure RepInv (w : World) (g : Nat) (x : Int) (n m : Nat) (wr : World) : Prop where
  le : m ≤ n
  pos : 1 ≤ m ∨ n = 0
  row : wr.heap[g]? = some (.cells (List.replicate m (I x) ++ List.replicate (n - m) (I 0)).toArray 3 (0, 0))
  below : Below g w wr

end Go.Proofs.YtglbelmljdgaoaaGreatDoor
