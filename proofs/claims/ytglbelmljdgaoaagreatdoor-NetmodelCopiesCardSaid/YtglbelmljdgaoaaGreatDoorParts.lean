/- graph.parts computes the plain function 'parts'. -/
import Derived.Test.YtglbelmljdgaoaaGreatDoorRepeat
import Derived.Test.YtglbelmljdgaoaaGreatDoorFar
import Derived.Deep.LoopGhost
namespace Go.Proofs.YtglbelmljdgaoaaGreatDoor
open Go.RowKit

/-- a call that returns a new slice of ints -/
def RetInts (w : World) (xs : List Int) (e : Ending) (w' : World) : Prop := ∃ v, e = .returned v ∧ Row w' w.heap.size 3 1 v xs.length (xs.map I) ∧ Below w.heap.size w w'

/-- the numbers of the nodes lie in block g -/
structure Nums (w : World) (g n : Nat) (o : List Int) (wr : World) : Prop where
  len : o.length = n
  blk : Blk wr g 3 (o.map I).toArray
  below : Below w.heap.size w wr

theorem Nums.set {w : World} {g n : Nat} {o : List Int} {wr : World} (h : Nums w g n o wr) (i : Nat) (m : Int) (hg : w.heap.size ≤ g) : Nums w g n (o.set i m) (wr.setCell ⟨g, i, none⟩ (I m)) := by
  refine ⟨by simpa using h.len, ?_, h.below.setCell hg _⟩
  have := h.blk.set_ i (I m)
  simpa [List.map_set] using this
theorem Nums.alloc {w : World} {g n : Nat} {o : List Int} {wr : World} (h : Nums w g n o wr) (ob : Obj) : Nums w g n o (wr.alloc ob) := ⟨h.len, h.blk.alloc _, h.below.alloc h.below.size _⟩
theorem Nums.step {w : World} {g n : Nat} {o : List Int} {wr w2 : World} (h : Nums w g n o wr) (hb : Below (g + 1) wr w2) (hg : w.heap.size ≤ g) : Nums w g n o w2 :=
  ⟨h.len, h.blk.below hb (by omega), h.below.trans (hb.mono (by omega))⟩
theorem Nums.cell {w : World} {g n : Nat} {o : List Int} {wr : World} (h : Nums w g n o wr) {i : Nat} (hi : i < n) : wr.cell? ⟨g, i, none⟩ = some (I (o.getD i 0)) := by
  rw [h.blk.cell]; have := h.len; simp [hi, this]

structure PartsO (w : World) (g n : Nat) (l : List (Int × Int)) (wo : Int) (i : Nat) (m : Int) (o : List Int) (wr : World) : Prop where
  nums : Nums w g n o wr
  hi : i ≤ n
  hm0 : 0 ≤ m
  hmi : m ≤ i
  rest : outer l wo n (n - i) i m o = parts n l wo

structure PartsM (w : World) (g n : Nat) (l : List (Int × Int)) (wo m : Int) (res : List Int) (f : Nat) (o q : List Int) (v : Value) (wr : World) : Prop where
  nums : Nums w g n o wr
  row : Row wr (g + 1) 3 1 v q.length (q.map I)
  inq : ∀ x ∈ q, 0 ≤ x ∧ x < n
  mu : q.length + neg o < f
  fle : f ≤ n + 1
  rest : bfs l wo m f o q = res

theorem PartsM.q24 {w : World} {g n : Nat} {l : List (Int × Int)} {wo m : Int} {res : List Int} {f : Nat} {o : List Int} {a : Int} {q : List Int} {v : Value} {wr : World} (h : PartsM w g n l wo m res f o (a :: q) v wr) (hn : n ≤ 24) : q.length ≤ 24 := by
  have h1 := h.mu
  have h2 := h.fle
  simp only [List.length_cons] at h1
  omega

structure PartsI (w : World) (g n : Nat) (l : List (Int × Int)) (wo m a : Int) (res : List Int × List Int) (mu : Nat) (k : Nat) (o q : List Int) (v : Value) (wr : World) : Prop where
  nums : Nums w g n o wr
  row : Row wr (g + 1) 3 1 v q.length (q.map I)
  inq : ∀ x ∈ q, 0 ≤ x ∧ x < n
  hmu : q.length + neg o = mu
  hk : k ≤ l.length
  rest : scan wo m a k (l.drop k) o q = res

section
variable {w : World} {g n : Nat} {l : List (Int × Int)} {wo m a : Int} {res : List Int × List Int} {mu : Nat} {k : Nat} {o q : List Int} {v : Value} {wr : World}
theorem drop_at {l : List (Int × Int)} {k : Nat} (hk : k < l.length) : l.drop k = l[k] :: l.drop (k + 1) := by rw [List.drop_eq_getElem_cons hk]
theorem PartsI.skip (h : PartsI w g n l wo m a res mu k o q v wr) (hk : k < l.length) (ob : Obj) (hs : (k : Int) = wo ∨ (l[k].1 ≠ a ∧ l[k].2 ≠ a)) : PartsI w g n l wo m a res mu (k + 1) o q v (wr.alloc ob) := by
  refine ⟨h.nums.alloc _, h.row.alloc _, h.inq, h.hmu, hk, ?_⟩
  have := h.rest
  rw [drop_at hk, scan_skip hs] at this
  simpa using this
theorem PartsI.old (h : PartsI w g n l wo m a res mu k o q v wr) (hk : k < l.length) (ob : Obj) (hs : ¬ ((k : Int) = wo ∨ (l[k].1 ≠ a ∧ l[k].2 ≠ a))) (h2 : ¬ o.getD (l[k].1 + l[k].2 - a).toNat 0 < 0) : PartsI w g n l wo m a res mu (k + 1) o q v (wr.alloc ob) := by
  refine ⟨h.nums.alloc _, h.row.alloc _, h.inq, h.hmu, hk, ?_⟩
  have := h.rest
  rw [drop_at hk, scan_old hs h2] at this
  simpa using this
theorem PartsI.new (h : PartsI w g n l wo m a res mu k o q v wr) (hk : k < l.length) (hs : ¬ ((k : Int) = wo ∨ (l[k].1 ≠ a ∧ l[k].2 ≠ a))) (h2 : o.getD (l[k].1 + l[k].2 - a).toNat 0 < 0) (hm : 0 ≤ m) (hg : w.heap.size ≤ g)
    (hin : 0 ≤ l[k].1 + l[k].2 - a ∧ l[k].1 + l[k].2 - a < n) {wx w2 : World} {v2 : Value} (hwx : Nums w g n (o.set (l[k].1 + l[k].2 - a).toNat m) wx) (hb : Below (g + 1) wx w2)
    (hrow : Row w2 (g + 1) 3 1 v2 (q.length + 1) (q.map I ++ [I (l[k].1 + l[k].2 - a)])) :
    PartsI w g n l wo m a res mu (k + 1) (o.set (l[k].1 + l[k].2 - a).toNat m) (q ++ [l[k].1 + l[k].2 - a]) v2 w2 := by
  refine ⟨?_, by simpa using hrow, ?_, ?_, hk, ?_⟩
  · exact hwx.step hb hg
  · intro x hx
    rcases List.mem_append.1 hx with hx | hx
    · exact h.inq x hx
    · simp at hx; omega
  · have h1 := h.hmu
    have h3 := neg_set (o := o) (i := (l[k].1 + l[k].2 - a).toNat) (m := m) (by rw [h.nums.len]; omega) hm h2
    simp; omega
  · have := h.rest
    rw [drop_at hk, scan_new hs h2] at this
    simpa using this
end

end Go.Proofs.YtglbelmljdgaoaaGreatDoor
