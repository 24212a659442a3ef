/- The plain functions of package graph, as the program computes them. No program here. -/
import Derived.WalkKit
namespace Go.Proofs.YtglbelmljdgaoaaGreatDoor

def okEdge (n : Int) (x : Int × Int) : Bool := decide (0 ≤ x.1 ∧ x.1 < n ∧ 0 ≤ x.2 ∧ x.2 < n)
def gchk (n : Int) (l : List (Int × Int)) : Int := if n < 0 ∨ 24 < n ∨ 64 < l.length then 2 else if l.all (okEdge n) then 0 else 4

/-- one pass over the edges at node a: o the numbers, q the queue -/
def scan (wo m a : Int) : Int → List (Int × Int) → List Int → List Int → List Int × List Int
  | _, [], o, q => (o, q)
  | k, x :: l, o, q =>
    if k = wo ∨ (x.1 ≠ a ∧ x.2 ≠ a) then scan wo m a (k + 1) l o q
    else if o.getD (x.1 + x.2 - a).toNat 0 < 0 then scan wo m a (k + 1) l (o.set (x.1 + x.2 - a).toNat m) (q ++ [x.1 + x.2 - a])
    else scan wo m a (k + 1) l o q
def bfs (l : List (Int × Int)) (wo m : Int) : Nat → List Int → List Int → List Int
  | 0, o, _ => o
  | _ + 1, o, [] => o
  | f + 1, o, a :: q => bfs l wo m f (scan wo m a 0 l o q).1 (scan wo m a 0 l o q).2
def outer (l : List (Int × Int)) (wo : Int) (n : Nat) : Nat → Nat → Int → List Int → List Int
  | 0, _, _, o => o
  | r + 1, i, m, o => if o.getD i 0 < 0 then outer l wo n r (i + 1) (m + 1) (bfs l wo m (n + 1) (o.set i m) [(i : Int)]) else outer l wo n r (i + 1) m o
def parts (n : Nat) (l : List (Int × Int)) (wo : Int) : List Int := outer l wo n n 0 0 (List.replicate n (-1))

/-- how many nodes have no number yet -/
def neg (o : List Int) : Nat := o.countP fun x => decide (x < 0)

theorem scan_skip {wo m a k : Int} {x : Int × Int} {l : List (Int × Int)} {o q : List Int} (h : k = wo ∨ (x.1 ≠ a ∧ x.2 ≠ a)) : scan wo m a k (x :: l) o q = scan wo m a (k + 1) l o q := by
  rw [scan, if_pos h]
theorem scan_new {wo m a k : Int} {x : Int × Int} {l : List (Int × Int)} {o q : List Int} (h : ¬ (k = wo ∨ (x.1 ≠ a ∧ x.2 ≠ a))) (h2 : o.getD (x.1 + x.2 - a).toNat 0 < 0) :
    scan wo m a k (x :: l) o q = scan wo m a (k + 1) l (o.set (x.1 + x.2 - a).toNat m) (q ++ [x.1 + x.2 - a]) := by
  rw [scan, if_neg h, if_pos h2]
theorem scan_old {wo m a k : Int} {x : Int × Int} {l : List (Int × Int)} {o q : List Int} (h : ¬ (k = wo ∨ (x.1 ≠ a ∧ x.2 ≠ a))) (h2 : ¬ o.getD (x.1 + x.2 - a).toNat 0 < 0) :
    scan wo m a k (x :: l) o q = scan wo m a (k + 1) l o q := by
  rw [scan, if_neg h, if_neg h2]

theorem neg_le (o : List Int) : neg o ≤ o.length := List.countP_le_length
theorem neg_set {o : List Int} {i : Nat} {m : Int} (hi : i < o.length) (hm : 0 ≤ m) (hneg : o.getD i 0 < 0) : neg (o.set i m) + 1 = neg o := by
  induction o generalizing i with
  | nil => simp at hi
  | cons y o ih =>
    cases i with
    | zero =>
      simp at hneg
      have h1 : ¬ m < 0 := by omega
      simp [neg, hneg, h1]
    | succ i =>
      have := ih (i := i) (by simpa using hi) (by simpa using hneg)
      simp only [neg, List.set_cons_succ, List.countP_cons] at this ⊢
      omega

theorem scan_len (wo m a k : Int) (l : List (Int × Int)) (o q : List Int) : (scan wo m a k l o q).1.length = o.length := by
  induction l generalizing k o q with
  | nil => rfl
  | cons x l ih =>
    rw [scan]
    split
    · exact ih _ _ _
    · split
      · rw [ih]; simp
      · exact ih _ _ _
theorem bfs_len (l : List (Int × Int)) (wo m : Int) (f : Nat) (o q : List Int) : (bfs l wo m f o q).length = o.length := by
  induction f generalizing o q with
  | zero => rfl
  | succ f ih =>
    cases q with
    | nil => rfl
    | cons a q => rw [bfs, ih, scan_len]
theorem outer_len (l : List (Int × Int)) (wo : Int) (n r i : Nat) (m : Int) (o : List Int) : (outer l wo n r i m o).length = o.length := by
  induction r generalizing i m o with
  | zero => rfl
  | succ r ih =>
    rw [outer]
    split
    · rw [ih, bfs_len]; simp
    · exact ih _ _ _
theorem parts_len (n : Nat) (l : List (Int × Int)) (wo : Int) : (parts n l wo).length = n := by rw [parts, outer_len]; simp

/-- the numbers below len that pass the test p -/
def sel (p : Nat → Bool) (len : Nat) : List Int := ((List.range len).filter p).map Int.ofNat
theorem sel_succ_yes {p : Nat → Bool} {k : Nat} (h : p k = true) : sel p (k + 1) = sel p k ++ [(k : Int)] := by simp [sel, List.range_succ, List.filter_append, h]
theorem sel_succ_no {p : Nat → Bool} {k : Nat} (h : p k = false) : sel p (k + 1) = sel p k := by simp [sel, List.range_succ, List.filter_append, h]
theorem sel_len (p : Nat → Bool) (k : Nat) : (sel p k).length ≤ k := by
  have := List.length_filter_le p (List.range k)
  simp [sel] at this ⊢; omega
theorem mem_sel {p : Nat → Bool} {k : Nat} {x : Int} : x ∈ sel p k ↔ ∃ i, i < k ∧ p i = true ∧ x = i := by
  simp only [sel, List.mem_map, List.mem_filter, List.mem_range]
  constructor
  · rintro ⟨i, ⟨h1, h2⟩, rfl⟩; exact ⟨i, h1, h2, rfl⟩
  · rintro ⟨i, h1, h2, rfl⟩; exact ⟨i, ⟨h1, h2⟩, rfl⟩

/-- do the nodes of edge k differ in the numbers p -/
def apartB (p : List Int) (x : Int × Int) : Bool := p.getD x.1.toNat 0 != p.getD x.2.toNat 0
def brB (n : Nat) (l : List (Int × Int)) (k : Nat) : Bool := apartB (parts n l k) (l.getD k (0, 0))
def trB (n : Nat) (l : List (Int × Int)) (k : Nat) : Bool := apartB (parts n (l.take k) (-1)) (l.getD k (0, 0))
def bridgesL (n : Nat) (l : List (Int × Int)) : List Int := sel (brB n l) l.length
def treeL (n : Nat) (l : List (Int × Int)) : List Int := sel (trB n l) l.length
/-- a result with an error -/
def guardE {α : Type} (n : Int) (l : List (Int × Int)) (none : α) (r : α) : α × Int := if gchk n l = 0 then (r, 0) else (none, gchk n l)
end Go.Proofs.YtglbelmljdgaoaaGreatDoor
