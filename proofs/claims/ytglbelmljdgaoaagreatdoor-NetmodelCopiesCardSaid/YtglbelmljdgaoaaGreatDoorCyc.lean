/- graph.all, graph.Path, graph.Cycles; slices.Contains at ints. -/
import Derived.Test.YtglbelmljdgaoaaGreatDoorPath
import Derived.Test.YtglbelmljdgaoaaGreatDoorMem2
namespace Go.Proofs.YtglbelmljdgaoaaGreatDoor
open Go.RowKit

def allTo (i n : Nat) : List Int := (List.range n).map fun j => if j < i then (j : Int) else 0
def allL (n : Nat) : List Int := (List.range n).map Int.ofNat
theorem allTo_len (i n : Nat) : (allTo i n).length = n := by simp [allTo]
theorem allTo_set {i n : Nat} (_h : i < n) : (allTo i n).set i i = allTo (i + 1) n := by
  apply List.ext_getElem
  · simp [allTo]
  · intro j h1 h2
    simp [allTo, List.getElem_set]
    by_cases e : i = j
    · subst e; simp
    · simp [e]
      have : j < i ↔ j < i + 1 := by omega
      simp [this]
theorem allTo_end (n : Nat) : allTo n n = allL n := by
  apply List.ext_getElem
  · simp [allTo, allL]
  · intro j h1 h2
    simp [allTo, allL] at h1 ⊢
    intro h; omega
theorem allTo_zero (n : Nat) : allTo 0 n = List.replicate n 0 := by
  apply List.ext_getElem
  · simp [allTo]
  · intro j h1 h2
    simp [allTo]
theorem nums_row {w : World} {g n : Nat} {o : List Int} {wr : World} (h : Nums w g n o wr) (hg : w.heap.size ≤ g) (hn : n ≤ 1000000) : Row wr w.heap.size 3 1 (.slice (some ⟨g, 0, none⟩) n n) o.length (o.map I) := by
  have hl := h.len
  subst hl
  refine ⟨by simp, .inr ⟨g, 0, o.length, _, rfl, hg, h.blk, Nat.le_refl _, by unfold maxLen; omega, by simp, ?_⟩⟩
  simp
  rw [List.take_of_length_le (by simp)]

/-- graph.Path -/
def pathE (n : Int) (l : List (Int × Int)) (a tq : Int) : List Int × Int :=
  if gchk n l = 0 then
    if a < 0 ∨ n ≤ a ∨ tq < 0 ∨ n ≤ tq then ([], 4)
    else if (pathL n.toNat l (allL l.length) a tq).2 = true then ((pathL n.toNat l (allL l.length) a tq).1, 0) else ([], 8)
  else ([], gchk n l)
theorem all_within (l : List (Int × Int)) : Within l (allL l.length) := by
  intro k hk
  simp only [allL, List.mem_map, List.mem_range] at hk
  obtain ⟨i, hi, rfl⟩ := hk
  exact ⟨Int.natCast_nonneg i, by simpa using hi⟩

theorem path_args {w w1 w2 : World} {n : Nat} {l : List (Int × Int)} {A EA : Option Addr} {c ec : Nat} {a tq : Int} (hG : GArgs w n l A c) (hb1 : Below w.heap.size w w1) (hb2 : Below w1.heap.size w1 w2) (hv : Valid n l) (hn : (n : Int) ≤ 24) (hl : l.length ≤ 64)
    (hrow : Row w2 w1.heap.size 3 1 (.slice EA l.length ec) l.length ((allL l.length).map I)) (ha : 0 ≤ a ∧ a < n) (hto : 0 ≤ tq ∧ tq < n) : PArgs w2 n l (allL l.length) a tq A EA :=
  ⟨((hG.below hb1).below hb2).reads, by have := hrow.reads; simpa [allL] using this, hv, all_within l, by omega, hl, by simpa [allL] using hl, ha, hto⟩

theorem tree_within (n : Nat) (l : List (Int × Int)) : Within l (treeL n l) := by
  intro k hk
  obtain ⟨i, hi, _, rfl⟩ := mem_sel.1 hk
  omega
theorem tree_len (n : Nat) (l : List (Int × Int)) : (treeL n l).length ≤ l.length := sel_len _ _

/-- the cycle that edge k closes -/
def cycleAt (n : Nat) (l : List (Int × Int)) (k : Nat) : List Int := (k : Int) :: (pathL n l (treeL n l) (edgeAt l k).2 (edgeAt l k).1).1
def cycB (n : Nat) (l : List (Int × Int)) (k : Nat) : Bool := !(treeL n l).contains (k : Int)
def cycTo (n : Nat) (l : List (Int × Int)) (k : Nat) : List (List Int) := ((List.range k).filter (cycB n l)).map (cycleAt n l)
def cyclesL (n : Nat) (l : List (Int × Int)) : List (List Int) := cycTo n l l.length
theorem cycTo_yes {n : Nat} {l : List (Int × Int)} {k : Nat} (h : cycB n l k = true) : cycTo n l (k + 1) = cycTo n l k ++ [cycleAt n l k] := by simp [cycTo, List.range_succ, List.filter_append, h]
theorem cycTo_no {n : Nat} {l : List (Int × Int)} {k : Nat} (h : cycB n l k = false) : cycTo n l (k + 1) = cycTo n l k := by simp [cycTo, List.range_succ, List.filter_append, h]
theorem cycTo_len (n : Nat) (l : List (Int × Int)) (k : Nat) : (cycTo n l k).length ≤ k := by
  have := List.length_filter_le (cycB n l) (List.range k)
  simp [cycTo] at this ⊢; omega

theorem row_oneCell {w : World} {base : Nat} {e : TypeId} {sz : Nat} {v : Value} {n : Nat} {xs : List Value} (h : Row w base e sz v n xs) : v.oneCell' = true := by
  obtain ⟨A, c, rfl⟩ := h.val
  rfl

theorem back_len (l : List (Int × Int)) (es far : List Int) (tq : Int) (f : Nat) (a : Int) : (back l es far tq f a).length ≤ f := by
  induction f generalizing a with
  | zero => simp [back]
  | succ f ih =>
    rw [back]
    split
    · simp
    · split
      · simp
      · have := ih (nxt l a (by assumption))
        simp; exact ih _
theorem path_len {n : Nat} {l : List (Int × Int)} {es : List Int} {a tq : Int} (hv : Valid n l) (hes : Within l es) (ha : 0 ≤ a ∧ a < n) (hto : 0 ≤ tq ∧ tq < n) : (pathL n l es a tq).1.length ≤ n + 1 := by
  unfold pathL
  split
  · simp
  · have := back_len l es (farL n l es tq) tq (((farL n l es tq).getD a.toNat 0).toNat + 1) a
    have hb := (far_inv hv hes hto).bound a ha.1 ha.2
    unfold at_ at hb
    simp only
    omega

end Go.Proofs.YtglbelmljdgaoaaGreatDoor
