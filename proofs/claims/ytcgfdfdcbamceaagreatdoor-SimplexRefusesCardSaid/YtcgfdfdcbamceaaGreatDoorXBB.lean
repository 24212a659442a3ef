/- Rows that change places in a matrix; matrices and rows of ints beside each other. Eliminations of the first columns alone; columns without pivots; vectors of the kernel. No program here. The states within one column of an elimination. No program here. Two more laws for regions that draw their order: a guarded operation that is wanted and comes up alone; an operation that looks at no memory is taken first. No program here. lin.Reduce. -/
import Derived.Test.YtcgfdfdcbamceaaGreatDoorXBA
import Derived.Test.YtcgfdfdcbamceaaGreatDoorXAS
import Derived.Test.YtcgfdfdcbamceaaGreatDoorXAL
import Derived.Test.YtcgfdfdcbamceaaGreatDoorXAV
namespace Go.Proofs.YtcgfdfdcbamceaaGreatDoor
open Go.RowKit
end Go.Proofs.YtcgfdfdcbamceaaGreatDoor
namespace Go.Proofs.YtcgfdfdcbamceaaGreatDoor
theorem getD_set_ {α : Type} (l : List α) (i j : Nat) (x d : α) : (l.set i x).getD j d = if i = j ∧ j < l.length then x else l.getD j d := by
 rw [List.getD_eq_getElem?_getD, List.getElem?_set, List.getD_eq_getElem?_getD]
 by_cases h : i = j
 ·by_cases h2 : j < l.length
  ·rw [if_pos h, if_pos (by omega), if_pos ⟨h, h2⟩]; rfl
  ·rw [if_pos h, if_neg (by omega), if_neg (fun k => h2 k.2), List.getElem?_eq_none (by omega)]
 ·rw [if_neg h, if_neg (fun k => h k.1)]
section
variable {n w : Nat} {M : Nat → Nat → Rat} {A : MQ} {pv : List Nat} {π : Nat → Nat} {δ ε : Rat}
end
def scP (k j : Nat) (d : Rat) (r : List Rat) : List Rat := r.mapIdx fun i x => if k ≤ i ∧ i < j then x / d else x
theorem mapIdx_id {α : Type} (r : List α) (f : Nat → α → α) (h : ∀ i x, r[i]? = some x → f i x = x) : r.mapIdx f = r := by
 apply List.ext_getElem?
 intro i
 rw [List.getElem?_mapIdx]
 cases e : r[i]? with
 | none => rfl
 | some x => show some (f i x) = some x; rw [h i x e]
theorem scP_start (k : Nat) (d : Rat) (r : List Rat) : scP k k d r = r := mapIdx_id r _ fun i x _ => if_neg (by omega)
theorem scP_end (k : Nat) (d : Rat) (r : List Rat) : scP k r.length d r = scRow k d r := by
 apply List.ext_getElem?
 intro i
 unfold scP scRow
 rw [List.getElem?_mapIdx, List.getElem?_mapIdx]
 cases e : r[i]? with
 | none => rfl
 | some x =>
  have hi := (List.getElem?_eq_some_iff.1 e).1
  simp only [Option.map_some]
  by_cases hk : k ≤ i
  ·rw [if_pos ⟨hk, hi⟩, if_pos hk]
  ·rw [if_neg (fun h => hk h.1), if_neg hk]
theorem scP_at (k j : Nat) (d : Rat) (r : List Rat) (i : Nat) (hi : j ≤ i) : (scP k j d r).getD i 0 = r.getD i 0 := by
 unfold scP
 by_cases h : i < r.length
 ·rw [getD_mapIdx r _ i 0 0 h, if_neg (by omega)]
 ·rw [getD_mapIdx_ge _ _ _ _ (by omega), getD_ge r i 0 (by omega)]
theorem scP_set {k j : Nat} (d : Rat) (r : List Rat) (hk : k ≤ j) (hj : j < r.length) : (scP k j d r).set j (r.getD j 0 / d) = scP k (j + 1) d r := by
 apply List.ext_getElem?
 intro i
 unfold scP
 rw [List.getElem?_set, List.getElem?_mapIdx, List.getElem?_mapIdx, List.length_mapIdx]
 by_cases e : j = i
 ·subst e
  rw [if_pos rfl, if_pos hj, List.getElem?_eq_getElem hj, List.getD_eq_getElem?_getD, List.getElem?_eq_getElem hj]
  simp only [Option.map_some]
  rw [if_pos ⟨hk, by omega⟩]; rfl
 ·rw [if_neg e]
  cases r[i]? with
  | none => rfl
  | some x =>
   simp only [Option.map_some]
   by_cases h : k ≤ i ∧ i < j
   ·rw [if_pos h, if_pos ⟨h.1, by omega⟩]
   ·rw [if_neg h, if_neg (by omega)]
def elP (k j : Nat) (f : Rat) (pr r : List Rat) : List Rat := r.mapIdx fun i x => if k ≤ i ∧ i < j then x - f * pr.getD i 0 else x
theorem elP_len (k j : Nat) (f : Rat) (pr r : List Rat) : (elP k j f pr r).length = r.length := List.length_mapIdx
theorem elP_start (k : Nat) (f : Rat) (pr r : List Rat) : elP k k f pr r = r := mapIdx_id r _ fun i x _ => if_neg (by omega)
theorem elP_at (k j : Nat) (f : Rat) (pr r : List Rat) (i : Nat) (hi : j ≤ i) : (elP k j f pr r).getD i 0 = r.getD i 0 := by
 unfold elP
 by_cases h : i < r.length
 ·rw [getD_mapIdx r _ i 0 0 h, if_neg (by omega)]
 ·rw [getD_mapIdx_ge _ _ _ _ (by omega), getD_ge r i 0 (by omega)]
theorem elP_set {k j : Nat} (f : Rat) (pr r : List Rat) (hk : k ≤ j) (hj : j < r.length) : (elP k j f pr r).set j (r.getD j 0 - f * pr.getD j 0) = elP k (j + 1) f pr r := by
 apply List.ext_getElem?
 intro i
 unfold elP
 rw [List.getElem?_set, List.getElem?_mapIdx, List.getElem?_mapIdx, List.length_mapIdx]
 by_cases e : j = i
 ·subst e
  rw [if_pos rfl, if_pos hj, List.getElem?_eq_getElem hj, List.getD_eq_getElem?_getD, List.getElem?_eq_getElem hj]
  simp only [Option.map_some]
  rw [if_pos ⟨hk, by omega⟩]; rfl
 ·rw [if_neg e]
  cases r[i]? with
  | none => rfl
  | some x =>
   simp only [Option.map_some]
   by_cases h : k ≤ i ∧ i < j
   ·rw [if_pos h, if_pos ⟨h.1, by omega⟩]
   ·rw [if_neg h, if_neg (by omega)]
theorem elP_skip {k j : Nat} (f : Rat) (pr r : List Rat) (h0 : pr.getD j 0 = 0) : elP k (j + 1) f pr r = elP k j f pr r := by
 apply List.ext_getElem?
 intro i
 unfold elP
 rw [List.getElem?_mapIdx, List.getElem?_mapIdx]
 cases r[i]? with
 | none => rfl
 | some x =>
  simp only [Option.map_some]
  by_cases h : k ≤ i ∧ i < j
  ·rw [if_pos h, if_pos ⟨h.1, by omega⟩]
  ·rw [if_neg h]
   by_cases e : i = j
   ·subst e
    by_cases hk : k ≤ i
    ·rw [if_pos ⟨hk, by omega⟩, h0]; congr 1; grind
    ·rw [if_neg (fun h => hk h.1)]
   ·rw [if_neg (by omega)]
theorem set_getD_self {α : Type} (l : List (List α)) (i : Nat) : l.set i (l.getD i []) = l := by
 apply List.ext_getElem?
 intro a
 rw [List.getElem?_set]
 by_cases e : i = a
 ·subst e
  rw [if_pos rfl, List.getD_eq_getElem?_getD]
  by_cases h : i < l.length
  ·rw [if_pos h, List.getElem?_eq_getElem h]; rfl
  ·rw [if_neg h, List.getElem?_eq_none (by omega)]
 ·rw [if_neg e]
end Go.Proofs.YtcgfdfdcbamceaaGreatDoor
namespace Go.Proofs.YtcgfdfdcbamceaaGreatDoor
open Go
theorem wpAnyC_oneW {P : Program} {ops : Array Oper} {Q : Exit → Act → World → Prop} {md : Region.Mode} {S : World → Prop} {c : Nat} {i : Nat} {o : Oper} {fuel : Nat} {listed : Array Bool} {a : Act} {w : World} (hr : Region.ready md ops listed = [i]) (ho : ops[i]? = some o) (hw : Region.wanted o (yielded ops a.tmps) = true)
  (h : ∀ K' : Act → World → Prop, Shut (∀ a w, ((listed.setIfInBounds i true).getD c true = false → S w) → wpAnyC P md ops Q S c fuel (listed.setIfInBounds i true) a w → K' a w) → Oper.wp P o a w K' Q) : wpAnyC P md ops Q S c (fuel + 1) listed a w :=
 wpAnyC_one hr ho fun K' hK => by rw [if_pos hw]; exact h K' hK
section
variable {P : Program} {ops : Array Oper} {Q : Exit → Act → World → Prop} {md : Region.Mode} {S : World → Prop} {c : Nat}
end
end Go.Proofs.YtcgfdfdcbamceaaGreatDoor
namespace Go.Proofs.YtcgfdfdcbamceaaGreatDoor
open Go.RowKit
abbrev intT : TypeId := 3
theorem noWord_int (n : Int) : noWord (I n) := fun m e => by cases e
theorem Vq.put4 {w : World} {g b o : Nat} {u0 u1 u2 u3 : Value} {q : Rat} (h : Vq w g q) (hk : Kw w (Proofs.YtcgfdfdcbamceaaGreatDoor.put4 w b o u0 u1 u2 u3)) (hne : g ≠ b) : Vq (Proofs.YtcgfdfdcbamceaaGreatDoor.put4 w b o u0 u1 u2 u3) g q := by
 obtain ⟨nb, A, l, c, B, m, d, h1, h2⟩ := h
 exact ⟨nb, A, l, c, B, m, d, h1.keepB (put4_other w _ _ _ _ _ hne), h2.kw hk⟩
def ints (l : List Nat) : List Value := l.map fun p : Nat => I (p : Int)
theorem ints_len (l : List Nat) : (ints l).length = l.length := List.length_map _
theorem getD_set_self {m : MQ} {i : Nat} {r : List Rat} (h : i < m.length) : (m.set i r).getD i [] = r := by rw [getD_set_, if_pos ⟨rfl, h⟩]
end Go.Proofs.YtcgfdfdcbamceaaGreatDoor
