/- flow: a model in the making: its eight slices and what an append to one of them leaves of the others. flow.Check. -/
import Derived.Test.YtenbglfkdldheaaGreatDoorJGB
import Derived.Test.YtenbglfkdldheaaGreatDoorJSB
import Derived.Test.YtenbglfkdldheaaGreatDoorJSO
import Derived.Maps.OwnSet
import Derived.Maps.RangeWalk
namespace Go.Proofs.YtenbglfkdldheaaGreatDoor
section
open Go.RowKit
abbrev nC : TypeId := 115
abbrev qH : TypeId := 3
def ixM (j : Nat) : Nat := if j < 4 then j else 6
def eF {α : Type} (f : Nat → α) (j : Nat) (x : α) : Nat → α := fun i => if i = j then x else f i
theorem dX {α : Type} (f : Nat → α) (j : Nat) (x : α) : eF f j x j = x := if_pos rfl
theorem dH {α : Type} (f : Nat → α) {i j : Nat} (x : α) (h : i ≠ j) : eF f j x i = f i := if_neg h
structure MS (w : World) (base g : Nat) (rs : Nat → Value) (is : Nat → List Int) (qs : Nat → Value) (ts : Nat → List Rat) (iv : Value) : Prop where
 ge : base ≤ g
 blk : Blk w g nC #[rs 0, rs 1, rs 2, rs 3, qs 0, qs 1, rs 4, iv]
 ri : ∀ j, j < 5 → Row w base qH 1 (rs j) (is j).length ((is j).map I)
 nw : ∀ j, 2 ≤ j → j < 5 → ∀ b o x, (rs j).ownBlock = some b → w.cell? ⟨b, o, none⟩ ≠ some (U x)
 rq : ∀ j, j < 2 → RRow w base (qs j) (ts j)
 si : ∀ i j b, i < 5 → j < 5 → i ≠ j → (2 ≤ i ∨ 2 ≤ j) → (rs i).ownBlock = some b → (rs j).ownBlock ≠ some b
 sq : ∀ i j b, i < 2 → j < 2 → i ≠ j → (qs i).ownBlock = some b → (qs j).ownBlock ≠ some b
section
variable {w w' : World} {base g : Nat} {rs : Nat → Value} {is : Nat → List Int} {qs : Nat → Value} {ts : Nat → List Rat} {iv : Value}
theorem MS.call (h : MS w base g rs is qs ts iv) (hb : Below w.heap.size w w') : MS w' base g rs is qs ts iv :=
 ⟨h.ge, h.blk.below hb h.blk.lt, fun j hj => (h.ri j hj).call hb, fun j h2 hj b o x e => by rw [hb.cell (p := ⟨b, o, none⟩) (own_lt (h.ri j hj) e).2.1]; exact h.nw j h2 hj b o x e, fun j hj => (h.rq j hj).call hb, h.si, h.sq⟩
theorem MS.nrow (h : MS w base g rs is qs ts iv) {j : Nat} (h2 : 2 ≤ j) (hj : j < 5) : NRow w base qH (rs j) ((is j).map I) :=
 ⟨by rw [List.length_map]; exact h.ri j hj, fun b o x e => h.nw j h2 hj b o x e, fun u hu => by
  obtain ⟨x, _, rfl⟩ := List.mem_map.1 hu
  exact ⟨(fun m e => by cases e), rfl⟩⟩
theorem MS.noG (h : MS w base g rs is qs ts iv) {j : Nat} (hj : j < 5) : (rs j).ownBlock ≠ some g := fun e => own_ne (h.ri j hj) h.blk (by decide) g e rfl
theorem MS.noGq (h : MS w base g rs is qs ts iv) {j : Nat} (hj : j < 2) : (qs j).ownBlock ≠ some g := fun e => by
 obtain ⟨⟨ys, hrow, _⟩, _⟩ := h.rq j hj
 exact own_ne hrow h.blk (by decide) g e rfl
theorem MS.noQI (h : MS w base g rs is qs ts iv) {i j b : Nat} (hi : i < 5) (hj : j < 2) (e : (rs i).ownBlock = some b) : (qs j).ownBlock ≠ some b := fun k => by
 obtain ⟨cs, hB⟩ := (h.rq j hj).blk k
 exact own_ne (h.ri i hi) hB (by decide) b e rfl
theorem MS.cellI (h : MS w base g rs is qs ts iv) {j : Nat} (hj : j < 5) : w.cell? ⟨g, ixM j, none⟩ = some (rs j) := by
 rw [h.blk.cell]
 match j, hj with
 | 0, _ => rfl
 | 1, _ => rfl
 | 2, _ => rfl
 | 3, _ => rfl
 | 4, _ => rfl
theorem MS.cellQ (h : MS w base g rs is qs ts iv) {j : Nat} (hj : j < 2) : w.cell? ⟨g, 4 + j, none⟩ = some (qs j) := by
 rw [h.blk.cell]
 match j, hj with
 | 0, _ => rfl
 | 1, _ => rfl
theorem aLw {e : TypeId} {sz n : Nat} {v : Value} {xs : List Value} (h : Row w base e sz v n xs) : noWord v := by
 obtain ⟨A, c, rfl⟩ := h.val
 exact bB _ _ _
theorem eL {r : Option Nat} {b : Nat} (hg : w.grownBy w' r) (hb : b < w.heap.size) (hr : r ≠ some b) : w'.heap[b]? = w.heap[b]? := hg.block b hb fun k => hr k.symm
theorem sR {e : TypeId} {sz n : Nat} {v : Value} {xs : List Value} {r : Option Nat} (h : Row w base e sz v n xs) (hg : w.grownBy w' r) (hr : ∀ b, v.ownBlock = some b → r ≠ some b) : Row w' base e sz v n xs :=
 h.keepO fun b hb => eL hg (own_lt h hb).2.1 (hr b hb)
theorem qI {v : Value} {l : List Rat} {r : Option Nat} (h : RRow w base v l) (k : Kw w w') (hg : w.grownBy w' r) (hr : ∀ b, v.ownBlock = some b → r ≠ some b) : RRow w' base v l :=
 h.keep k fun b hb => eL hg (h.lt hb).2 (hr b hb)
theorem MS.appI (h : MS w base g rs is qs ts iv) {j : Nat} (h2 : 2 ≤ j) (hj : j < 5) {x : Int} {v' : Value} (a : NApd w base qH (rs j) (((is j) ++ [x]).map I) v' w') :
  MS (w'.setCell ⟨g, ixM j, none⟩ v') base g (eF rs j v') (eF is j (is j ++ [x])) qs ts iv ∧ Kw w (w'.setCell ⟨g, ixM j, none⟩ v') ∧
   ∀ b, b < w.heap.size → b ≠ g → (rs j).ownBlock ≠ some b → (w'.setCell ⟨g, ixM j, none⟩ v').heap[b]? = w.heap[b]? := by
 have hgB : Blk w' g nC #[rs 0, rs 1, rs 2, rs 3, qs 0, qs 1, rs 4, iv] := (eL a.grown h.blk.lt (h.noG hj)).trans h.blk
 have hc : w'.cell? ⟨g, ixM j, none⟩ = some (rs j) := by rw [World.cell?_of_block (a := ⟨g, ixM j, none⟩) (eL a.grown h.blk.lt (h.noG hj))]; exact h.cellI hj
 have hns : noWord (rs j) := aLw (h.ri j hj)
 have k2 := oF hc hns v'
 have hlen : (((is j) ++ [x]).map I).length = (is j ++ [x]).length := List.length_map _
 have hv := a.row.row
 rw [hlen] at hv
 have hvg : ∀ b, v'.ownBlock = some b → b ≠ g := own_ne hv hgB (by decide)
 have keep : ∀ b, b ≠ g → (w'.setCell ⟨g, ixM j, none⟩ v').heap[b]? = w'.heap[b]? := fun b hb => Below.heap_setCell w' _ v' b hb
 refine ⟨⟨h.ge, ?_, fun i hi => ?_, fun i hi2 hi b o y e => ?_, fun i hi => ?_, fun i k b hi hk hik h22 e => ?_, h.sq⟩, a.kw.trans k2, fun b hb h1 h3 => (keep b h1).trans (eL a.grown hb h3)⟩
 ·have h0 := hgB.set_ (ixM j) v'
  have e : (#[rs 0, rs 1, rs 2, rs 3, qs 0, qs 1, rs 4, iv] : Array Value).setIfInBounds (ixM j) v' = #[eF rs j v' 0, eF rs j v' 1, eF rs j v' 2, eF rs j v' 3, qs 0, qs 1, eF rs j v' 4, iv] := by
   match j, hj with
   | 0, _ => rfl
   | 1, _ => rfl
   | 2, _ => rfl
   | 3, _ => rfl
   | 4, _ => rfl
  rw [e] at h0
  exact h0
 ·by_cases e : i = j
  ·subst e
   rw [dX, dX]
   exact hv.keepO fun b hb => keep b (hvg b hb)
  ·rw [dH _ _ e, dH _ _ e]
   have hr := sR (h.ri i hi) a.grown fun b hb => h.si i j b hi hj e (.inr h2) hb
   exact hr.keepO fun b hb => keep b fun k => h.noG hi (by rw [← k]; exact hb)
 ·by_cases e1 : i = j
  ·subst e1
   rw [dX] at e
   rw [World.cell?_of_block (a := ⟨b, o, none⟩) (keep b (hvg b e))]
   exact a.row.nw b o y e
  ·rw [dH _ _ e1] at e
   have hbg : b ≠ g := fun k => h.noG hi (by rw [← k]; exact e)
   rw [World.cell?_of_block (a := ⟨b, o, none⟩) (keep b hbg), World.cell?_of_block (a := ⟨b, o, none⟩) (eL a.grown (own_lt (h.ri i hi) e).2.1 (h.si i j b hi hj e1 (.inr h2) e))]
   exact h.nw i hi2 hi b o y e
 ·have hr := qI (h.rq i hi) a.kw a.grown fun b hb k => h.noQI hj hi k hb
  exact hr.keep k2 fun b hb => keep b fun k => h.noGq hi (by rw [← k]; exact hb)
 ·by_cases e1 : i = j
  ·subst e1
   rw [dX] at e
   rw [dH _ _ (fun k => hik k.symm)]
   rcases a.own b e with h4 | h4
   ·exact h.si i k b hi hk hik h22 h4
   ·intro h5
    have := (own_lt (h.ri k hk) h5).2.1
    omega
  ·rw [dH _ _ e1] at e
   by_cases e2 : k = j
   ·subst e2
    rw [dX]
    intro h5
    rcases a.own b h5 with h4 | h4
    ·exact h.si i k b hi hk hik h22 e h4
    ·have := (own_lt (h.ri i hi) e).2.1
     omega
   ·rw [dH _ _ e2]
    exact h.si i k b hi hk hik h22 e
theorem MS.appQ (h : MS w base g rs is qs ts iv) {j : Nat} (hj : j < 2) {q : Rat} {v' : Value} (a : Apd w base (qs j) (ts j ++ [q]) v' w') :
  MS (w'.setCell ⟨g, 4 + j, none⟩ v') base g rs is (eF qs j v') (eF ts j (ts j ++ [q])) iv ∧ Kw w (w'.setCell ⟨g, 4 + j, none⟩ v') ∧
   ∀ b, b < w.heap.size → b ≠ g → (qs j).ownBlock ≠ some b → (w'.setCell ⟨g, 4 + j, none⟩ v').heap[b]? = w.heap[b]? := by
 have hgB : Blk w' g nC #[rs 0, rs 1, rs 2, rs 3, qs 0, qs 1, rs 4, iv] := (eL a.grown h.blk.lt (h.noGq hj)).trans h.blk
 have hc : w'.cell? ⟨g, 4 + j, none⟩ = some (qs j) := by rw [World.cell?_of_block (a := ⟨g, 4 + j, none⟩) (eL a.grown h.blk.lt (h.noGq hj))]; exact h.cellQ hj
 have hns : noWord (qs j) := by
  obtain ⟨A, c, e⟩ := (h.rq j hj).val
  rw [e]; exact bB _ _ _
 have k2 := oF hc hns v'
 have hvg : ∀ b, v'.ownBlock = some b → b ≠ g := fun b hb => by
  obtain ⟨⟨ys, hrow, _⟩, _⟩ := a.row
  exact own_ne hrow hgB (by decide) b hb
 have keep : ∀ b, b ≠ g → (w'.setCell ⟨g, 4 + j, none⟩ v').heap[b]? = w'.heap[b]? := fun b hb => Below.heap_setCell w' _ v' b hb
 refine ⟨⟨h.ge, ?_, fun i hi => ?_, fun i hi2 hi b o y e => ?_, fun i hi => ?_, h.si, fun i k b hi hk hik e => ?_⟩, a.kw.trans k2, fun b hb h1 h3 => (keep b h1).trans (eL a.grown hb h3)⟩
 ·have h0 := hgB.set_ (4 + j) v'
  have e : (#[rs 0, rs 1, rs 2, rs 3, qs 0, qs 1, rs 4, iv] : Array Value).setIfInBounds (4 + j) v' = #[rs 0, rs 1, rs 2, rs 3, eF qs j v' 0, eF qs j v' 1, rs 4, iv] := by
   match j, hj with
   | 0, _ => rfl
   | 1, _ => rfl
  rw [e] at h0
  exact h0
 ·have hr := sR (h.ri i hi) a.grown fun b hb => h.noQI hi hj hb
  exact hr.keepO fun b hb => keep b fun k => h.noG hi (by rw [← k]; exact hb)
 ·have hbg : b ≠ g := fun k => h.noG hi (by rw [← k]; exact e)
  rw [World.cell?_of_block (a := ⟨b, o, none⟩) (keep b hbg), World.cell?_of_block (a := ⟨b, o, none⟩) (eL a.grown (own_lt (h.ri i hi) e).2.1 (h.noQI hi hj e))]
  exact h.nw i hi2 hi b o y e
 ·by_cases e : i = j
  ·subst e
   rw [dX, dX]
   exact a.row.keep k2 fun b hb => keep b (hvg b hb)
  ·rw [dH _ _ e, dH _ _ e]
   have hr := qI (h.rq i hi) a.kw a.grown fun b hb => h.sq i j b hi hj e hb
   exact hr.keep k2 fun b hb => keep b fun k => h.noGq hi (by rw [← k]; exact hb)
 ·by_cases e1 : i = j
  ·subst e1
   rw [dX] at e
   rw [dH _ _ (fun k => hik k.symm)]
   rcases a.own b e with h4 | h4
   ·exact h.sq i k b hi hk hik h4
   ·intro h5
    have := ((h.rq k hk).lt h5).2
    omega
  ·rw [dH _ _ e1] at e
   by_cases e2 : k = j
   ·subst e2
    rw [dX]
    intro h5
    rcases a.own b h5 with h4 | h4
    ·exact h.sq i k b hi hk hik e h4
    ·have := ((h.rq i hi).lt e).2
     omega
   ·rw [dH _ _ e2]
    exact h.sq i k b hi hk hik e
theorem MS.intAt (h : MS w base g rs is qs ts iv) {j : Nat} (hj : j < 5) {k : Nat} (hk : k < (is j).length) : ∃ b o c, rs j = .slice (some ⟨b, o, none⟩) (is j).length c ∧ b < w.heap.size ∧ w.cell? ⟨b, o + k, none⟩ = some (I ((is j).getD k 0)) := by
 have hr := h.ri j hj
 obtain ⟨A, c, e⟩ := hr.val
 rw [e] at hr
 obtain ⟨b, o, rfl, hb, hc⟩ := hr.reads.int_at hk
 exact ⟨b, o, c, e, hb, hc⟩
end
end
section
open Go.RowKit Go.Maps
theorem aEw : Keyed Tryz.prog 3 := int_keyed Tryz.underlying3
theorem aNu {x : Int} (h0 : -9223372036854775808 ≤ x) (h1 : x ≤ 9223372036854775807) : (Lit.int .i64 x).wf = true := WalkArith.wf_i64 (by omega)
end
end Go.Proofs.YtenbglfkdldheaaGreatDoor
