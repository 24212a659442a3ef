/- large.Int: DivMod. -/
import Derived.Test.YtfigffaghaaaoaaGreatDoorRD
import Derived.Test.YtfigffaghaaaoaaGreatDoorRDO
namespace Go.Proofs.YtfigffaghaaaoaaGreatDoor
open Go.RowKit

theorem Blk.c0 {w : World} {g : Nat} {t : TypeId} {x0 x1 : Value} (h : Blk w g t #[x0, x1]) : w.cell? ⟨g, 0, none⟩ = some x0 := h.cell 0
theorem Blk.c1 {w : World} {g : Nat} {t : TypeId} {x0 x1 : Value} (h : Blk w g t #[x0, x1]) : w.cell? ⟨g, 1, none⟩ = some x1 := h.cell 1
theorem Big.form {w : World} {v : Value} {z : Int} (h : Big w v z) : ∃ A n c, v = .agg #[.bool (decide (z < 0)), .slice A n c] := by
  obtain ⟨A, c, ws, h1, _⟩ := h
  exact ⟨_, _, _, h1⟩
theorem Fits.mod {N : Nat} {x y : Int} (h : Fits N y) (hy : 0 < y) : Fits N (x % y) := by
  unfold Fits at *
  have h1 := Int.emod_nonneg x (show y ≠ 0 by omega)
  have h2 := Int.emod_lt_of_pos x hy
  omega
theorem later {f : FuncId} {args : Array Value} {B : World} {W : World} {Q : Ending → World → Prop} (hb : Below B.heap.size B W) (h : Calls Tryz.prog f args W Q) (hq : ∀ e w', Q e w' → Below W.heap.size W w') : Calls Tryz.prog f args W fun e w' => Q e w' ∧ Below B.heap.size B w' :=
  h.mono fun e w' h => ⟨h, hb.trans ((hq e w' h).mono hb.size)⟩
/-- a variable of type Int at block g -/
structure Var (w : World) (g : Nat) (x0 x1 : Value) : Prop where
  c0 : w.cell? ⟨g, 0, none⟩ = some x0
  c1 : w.cell? ⟨g, 1, none⟩ = some x1
  f0 : w.frozen? ⟨g, 0, none⟩ = false
  f1 : w.frozen? ⟨g, 1, none⟩ = false
theorem Var.lt {w : World} {g : Nat} {x0 x1 : Value} (h : Var w g x0 x1) : g < w.heap.size := World.block_lt_of_cell? w ⟨g, 0, none⟩ h.c0
theorem Var.below {w w' : World} {g : Nat} {x0 x1 : Value} (h : Var w g x0 x1) (hb : Below w.heap.size w w') : Var w' g x0 x1 :=
  ⟨(hb.cell (p := ⟨g, 0, none⟩) h.lt).trans h.c0, (hb.cell (p := ⟨g, 1, none⟩) h.lt).trans h.c1, (hb.frozen (p := ⟨g, 0, none⟩) h.lt).trans h.f0, (hb.frozen (p := ⟨g, 1, none⟩) h.lt).trans h.f1⟩
theorem Blk.var {w : World} {g : Nat} {t : TypeId} {x0 x1 : Value} (h : Blk w g t #[x0, x1]) : Var w g x0 x1 := ⟨h.cell 0, h.cell 1, h.frozen 0, h.frozen 1⟩
theorem Var.set {w : World} {g : Nat} {x0 x1 : Value} (h : Var w g x0 x1) (u v : Value) : Var ((w.setCell ⟨g, 0, none⟩ u).setCell ⟨g, 1, none⟩ v) g u v := by
  have e : (w.setCell ⟨g, 0, none⟩ u).cell? ⟨g, 1, none⟩ = some x1 := by rw [World.cell?_setCell_other _ _ _ _ (by simp)]; exact h.c1
  refine ⟨?_, World.cell?_setCell_same _ _ _ e, by simpa using h.f0, by simpa using h.f1⟩
  rw [World.cell?_setCell_other _ _ _ _ (by simp)]
  exact World.cell?_setCell_same _ _ _ h.c0
theorem Var.far {w : World} {g g' : Nat} {x0 x1 : Value} (h : Var w g x0 x1) (hne : g' ≠ g) (u v : Value) : Var ((w.setCell ⟨g', 0, none⟩ u).setCell ⟨g', 1, none⟩ v) g x0 x1 := by
  refine ⟨?_, ?_, by simpa using h.f0, by simpa using h.f1⟩
  · rw [World.cell?_setCell_far _ _ _ _ (by simpa using hne), World.cell?_setCell_far _ _ _ _ (by simpa using hne)]; exact h.c0
  · rw [World.cell?_setCell_far _ _ _ _ (by simpa using hne), World.cell?_setCell_far _ _ _ _ (by simpa using hne)]; exact h.c1
theorem Var.alloc {w : World} {g : Nat} {x0 x1 : Value} (h : Var w g x0 x1) (o : Obj) : Var (w.alloc o) g x0 x1 := h.below ((Below.refl _ _).alloc (Nat.le_refl _) _)
theorem Big.setVar {w : World} {v : Value} {z : Int} (h : Big w v z) {g : Nat} {b : Bool} {A : Option Addr} {n c : Nat} (hv : Var w g (.bool b) (.slice A n c)) (x y : Value) : Big ((w.setCell ⟨g, 0, none⟩ x).setCell ⟨g, 1, none⟩ y) v z := by
  refine (h.set hv.c0 (noWord_bool _) x).set (old := .slice A n c) ?_ (noWord_slice _ _ _) y
  rw [World.cell?_setCell_other _ _ _ _ (by simp)]; exact hv.c1
theorem Big.alloc {w : World} {v : Value} {z : Int} (h : Big w v z) (o : Obj) : Big (w.alloc o) v z := h.ext ((Below.refl _ _).alloc (Nat.le_refl _) _)
section
variable {w1 w5 : World} {zq zr : Int} {A8 A9 : Option Addr} {n8 c8 n9 c9 g8 g9 : Nat}
end
theorem Var.drew {w : World} {g : Nat} {x0 x1 : Value} (h : Var w g x0 x1) : Var w.drew g x0 x1 := ⟨h.c0, h.c1, h.f0, h.f1⟩
theorem Var.o0 {w : World} {g : Nat} {x0 x1 : Value} (h : Var w g x0 x1) : oldCell w ⟨g, 0, none⟩ = x0 := by unfold oldCell; rw [h.c0]; rfl
theorem Var.o1 {w : World} {g : Nat} {x0 x1 : Value} (h : Var w g x0 x1) : oldCell w ⟨g, 1, none⟩ = x1 := by unfold oldCell; rw [h.c1]; rfl
end Go.Proofs.YtfigffaghaaaoaaGreatDoor
