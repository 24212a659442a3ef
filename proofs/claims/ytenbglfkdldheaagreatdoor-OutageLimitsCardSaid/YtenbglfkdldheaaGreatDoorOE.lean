/- large.Int: DivMod. -/
import Derived.Test.YtenbglfkdldheaaGreatDoorOD
import Derived.Test.YtenbglfkdldheaaGreatDoorODO
set_option maxRecDepth 100000
set_option maxHeartbeats 4000000
namespace Go.Proofs.YtenbglfkdldheaaGreatDoor
open Go.RowKit
theorem Blk.c0 {w : World} {g : Nat} {t : TypeId} {x0 x1 : Value} (h : Blk w g t #[x0, x1]) : w.cell? ⟨g, 0, none⟩ = some x0 := h.cell 0
theorem Big.form {w : World} {v : Value} {z : Int} (h : Big w v z) : ∃ A n c, v = .agg #[.bool (decide (z < 0)), .slice A n c] := by
 obtain ⟨A, c, ws, h1, _⟩ := h
 exact ⟨_, _, _, h1⟩
def aBb (w : World) (z1 z2 : Int) (e : Ending) (w' : World) : Prop := ∃ v1 v2, e = .returned (.tuple #[v1, v2]) ∧ Big w' v1 z1 ∧ Big w' v2 z2 ∧ Below w.heap.size w w'
theorem zB {x y : Int} (hy : 0 < y) : (sgn (decide (x < 0)) ((x.natAbs : Int) % y) < 0 → sgn (decide (x < 0)) ((x.natAbs : Int) / y) - 1 = x / y ∧ sgn (decide (x < 0)) ((x.natAbs : Int) % y) + y = x % y) ∧
  (¬ sgn (decide (x < 0)) ((x.natAbs : Int) % y) < 0 → sgn (decide (x < 0)) ((x.natAbs : Int) / y) = x / y ∧ sgn (decide (x < 0)) ((x.natAbs : Int) % y) = x % y) := by
 have h1 := Int.emod_nonneg (x.natAbs : Int) (show y ≠ 0 by omega)
 have h2 := Int.emod_lt_of_pos (x.natAbs : Int) hy
 have h3 := Int.emod_add_mul_ediv (x.natAbs : Int) y
 have key : ∀ q r : Int, r + y * q = x → 0 ≤ r → r < y → q = x / y ∧ r = x % y := by
  intro q r e r0 r1
  have hq : x / y = q := by rw [← e, Int.add_mul_ediv_left _ _ (by omega), Int.ediv_eq_zero_of_lt r0 r1]; omega
  refine ⟨hq.symm, ?_⟩
  have := Int.emod_add_mul_ediv x y
  rw [hq] at this
  omega
 by_cases hx : x < 0
 ·have e : (x.natAbs : Int) = -x := by omega
  rw [e] at h1 h2 h3 ⊢
  simp only [sgn, hx, decide_true, if_true]
  generalize -x % y = r at *
  generalize -x / y = q at *
  refine ⟨fun h => key _ _ ?_ (by omega) (by omega), fun h => key _ _ ?_ (by omega) (by omega)⟩
  ·rw [Int.mul_sub, Int.mul_neg]; omega
  ·rw [Int.mul_neg]; omega
 ·have e : (x.natAbs : Int) = x := by omega
  rw [e] at h1 h2 h3 ⊢
  simp [sgn, hx]
  omega
theorem Fits.div {N : Nat} {x y : Int} (h : Fits N x) (hy : 0 < y) : Fits N (x / y) := by
 unfold Fits at *
 have h1 : (x / y).natAbs ≤ x.natAbs := by
  by_cases hx : 0 ≤ x
  ·have := Int.ediv_le_self y hx
   have := Int.ediv_nonneg hx (show 0 ≤ y by omega)
   omega
  ·have a1 := Int.ediv_neg_of_neg_of_pos (show x < 0 by omega) hy
   have a2 : x ≤ x / y := by
    rw [Int.le_ediv_iff_mul_le hy]
    have := Int.mul_le_mul_of_nonpos_left (a := x) (b := y) (c := 1) (by omega) (by omega)
    omega
   omega
 omega
theorem Fits.mod {N : Nat} {x y : Int} (h : Fits N y) (hy : 0 < y) : Fits N (x % y) := by
 unfold Fits at *
 have h1 := Int.emod_nonneg x (show y ≠ 0 by omega)
 have h2 := Int.emod_lt_of_pos x hy
 omega
theorem kD {B : Nat} {a w : World} (h : Below B a w) : Below B a w.drew := below_drewN h 1
theorem later {f : FuncId} {args : Array Value} {B : World} {W : World} {Q : Ending → World → Prop} (hb : Below B.heap.size B W) (h : Calls Tryz.prog f args W Q) (hq : ∀ e w', Q e w' → Below W.heap.size W w') : Calls Tryz.prog f args W fun e w' => Q e w' ∧ Below B.heap.size B w' :=
 h.mono fun e w' h => ⟨h, hb.trans ((hq e w' h).mono hb.size)⟩
theorem kE {w : World} {ws : List Int} {e : Ending} {w' : World} (h : qQ w ws e w') : Below w.heap.size w w' := by obtain ⟨_, _, _, _, _, h⟩ := h; exact h
theorem mY {w : World} {z : Int} {e : Ending} {w' : World} (h : RetBig w z e w') : Below w.heap.size w w' := by obtain ⟨_, _, _, h⟩ := h; exact h
theorem tF {W w1 : World} (hb : Below W.heap.size W w1) : (∀ b o, b < W.heap.size → w1.cell? ⟨b, o, none⟩ = W.cell? ⟨b, o, none⟩) ∧ (∀ b o, b < W.heap.size → w1.frozen? ⟨b, o, none⟩ = W.frozen? ⟨b, o, none⟩) :=
 ⟨fun b o h => hb.cell (p := ⟨b, o, none⟩) h, fun b o h => hb.frozen (p := ⟨b, o, none⟩) h⟩
theorem sP (w : World) (ob : Obj) (b o : Nat) (h : b < w.heap.size) : (w.alloc ob).cell? ⟨b, o, none⟩ = w.cell? ⟨b, o, none⟩ := (tF ((Below.refl _ w).alloc lR ob)).1 b o h
theorem pO (w : World) (ob : Obj) (b o : Nat) (h : b < w.heap.size) : (w.alloc ob).frozen? ⟨b, o, none⟩ = w.frozen? ⟨b, o, none⟩ := (tF ((Below.refl _ w).alloc lR ob)).2 b o h
structure Var (w : World) (g : Nat) (x0 x1 : Value) : Prop where
 c0 : w.cell? ⟨g, 0, none⟩ = some x0
 c1 : w.cell? ⟨g, 1, none⟩ = some x1
 f0 : w.frozen? ⟨g, 0, none⟩ = false
 f1 : w.frozen? ⟨g, 1, none⟩ = false
theorem Var.lt {w : World} {g : Nat} {x0 x1 : Value} (h : Var w g x0 x1) : g < w.heap.size := World.block_lt_of_cell? w ⟨g, 0, none⟩ h.c0
theorem Var.below {w w' : World} {g : Nat} {x0 x1 : Value} (h : Var w g x0 x1) (hb : Below w.heap.size w w') : Var w' g x0 x1 :=
 ⟨(hb.cell (p := ⟨g, 0, none⟩) h.lt).trans h.c0, (hb.cell (p := ⟨g, 1, none⟩) h.lt).trans h.c1, (hb.frozen (p := ⟨g, 0, none⟩) h.lt).trans h.f0, (hb.frozen (p := ⟨g, 1, none⟩) h.lt).trans h.f1⟩
theorem Blk.var {w : World} {g : Nat} {t : TypeId} {x0 x1 : Value} (h : Blk w g t #[x0, x1]) : Var w g x0 x1 := ⟨h.cell 0, h.cell 1, h.frozen 0, h.frozen 1⟩
theorem Var.set {w : World} {g : Nat} {x0 x1 : Value} (h : Var w g x0 x1) (u v : Value) : Var ((w.setCell ⟨g, 0, none⟩ u).setCell ⟨g, 1, none⟩ v) g u v := by
 have e : (w.setCell ⟨g, 0, none⟩ u).cell? ⟨g, 1, none⟩ = some x1 := by rw [World.cell?_setCell_other _ _ _ _ (by simp)]; exact h.c1
 refine ⟨?_, World.cell?_setCell_same _ _ _ e, by simpa using h.f0, by simpa using h.f1⟩
 rw [World.cell?_setCell_other _ _ _ _ (by simp)]
 exact World.cell?_setCell_same _ _ _ h.c0
theorem Var.far {w : World} {g g' : Nat} {x0 x1 : Value} (h : Var w g x0 x1) (hne : g' ≠ g) (u v : Value) : Var ((w.setCell ⟨g', 0, none⟩ u).setCell ⟨g', 1, none⟩ v) g x0 x1 := by
 refine ⟨?_, ?_, by simpa using h.f0, by simpa using h.f1⟩
 ·rw [World.cell?_setCell_far _ _ _ _ (by simpa using hne), World.cell?_setCell_far _ _ _ _ (by simpa using hne)]; exact h.c0
 ·rw [World.cell?_setCell_far _ _ _ _ (by simpa using hne), World.cell?_setCell_far _ _ _ _ (by simpa using hne)]; exact h.c1
theorem Var.alloc {w : World} {g : Nat} {x0 x1 : Value} (h : Var w g x0 x1) (o : Obj) : Var (w.alloc o) g x0 x1 := h.below ((Below.refl _ _).alloc lR _)
theorem Big.setVar {w : World} {v : Value} {z : Int} (h : Big w v z) {g : Nat} {b : Bool} {A : Option Addr} {n c : Nat} (hv : Var w g (.bool b) (.slice A n c)) (x y : Value) : Big ((w.setCell ⟨g, 0, none⟩ x).setCell ⟨g, 1, none⟩ y) v z := by
 refine (h.set hv.c0 (bG _) x).set (old := .slice A n c) ?_ (aX _ _ _) y
 rw [World.cell?_setCell_other _ _ _ _ (by simp)]; exact hv.c1
theorem Big.alloc {w : World} {v : Value} {z : Int} (h : Big w v z) (o : Obj) : Big (w.alloc o) v z := h.ext ((Below.refl _ _).alloc lR _)
def DM (w1 : World) (zq zr : Int) (qv rv : Value) (wx : World) : Prop := ∃ g8 g9 A8 n8 c8 A9 n9 c9, qv = .pointer (some ⟨g8, 0, none⟩) ∧ rv = .pointer (some ⟨g9, 0, none⟩) ∧ (g8 ≠ g9 ∧ w1.heap.size ≤ g8 ∧ w1.heap.size ≤ g9) ∧ Var wx g8 (.bool (decide (zq < 0))) (.slice A8 n8 c8) ∧ Var wx g9 (.bool (decide (zr < 0))) (.slice A9 n9 c9) ∧ Big wx (.agg #[.bool (decide (zq < 0)), .slice A8 n8 c8]) zq ∧ Big wx (.agg #[.bool (decide (zr < 0)), .slice A9 n9 c9]) zr ∧ Below w1.heap.size w1 wx
section
variable {w1 w5 : World} {zq zr : Int} {A8 A9 : Option Addr} {n8 c8 n9 c9 g8 g9 : Nat}
theorem dm1 (hb : Below w1.heap.size w1 w5) (hq : Big w5 (.agg #[.bool (decide (zq < 0)), .slice A8 n8 c8]) zq) (hr : Big w5 (.agg #[.bool (decide (zr < 0)), .slice A9 n9 c9]) zr) :
  DM w1 zq zr (.pointer (some ⟨w5.heap.size, 0, none⟩)) (.pointer (some ⟨w5.heap.size + 1, 0, none⟩)) ((w5.alloc (.cells #[.bool (decide (zq < 0)), .slice A8 n8 c8] aK)).alloc (.cells #[.bool (decide (zr < 0)), .slice A9 n9 c9] aK)) := by
 have hs := hb.size
 have hN := Blk.new (w5.alloc (.cells #[.bool (decide (zq < 0)), .slice A8 n8 c8] aK)) aK #[.bool (decide (zr < 0)), .slice A9 n9 c9]
 rw [World.size_alloc] at hN
 exact ⟨_, _, _, _, _, _, _, _, rfl, rfl, ⟨by omega, by omega, by omega⟩, (Blk.new w5 _ _).var.alloc _, hN.var, (hq.alloc _).alloc _, (hr.alloc _).alloc _, (hb.alloc hb.size _).alloc (by simp; omega) _⟩
theorem dm2 (hb : Below w1.heap.size w1 w5) (hq : Big w5 (.agg #[.bool (decide (zq < 0)), .slice A8 n8 c8]) zq) (hr : Big w5 (.agg #[.bool (decide (zr < 0)), .slice A9 n9 c9]) zr) :
  DM w1 zq zr (.pointer (some ⟨w5.heap.size + 1, 0, none⟩)) (.pointer (some ⟨w5.heap.size, 0, none⟩)) ((w5.alloc (.cells #[.bool (decide (zr < 0)), .slice A9 n9 c9] aK)).alloc (.cells #[.bool (decide (zq < 0)), .slice A8 n8 c8] aK)) := by
 have hs := hb.size
 have hN := Blk.new (w5.alloc (.cells #[.bool (decide (zr < 0)), .slice A9 n9 c9] aK)) aK #[.bool (decide (zq < 0)), .slice A8 n8 c8]
 rw [World.size_alloc] at hN
 exact ⟨_, _, _, _, _, _, _, _, rfl, rfl, ⟨by omega, by omega, by omega⟩, hN.var, (Blk.new w5 _ _).var.alloc _, (hq.alloc _).alloc _, (hr.alloc _).alloc _, (hb.alloc hb.size _).alloc (by simp; omega) _⟩
theorem dm3 (hb : Below w1.heap.size w1 w5) (hq : Big w5 (.agg #[.bool (decide (zq < 0)), .slice A8 n8 c8]) zq) (hr : Big w5 (.agg #[.bool (decide (zr < 0)), .slice A9 n9 c9]) zr) (h8 : w1.heap.size ≤ g8) (v8 : Var w5 g8 (.bool false) (.slice none 0 0)) :
  DM w1 zq zr (.pointer (some ⟨g8, 0, none⟩)) (.pointer (some ⟨w5.heap.size, 0, none⟩)) (((w5.setCell ⟨g8, 0, none⟩ (.bool (decide (zq < 0)))).setCell ⟨g8, 1, none⟩ (.slice A8 n8 c8)).alloc (.cells #[.bool (decide (zr < 0)), .slice A9 n9 c9] aK)) := by
 have hs := hb.size
 have hl := v8.lt
 have e : ((w5.setCell ⟨g8, 0, none⟩ (.bool (decide (zq < 0)))).setCell ⟨g8, 1, none⟩ (.slice A8 n8 c8)).heap.size = w5.heap.size := by simp [World.setCell]
 have hN := Blk.new ((w5.setCell ⟨g8, 0, none⟩ (.bool (decide (zq < 0)))).setCell ⟨g8, 1, none⟩ (.slice A8 n8 c8)) aK #[.bool (decide (zr < 0)), .slice A9 n9 c9]
 rw [e] at hN
 exact ⟨_, _, _, _, _, _, _, _, rfl, rfl, ⟨by omega, by omega, by omega⟩, (v8.set _ _).alloc _, hN.var, (hq.setVar v8 _ _).alloc _, (hr.setVar v8 _ _).alloc _, ((hb.setCell h8 _).setCell h8 _).alloc (by rw [e]; omega) _⟩
theorem aQm (hb : Below w1.heap.size w1 w5) (hq : Big w5 (.agg #[.bool (decide (zq < 0)), .slice A8 n8 c8]) zq) (hr : Big w5 (.agg #[.bool (decide (zr < 0)), .slice A9 n9 c9]) zr) (h9 : w1.heap.size ≤ g9) (v9 : Var w5 g9 (.bool false) (.slice none 0 0)) :
  DM w1 zq zr (.pointer (some ⟨w5.heap.size, 0, none⟩)) (.pointer (some ⟨g9, 0, none⟩)) (((w5.setCell ⟨g9, 0, none⟩ (.bool (decide (zr < 0)))).setCell ⟨g9, 1, none⟩ (.slice A9 n9 c9)).alloc (.cells #[.bool (decide (zq < 0)), .slice A8 n8 c8] aK)) := by
 have hs := hb.size
 have hl := v9.lt
 have e : ((w5.setCell ⟨g9, 0, none⟩ (.bool (decide (zr < 0)))).setCell ⟨g9, 1, none⟩ (.slice A9 n9 c9)).heap.size = w5.heap.size := by simp [World.setCell]
 have hN := Blk.new ((w5.setCell ⟨g9, 0, none⟩ (.bool (decide (zr < 0)))).setCell ⟨g9, 1, none⟩ (.slice A9 n9 c9)) aK #[.bool (decide (zq < 0)), .slice A8 n8 c8]
 rw [e] at hN
 exact ⟨_, _, _, _, _, _, _, _, rfl, rfl, ⟨by omega, by omega, by omega⟩, hN.var, (v9.set _ _).alloc _, (hq.setVar v9 _ _).alloc _, (hr.setVar v9 _ _).alloc _, ((hb.setCell h9 _).setCell h9 _).alloc (by rw [e]; omega) _⟩
theorem dm4 (hb : Below w1.heap.size w1 w5) (hq : Big w5 (.agg #[.bool (decide (zq < 0)), .slice A8 n8 c8]) zq) (hr : Big w5 (.agg #[.bool (decide (zr < 0)), .slice A9 n9 c9]) zr) (h8 : w1.heap.size ≤ g8) (h9 : w1.heap.size ≤ g9) (hne : g8 ≠ g9) (v8 : Var w5 g8 (.bool false) (.slice none 0 0)) (v9 : Var w5 g9 (.bool false) (.slice none 0 0)) :
  DM w1 zq zr (.pointer (some ⟨g8, 0, none⟩)) (.pointer (some ⟨g9, 0, none⟩)) ((((w5.setCell ⟨g8, 0, none⟩ (.bool (decide (zq < 0)))).setCell ⟨g8, 1, none⟩ (.slice A8 n8 c8)).setCell ⟨g9, 0, none⟩ (.bool (decide (zr < 0)))).setCell ⟨g9, 1, none⟩ (.slice A9 n9 c9)) := by
 have v9' := v9.far hne (.bool (decide (zq < 0))) (.slice A8 n8 c8)
 exact ⟨_, _, _, _, _, _, _, _, rfl, rfl, ⟨hne, h8, h9⟩, (v8.set _ _).far hne.symm _ _, v9'.set _ _, (hq.setVar v8 _ _).setVar v9' _ _, (hr.setVar v8 _ _).setVar v9' _ _, (((hb.setCell h8 _).setCell h8 _).setCell h9 _).setCell h9 _⟩
end
theorem Var.drew {w : World} {g : Nat} {x0 x1 : Value} (h : Var w g x0 x1) : Var w.drew g x0 x1 := ⟨h.c0, h.c1, h.f0, h.f1⟩
theorem tG {w' : World} {a b c : Nat} {x0 x1 y0 y1 z0 z1 : Value} (h : Var w' a x0 x1) (k : Var w' b y0 y1) (l : Var w' c z0 z1) :
  w'.cell? ⟨a, 0, none⟩ = some x0 ∧ w'.cell? ⟨a, 1, none⟩ = some x1 ∧ w'.cell? ⟨b, 0, none⟩ = some y0 ∧ w'.cell? ⟨b, 1, none⟩ = some y1 ∧ w'.cell? ⟨c, 0, none⟩ = some z0 ∧ w'.cell? ⟨c, 1, none⟩ = some z1 := ⟨h.c0, h.c1, k.c0, k.c1, l.c0, l.c1⟩
def W45 (wc : World) (g4 g5 : Nat) (x0 x1 y0 y1 : Value) : World := ((((wc.setCell ⟨g4, 0, none⟩ x0).setCell ⟨g4, 1, none⟩ x1).setCell ⟨g5, 0, none⟩ y0).setCell ⟨g5, 1, none⟩ y1).drew
theorem aFt {w wc : World} {g4 g5 n4 c4 n5 c5 : Nat} {b4 b5 : Bool} {A4 A5 : Option Addr} {x0 x1 y0 y1 : Value} {z1 z2 : Int} (hb : Below w.heap.size w wc) (v4 : Var wc g4 (.bool b4) (.slice A4 n4 c4)) (v5 : Var wc g5 (.bool b5) (.slice A5 n5 c5)) (h4 : w.heap.size ≤ g4) (h5 : w.heap.size ≤ g5) (hne : g4 ≠ g5) (hq : Big wc (.agg #[x0, x1]) z1) (hr : Big wc (.agg #[y0, y1]) z2) :
  aBb w z1 z2 (.returned (.tuple #[.agg #[x0, x1], .agg #[y0, y1]])) (W45 wc g4 g5 x0 x1 y0 y1) ∧ Var (W45 wc g4 g5 x0 x1 y0 y1) g4 x0 x1 ∧ Var (W45 wc g4 g5 x0 x1 y0 y1) g5 y0 y1 := by
 have v5' := v5.far hne x0 x1
 refine ⟨⟨_, _, rfl, ((hq.setVar v4 _ _).setVar v5' _ _).drew, ((hr.setVar v4 _ _).setVar v5' _ _).drew, kD ((((hb.setCell h4 _).setCell h4 _).setCell h5 _).setCell h5 _)⟩, ((v4.set _ _).far hne.symm _ _).drew, (v5'.set _ _).drew⟩
theorem qV (u v : Value) (x y : Int) (w : World) (hx : Big w u x) (hy : Big w v y) {N : Nat} (hN : N ≤ 900000000) (fx : Fits N x) (fy : Fits N y) (hy0 : 0 < y) : Calls Tryz.prog 185 #[u, v] w (aBb w (x / y) (x % y)) := by
 have hD := zB (x := x) hy0
 have HY0 := aH hy
 obtain ⟨A, ca, wx, rfl, hrx, ⟨hcx, hmx⟩, hox, hnx, hvx⟩ := hx
 obtain ⟨B, cb, wy, rfl, hry, ⟨hcy, hmy⟩, hoy, hny, hvy⟩ := hy
 have lx := fx.len hox hnx hvx
 have ly := fy.len hoy hny hvy
 have ey : (y.natAbs : Int) = y := by omega
 rw [ey] at hvy
 have HW := aH fun (W : World) (hb : Below w.heap.size w W) => wM wx wy A B ca cb W ((hrx.below hb).more hb.size) ((hry.below hb).more hb.size) hox hoy hnx hny (by omega) (by omega) (by omega)
 rw [hvx, hvy] at HW
 have HD := aH hD
 have FX := aH fx
 have FY := aH fy
 have fdiv : Fits N (sgn (decide (x < 0)) ((x.natAbs : Int) / y)) := by
  have : Fits N ((x.natAbs : Int) / y) := Fits.div (by unfold Fits at *; omega) hy0
  unfold sgn; split
  ·exact this.neg
  ·exact this
 have fmod : Fits N (sgn (decide (x < 0)) ((x.natAbs : Int) % y)) := by
  have : Fits N ((x.natAbs : Int) % y) := fy.mod hy0
  unfold sgn; split
  ·exact this.neg
  ·exact this
 have FD := aH fdiv
 have FM := aH fmod
 clear hD hrx hry hvx hvy ey fx fy fdiv fmod
 have tb : decide (y < 0) = false := decide_eq_false (by omega)
 rw [tb] at *
 obtain ⟨zq, hzq⟩ : ∃ z, sgn (decide (x < 0)) ((x.natAbs : Int) / y) = z := ⟨_, rfl⟩
 obtain ⟨zr, hzr⟩ : ∃ z, sgn (decide (x < 0)) ((x.natAbs : Int) % y) = z := ⟨_, rfl⟩
 rw [hzq, hzr] at HD
 rw [hzq] at FD
 rw [hzr] at FM
 have HZQ := aH hzq
 have HZR := aH hzr
 clear hzq hzr tb
 generalize decide (x < 0) = bx at *
 have hb1 : Below w.heap.size w ((((w.alloc (.cells #[.bool bx, .slice A wx.length ca] aK)).alloc (.cells #[.bool false, .slice B wy.length cb] aK)).alloc (.cells #[.bool false, .slice none 0 0] aK)).alloc (.cells #[.bool false, .slice none 0 0] aK)) := ((((Below.refl _ _).alloc lR _).alloc (by simp) _).alloc (by simp; omega) _).alloc (by simp; omega) _
 have HX := aH ((((Blk.new w aK #[.bool bx, .slice A wx.length ca]).alloc (.cells #[.bool false, .slice B wy.length cb] aK)).alloc (.cells #[.bool false, .slice none 0 0] aK)).alloc (.cells #[.bool false, .slice none 0 0] aK))
 have HY := aH (((Blk.new (w.alloc (.cells #[.bool bx, .slice A wx.length ca] aK)) aK #[.bool false, .slice B wy.length cb]).alloc (.cells #[.bool false, .slice none 0 0] aK)).alloc (.cells #[.bool false, .slice none 0 0] aK))
 have HR4 := aH ((Blk.new ((w.alloc (.cells #[.bool bx, .slice A wx.length ca] aK)).alloc (.cells #[.bool false, .slice B wy.length cb] aK)) aK #[.bool false, .slice none 0 0]).alloc (.cells #[.bool false, .slice none 0 0] aK))
 have HR5 := aH (Blk.new (((w.alloc (.cells #[.bool bx, .slice A wx.length ca] aK)).alloc (.cells #[.bool false, .slice B wy.length cb] aK)).alloc (.cells #[.bool false, .slice none 0 0] aK)) aK #[.bool false, .slice none 0 0])
 rw [World.size_alloc w] at HY
 rw [World.size_alloc _, World.size_alloc w] at HR4
 rw [World.size_alloc _, World.size_alloc _, World.size_alloc w] at HR5
 have HB := aH hb1
 have HC := aH (HW.out _ hb1)
 clear hb1 HW
 unfold aK at *
 go_enter Tryz.func185, Tryz.ntmps185
 go_wp2_with fail
 generalize hW0 : (((w.alloc (Obj.cells #[Value.bool bx, Value.slice A wx.length ca] 120)).alloc (Obj.cells #[Value.bool false, Value.slice B wy.length cb] 120)).alloc (Obj.cells #[Value.bool false, Value.slice none 0 0] 120)).alloc (Obj.cells #[Value.bool false, Value.slice none 0 0] 120) = W0 at *
 clear hW0
 refine HC.out.mono ?_
 rintro e w1 ⟨Aq, cq, Ar, cr, q, r, rfl, hq, hr, oq, orr, vq, vr, ⟨lq, lr⟩, hbd⟩
 have HX1 := aH (HX.out.below hbd HX.out.lt)
 have HY1 := aH (HY.out.below hbd HY.out.lt)
 have HR41 := aH (HR4.out.below hbd HR4.out.lt)
 have HR51 := aH (HR5.out.below hbd HR5.out.lt)
 have HB1 := aH (HB.out.trans (hbd.mono HB.out.size))
 have HQ1 := aH hq
 have HRR1 := aH hr
 rw [← vq] at HZQ
 rw [← vr] at HZR
 have CQ := aH fun (W : World) (hb : Below w1.heap.size w1 W) => later hb (oB q Aq cq W ((HQ1.out.below hb).more hb.size) lq) fun _ _ h => kE h
 have CR := aH fun (W : World) (hb : Below w1.heap.size w1 W) => later hb (oB r Ar cr W ((HRR1.out.below hb).more hb.size) lr) fun _ _ h => kE h
 have NQ := aH fun A c (W : World) (hb : Below w1.heap.size w1 W) h1 h2 h3 => later hb (eJ bx q A c W h1 h2 h3 oq) fun _ _ h => mY h
 have NR := aH fun A c (W : World) (hb : Below w1.heap.size w1 W) h1 h2 h3 => later hb (eJ bx r A c W h1 h2 h3 orr) fun _ _ h => mY h
 rw [HZQ.out] at NQ
 rw [HZR.out] at NR
 have HBD := aH (show Below w1.heap.size w1 w1.drew from bU (Below.refl _ _))
 have HXD := aH HX1.out.drew
 have HBZ := aH (Below.refl w1.heap.size w1)
 clear HX HY HR4 HR5 HB HC hq hr vq vr hbd
 go_upto_region 2 with (fail)
 go_cut [8, 9] (fun qv rv wx => DM w1 zq zr qv rv wx)
 case first =>
  have hx1 : w.heap.size < w1.heap.size := HX1.out.lt
 -- BEGIN REGION 2
  go_region_held3 (fun w' => w'.cell? ⟨w.heap.size, 0, none⟩ = some (.bool bx))
   (first | (with_reducible exact ((HX1.out.alloc _).alloc _).drew.c0) | (with_reducible exact (HX1.out.alloc _).drew.c0) | (with_reducible exact HXD.out.c0) | (with_reducible exact (HXD.out.alloc _).c0) | (with_reducible exact ((HXD.out.alloc _).alloc _).c0) | (with_reducible exact HX2.out.c0) | (with_reducible exact (HX2.out.alloc _).c0) | (with_reducible exact ((HX2.out.alloc _).alloc _).c0) | (with_reducible exact HX3.out.c0) | (with_reducible exact (HX3.out.alloc _).c0) | (with_reducible exact ((HX3.out.alloc _).alloc _).c0) | (with_reducible exact HX4.out.c0) | (with_reducible exact (HX4.out.alloc _).c0) | (with_reducible exact ((HX4.out.alloc _).alloc _).c0) | (with_reducible exact HX5.out.c0) | (with_reducible exact (HX5.out.alloc _).c0) | (with_reducible exact ((HX5.out.alloc _).alloc _).c0) | (simp [World.cell?_alloc_some, World.cell?_setCell_far, x5, ne1, ne2, ne3, ne4, np1, np2, np3, np4]))
   (first | (go_at_call 184; (with_reducible refine Calls.mono (CQ.out _ ?_) ?_); (first | (with_reducible exact HBD.out) | (with_reducible exact kD (HBZ.out.alloc HBZ.out.size _)) | (with_reducible exact kD ((HBZ.out.alloc HBZ.out.size _).alloc (HBZ.out.alloc HBZ.out.size _).size _))); rintro e w2 ⟨⟨A2, c2, rfl, hr2, ⟨hc2a, hm2⟩, hc2⟩, hb2⟩; obtain ⟨kc2, kf2⟩ := tF hc2; have kz2 := hc2.size; have kw2 := hb2.size; (try simp only [World.size_alloc] at kz2); (try simp only [World.size_drew] at kz2); (try simp only [World.size_alloc] at kz2); (try have l12 : w1.heap.size < w2.heap.size := by omega); (try have m12 : w1.heap.size + 1 < w2.heap.size := by omega); have HX2 := aH (HX1.out.below hb2 hx1); have HB2 := aH hb2; have HR2 := aH hr2; clear hr2; clear hb2 hc2) | (go_at_call 168; (with_reducible refine Calls.mono (NQ.out A2 c2 _ ?_ ?_ hc2a hm2) ?_); (first | (with_reducible exact HB2.out) | (with_reducible exact HB2.out.alloc HB2.out.size _) | (with_reducible exact (HB2.out.alloc HB2.out.size _).alloc (HB2.out.alloc HB2.out.size _).size _)); (first | (with_reducible exact HR2.out) | (exact (HR2.out.below ((Below.refl _ _).alloc lR _)).more (by simp)) | (exact (HR2.out.below (((Below.refl _ _).alloc lR _).alloc (by simp) _)).more (by simp; omega))); rintro e w3 ⟨⟨v3, rfl, hv3, hc3⟩, hb3⟩; obtain ⟨A3, n3, c3, rfl⟩ := hv3.form; obtain ⟨kc3, kf3⟩ := tF hc3; have kz3 := hc3.size; have kw3 := hb3.size; (try simp only [World.size_alloc] at kz3); (try simp only [World.size_drew] at kz3); (try simp only [World.size_alloc] at kz3); (try have l13 : w1.heap.size < w3.heap.size := by omega); (try have m13 : w1.heap.size + 1 < w3.heap.size := by omega); (try have l23 : w2.heap.size < w3.heap.size := by omega); (try have m23 : w2.heap.size + 1 < w3.heap.size := by omega); have HX3 := aH (HX1.out.below hb3 hx1); have HB3 := aH hb3; have HV3 := aH hv3; clear hv3; clear hb3 hc3) | (go_at_call 184; (with_reducible refine Calls.mono (CR.out _ ?_) ?_); (first | (with_reducible exact HB3.out) | (with_reducible exact HB3.out.alloc HB3.out.size _) | (with_reducible exact (HB3.out.alloc HB3.out.size _).alloc (HB3.out.alloc HB3.out.size _).size _)); rintro e w4 ⟨⟨A4, c4, rfl, hr4, ⟨hc4a, hm4⟩, hc4⟩, hb4⟩; have HV4 := aH (HV3.out.ext (by first | exact hc4 | exact ((Below.refl _ _).alloc lR _).trans (hc4.mono (by simp)) | exact (((Below.refl _ _).alloc lR _).alloc (by simp) _).trans (hc4.mono (by simp; omega)))); obtain ⟨kc4, kf4⟩ := tF hc4; have kz4 := hc4.size; have kw4 := hb4.size; (try simp only [World.size_alloc] at kz4); (try simp only [World.size_drew] at kz4); (try simp only [World.size_alloc] at kz4); (try have l14 : w1.heap.size < w4.heap.size := by omega); (try have m14 : w1.heap.size + 1 < w4.heap.size := by omega); (try have l24 : w2.heap.size < w4.heap.size := by omega); (try have m24 : w2.heap.size + 1 < w4.heap.size := by omega); (try have l34 : w3.heap.size < w4.heap.size := by omega); (try have m34 : w3.heap.size + 1 < w4.heap.size := by omega); have HX4 := aH (HX1.out.below hb4 hx1); have HB4 := aH hb4; have HR4 := aH hr4; clear hr4; clear hb4 hc4) | (go_at_call 168; (with_reducible refine Calls.mono (NR.out A4 c4 _ ?_ ?_ hc4a hm4) ?_); (first | (with_reducible exact HB4.out) | (with_reducible exact HB4.out.alloc HB4.out.size _) | (with_reducible exact (HB4.out.alloc HB4.out.size _).alloc (HB4.out.alloc HB4.out.size _).size _)); (first | (with_reducible exact HR4.out) | (exact (HR4.out.below ((Below.refl _ _).alloc lR _)).more (by simp)) | (exact (HR4.out.below (((Below.refl _ _).alloc lR _).alloc (by simp) _)).more (by simp; omega))); rintro e w5 ⟨⟨v5, rfl, hv5, hc5⟩, hb5⟩; obtain ⟨A5, n5, c5, rfl⟩ := hv5.form; have HV5 := aH (HV4.out.ext (by first | exact hc5 | exact ((Below.refl _ _).alloc lR _).trans (hc5.mono (by simp)) | exact (((Below.refl _ _).alloc lR _).alloc (by simp) _).trans (hc5.mono (by simp; omega)))); obtain ⟨kc5, kf5⟩ := tF hc5; have kz5 := hc5.size; have kw5 := hb5.size; (try simp only [World.size_alloc] at kz5); (try simp only [World.size_drew] at kz5); (try simp only [World.size_alloc] at kz5); (try have l15 : w1.heap.size < w5.heap.size := by omega); (try have m15 : w1.heap.size + 1 < w5.heap.size := by omega); (try have l25 : w2.heap.size < w5.heap.size := by omega); (try have m25 : w2.heap.size + 1 < w5.heap.size := by omega); (try have l35 : w3.heap.size < w5.heap.size := by omega); (try have m35 : w3.heap.size + 1 < w5.heap.size := by omega); (try have l45 : w4.heap.size < w5.heap.size := by omega); (try have m45 : w4.heap.size + 1 < w5.heap.size := by omega); have HX5 := aH (HX1.out.below hb5 hx1); have HB5 := aH hb5; have HW5 := aH hv5; clear hv5; have x5 := HX5.out.c0; have ne1 : w1.heap.size ≠ w.heap.size := (by omega); have np1 : w1.heap.size + 1 ≠ w.heap.size := (by omega); have ne2 : w2.heap.size ≠ w.heap.size := (by omega); have np2 : w2.heap.size + 1 ≠ w.heap.size := (by omega); have ne3 : w3.heap.size ≠ w.heap.size := (by omega); have np3 : w3.heap.size + 1 ≠ w.heap.size := (by omega); have ne4 : w4.heap.size ≠ w.heap.size := (by omega); have np4 : w4.heap.size + 1 ≠ w.heap.size := (by omega); have ne5 : w5.heap.size ≠ w.heap.size := (by omega); have np5 : w5.heap.size + 1 ≠ w.heap.size := (by omega); clear hb5 hc5))
 -- END REGION 2
  all_goals
   go_wp2_with fail
   go_meet
   have s1 : w1.heap.size < w1.heap.size + 1 + 1 := by omega
   have s2 : w2.heap.size < w2.heap.size + 1 + 1 := by omega
   have s3 : w3.heap.size < w3.heap.size + 1 + 1 := by omega
   have s4 : w4.heap.size < w4.heap.size + 1 + 1 := by omega
   have s5 : w5.heap.size < w5.heap.size + 1 + 1 := by omega
   have e12 : w1.heap.size ≤ w2.heap.size := by omega
   have t12 : w1.heap.size < w2.heap.size + 1 := by omega
   have e13 : w1.heap.size ≤ w3.heap.size := by omega
   have t13 : w1.heap.size < w3.heap.size + 1 := by omega
   have e14 : w1.heap.size ≤ w4.heap.size := by omega
   have t14 : w1.heap.size < w4.heap.size + 1 := by omega
   have e15 : w1.heap.size ≤ w5.heap.size := by omega
   have t15 : w1.heap.size < w5.heap.size + 1 := by omega
   have e23 : w2.heap.size ≤ w3.heap.size := by omega
   have t23 : w2.heap.size < w3.heap.size + 1 := by omega
   have e24 : w2.heap.size ≤ w4.heap.size := by omega
   have t24 : w2.heap.size < w4.heap.size + 1 := by omega
   have e25 : w2.heap.size ≤ w5.heap.size := by omega
   have t25 : w2.heap.size < w5.heap.size + 1 := by omega
   have e34 : w3.heap.size ≤ w4.heap.size := by omega
   have t34 : w3.heap.size < w4.heap.size + 1 := by omega
   have e35 : w3.heap.size ≤ w5.heap.size := by omega
   have t35 : w3.heap.size < w5.heap.size + 1 := by omega
   have e45 : w4.heap.size ≤ w5.heap.size := by omega
   have t45 : w4.heap.size < w5.heap.size + 1 := by omega
   first | exact dm1 HB5.out HV5.out HW5.out | exact dm2 HB5.out HV5.out HW5.out | (refine dm3 HB5.out HV5.out HW5.out ?_ ⟨?_, ?_, ?_, ?_⟩) | (refine aQm HB5.out HV5.out HW5.out ?_ ⟨?_, ?_, ?_, ?_⟩) | (refine dm4 HB5.out HV5.out HW5.out ?_ ?_ ?_ ⟨?_, ?_, ?_, ?_⟩ ⟨?_, ?_, ?_, ?_⟩)
   all_goals first | omega | (simp [*]; done) | (simp [sP, pO, *]; done)
 case rest =>
  obtain ⟨g8, g9, A8, n8, c8, A9, n9, c9, rfl, rfl, ⟨hne, h8, h9⟩, V8, V9, B8, B9, hbw⟩ := hcut
  have HVY := aH (HY1.out.var.below hbw)
  have HV4 := aH (HR41.out.var.below hbw)
  have HV5 := aH (HR51.out.var.below hbw)
  have hs1 : w.heap.size + 1 + 1 + 1 < w1.heap.size := HR51.out.lt
  have HBC := aH (HB1.out.trans (hbw.mono HB1.out.size))
  have HBY : Hid (Big wc (.agg #[.bool false, .slice B wy.length cb]) y) := aH (by have h := HY0.out.ext HBC.out; rw [decide_eq_false (show ¬ y < 0 by omega)] at h; exact h)
  clear CQ CR NQ NR HBD HXD HBZ HQ1 HRR1 HX1 HY1 HR41 HR51 HZQ HZR HB1 HY0
  have d1 := V8.c0
  have d2 := V8.c1
  have d3 := V9.c0
  have d4 := V9.c1
  have d5 := V8.f0
  have d6 := V8.f1
  have d7 := V9.f0
  have d8 := V9.f1
  have l8 := V8.lt
  have l9 := V9.lt
  have y0 := HVY.out.c0
  have y1 := HVY.out.c1
  have r0 := HV4.out.c0
  have r1 := HV4.out.c1
  have r2 := HV5.out.c0
  have r3 := HV5.out.c1
  have r4 := HV4.out.f0
  have r5 := HV4.out.f1
  have r6 := HV5.out.f0
  have r7 := HV5.out.f1
  have n1 : g8 ≠ w.heap.size + 1 + 1 := by omega
  have n2 : g9 ≠ w.heap.size + 1 + 1 := by omega
  have n3 : g8 ≠ w.heap.size + 1 + 1 + 1 := by omega
  have n4 : g9 ≠ w.heap.size + 1 + 1 + 1 := by omega
  have hw : w.heap.size + 1 + 1 + 1 < wc.heap.size := by have := hbw.size; omega
  generalize hb8 : decide (zq < 0) = b8 at *
  by_cases hneg : zr < 0
  ·have tz : decide (zr < 0) = true := decide_eq_true hneg
   have hE := HD.out.1 hneg
   rw [tz] at B9 V9 d3
   have F1 := aH (show Fits (N + 1) zq from FD.out.mono (by omega))
   have F2 := aH (show Fits (N + 1) (1 : Int) from Fits.mono (n := 1) (by unfold Fits; decide) (by omega))
   have HE1 := aH hE.1
   have HE2 := aH hE.2
   have HBW := aH hbw
   have HV8 := aH V8
   have HV9 := aH V9
   have HB8 := aH B8
   have HB9 := aH B9
   clear hE hb8 hbw V8 V9 B8 B9 tz
   go_wp2_with fail
   have hy8 : g8 ≠ w.heap.size + 1 := by omega
   have hy9 : g9 ≠ w.heap.size + 1 := by omega
   clear d1 d2 d3 d4 d5 d6 d7 d8 y0 y1
   refine aI (fun w' => w'.cell? ⟨g8, 0, none⟩ = some (.bool b8) ∧ w'.cell? ⟨g8, 1, none⟩ = some (.slice A8 n8 c8) ∧ w'.cell? ⟨g9, 0, none⟩ = some (.bool true) ∧ w'.cell? ⟨g9, 1, none⟩ = some (.slice A9 n9 c9) ∧ w'.cell? ⟨w.heap.size + 1, 0, none⟩ = some (.bool false) ∧ w'.cell? ⟨w.heap.size + 1, 1, none⟩ = some (.slice B wy.length cb)) 6 (by kernel_rfl) ?_
   refine fZ (i := 0) (oi := _) (v := .agg #[.bool b8, .slice A8 n8 c8]) rfl (by kernel_rfl) (by kernel_rfl) (by kernel_rfl) (by kernel_rfl) (by kernel_rfl) (by kernel_rfl) (fun _ _ _ h => h) (Or.inl ⟨by rfl, ?_⟩) (tG HV8.out.drew HV9.out.drew HVY.out.drew) ?_
   ·rintro w ⟨s0, s1, s2, s3, s4, s5⟩
    go_simp
   simp only [Act.put, List.setIfInBounds_toArray]
   refine fZ (i := 3) (oi := _) (v := .agg #[.bool true, .slice A9 n9 c9]) rfl (by kernel_rfl) (by kernel_rfl) (by kernel_rfl) (by kernel_rfl) (by kernel_rfl) (by kernel_rfl) (fun _ _ _ h => h) (Or.inl ⟨by rfl, ?_⟩) (tG HV8.out.drew HV9.out.drew HVY.out.drew) ?_
   ·rintro w ⟨s0, s1, s2, s3, s4, s5⟩
    go_simp
   simp only [Act.put]
   refine fZ (i := 4) (oi := _) (v := .agg #[.bool false, .slice B wy.length cb]) rfl (by kernel_rfl) (by kernel_rfl) (by kernel_rfl) (by kernel_rfl) (by kernel_rfl) (by kernel_rfl) (fun _ _ _ h => h) (Or.inl ⟨by rfl, ?_⟩) (tG HV8.out.drew HV9.out.drew HVY.out.drew) ?_
   ·rintro w ⟨s0, s1, s2, s3, s4, s5⟩
    go_simp
   simp only [Act.put]
   refine on1 1 fun K hK => ?_
   go_simp
   go_at_call 136
   refine (qP 1 _ (by omega) (by omega)).mono ?_
   rintro e w6 ⟨v6, rfl, hv6, hb6⟩
   obtain ⟨A6, n6, c6, rfl⟩ := hv6.form
   have HP6 := aH (bU hb6)
   have HV6 := aH hv6
   have HV86 := aH (HV8.out.below HP6.out)
   have HV96 := aH (HV9.out.below HP6.out)
   have HVY6 := aH (HVY.out.below HP6.out)
   clear hv6 hb6
   refine hK.out _ _ (fun _ => tG HV86.out HV96.out HVY6.out) ?_
   clear hK K
   refine on1 2 fun K hK => ?_
   go_simp
   go_at_call 193
   refine (aAy _ _ zq 1 _ (HB8.out.ext HP6.out) HV6.out (N := N + 1) (by omega) F1.out F2.out).mono ?_
   rintro e w7 ⟨v7, rfl, hv7, hb7⟩
   obtain ⟨A7, n7, c7, rfl⟩ := hv7.form
   have HP7 := aH (HP6.out.trans (hb7.mono HP6.out.size))
   have HV7 := aH hv7
   have HV87 := aH (HV8.out.below HP7.out)
   have HV97 := aH (HV9.out.below HP7.out)
   have HVY7 := aH (HVY.out.below HP7.out)
   clear hv7 hb7
   refine hK.out _ _ (fun _ => tG HV87.out HV97.out HVY7.out) ?_
   clear hK K
   refine on1 5 fun K hK => ?_
   go_simp
   go_at_call 150
   refine (uU _ _ zr y _ (HB9.out.ext HP7.out) (HBY.out.ext HP7.out) (N := N) (by omega) FM.out FY.out).mono ?_
   rintro e wz ⟨v9, rfl, hv9, hb9⟩
   obtain ⟨Az, nz, cz, rfl⟩ := hv9.form
   have HP9 := aH (HP7.out.trans (hb9.mono HP7.out.size))
   have HV7z := aH (HV7.out.ext hb9)
   have HV9z := aH hv9
   have HV89 := aH (HV8.out.below HP9.out)
   have HV99 := aH (HV9.out.below HP9.out)
   have HVY9 := aH (HVY.out.below HP9.out)
   clear hv9 hb9
   refine hK.out _ _ (fun _ => tG HV89.out HV99.out HVY9.out) ?_
   clear hK K
   have t1 := HV89.out.c0
   have t2 := HV89.out.c1
   have t3 := HV89.out.f0
   have t4 := HV89.out.f1
   refine on1 6 fun K hK => ?_
   go_simp
   refine hK.out _ _ (fun h => absurd h (by decide)) ?_
   clear hK K
   have e9' := HV99.out.far hne (.bool (decide (zq - 1 < 0))) (.slice A7 n7 c7)
   have t5 := e9'.c0
   have t6 := e9'.c1
   have t7 := e9'.f0
   have t8 := e9'.f1
   refine on1 7 fun K hK => ?_
   go_simp
   refine hK.out _ _ (fun h => absurd h (by decide)) ?_
   clear hK K t1 t2 t3 t4 t5 t6 t7 t8
   refine aE (by kernel_rfl) ?_ _
   have e8 := (HV89.out.set (.bool (decide (zq - 1 < 0))) (.slice A7 n7 c7)).far hne.symm (.bool (decide (zr + y < 0))) (.slice Az nz cz)
   have e9 := e9'.set (.bool (decide (zr + y < 0))) (.slice Az nz cz)
   have e4 := ((HV4.out.below HP9.out).far n1 (.bool (decide (zq - 1 < 0))) (.slice A7 n7 c7)).far n2 (.bool (decide (zr + y < 0))) (.slice Az nz cz)
   have e5 := ((HV5.out.below HP9.out).far n3 (.bool (decide (zq - 1 < 0))) (.slice A7 n7 c7)).far n4 (.bool (decide (zr + y < 0))) (.slice Az nz cz)
   have B8 := (HV7z.out.setVar HV89.out (.bool (decide (zq - 1 < 0))) (.slice A7 n7 c7)).setVar e9' (.bool (decide (zr + y < 0))) (.slice Az nz cz)
   have B9 := (HV9z.out.setVar HV89.out (.bool (decide (zq - 1 < 0))) (.slice A7 n7 c7)).setVar e9' (.bool (decide (zr + y < 0))) (.slice Az nz cz)
   have hbz := ((((HBC.out.trans (HP9.out.mono HBC.out.size)).setCell (p := ⟨g8, 0, none⟩) (show w.heap.size ≤ g8 by omega) (.bool (decide (zq - 1 < 0)))).setCell (p := ⟨g8, 1, none⟩) (show w.heap.size ≤ g8 by omega) (.slice A7 n7 c7)).setCell (p := ⟨g9, 0, none⟩) (show w.heap.size ≤ g9 by omega) (.bool (decide (zr + y < 0)))).setCell (p := ⟨g9, 1, none⟩) (show w.heap.size ≤ g9 by omega) (.slice Az nz cz)
   generalize (((wz.setCell ⟨g8, 0, none⟩ (.bool (decide (zq - 1 < 0)))).setCell ⟨g8, 1, none⟩ (.slice A7 n7 c7)).setCell ⟨g9, 0, none⟩ (.bool (decide (zr + y < 0)))).setCell ⟨g9, 1, none⟩ (.slice Az nz cz) = wd at *
   generalize decide (zq - 1 < 0) = b7 at *
   generalize decide (zr + y < 0) = bz at *
   rw [HE1.out] at B8
   rw [HE2.out] at B9
   have HQ := aH (aFt hbz e4 e5 (by omega) (by omega) (by omega) B8 B9)
   have d1 := e8.c0
   have d2 := e8.c1
   have d3 := e9.c0
   have d4 := e9.c1
   have r0 := e4.c0
   have r1 := e4.c1
   have r2 := e5.c0
   have r3 := e5.c1
   have r4 := e4.f0
   have r5 := e4.f1
   have r6 := e5.f0
   have r7 := e5.f1
   clear B8 B9 e8 e9 e9' e4 e5 hbz
   go_wp2_with fail
   go_region
   obtain ⟨hQ, q4, q5⟩ := HQ.out
   have z0 := q4.c0
   have z1 := q4.c1
   have z2 := q5.c0
   have z3 := q5.c1
   have HQQ := aH hQ
   clear hQ q4 q5 HQ
   change Exit.then _ _ _ _ (W45 wd (w.heap.size + 1 + 1) (w.heap.size + 1 + 1 + 1) _ _ _ _)
   generalize W45 wd (w.heap.size + 1 + 1) (w.heap.size + 1 + 1 + 1) (.bool b7) (.slice A7 n7 c7) (.bool bz) (.slice Az nz cz) = W at *
   go_wp2
   exact bodyPost_ret (v := .tuple #[.agg #[.bool b7, .slice A7 n7 c7], .agg #[.bool bz, .slice Az nz cz]]) (by simp [results, Tryz.results185, go_sem, z0, z1, z2, z3]) rfl HQQ.out
  ·have tz : decide (zr < 0) = false := decide_eq_false hneg
   have hE := HD.out.2 (by omega)
   rw [tz] at B9 V9 d3
   rw [hE.1] at B8
   rw [hE.2] at B9
   have HQ := aH (aFt HBC.out HV4.out HV5.out (by omega) (by omega) (by omega) B8 B9)
   clear hE hb8 hbw V8 V9 B8 B9
   go_wp2_with fail
   go_region
   obtain ⟨hQ, q4, q5⟩ := HQ.out
   have z0 := q4.c0
   have z1 := q4.c1
   have z2 := q5.c0
   have z3 := q5.c1
   have HQQ := aH hQ
   clear hQ q4 q5 HQ
   change Exit.then _ _ _ _ (W45 wc (w.heap.size + 1 + 1) (w.heap.size + 1 + 1 + 1) _ _ _ _)
   generalize W45 wc (w.heap.size + 1 + 1) (w.heap.size + 1 + 1 + 1) (.bool b8) (.slice A8 n8 c8) (.bool false) (.slice A9 n9 c9) = W at *
   go_wp2
   exact bodyPost_ret (v := .tuple #[.agg #[.bool b8, .slice A8 n8 c8], .agg #[.bool false, .slice A9 n9 c9]]) (by simp [results, Tryz.results185, go_sem, z0, z1, z2, z3]) rfl HQQ.out
end Go.Proofs.YtenbglfkdldheaaGreatDoor
