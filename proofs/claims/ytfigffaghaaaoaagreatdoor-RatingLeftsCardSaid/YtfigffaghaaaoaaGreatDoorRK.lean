/- Rational numbers in memory. large.Ratio. -/
import Derived.Test.YtfigffaghaaaoaaGreatDoorRFG
import Derived.Test.YtfigffaghaaaoaaGreatDoorRI
import Derived.Deep.DeepCutAuto
namespace Go.Proofs.YtfigffaghaaaoaaGreatDoor
open Go.RowKit

abbrev ratT : TypeId := 73
/-- a variable of type Rat at block g -/
structure Vr (w : World) (g : Nat) (x0 x1 x2 x3 : Value) : Prop where
  c0 : w.cell? ⟨g, 0, none⟩ = some x0
  c1 : w.cell? ⟨g, 1, none⟩ = some x1
  c2 : w.cell? ⟨g, 2, none⟩ = some x2
  c3 : w.cell? ⟨g, 3, none⟩ = some x3
  f0 : w.frozen? ⟨g, 0, none⟩ = false
  f1 : w.frozen? ⟨g, 1, none⟩ = false
  f2 : w.frozen? ⟨g, 2, none⟩ = false
  f3 : w.frozen? ⟨g, 3, none⟩ = false
section
variable {w w' : World} {g g' : Nat} {x0 x1 x2 x3 : Value}
theorem Vr.lt (h : Vr w g x0 x1 x2 x3) : g < w.heap.size := World.block_lt_of_cell? w ⟨g, 0, none⟩ h.c0
theorem Vr.below (h : Vr w g x0 x1 x2 x3) (hb : Below w.heap.size w w') : Vr w' g x0 x1 x2 x3 :=
  ⟨(hb.cell (p := ⟨g, 0, none⟩) h.lt).trans h.c0, (hb.cell (p := ⟨g, 1, none⟩) h.lt).trans h.c1, (hb.cell (p := ⟨g, 2, none⟩) h.lt).trans h.c2, (hb.cell (p := ⟨g, 3, none⟩) h.lt).trans h.c3,
    (hb.frozen (p := ⟨g, 0, none⟩) h.lt).trans h.f0, (hb.frozen (p := ⟨g, 1, none⟩) h.lt).trans h.f1, (hb.frozen (p := ⟨g, 2, none⟩) h.lt).trans h.f2, (hb.frozen (p := ⟨g, 3, none⟩) h.lt).trans h.f3⟩
theorem Blk.vr {t : TypeId} (h : Blk w g t #[x0, x1, x2, x3]) : Vr w g x0 x1 x2 x3 := ⟨h.cell 0, h.cell 1, h.cell 2, h.cell 3, h.frozen 0, h.frozen 1, h.frozen 2, h.frozen 3⟩
theorem Vr.alloc (h : Vr w g x0 x1 x2 x3) (o : Obj) : Vr (w.alloc o) g x0 x1 x2 x3 := h.below ((Below.refl _ _).alloc (Nat.le_refl _) _)
theorem Vr.drew (h : Vr w g x0 x1 x2 x3) : Vr w.drew g x0 x1 x2 x3 := ⟨h.c0, h.c1, h.c2, h.c3, h.f0, h.f1, h.f2, h.f3⟩
/-- a cell of another block is written -/
theorem Vr.off (h : Vr w g x0 x1 x2 x3) {p : Addr} (hne : p.block ≠ g) (u : Value) : Vr (w.setCell p u) g x0 x1 x2 x3 := by
  have hc : ∀ o, (w.setCell p u).cell? ⟨g, o, none⟩ = w.cell? ⟨g, o, none⟩ := fun o => World.cell?_setCell_far _ _ _ _ (by simpa using hne)
  have hf : ∀ o, (w.setCell p u).frozen? ⟨g, o, none⟩ = w.frozen? ⟨g, o, none⟩ := fun o => by simp
  exact ⟨(hc 0).trans h.c0, (hc 1).trans h.c1, (hc 2).trans h.c2, (hc 3).trans h.c3, (hf 0).trans h.f0, (hf 1).trans h.f1, (hf 2).trans h.f2, (hf 3).trans h.f3⟩
end
def set4 (w : World) (g : Nat) (u0 u1 u2 u3 : Value) : World := (((w.setCell ⟨g, 0, none⟩ u0).setCell ⟨g, 1, none⟩ u1).setCell ⟨g, 2, none⟩ u2).setCell ⟨g, 3, none⟩ u3
section
variable {w w' : World} {g g' : Nat} {x0 x1 x2 x3 : Value}
theorem set_c (w : World) (g i j : Nat) (u : Value) (h : i ≠ j) : (w.setCell ⟨g, i, none⟩ u).cell? ⟨g, j, none⟩ = w.cell? ⟨g, j, none⟩ := World.cell?_setCell_other _ _ _ _ (by intro e; injection e with _ e; omega)
theorem Vr.set (h : Vr w g x0 x1 x2 x3) (u0 u1 u2 u3 : Value) : Vr (set4 w g u0 u1 u2 u3) g u0 u1 u2 u3 := by
  have e1 : (w.setCell ⟨g, 0, none⟩ u0).cell? ⟨g, 1, none⟩ = some x1 := (set_c _ _ _ _ _ (by decide)).trans h.c1
  have e2 : ((w.setCell ⟨g, 0, none⟩ u0).setCell ⟨g, 1, none⟩ u1).cell? ⟨g, 2, none⟩ = some x2 := (set_c _ _ _ _ _ (by decide)).trans ((set_c _ _ _ _ _ (by decide)).trans h.c2)
  have e3 : (((w.setCell ⟨g, 0, none⟩ u0).setCell ⟨g, 1, none⟩ u1).setCell ⟨g, 2, none⟩ u2).cell? ⟨g, 3, none⟩ = some x3 := (set_c _ _ _ _ _ (by decide)).trans ((set_c _ _ _ _ _ (by decide)).trans ((set_c _ _ _ _ _ (by decide)).trans h.c3))
  unfold set4
  refine ⟨?_, ?_, ?_, World.cell?_setCell_same _ _ _ e3, by simpa using h.f0, by simpa using h.f1, by simpa using h.f2, by simpa using h.f3⟩
  · exact (set_c _ _ _ _ _ (by decide)).trans ((set_c _ _ _ _ _ (by decide)).trans ((set_c _ _ _ _ _ (by decide)).trans (World.cell?_setCell_same _ _ _ h.c0)))
  · exact (set_c _ _ _ _ _ (by decide)).trans ((set_c _ _ _ _ _ (by decide)).trans (World.cell?_setCell_same _ _ _ e1))
  · exact (set_c _ _ _ _ _ (by decide)).trans (World.cell?_setCell_same _ _ _ e2)
theorem Vr.far (h : Vr w g x0 x1 x2 x3) (hne : g' ≠ g) (u0 u1 u2 u3 : Value) : Vr (set4 w g' u0 u1 u2 u3) g x0 x1 x2 x3 := (((h.off (p := ⟨g', 0, none⟩) hne u0).off (p := ⟨g', 1, none⟩) hne u1).off (p := ⟨g', 2, none⟩) hne u2).off (p := ⟨g', 3, none⟩) hne u3
theorem Var.off {y0 y1 : Value} (h : Var w g y0 y1) {p : Addr} (hne : p.block ≠ g) (u : Value) : Var (w.setCell p u) g y0 y1 := by
  have hc : ∀ o, (w.setCell p u).cell? ⟨g, o, none⟩ = w.cell? ⟨g, o, none⟩ := fun o => World.cell?_setCell_far _ _ _ _ (by simpa using hne)
  have hf : ∀ o, (w.setCell p u).frozen? ⟨g, o, none⟩ = w.frozen? ⟨g, o, none⟩ := fun o => by simp
  exact ⟨(hc 0).trans h.c0, (hc 1).trans h.c1, (hf 0).trans h.f0, (hf 1).trans h.f1⟩
theorem Big.set4 {v : Value} {z : Int} (h : Big w v z) {b b2 : Bool} {A A2 : Option Addr} {n c n2 c2 : Nat} (hv : Vr w g (.bool b) (.slice A n c) (.bool b2) (.slice A2 n2 c2)) (u0 u1 u2 u3 : Value) : Big (set4 w g u0 u1 u2 u3) v z := by
  have e1 : (w.setCell ⟨g, 0, none⟩ u0).cell? ⟨g, 1, none⟩ = some (.slice A n c) := (set_c _ _ _ _ _ (by decide)).trans hv.c1
  have e2 : ((w.setCell ⟨g, 0, none⟩ u0).setCell ⟨g, 1, none⟩ u1).cell? ⟨g, 2, none⟩ = some (.bool b2) := (set_c _ _ _ _ _ (by decide)).trans ((set_c _ _ _ _ _ (by decide)).trans hv.c2)
  have e3 : (((w.setCell ⟨g, 0, none⟩ u0).setCell ⟨g, 1, none⟩ u1).setCell ⟨g, 2, none⟩ u2).cell? ⟨g, 3, none⟩ = some (.slice A2 n2 c2) := (set_c _ _ _ _ _ (by decide)).trans ((set_c _ _ _ _ _ (by decide)).trans ((set_c _ _ _ _ _ (by decide)).trans hv.c3))
  exact (((h.set hv.c0 (noWord_bool _) u0).set e1 (noWord_slice _ _ _) u1).set e2 (noWord_bool _) u2).set e3 (noWord_slice _ _ _) u3
theorem below_set4 (hb : Below w.heap.size w w') (hg : w.heap.size ≤ g) (u0 u1 u2 u3 : Value) : Below w.heap.size w (set4 w' g u0 u1 u2 u3) :=
  (((hb.setCell (p := ⟨g, 0, none⟩) hg u0).setCell (p := ⟨g, 1, none⟩) hg u1).setCell (p := ⟨g, 2, none⟩) hg u2).setCell (p := ⟨g, 3, none⟩) hg u3
end
/-- v is the rational number q -/
def Rt (w : World) (v : Value) (q : Rat) : Prop := ∃ x0 x1 x2 x3, v = .agg #[x0, x1, x2, x3] ∧ Big w (.agg #[x0, x1]) q.num ∧ Big w (.agg #[x2, x3]) (q.den : Int)
/-- v is the pair of numbers n and d -/
def Rp (w : World) (v : Value) (n d : Int) : Prop := ∃ x0 x1 x2 x3, v = .agg #[x0, x1, x2, x3] ∧ Big w (.agg #[x0, x1]) n ∧ Big w (.agg #[x2, x3]) d
theorem Rt.pair {w : World} {v : Value} {q : Rat} (h : Rt w v q) : Rp w v q.num (q.den : Int) := h
def RetRt (w : World) (q : Rat) (e : Ending) (w' : World) : Prop := ∃ v, e = .returned v ∧ Rt w' v q ∧ Below w.heap.size w w'
theorem Rt.ext {w w' : World} {v : Value} {q : Rat} (h : Rt w v q) (hb : Below w.heap.size w w') : Rt w' v q := by
  obtain ⟨a, b, c, d, e, h1, h2⟩ := h
  exact ⟨a, b, c, d, e, h1.ext hb, h2.ext hb⟩
theorem Rt.alloc {w : World} {v : Value} {q : Rat} (h : Rt w v q) (o : Obj) : Rt (w.alloc o) v q := h.ext ((Below.refl _ _).alloc (Nat.le_refl _) _)
theorem Rt.drew {w : World} {v : Value} {q : Rat} (h : Rt w v q) : Rt w.drew v q := h.ext (below_undrew (Below.refl _ _))
theorem den_pos (q : Rat) : (0 : Int) < (q.den : Int) := by have := q.den_pos; omega
theorem agg_two {x0 x1 y0 y1 : Value} (h : Value.agg #[x0, x1] = .agg #[y0, y1]) : x0 = y0 ∧ x1 = y1 := by simpa using h
theorem Rt.form {w : World} {v : Value} {q : Rat} (h : Rt w v q) : ∃ A n c B m d, v = .agg #[.bool (decide (q.num < 0)), .slice A n c, .bool false, .slice B m d] ∧ Big w (.agg #[.bool (decide (q.num < 0)), .slice A n c]) q.num ∧ Big w (.agg #[.bool false, .slice B m d]) (q.den : Int) := by
  obtain ⟨x0, x1, x2, x3, rfl, h1, h2⟩ := h
  obtain ⟨A, n, c, e1⟩ := h1.form
  obtain ⟨B, m, d, e2⟩ := h2.form
  have e : decide ((q.den : Int) < 0) = false := decide_eq_false (by have := den_pos q; omega)
  rw [e] at e2
  obtain ⟨rfl, rfl⟩ := agg_two e1
  obtain ⟨rfl, rfl⟩ := agg_two e2
  exact ⟨A, n, c, B, m, d, rfl, h1, h2⟩
theorem Rp.form {w : World} {v : Value} {n d : Int} (h : Rp w v n d) (hd : 0 < d) : ∃ A l c B m e, v = .agg #[.bool (decide (n < 0)), .slice A l c, .bool false, .slice B m e] ∧ Big w (.agg #[.bool (decide (n < 0)), .slice A l c]) n ∧ Big w (.agg #[.bool false, .slice B m e]) d := by
  obtain ⟨x0, x1, x2, x3, rfl, h1, h2⟩ := h
  obtain ⟨A, l, c, e1⟩ := h1.form
  obtain ⟨B, m, e, e2⟩ := h2.form
  rw [decide_eq_false (show ¬ d < 0 by omega)] at e2
  obtain ⟨rfl, rfl⟩ := agg_two e1
  obtain ⟨rfl, rfl⟩ := agg_two e2
  exact ⟨A, l, c, B, m, e, rfl, h1, h2⟩
theorem Rt.mk {w : World} {x0 x1 x2 x3 : Value} {q : Rat} (h1 : Big w (.agg #[x0, x1]) q.num) (h2 : Big w (.agg #[x2, x3]) (q.den : Int)) : Rt w (.agg #[x0, x1, x2, x3]) q := ⟨_, _, _, _, rfl, h1, h2⟩
theorem Rt.set4 {w : World} {v : Value} {q : Rat} (h : Rt w v q) {g : Nat} {b b2 : Bool} {A A2 : Option Addr} {n c n2 c2 : Nat} (hv : Vr w g (.bool b) (.slice A n c) (.bool b2) (.slice A2 n2 c2)) (u0 u1 u2 u3 : Value) : Rt (set4 w g u0 u1 u2 u3) v q := by
  obtain ⟨a, b, c, d, e, h1, h2⟩ := h
  exact ⟨a, b, c, d, e, h1.set4 hv _ _ _ _, h2.set4 hv _ _ _ _⟩
/-- the boxes of a call with two rational numbers and one as its result -/
abbrev z4 : Obj := .cells #[.bool false, .slice none 0 0, .bool false, .slice none 0 0] ratT
theorem boxes1 (w : World) (a0 a1 a2 a3 : Value) : Vr (w.alloc (.cells #[a0, a1, a2, a3] ratT)) w.heap.size a0 a1 a2 a3 ∧ Below w.heap.size w (w.alloc (.cells #[a0, a1, a2, a3] ratT)) := ⟨(Blk.new w ratT _).vr, (Below.refl _ _).alloc (Nat.le_refl _) _⟩
theorem boxes2 (w : World) (a0 a1 a2 a3 b0 b1 b2 b3 : Value) :
    Vr ((w.alloc (.cells #[a0, a1, a2, a3] ratT)).alloc (.cells #[b0, b1, b2, b3] ratT)) w.heap.size a0 a1 a2 a3 ∧ Vr ((w.alloc (.cells #[a0, a1, a2, a3] ratT)).alloc (.cells #[b0, b1, b2, b3] ratT)) (w.heap.size + 1) b0 b1 b2 b3 ∧
      Below w.heap.size w ((w.alloc (.cells #[a0, a1, a2, a3] ratT)).alloc (.cells #[b0, b1, b2, b3] ratT)) := by
  obtain ⟨h1, h2⟩ := boxes1 w a0 a1 a2 a3
  have h3 := (Blk.new (w.alloc (.cells #[a0, a1, a2, a3] ratT)) ratT #[b0, b1, b2, b3]).vr
  rw [World.size_alloc w] at h3
  exact ⟨h1.alloc _, h3, h2.alloc h2.size _⟩
theorem ret_rat_set {w w2 : World} {g : Nat} {x0 x1 x2 x3 : Value} {q : Rat} {b b2 : Bool} {A A2 : Option Addr} {n c n2 c2 : Nat} (hb : Below w.heap.size w w2) (hg : w.heap.size ≤ g) (hv : Vr w2 g (.bool b) (.slice A n c) (.bool b2) (.slice A2 n2 c2)) (h : Rt w2 (.agg #[x0, x1, x2, x3]) q) :
    RetRt w q (.returned (.agg #[x0, x1, x2, x3])) (set4 w2 g x0 x1 x2 x3) := ⟨_, rfl, h.set4 hv _ _ _ _, below_set4 hb hg _ _ _ _⟩
def FitR (N : Nat) (q : Rat) : Prop := Fits N q.num ∧ Fits N (q.den : Int)
theorem FitR.mono {n m : Nat} {q : Rat} (h : FitR n q) (hm : n ≤ m) : FitR m q := ⟨h.1.mono hm, h.2.mono hm⟩
theorem RetRt.of_eq {w : World} {q r : Rat} {e : Ending} {w' : World} (h : RetRt w q e w') (hq : q = r) : RetRt w r e w' := by rw [← hq]; exact h
end Go.Proofs.YtfigffaghaaaoaaGreatDoor
namespace Go.Proofs.YtfigffaghaaaoaaGreatDoor
open Go.RowKit

end Go.Proofs.YtfigffaghaaaoaaGreatDoor
