/- (large.Rat).Sign, large.Dot. -/
import Derived.Test.YtfigffaghaaaoaaGreatDoorRQ
import Derived.Test.YtfigffaghaaaoaaGreatDoorRR
namespace Go.Proofs.YtfigffaghaaaoaaGreatDoor
open Go.RowKit

set_option maxRecDepth 100000 in
theorem rsign_any (v : Value) (q : Rat) (w : World) (h : Rt w v q) : Calls Tryz.prog 48 #[v] w fun e w' => e = .returned (I q.num.sign) ∧ Below w.heap.size w w' := by
  obtain ⟨A, l, c, B, m, d, rfl, hn, -⟩ := h.form
  obtain ⟨hv, hb⟩ := boxes1 w (.bool (decide (q.num < 0))) (.slice A l c) (.bool false) (.slice B m d)
  have HC := Lib.hid (sign_any _ _ _ (hn.ext hb))
  have HB := Lib.hid hb
  have v0 := hv.c0
  have v1 := hv.c1
  clear hb hn hv h
  generalize decide (q.num < 0) = nb at *
  unfold ratT at *
  go_enter Tryz.func48, Tryz.ntmps48
  go_wp2_with fail
  refine HC.out.mono ?_
  rintro e w1 ⟨rfl, hb⟩
  have HB1 := Lib.hid (HB.out.trans (hb.mono HB.out.size))
  clear hb HC HB v0 v1
  go_wp2
  go_ret
  exact ⟨rfl, HB1.out⟩
theorem C4.below {w w' : World} {b o : Nat} {x0 x1 x2 x3 : Value} (h : C4 w b o x0 x1 x2 x3) (hb : Below w.heap.size w w') : C4 w' b o x0 x1 x2 x3 := by
  have hl := World.block_lt_of_cell? w ⟨b, o, none⟩ h.c0
  exact ⟨(hb.cell (p := ⟨b, o, none⟩) hl).trans h.c0, (hb.cell (p := ⟨b, o + 1, none⟩) hl).trans h.c1, (hb.cell (p := ⟨b, o + 2, none⟩) hl).trans h.c2, (hb.cell (p := ⟨b, o + 3, none⟩) hl).trans h.c3⟩
theorem C4.drew {w : World} {b o : Nat} {x0 x1 x2 x3 : Value} (h : C4 w b o x0 x1 x2 x3) : C4 w.drew b o x0 x1 x2 x3 := ⟨h.c0, h.c1, h.c2, h.c3⟩
theorem Rt.bools {w : World} {v : Value} {q : Rat} (h : Rt w v q) : ∃ nb A l c B m d, v = .agg #[.bool nb, .slice A l c, .bool false, .slice B m d] := by
  obtain ⟨A, l, c, B, m, d, e, -, -⟩ := h.form
  exact ⟨_, A, l, c, B, m, d, e⟩
end Go.Proofs.YtfigffaghaaaoaaGreatDoor
