/- 'out[k] = append(out[k], x)' at matrices of numbers. rat.Add, Sub, Mul, Div, Neg, Compare, Sign. rat.Div, Neg, Compare, Sign. large.Rat: Floor, Ceil; rat.whole, Floor, Ceil. large.Whole, large.Frac, rat.Of. -/
import Derived.Test.YtcgfdfdcbamceaaGreatDoorXAY
import Derived.Test.YtcgfdfdcbamceaaGreatDoorXAL
import Derived.Test.YtcgfdfdcbamceaaGreatDoorXAW
namespace Go.Proofs.YtcgfdfdcbamceaaGreatDoor
open Go.RowKit
theorem Apd.below {w w' : World} {base : Nat} {v v' : Value} {qs qs' : List Rat} (h : Apd w base v qs' v' w') (hr : RRow w base v qs) (hb : base ≤ w.heap.size) : Below base w w' := by
 obtain ⟨xs, hrow, _⟩ := hr.row
 exact hrow.belowG h.grown hb
theorem cell_below {w w' : World} {p : Addr} {v : Value} (h : w.cell? p = some v) (hb : Below w.heap.size w w') : w'.cell? p = some v := (hb.cell (World.block_lt_of_cell? w p h)).trans h
theorem Vr.keepB {w w' : World} {g : Nat} {x0 x1 x2 x3 : Value} (h : Vr w g x0 x1 x2 x3) (hk : w'.heap[g]? = w.heap[g]?) : Vr w' g x0 x1 x2 x3 :=
 ⟨(World.cell?_of_block (a := ⟨g, 0, none⟩) hk).trans h.c0, (World.cell?_of_block (a := ⟨g, 1, none⟩) hk).trans h.c1, (World.cell?_of_block (a := ⟨g, 2, none⟩) hk).trans h.c2, (World.cell?_of_block (a := ⟨g, 3, none⟩) hk).trans h.c3,
  (World.frozen?_of_block (a := ⟨g, 0, none⟩) hk).trans h.f0, (World.frozen?_of_block (a := ⟨g, 1, none⟩) hk).trans h.f1, (World.frozen?_of_block (a := ⟨g, 2, none⟩) hk).trans h.f2, (World.frozen?_of_block (a := ⟨g, 3, none⟩) hk).trans h.f3⟩
theorem below_draw (w : World) : Below w.heap.size w w.drew := (Below.refl _ _).drew
theorem below_new (w : World) (o : Obj) : Below w.heap.size w (w.alloc o) := (Below.refl _ _).alloc (Nat.le_refl _) _
theorem whole_rt {w : World} {x0 x1 x2 x3 : Value} {z : Int} (h1 : Big w (.agg #[x0, x1]) z) (h2 : Big w (.agg #[x2, x3]) 1) : Rt w (.agg #[x0, x1, x2, x3]) (z : Rat) := Rt.mk h1 h2
set_option maxRecDepth 100000 in
set_option maxHeartbeats 2000000 in
theorem rwhole_any (n : Int) (w : World) (h0 : -9223372036854775808 ≤ n) (h1 : n ≤ 9223372036854775807) : Calls Tryz.prog 66 #[I n] w (RetRt w (n : Rat)) := by
 obtain ⟨vr, hb⟩ := boxes1 w (.bool false) (.slice none 0 0) (.bool false) (.slice none 0 0)
 have VR := Lib.hid vr
 have HB := Lib.hid hb
 clear vr hb
 unfold ratT at *
 go_enter Tryz.func66, Tryz.ntmps66
 go_wp2_with fail
 generalize w.alloc (Obj.cells #[Value.bool false, Value.slice none 0 0, Value.bool false, Value.slice none 0 0] 71) = W0 at *
 refine (of_any n _ h0 h1).mono ?_
 rintro e w1 ⟨v1, rfl, hv, hb⟩
 obtain ⟨b1, A1, l1, c1, rfl⟩ := hv.ofWords
 have HB1 := Lib.hid (HB.out.trans (hb.mono HB.out.size))
 have VR1 := Lib.hid (VR.out.below hb)
 have BN := Lib.hid hv
 clear hv hb HB VR
 go_wp2_with fail
 refine (of_any 1 _ (by omega) (by omega)).mono ?_
 rintro e w2 ⟨v2, rfl, hv, hb⟩
 obtain ⟨b2, A2, l2, c2, rfl⟩ := hv.ofWords
 have hvr := VR1.out.below hb
 have HR := Lib.hid (ret_rat_set (HB1.out.trans (hb.mono HB1.out.size)) (Nat.le_refl _) hvr (whole_rt (BN.out.ext hb) hv))
 have HZ := Lib.hid (hvr.set (.bool b1) (.slice A1 l1 c1) (.bool b2) (.slice A2 l2 c2))
 unfold set4 at HR HZ
 have r0 := hvr.c0
 have r1 := hvr.c1
 have r2 := hvr.c2
 have r3 := hvr.c3
 have q0 := hvr.f0
 have q1 := hvr.f1
 have q2 := hvr.f2
 have q3 := hvr.f3
 clear hv hb hvr HB1 VR1 BN
 go_wp2
 have z0 := HZ.out.c0
 have z1 := HZ.out.c1
 have z2 := HZ.out.c2
 have z3 := HZ.out.c3
 generalize ((((w2.setCell ⟨w.heap.size, 0, none⟩ (.bool b1)).setCell ⟨w.heap.size, 1, none⟩ (.slice A1 l1 c1)).setCell ⟨w.heap.size, 2, none⟩ (.bool b2)).setCell ⟨w.heap.size, 3, none⟩ (.slice A2 l2 c2)) = W at *
 exact bodyPost_ret (v := .agg #[.bool b1, .slice A1 l1 c1, .bool b2, .slice A2 l2 c2]) (by simp [results, Tryz.results66, go_sem, z0, z1, z2, z3]) rfl HR.out
end Go.Proofs.YtcgfdfdcbamceaaGreatDoor
