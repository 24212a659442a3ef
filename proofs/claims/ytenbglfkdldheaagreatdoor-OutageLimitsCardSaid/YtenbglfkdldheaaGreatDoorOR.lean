/- rat.Add, Sub, Mul, Div, Neg, Compare, Sign. rat.Div, Neg, Compare, Sign. large.Rat: Floor, Ceil; rat.whole, Floor, Ceil. large.Whole, large.Frac, rat.Of. -/
import Derived.Test.YtenbglfkdldheaaGreatDoorOP
set_option maxRecDepth 100000
set_option maxHeartbeats 2000000
namespace Go.Proofs.YtenbglfkdldheaaGreatDoor
open Go.RowKit
theorem Rt.words {w : World} {v : Value} {q : Rat} (h : Rt w v q) : ∃ b A l c b2 B m d, v = .agg #[.bool b, .slice A l c, .bool b2, .slice B m d] ∧ Big w (.agg #[.bool b, .slice A l c]) q.num ∧ Big w (.agg #[.bool b2, .slice B m d]) (q.den : Int) := by
 obtain ⟨A, l, c, B, m, d, e, h1, h2⟩ := h.form
 exact ⟨_, A, l, c, _, B, m, d, e, h1, h2⟩
theorem aIq {w : World} {x0 x1 x2 x3 : Value} {z : Int} (h1 : Big w (.agg #[x0, x1]) z) (h2 : Big w (.agg #[x2, x3]) 1) : Rt w (.agg #[x0, x1, x2, x3]) (z : Rat) := Rt.mk h1 h2
theorem fP (n : Int) (w : World) (h0 : -9223372036854775808 ≤ n) (h1 : n ≤ 9223372036854775807) : Calls Tryz.prog 64 #[I n] w (RetRt w (n : Rat)) := by
 obtain ⟨vr, hb⟩ := iM w (.bool false) (.slice none 0 0) (.bool false) (.slice none 0 0)
 have VR := aH vr
 have HB := aH hb
 clear vr hb
 unfold aJ at *
 go_enter Tryz.func64, Tryz.ntmps64
 go_wp2_with fail
 generalize w.alloc (Obj.cells #[Value.bool false, Value.slice none 0 0, Value.bool false, Value.slice none 0 0] 122) = W0 at *
 refine (qP n _ h0 h1).mono ?_
 rintro e w1 ⟨v1, rfl, hv, hb⟩
 obtain ⟨b1, A1, l1, c1, rfl⟩ := hv.ofWords
 have HB1 := aH (HB.out.trans (hb.mono HB.out.size))
 have VR1 := aH (VR.out.below hb)
 have BN := aH hv
 clear hv hb HB VR
 go_wp2_with fail
 refine (qP 1 _ (by omega) (by omega)).mono ?_
 rintro e w2 ⟨v2, rfl, hv, hb⟩
 obtain ⟨b2, A2, l2, c2, rfl⟩ := hv.ofWords
 have hvr := VR1.out.below hb
 have HR := aH (bN (HB1.out.trans (hb.mono HB1.out.size)) lR hvr (aIq (BN.out.ext hb) hv))
 have HZ := aH (hvr.set (.bool b1) (.slice A1 l1 c1) (.bool b2) (.slice A2 l2 c2))
 unfold set4 at HR HZ
 have r0 := hvr.c0
 have r1 := hvr.c1
 have r2 := hvr.c2
 have r3 := hvr.c3
 have q0 := hvr.f0
 have q1 := hvr.f1
 have q2 := hvr.f2
 have q3 := hvr.f3
 clear hv hb hvr HB1 VR1 BN
 go_wp2
 have z0 := HZ.out.c0
 have z1 := HZ.out.c1
 have z2 := HZ.out.c2
 have z3 := HZ.out.c3
 generalize ((((w2.setCell ⟨w.heap.size, 0, none⟩ (.bool b1)).setCell ⟨w.heap.size, 1, none⟩ (.slice A1 l1 c1)).setCell ⟨w.heap.size, 2, none⟩ (.bool b2)).setCell ⟨w.heap.size, 3, none⟩ (.slice A2 l2 c2)) = W at *
 exact bodyPost_ret (v := .agg #[.bool b1, .slice A1 l1 c1, .bool b2, .slice A2 l2 c2]) (by simp [results, Tryz.results64, go_sem, z0, z1, z2, z3]) rfl HR.out
theorem xX (n : Int) (h0 : -9223372036854775808 ≤ n) (h1 : n ≤ 9223372036854775807) : Fits 2 n := by
 unfold Fits
 have e : P32 2 = 18446744073709551616 := by decide
 omega
theorem uC (n d : Int) (w : World) (h0 : -9223372036854775808 ≤ n) (h1 : n ≤ 9223372036854775807) (k0 : -9223372036854775808 ≤ d) (k1 : d ≤ 9223372036854775807) (hd : d ≠ 0) : Calls Tryz.prog 121 #[I n, I d] w (RetRt w (Rat.divInt n d)) := by
 obtain ⟨vr, hb⟩ := iM w (.bool false) (.slice none 0 0) (.bool false) (.slice none 0 0)
 have VR := aH vr
 have HB := aH hb
 have FN := aH (xX n h0 h1)
 have FD := aH (xX d k0 k1)
 have HD := aH hd
 clear vr hb hd
 unfold aJ at *
 go_enter Tryz.func121, Tryz.ntmps121
 go_wp2_with fail
 generalize w.alloc (Obj.cells #[Value.bool false, Value.slice none 0 0, Value.bool false, Value.slice none 0 0] 122) = W0 at *
 refine (qP n _ h0 h1).mono ?_
 rintro e w1 ⟨v1, rfl, hv, hb⟩
 have HB1 := aH (HB.out.trans (hb.mono HB.out.size))
 have VR1 := aH (VR.out.below hb)
 have BN := aH hv
 clear hv hb HB VR
 go_wp2_with fail
 refine (qP d _ k0 k1).mono ?_
 rintro e w2 ⟨v2, rfl, hv, hb⟩
 have HB2 := aH (HB1.out.trans (hb.mono HB1.out.size))
 have VR2 := aH (VR1.out.below hb)
 have HR := aH (lG v1 v2 n d w2 (BN.out.ext hb) hv HD.out (N := 2) (by omega) FN.out FD.out)
 clear hv hb HB1 VR1 BN
 go_wp2_with fail
 refine HR.out.mono ?_
 rintro e w3 ⟨v3, rfl, hv, hb⟩
 obtain ⟨b1, A1, l1, c1, b2, A2, l2, c2, rfl, g1, g2⟩ := hv.words
 have hvr := VR2.out.below hb
 have HR := aH (bN (HB2.out.trans (hb.mono HB2.out.size)) lR hvr (Rt.mk g1 g2))
 have HZ := aH (hvr.set (.bool b1) (.slice A1 l1 c1) (.bool b2) (.slice A2 l2 c2))
 unfold set4 at HR HZ
 have r0 := hvr.c0
 have r1 := hvr.c1
 have r2 := hvr.c2
 have r3 := hvr.c3
 have q0 := hvr.f0
 have q1 := hvr.f1
 have q2 := hvr.f2
 have q3 := hvr.f3
 clear hv hb hvr HB2 VR2 g1 g2
 go_wp2
 have z0 := HZ.out.c0
 have z1 := HZ.out.c1
 have z2 := HZ.out.c2
 have z3 := HZ.out.c3
 generalize ((((w3.setCell ⟨w.heap.size, 0, none⟩ (.bool b1)).setCell ⟨w.heap.size, 1, none⟩ (.slice A1 l1 c1)).setCell ⟨w.heap.size, 2, none⟩ (.bool b2)).setCell ⟨w.heap.size, 3, none⟩ (.slice A2 l2 c2)) = W at *
 exact bodyPost_ret (v := .agg #[.bool b1, .slice A1 l1 c1, .bool b2, .slice A2 l2 c2]) (by simp [results, Tryz.results121, go_sem, z0, z1, z2, z3]) rfl HR.out
end Go.Proofs.YtenbglfkdldheaaGreatDoor
