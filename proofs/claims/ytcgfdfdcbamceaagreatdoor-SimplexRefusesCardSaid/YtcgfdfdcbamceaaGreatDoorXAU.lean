/- large.Rat: Mul, Div. large.Rat: Add. -/
import Derived.Test.YtcgfdfdcbamceaaGreatDoorXAT
namespace Go.Proofs.YtcgfdfdcbamceaaGreatDoor
open Go.RowKit
set_option maxRecDepth 100000 in
set_option maxHeartbeats 4000000 in
theorem rmul_any (u v : Value) (x y : Rat) (w : World) (hx : Rt w u x) (hy : Rt w v y) {N : Nat} (hN : N ≤ 100000000) (fx : FitR N x) (fy : FitR N y) : Calls Tryz.prog 54 #[u, v] w (RetRt w (x * y)) := by
 obtain ⟨xn, xnl, xnc, xd, xdl, xdc, rfl, hxn, hxd⟩ := hx.form
 obtain ⟨yn, ynl, ync, yd, ydl, ydc, rfl, hyn, hyd⟩ := hy.form
 obtain ⟨vx, vy, vr, hb0⟩ := boxes3 w (.bool (decide (x.num < 0))) (.slice xn xnl xnc) (.bool false) (.slice xd xdl xdc) (.bool (decide (y.num < 0))) (.slice yn ynl ync) (.bool false) (.slice yd ydl ydc) (.bool false) (.slice none 0 0) (.bool false) (.slice none 0 0)
 have Dxn := Lib.hid (hxn.ext hb0).drew
 have Dxd := Lib.hid (hxd.ext hb0).drew
 have VX := Lib.hid vx.drew
 have Dyn := Lib.hid (hyn.ext hb0).drew
 have Dyd := Lib.hid (hyd.ext hb0).drew
 have VY := Lib.hid vy.drew
 have VR := Lib.hid vr.drew
 have HB := Lib.hid hb0.drew
 obtain ⟨fxn, fxd⟩ := fx
 have FXN := Lib.hid fxn
 have FXD := Lib.hid fxd
 clear fxn fxd
 obtain ⟨fyn, fyd⟩ := fy
 have FYN := Lib.hid fyn
 have FYD := Lib.hid fyd
 clear fyn fyd
 clear vx vy vr hb0 hx hxn hxd hy hyn hyd
 generalize decide (x.num < 0) = xb at *
 generalize decide (y.num < 0) = yb at *
 unfold ratT at *
 go_enter Tryz.func54, Tryz.ntmps54
 go_upto_region 1 with (fail)
 generalize hW0 : (((w.alloc (Obj.cells #[Value.bool xb, Value.slice xn xnl xnc, Value.bool false, Value.slice xd xdl xdc] 71)).alloc (Obj.cells #[Value.bool yb, Value.slice yn ynl ync, Value.bool false, Value.slice yd ydl ydc] 71)).alloc (Obj.cells #[Value.bool false, Value.slice none 0 0, Value.bool false, Value.slice none 0 0] 71)) = W0 at *
 clear hW0
 refine wp_region_c (fun w' => w'.cell? ⟨w.heap.size, 0, none⟩ = some (.bool xb) ∧ w'.cell? ⟨w.heap.size, 1, none⟩ = some (.slice xn xnl xnc) ∧ w'.cell? ⟨w.heap.size, 2, none⟩ = some (.bool false) ∧ w'.cell? ⟨w.heap.size, 3, none⟩ = some (.slice xd xdl xdc) ∧ w'.cell? ⟨w.heap.size + 1, 0, none⟩ = some (.bool yb) ∧ w'.cell? ⟨w.heap.size + 1, 1, none⟩ = some (.slice yn ynl ync) ∧ w'.cell? ⟨w.heap.size + 1, 2, none⟩ = some (.bool false) ∧ w'.cell? ⟨w.heap.size + 1, 3, none⟩ = some (.slice yd ydl ydc)) 11 (by kernel_rfl) ?_
 refine tkS ⟨VX.out.c0, VX.out.c1, VX.out.c2, VX.out.c3, VY.out.c0, VY.out.c1, VY.out.c2, VY.out.c3⟩ fun hSS => ?_
 refine tq 0 (.pointer (some ⟨w.heap.size, 0, none⟩)) rfl ?_ hSS ?_
 ·rintro w ⟨s0, s1, s2, s3, s4, s5, s6, s7⟩
  go_simp
 try simp only [Act.put, List.setIfInBounds_toArray]
 refine tq 1 (.agg #[.bool xb, .slice xn xnl xnc]) rfl ?_ hSS ?_
 ·rintro w ⟨s0, s1, s2, s3, s4, s5, s6, s7⟩
  go_simp
 try simp only [Act.put]
 refine tq 2 (.pointer (some ⟨w.heap.size + 1, 0, none⟩)) rfl ?_ hSS ?_
 ·rintro w ⟨s0, s1, s2, s3, s4, s5, s6, s7⟩
  go_simp
 try simp only [Act.put]
 refine tq 3 (.agg #[.bool yb, .slice yn ynl ync]) rfl ?_ hSS ?_
 ·rintro w ⟨s0, s1, s2, s3, s4, s5, s6, s7⟩
  go_simp
 try simp only [Act.put]
 refine tq 5 (.pointer (some ⟨w.heap.size, 2, none⟩)) rfl ?_ hSS ?_
 ·rintro w ⟨s0, s1, s2, s3, s4, s5, s6, s7⟩
  go_simp
 try simp only [Act.put]
 refine tq 6 (.agg #[.bool false, .slice xd xdl xdc]) rfl ?_ hSS ?_
 ·rintro w ⟨s0, s1, s2, s3, s4, s5, s6, s7⟩
  go_simp
 try simp only [Act.put]
 refine tq 7 (.pointer (some ⟨w.heap.size + 1, 2, none⟩)) rfl ?_ hSS ?_
 ·rintro w ⟨s0, s1, s2, s3, s4, s5, s6, s7⟩
  go_simp
 try simp only [Act.put]
 refine tq 8 (.agg #[.bool false, .slice yd ydl ydc]) rfl ?_ hSS ?_
 ·rintro w ⟨s0, s1, s2, s3, s4, s5, s6, s7⟩
  go_simp
 try simp only [Act.put]
 refine on1 4 fun K hK => ?_
 go_simp
 go_at_call 76
 refine (mul_any _ _ x.num y.num _ Dxn.out Dyn.out (N := N) (by omega) FXN.out FYN.out).mono ?_
 rintro e w1 ⟨v1, rfl, hv, hb⟩
 obtain ⟨A1, l1, c1, rfl⟩ := hv.form
 have HB1 := Lib.hid (HB.out.trans (hb.mono HB.out.size))
 have VX1 := Lib.hid (VX.out.below hb)
 have VY1 := Lib.hid (VY.out.below hb)
 have VR1 := Lib.hid (VR.out.below hb)
 have L1xn := Lib.hid (Dxn.out.ext hb)
 have L1xd := Lib.hid (Dxd.out.ext hb)
 have L1yn := Lib.hid (Dyn.out.ext hb)
 have L1yd := Lib.hid (Dyd.out.ext hb)
 have HV1 := Lib.hid hv
 refine hK.out _ _ (fun _ => ⟨VX1.out.c0, VX1.out.c1, VX1.out.c2, VX1.out.c3, VY1.out.c0, VY1.out.c1, VY1.out.c2, VY1.out.c3⟩) ?_
 clear hK K
 try simp only [Act.put, putA, putZ, putC]
 clear hb hv
 refine on1 9 fun K hK => ?_
 go_simp
 go_at_call 76
 refine (mul_any _ _ (x.den : Int) (y.den : Int) _ L1xd.out L1yd.out (N := N) (by omega) FXD.out FYD.out).mono ?_
 rintro e w2 ⟨v2, rfl, hv, hb⟩
 obtain ⟨A2, l2, c2, rfl⟩ := hv.form
 have HB2 := Lib.hid (HB1.out.trans (hb.mono HB1.out.size))
 have VX2 := Lib.hid (VX1.out.below hb)
 have VY2 := Lib.hid (VY1.out.below hb)
 have VR2 := Lib.hid (VR1.out.below hb)
 have L2xn := Lib.hid (L1xn.out.ext hb)
 have L2xd := Lib.hid (L1xd.out.ext hb)
 have L2yn := Lib.hid (L1yn.out.ext hb)
 have L2yd := Lib.hid (L1yd.out.ext hb)
 have HV1q2 := Lib.hid (HV1.out.ext hb)
 have HV2 := Lib.hid hv
 refine hK.out _ _ (fun _ => ⟨VX2.out.c0, VX2.out.c1, VX2.out.c2, VX2.out.c3, VY2.out.c0, VY2.out.c1, VY2.out.c2, VY2.out.c3⟩) ?_
 clear hK K
 try simp only [Act.put, putA, putZ, putC]
 clear hb hv
 refine on1 10 fun K hK => ?_
 go_simp
 go_at_call 75
 refine (ratio_any _ _ (x.num * y.num) ((x.den : Int) * (y.den : Int)) _ HV1q2.out HV2.out (mul_ne (den_ne x) (den_ne y)) (N := N + N + 1) (by omega) ((FXN.out.mul FYN.out).mono (by omega)) ((FXD.out.mul FYD.out).mono (by omega))).mono ?_
 rintro e w3 ⟨v3, rfl, hv, hb⟩
 have HB3 := Lib.hid (HB2.out.trans (hb.mono HB2.out.size))
 have VX3 := Lib.hid (VX2.out.below hb)
 have VY3 := Lib.hid (VY2.out.below hb)
 have VR3 := Lib.hid (VR2.out.below hb)
 have L3xn := Lib.hid (L2xn.out.ext hb)
 have L3xd := Lib.hid (L2xd.out.ext hb)
 have L3yn := Lib.hid (L2yn.out.ext hb)
 have L3yd := Lib.hid (L2yd.out.ext hb)
 have HV1q2q3 := Lib.hid (HV1q2.out.ext hb)
 have HV2q3 := Lib.hid (HV2.out.ext hb)
 have HV3 := Lib.hid hv
 refine hK.out _ _ (fun _ => ⟨VX3.out.c0, VX3.out.c1, VX3.out.c2, VX3.out.c3, VY3.out.c0, VY3.out.c1, VY3.out.c2, VY3.out.c3⟩) ?_
 clear hK K
 try simp only [Act.put, putA, putZ, putC]
 clear hb hv
 have HV3 := HV3.out
 obtain ⟨rn, rnl, rnc, rd, rdl, rdc, rfl, -, -⟩ := HV3.form
 have HR := Lib.hid ((ret_rat_set (g := w.heap.size + 1 + 1) HB3.out (by omega) VR3.out HV3).of_eq (divInt_mul x y))
 clear HV3
 have HRX := HR.out
 clear HR
 obtain ⟨rb, hrb⟩ : ∃ b, decide ((Rat.divInt (x.num * y.num) ((x.den : Int) * (y.den : Int))).num < 0) = b := ⟨_, rfl⟩
 rw [hrb] at HRX ⊢
 have HR := Lib.hid HRX
 clear HRX hrb
 have HZ := Lib.hid (VR3.out.set (.bool rb) (.slice rn rnl rnc) (.bool false) (.slice rd rdl rdc))
 unfold set4 at HR HZ
 have r0 := VR3.out.c0
 have q0 := VR3.out.f0
 have r1 := VR3.out.c1
 have q1 := VR3.out.f1
 have r2 := VR3.out.c2
 have q2 := VR3.out.f2
 have r3 := VR3.out.c3
 have q3 := VR3.out.f3
 refine on1 11 fun K hK => ?_
 go_simp
 refine hK.out _ _ (fun h => absurd h (by decide)) ?_
 clear hK K r0 r1 r2 r3 q0 q1 q2 q3
 refine wpAnyC_done (by kernel_rfl) ?_ _
 go_wp2
 have z0 := HZ.out.c0
 have z1 := HZ.out.c1
 have z2 := HZ.out.c2
 have z3 := HZ.out.c3
 generalize ((((w3.setCell ⟨w.heap.size + 1 + 1, 0, none⟩ (.bool rb)).setCell ⟨w.heap.size + 1 + 1, 1, none⟩ (.slice rn rnl rnc)).setCell ⟨w.heap.size + 1 + 1, 2, none⟩ (.bool false)).setCell ⟨w.heap.size + 1 + 1, 3, none⟩ (.slice rd rdl rdc)) = W at *
 exact bodyPost_ret (v := .agg #[(.bool rb), (.slice rn rnl rnc), (.bool false), (.slice rd rdl rdc)]) (by simp [results, Tryz.results54, go_sem, z0, z1, z2, z3]) rfl HR.out
set_option maxRecDepth 100000 in
set_option maxHeartbeats 4000000 in
theorem rdiv_any (u v : Value) (x y : Rat) (w : World) (hx : Rt w u x) (hy : Rt w v y) (hne : y.num ≠ 0) {N : Nat} (hN : N ≤ 100000000) (fx : FitR N x) (fy : FitR N y) : Calls Tryz.prog 107 #[u, v] w (RetRt w (x / y)) := by
 obtain ⟨xn, xnl, xnc, xd, xdl, xdc, rfl, hxn, hxd⟩ := hx.form
 obtain ⟨yn, ynl, ync, yd, ydl, ydc, rfl, hyn, hyd⟩ := hy.form
 obtain ⟨vx, vy, vr, hb0⟩ := boxes3 w (.bool (decide (x.num < 0))) (.slice xn xnl xnc) (.bool false) (.slice xd xdl xdc) (.bool (decide (y.num < 0))) (.slice yn ynl ync) (.bool false) (.slice yd ydl ydc) (.bool false) (.slice none 0 0) (.bool false) (.slice none 0 0)
 have Dxn := Lib.hid (hxn.ext hb0).drew
 have Dxd := Lib.hid (hxd.ext hb0).drew
 have VX := Lib.hid vx.drew
 have Dyn := Lib.hid (hyn.ext hb0).drew
 have Dyd := Lib.hid (hyd.ext hb0).drew
 have VY := Lib.hid vy.drew
 have VR := Lib.hid vr.drew
 have HB := Lib.hid hb0.drew
 obtain ⟨fxn, fxd⟩ := fx
 have FXN := Lib.hid fxn
 have FXD := Lib.hid fxd
 clear fxn fxd
 obtain ⟨fyn, fyd⟩ := fy
 have FYN := Lib.hid fyn
 have FYD := Lib.hid fyd
 clear fyn fyd
 have HNE := Lib.hid hne
 clear hne
 clear vx vy vr hb0 hx hxn hxd hy hyn hyd
 generalize decide (x.num < 0) = xb at *
 generalize decide (y.num < 0) = yb at *
 unfold ratT at *
 go_enter Tryz.func107, Tryz.ntmps107
 go_upto_region 1 with (fail)
 generalize hW0 : (((w.alloc (Obj.cells #[Value.bool xb, Value.slice xn xnl xnc, Value.bool false, Value.slice xd xdl xdc] 71)).alloc (Obj.cells #[Value.bool yb, Value.slice yn ynl ync, Value.bool false, Value.slice yd ydl ydc] 71)).alloc (Obj.cells #[Value.bool false, Value.slice none 0 0, Value.bool false, Value.slice none 0 0] 71)) = W0 at *
 clear hW0
 refine wp_region_c (fun w' => w'.cell? ⟨w.heap.size, 0, none⟩ = some (.bool xb) ∧ w'.cell? ⟨w.heap.size, 1, none⟩ = some (.slice xn xnl xnc) ∧ w'.cell? ⟨w.heap.size, 2, none⟩ = some (.bool false) ∧ w'.cell? ⟨w.heap.size, 3, none⟩ = some (.slice xd xdl xdc) ∧ w'.cell? ⟨w.heap.size + 1, 0, none⟩ = some (.bool yb) ∧ w'.cell? ⟨w.heap.size + 1, 1, none⟩ = some (.slice yn ynl ync) ∧ w'.cell? ⟨w.heap.size + 1, 2, none⟩ = some (.bool false) ∧ w'.cell? ⟨w.heap.size + 1, 3, none⟩ = some (.slice yd ydl ydc)) 11 (by kernel_rfl) ?_
 refine tkS ⟨VX.out.c0, VX.out.c1, VX.out.c2, VX.out.c3, VY.out.c0, VY.out.c1, VY.out.c2, VY.out.c3⟩ fun hSS => ?_
 refine tq 0 (.pointer (some ⟨w.heap.size, 0, none⟩)) rfl ?_ hSS ?_
 ·rintro w ⟨s0, s1, s2, s3, s4, s5, s6, s7⟩
  go_simp
 try simp only [Act.put, List.setIfInBounds_toArray]
 refine tq 1 (.agg #[.bool xb, .slice xn xnl xnc]) rfl ?_ hSS ?_
 ·rintro w ⟨s0, s1, s2, s3, s4, s5, s6, s7⟩
  go_simp
 try simp only [Act.put]
 refine tq 2 (.pointer (some ⟨w.heap.size + 1, 2, none⟩)) rfl ?_ hSS ?_
 ·rintro w ⟨s0, s1, s2, s3, s4, s5, s6, s7⟩
  go_simp
 try simp only [Act.put]
 refine tq 3 (.agg #[.bool false, .slice yd ydl ydc]) rfl ?_ hSS ?_
 ·rintro w ⟨s0, s1, s2, s3, s4, s5, s6, s7⟩
  go_simp
 try simp only [Act.put]
 refine tq 5 (.pointer (some ⟨w.heap.size, 2, none⟩)) rfl ?_ hSS ?_
 ·rintro w ⟨s0, s1, s2, s3, s4, s5, s6, s7⟩
  go_simp
 try simp only [Act.put]
 refine tq 6 (.agg #[.bool false, .slice xd xdl xdc]) rfl ?_ hSS ?_
 ·rintro w ⟨s0, s1, s2, s3, s4, s5, s6, s7⟩
  go_simp
 try simp only [Act.put]
 refine tq 7 (.pointer (some ⟨w.heap.size + 1, 0, none⟩)) rfl ?_ hSS ?_
 ·rintro w ⟨s0, s1, s2, s3, s4, s5, s6, s7⟩
  go_simp
 try simp only [Act.put]
 refine tq 8 (.agg #[.bool yb, .slice yn ynl ync]) rfl ?_ hSS ?_
 ·rintro w ⟨s0, s1, s2, s3, s4, s5, s6, s7⟩
  go_simp
 try simp only [Act.put]
 refine on1 4 fun K hK => ?_
 go_simp
 go_at_call 76
 refine (mul_any _ _ x.num (y.den : Int) _ Dxn.out Dyd.out (N := N) (by omega) FXN.out FYD.out).mono ?_
 rintro e w1 ⟨v1, rfl, hv, hb⟩
 obtain ⟨A1, l1, c1, rfl⟩ := hv.form
 have HB1 := Lib.hid (HB.out.trans (hb.mono HB.out.size))
 have VX1 := Lib.hid (VX.out.below hb)
 have VY1 := Lib.hid (VY.out.below hb)
 have VR1 := Lib.hid (VR.out.below hb)
 have L1xn := Lib.hid (Dxn.out.ext hb)
 have L1xd := Lib.hid (Dxd.out.ext hb)
 have L1yn := Lib.hid (Dyn.out.ext hb)
 have L1yd := Lib.hid (Dyd.out.ext hb)
 have HV1 := Lib.hid hv
 refine hK.out _ _ (fun _ => ⟨VX1.out.c0, VX1.out.c1, VX1.out.c2, VX1.out.c3, VY1.out.c0, VY1.out.c1, VY1.out.c2, VY1.out.c3⟩) ?_
 clear hK K
 try simp only [Act.put, putA, putZ, putC]
 clear hb hv
 refine on1 9 fun K hK => ?_
 go_simp
 go_at_call 76
 refine (mul_any _ _ (x.den : Int) y.num _ L1xd.out L1yn.out (N := N) (by omega) FXD.out FYN.out).mono ?_
 rintro e w2 ⟨v2, rfl, hv, hb⟩
 obtain ⟨A2, l2, c2, rfl⟩ := hv.form
 have HB2 := Lib.hid (HB1.out.trans (hb.mono HB1.out.size))
 have VX2 := Lib.hid (VX1.out.below hb)
 have VY2 := Lib.hid (VY1.out.below hb)
 have VR2 := Lib.hid (VR1.out.below hb)
 have L2xn := Lib.hid (L1xn.out.ext hb)
 have L2xd := Lib.hid (L1xd.out.ext hb)
 have L2yn := Lib.hid (L1yn.out.ext hb)
 have L2yd := Lib.hid (L1yd.out.ext hb)
 have HV1q2 := Lib.hid (HV1.out.ext hb)
 have HV2 := Lib.hid hv
 refine hK.out _ _ (fun _ => ⟨VX2.out.c0, VX2.out.c1, VX2.out.c2, VX2.out.c3, VY2.out.c0, VY2.out.c1, VY2.out.c2, VY2.out.c3⟩) ?_
 clear hK K
 try simp only [Act.put, putA, putZ, putC]
 clear hb hv
 refine on1 10 fun K hK => ?_
 go_simp
 go_at_call 75
 refine (ratio_any _ _ (x.num * (y.den : Int)) ((x.den : Int) * y.num) _ HV1q2.out HV2.out (mul_ne (den_ne x) HNE.out) (N := N + N + 1) (by omega) ((FXN.out.mul FYD.out).mono (by omega)) ((FXD.out.mul FYN.out).mono (by omega))).mono ?_
 rintro e w3 ⟨v3, rfl, hv, hb⟩
 have HB3 := Lib.hid (HB2.out.trans (hb.mono HB2.out.size))
 have VX3 := Lib.hid (VX2.out.below hb)
 have VY3 := Lib.hid (VY2.out.below hb)
 have VR3 := Lib.hid (VR2.out.below hb)
 have L3xn := Lib.hid (L2xn.out.ext hb)
 have L3xd := Lib.hid (L2xd.out.ext hb)
 have L3yn := Lib.hid (L2yn.out.ext hb)
 have L3yd := Lib.hid (L2yd.out.ext hb)
 have HV1q2q3 := Lib.hid (HV1q2.out.ext hb)
 have HV2q3 := Lib.hid (HV2.out.ext hb)
 have HV3 := Lib.hid hv
 refine hK.out _ _ (fun _ => ⟨VX3.out.c0, VX3.out.c1, VX3.out.c2, VX3.out.c3, VY3.out.c0, VY3.out.c1, VY3.out.c2, VY3.out.c3⟩) ?_
 clear hK K
 try simp only [Act.put, putA, putZ, putC]
 clear hb hv
 have HV3 := HV3.out
 obtain ⟨rn, rnl, rnc, rd, rdl, rdc, rfl, -, -⟩ := HV3.form
 have HR := Lib.hid ((ret_rat_set (g := w.heap.size + 1 + 1) HB3.out (by omega) VR3.out HV3).of_eq (divInt_div x y))
 clear HV3
 have HRX := HR.out
 clear HR
 obtain ⟨rb, hrb⟩ : ∃ b, decide ((Rat.divInt (x.num * (y.den : Int)) ((x.den : Int) * y.num)).num < 0) = b := ⟨_, rfl⟩
 rw [hrb] at HRX ⊢
 have HR := Lib.hid HRX
 clear HRX hrb
 have HZ := Lib.hid (VR3.out.set (.bool rb) (.slice rn rnl rnc) (.bool false) (.slice rd rdl rdc))
 unfold set4 at HR HZ
 have r0 := VR3.out.c0
 have q0 := VR3.out.f0
 have r1 := VR3.out.c1
 have q1 := VR3.out.f1
 have r2 := VR3.out.c2
 have q2 := VR3.out.f2
 have r3 := VR3.out.c3
 have q3 := VR3.out.f3
 refine on1 11 fun K hK => ?_
 go_simp
 refine hK.out _ _ (fun h => absurd h (by decide)) ?_
 clear hK K r0 r1 r2 r3 q0 q1 q2 q3
 refine wpAnyC_done (by kernel_rfl) ?_ _
 go_wp2
 have z0 := HZ.out.c0
 have z1 := HZ.out.c1
 have z2 := HZ.out.c2
 have z3 := HZ.out.c3
 generalize ((((w3.setCell ⟨w.heap.size + 1 + 1, 0, none⟩ (.bool rb)).setCell ⟨w.heap.size + 1 + 1, 1, none⟩ (.slice rn rnl rnc)).setCell ⟨w.heap.size + 1 + 1, 2, none⟩ (.bool false)).setCell ⟨w.heap.size + 1 + 1, 3, none⟩ (.slice rd rdl rdc)) = W at *
 exact bodyPost_ret (v := .agg #[(.bool rb), (.slice rn rnl rnc), (.bool false), (.slice rd rdl rdc)]) (by simp [results, Tryz.results107, go_sem, z0, z1, z2, z3]) rfl HR.out
set_option maxRecDepth 100000 in
set_option maxHeartbeats 4000000 in
theorem raddp_any (u v : Value) (xp xq yp yq : Int) (w : World) (hx : Rp w u xp xq) (hy : Rp w v yp yq) (hxq : 0 < xq) (hyq : 0 < yq) {N : Nat} (hN : N ≤ 100000000) (fx : Fits N xp ∧ Fits N xq) (fy : Fits N yp ∧ Fits N yq) : Calls Tryz.prog 40 #[u, v] w (RetRt w (Rat.divInt (xp * yq + yp * xq) (xq * yq))) := by
 obtain ⟨xn, xnl, xnc, xd, xdl, xdc, rfl, hxn, hxd⟩ := hx.form hxq
 obtain ⟨yn, ynl, ync, yd, ydl, ydc, rfl, hyn, hyd⟩ := hy.form hyq
 obtain ⟨vx, vy, vr, hb0⟩ := boxes3 w (.bool (decide (xp < 0))) (.slice xn xnl xnc) (.bool false) (.slice xd xdl xdc) (.bool (decide (yp < 0))) (.slice yn ynl ync) (.bool false) (.slice yd ydl ydc) (.bool false) (.slice none 0 0) (.bool false) (.slice none 0 0)
 have Dxn := Lib.hid (hxn.ext hb0).drew
 have Dxd := Lib.hid (hxd.ext hb0).drew
 have VX := Lib.hid vx.drew
 have Dyn := Lib.hid (hyn.ext hb0).drew
 have Dyd := Lib.hid (hyd.ext hb0).drew
 have VY := Lib.hid vy.drew
 have VR := Lib.hid vr.drew
 have HB := Lib.hid hb0.drew
 obtain ⟨fxn, fxd⟩ := fx
 have FXN := Lib.hid fxn
 have FXD := Lib.hid fxd
 clear fxn fxd
 obtain ⟨fyn, fyd⟩ := fy
 have FYN := Lib.hid fyn
 have FYD := Lib.hid fyd
 clear fyn fyd
 clear vx vy vr hb0 hx hxn hxd hy hyn hyd
 generalize decide (xp < 0) = xb at *
 generalize decide (yp < 0) = yb at *
 unfold ratT at *
 go_enter Tryz.func40, Tryz.ntmps40
 go_upto_region 1 with (fail)
 generalize hW0 : (((w.alloc (Obj.cells #[Value.bool xb, Value.slice xn xnl xnc, Value.bool false, Value.slice xd xdl xdc] 71)).alloc (Obj.cells #[Value.bool yb, Value.slice yn ynl ync, Value.bool false, Value.slice yd ydl ydc] 71)).alloc (Obj.cells #[Value.bool false, Value.slice none 0 0, Value.bool false, Value.slice none 0 0] 71)) = W0 at *
 clear hW0
 refine wp_region_c (fun w' => w'.cell? ⟨w.heap.size, 0, none⟩ = some (.bool xb) ∧ w'.cell? ⟨w.heap.size, 1, none⟩ = some (.slice xn xnl xnc) ∧ w'.cell? ⟨w.heap.size, 2, none⟩ = some (.bool false) ∧ w'.cell? ⟨w.heap.size, 3, none⟩ = some (.slice xd xdl xdc) ∧ w'.cell? ⟨w.heap.size + 1, 0, none⟩ = some (.bool yb) ∧ w'.cell? ⟨w.heap.size + 1, 1, none⟩ = some (.slice yn ynl ync) ∧ w'.cell? ⟨w.heap.size + 1, 2, none⟩ = some (.bool false) ∧ w'.cell? ⟨w.heap.size + 1, 3, none⟩ = some (.slice yd ydl ydc)) 17 (by kernel_rfl) ?_
 refine tkS ⟨VX.out.c0, VX.out.c1, VX.out.c2, VX.out.c3, VY.out.c0, VY.out.c1, VY.out.c2, VY.out.c3⟩ fun hSS => ?_
 refine tq 0 (.pointer (some ⟨w.heap.size, 0, none⟩)) rfl ?_ hSS ?_
 ·rintro w ⟨s0, s1, s2, s3, s4, s5, s6, s7⟩
  go_simp
 try simp only [Act.put, List.setIfInBounds_toArray]
 refine tq 1 (.agg #[.bool xb, .slice xn xnl xnc]) rfl ?_ hSS ?_
 ·rintro w ⟨s0, s1, s2, s3, s4, s5, s6, s7⟩
  go_simp
 try simp only [Act.put]
 refine tq 2 (.pointer (some ⟨w.heap.size + 1, 2, none⟩)) rfl ?_ hSS ?_
 ·rintro w ⟨s0, s1, s2, s3, s4, s5, s6, s7⟩
  go_simp
 try simp only [Act.put]
 refine tq 3 (.agg #[.bool false, .slice yd ydl ydc]) rfl ?_ hSS ?_
 ·rintro w ⟨s0, s1, s2, s3, s4, s5, s6, s7⟩
  go_simp
 try simp only [Act.put]
 refine tq 5 (.pointer (some ⟨w.heap.size + 1, 0, none⟩)) rfl ?_ hSS ?_
 ·rintro w ⟨s0, s1, s2, s3, s4, s5, s6, s7⟩
  go_simp
 try simp only [Act.put]
 refine tq 6 (.agg #[.bool yb, .slice yn ynl ync]) rfl ?_ hSS ?_
 ·rintro w ⟨s0, s1, s2, s3, s4, s5, s6, s7⟩
  go_simp
 try simp only [Act.put]
 refine tq 7 (.pointer (some ⟨w.heap.size, 2, none⟩)) rfl ?_ hSS ?_
 ·rintro w ⟨s0, s1, s2, s3, s4, s5, s6, s7⟩
  go_simp
 try simp only [Act.put]
 refine tq 8 (.agg #[.bool false, .slice xd xdl xdc]) rfl ?_ hSS ?_
 ·rintro w ⟨s0, s1, s2, s3, s4, s5, s6, s7⟩
  go_simp
 try simp only [Act.put]
 refine tq 11 (.pointer (some ⟨w.heap.size, 2, none⟩)) rfl ?_ hSS ?_
 ·rintro w ⟨s0, s1, s2, s3, s4, s5, s6, s7⟩
  go_simp
 try simp only [Act.put]
 refine tq 12 (.agg #[.bool false, .slice xd xdl xdc]) rfl ?_ hSS ?_
 ·rintro w ⟨s0, s1, s2, s3, s4, s5, s6, s7⟩
  go_simp
 try simp only [Act.put]
 refine tq 13 (.pointer (some ⟨w.heap.size + 1, 2, none⟩)) rfl ?_ hSS ?_
 ·rintro w ⟨s0, s1, s2, s3, s4, s5, s6, s7⟩
  go_simp
 try simp only [Act.put]
 refine tq 14 (.agg #[.bool false, .slice yd ydl ydc]) rfl ?_ hSS ?_
 ·rintro w ⟨s0, s1, s2, s3, s4, s5, s6, s7⟩
  go_simp
 try simp only [Act.put]
 refine on1 4 fun K hK => ?_
 go_simp
 go_at_call 76
 refine (mul_any _ _ xp yq _ Dxn.out Dyd.out (N := N) (by omega) FXN.out FYD.out).mono ?_
 rintro e w1 ⟨v1, rfl, hv, hb⟩
 obtain ⟨A1, l1, c1, rfl⟩ := hv.form
 have HB1 := Lib.hid (HB.out.trans (hb.mono HB.out.size))
 have VX1 := Lib.hid (VX.out.below hb)
 have VY1 := Lib.hid (VY.out.below hb)
 have VR1 := Lib.hid (VR.out.below hb)
 have L1xn := Lib.hid (Dxn.out.ext hb)
 have L1xd := Lib.hid (Dxd.out.ext hb)
 have L1yn := Lib.hid (Dyn.out.ext hb)
 have L1yd := Lib.hid (Dyd.out.ext hb)
 have HV1 := Lib.hid hv
 refine hK.out _ _ (fun _ => ⟨VX1.out.c0, VX1.out.c1, VX1.out.c2, VX1.out.c3, VY1.out.c0, VY1.out.c1, VY1.out.c2, VY1.out.c3⟩) ?_
 clear hK K
 try simp only [Act.put, putA, putZ, putC]
 clear hb hv
 refine on1 9 fun K hK => ?_
 go_simp
 go_at_call 76
 refine (mul_any _ _ yp xq _ L1yn.out L1xd.out (N := N) (by omega) FYN.out FXD.out).mono ?_
 rintro e w2 ⟨v2, rfl, hv, hb⟩
 obtain ⟨A2, l2, c2, rfl⟩ := hv.form
 have HB2 := Lib.hid (HB1.out.trans (hb.mono HB1.out.size))
 have VX2 := Lib.hid (VX1.out.below hb)
 have VY2 := Lib.hid (VY1.out.below hb)
 have VR2 := Lib.hid (VR1.out.below hb)
 have L2xn := Lib.hid (L1xn.out.ext hb)
 have L2xd := Lib.hid (L1xd.out.ext hb)
 have L2yn := Lib.hid (L1yn.out.ext hb)
 have L2yd := Lib.hid (L1yd.out.ext hb)
 have HV1q2 := Lib.hid (HV1.out.ext hb)
 have HV2 := Lib.hid hv
 refine hK.out _ _ (fun _ => ⟨VX2.out.c0, VX2.out.c1, VX2.out.c2, VX2.out.c3, VY2.out.c0, VY2.out.c1, VY2.out.c2, VY2.out.c3⟩) ?_
 clear hK K
 try simp only [Act.put, putA, putZ, putC]
 clear hb hv
 refine on1 10 fun K hK => ?_
 go_simp
 go_at_call 77
 refine (add_any _ _ (xp * yq) (yp * xq) _ HV1q2.out HV2.out (N := N + N) (by omega) (FXN.out.mul FYD.out) (FYN.out.mul FXD.out)).mono ?_
 rintro e w3 ⟨v3, rfl, hv, hb⟩
 obtain ⟨A3, l3, c3, rfl⟩ := hv.form
 have HB3 := Lib.hid (HB2.out.trans (hb.mono HB2.out.size))
 have VX3 := Lib.hid (VX2.out.below hb)
 have VY3 := Lib.hid (VY2.out.below hb)
 have VR3 := Lib.hid (VR2.out.below hb)
 have L3xn := Lib.hid (L2xn.out.ext hb)
 have L3xd := Lib.hid (L2xd.out.ext hb)
 have L3yn := Lib.hid (L2yn.out.ext hb)
 have L3yd := Lib.hid (L2yd.out.ext hb)
 have HV3 := Lib.hid hv
 refine hK.out _ _ (fun _ => ⟨VX3.out.c0, VX3.out.c1, VX3.out.c2, VX3.out.c3, VY3.out.c0, VY3.out.c1, VY3.out.c2, VY3.out.c3⟩) ?_
 clear hK K
 try simp only [Act.put, putA, putZ, putC]
 clear hb hv
 refine on1 15 fun K hK => ?_
 go_simp
 go_at_call 76
 refine (mul_any _ _ xq yq _ L3xd.out L3yd.out (N := N) (by omega) FXD.out FYD.out).mono ?_
 rintro e w4 ⟨v4, rfl, hv, hb⟩
 obtain ⟨A4, l4, c4, rfl⟩ := hv.form
 have HB4 := Lib.hid (HB3.out.trans (hb.mono HB3.out.size))
 have VX4 := Lib.hid (VX3.out.below hb)
 have VY4 := Lib.hid (VY3.out.below hb)
 have VR4 := Lib.hid (VR3.out.below hb)
 have L4xn := Lib.hid (L3xn.out.ext hb)
 have L4xd := Lib.hid (L3xd.out.ext hb)
 have L4yn := Lib.hid (L3yn.out.ext hb)
 have L4yd := Lib.hid (L3yd.out.ext hb)
 have HV3q4 := Lib.hid (HV3.out.ext hb)
 have HV4 := Lib.hid hv
 refine hK.out _ _ (fun _ => ⟨VX4.out.c0, VX4.out.c1, VX4.out.c2, VX4.out.c3, VY4.out.c0, VY4.out.c1, VY4.out.c2, VY4.out.c3⟩) ?_
 clear hK K
 try simp only [Act.put, putA, putZ, putC]
 clear hb hv
 refine on1 16 fun K hK => ?_
 go_simp
 go_at_call 75
 refine (ratio_any _ _ ((xp * yq) + (yp * xq)) (xq * yq) _ HV3q4.out HV4.out (mul_ne (show xq ≠ 0 by omega) (show yq ≠ 0 by omega)) (N := N + N + 1) (by omega) (((FXN.out.mul FYD.out).add (FYN.out.mul FXD.out)).mono (by omega)) ((FXD.out.mul FYD.out).mono (by omega))).mono ?_
 rintro e w5 ⟨v5, rfl, hv, hb⟩
 have HB5 := Lib.hid (HB4.out.trans (hb.mono HB4.out.size))
 have VX5 := Lib.hid (VX4.out.below hb)
 have VY5 := Lib.hid (VY4.out.below hb)
 have VR5 := Lib.hid (VR4.out.below hb)
 have L5xn := Lib.hid (L4xn.out.ext hb)
 have L5xd := Lib.hid (L4xd.out.ext hb)
 have L5yn := Lib.hid (L4yn.out.ext hb)
 have L5yd := Lib.hid (L4yd.out.ext hb)
 have HV3q4q5 := Lib.hid (HV3q4.out.ext hb)
 have HV4q5 := Lib.hid (HV4.out.ext hb)
 have HV5 := Lib.hid hv
 refine hK.out _ _ (fun _ => ⟨VX5.out.c0, VX5.out.c1, VX5.out.c2, VX5.out.c3, VY5.out.c0, VY5.out.c1, VY5.out.c2, VY5.out.c3⟩) ?_
 clear hK K
 try simp only [Act.put, putA, putZ, putC]
 clear hb hv
 have HV5 := HV5.out
 obtain ⟨rn, rnl, rnc, rd, rdl, rdc, rfl, -, -⟩ := HV5.form
 have HR := Lib.hid ((ret_rat_set (g := w.heap.size + 1 + 1) HB5.out (by omega) VR5.out HV5))
 clear HV5
 have HRX := HR.out
 clear HR
 obtain ⟨rb, hrb⟩ : ∃ b, decide ((Rat.divInt ((xp * yq) + (yp * xq)) (xq * yq)).num < 0) = b := ⟨_, rfl⟩
 rw [hrb] at HRX ⊢
 have HR := Lib.hid HRX
 clear HRX hrb
 have HZ := Lib.hid (VR5.out.set (.bool rb) (.slice rn rnl rnc) (.bool false) (.slice rd rdl rdc))
 unfold set4 at HR HZ
 have r0 := VR5.out.c0
 have q0 := VR5.out.f0
 have r1 := VR5.out.c1
 have q1 := VR5.out.f1
 have r2 := VR5.out.c2
 have q2 := VR5.out.f2
 have r3 := VR5.out.c3
 have q3 := VR5.out.f3
 refine on1 17 fun K hK => ?_
 go_simp
 refine hK.out _ _ (fun h => absurd h (by decide)) ?_
 clear hK K r0 r1 r2 r3 q0 q1 q2 q3
 refine wpAnyC_done (by kernel_rfl) ?_ _
 go_wp2
 have z0 := HZ.out.c0
 have z1 := HZ.out.c1
 have z2 := HZ.out.c2
 have z3 := HZ.out.c3
 generalize ((((w5.setCell ⟨w.heap.size + 1 + 1, 0, none⟩ (.bool rb)).setCell ⟨w.heap.size + 1 + 1, 1, none⟩ (.slice rn rnl rnc)).setCell ⟨w.heap.size + 1 + 1, 2, none⟩ (.bool false)).setCell ⟨w.heap.size + 1 + 1, 3, none⟩ (.slice rd rdl rdc)) = W at *
 exact bodyPost_ret (v := .agg #[(.bool rb), (.slice rn rnl rnc), (.bool false), (.slice rd rdl rdc)]) (by simp [results, Tryz.results40, go_sem, z0, z1, z2, z3]) rfl HR.out
theorem radd_any (u v : Value) (x y : Rat) (w : World) (hx : Rt w u x) (hy : Rt w v y) {N : Nat} (hN : N ≤ 100000000) (fx : FitR N x) (fy : FitR N y) : Calls Tryz.prog 40 #[u, v] w (RetRt w (x + y)) :=
 (raddp_any u v _ _ _ _ w hx.pair hy.pair (den_pos x) (den_pos y) hN fx fy).mono fun _ _ h => h.of_eq (divInt_add x y)
end Go.Proofs.YtcgfdfdcbamceaaGreatDoor
