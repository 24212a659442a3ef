/- large.Rat: Neg, Sub, Cmp. nat.Check, nat.two, nat.text. nat.two and nat.text. strings.Cut at "/". -/
import Derived.Test.YtcgfdfdcbamceaaGreatDoorXAU
import Derived.Test.YtcgfdfdcbamceaaGreatDoorXAP
import Derived.Lib.ConvBytes
import Derived.Lib.SlicesS
import Derived.LoopN
import Derived.Test.YtcgfdfdcbamceaaGreatDoorXG
import Derived.OwnWalk
namespace Go.Proofs.YtcgfdfdcbamceaaGreatDoor
open Go.RowKit
set_option maxRecDepth 100000 in
set_option maxHeartbeats 4000000 in
theorem rneg_any (u : Value) (x : Rat) (w : World) (hx : Rt w u x) : Calls Tryz.prog 56 #[u] w (RetRt w (-x)) := by
 obtain ⟨xn, xnl, xnc, xd, xdl, xdc, rfl, hxn, hxd⟩ := hx.form
 obtain ⟨vx, vr, hb0⟩ := boxes2 w (.bool (decide (x.num < 0))) (.slice xn xnl xnc) (.bool false) (.slice xd xdl xdc) (.bool false) (.slice none 0 0) (.bool false) (.slice none 0 0)
 have Dxn := Lib.hid (hxn.ext hb0).drew
 have Dxd := Lib.hid (hxd.ext hb0).drew
 have VX := Lib.hid vx.drew
 have VR := Lib.hid vr.drew
 have HB := Lib.hid hb0.drew
 clear vx vr hb0 hx hxn hxd
 generalize decide (x.num < 0) = xb at *
 unfold ratT at *
 go_enter Tryz.func56, Tryz.ntmps56
 go_upto_region 1 with (fail)
 generalize hW0 : ((w.alloc (Obj.cells #[Value.bool xb, Value.slice xn xnl xnc, Value.bool false, Value.slice xd xdl xdc] 71)).alloc (Obj.cells #[Value.bool false, Value.slice none 0 0, Value.bool false, Value.slice none 0 0] 71)) = W0 at *
 clear hW0
 refine wp_region_c (fun w' => w'.cell? ⟨w.heap.size, 0, none⟩ = some (.bool xb) ∧ w'.cell? ⟨w.heap.size, 1, none⟩ = some (.slice xn xnl xnc) ∧ w'.cell? ⟨w.heap.size, 2, none⟩ = some (.bool false) ∧ w'.cell? ⟨w.heap.size, 3, none⟩ = some (.slice xd xdl xdc)) 6 (by kernel_rfl) ?_
 refine tkS ⟨VX.out.c0, VX.out.c1, VX.out.c2, VX.out.c3⟩ fun hSS => ?_
 refine tq 0 (.pointer (some ⟨w.heap.size, 0, none⟩)) rfl ?_ hSS ?_
 ·rintro w ⟨s0, s1, s2, s3⟩
  go_simp
 try simp only [Act.put, List.setIfInBounds_toArray]
 refine tq 1 (.agg #[.bool xb, .slice xn xnl xnc]) rfl ?_ hSS ?_
 ·rintro w ⟨s0, s1, s2, s3⟩
  go_simp
 try simp only [Act.put]
 refine tq 3 (.pointer (some ⟨w.heap.size, 2, none⟩)) rfl ?_ hSS ?_
 ·rintro w ⟨s0, s1, s2, s3⟩
  go_simp
 try simp only [Act.put]
 refine tq 4 (.agg #[.bool false, .slice xd xdl xdc]) rfl ?_ hSS ?_
 ·rintro w ⟨s0, s1, s2, s3⟩
  go_simp
 try simp only [Act.put]
 refine on1 2 fun K hK => ?_
 go_simp
 go_at_call 83
 refine (neg_any _ x.num _ Dxn.out).mono ?_
 rintro e w1 ⟨v1, rfl, hv, hb⟩
 obtain ⟨nb, A1, l1, c1, rfl⟩ := hv.ofWords
 have HB1 := Lib.hid (HB.out.trans (hb.mono HB.out.size))
 have VX1 := Lib.hid (VX.out.below hb)
 have VR1 := Lib.hid (VR.out.below hb)
 have L1xn := Lib.hid (Dxn.out.ext hb)
 have L1xd := Lib.hid (Dxd.out.ext hb)
 have HV1 := Lib.hid hv
 refine hK.out _ _ (fun _ => ⟨VX1.out.c0, VX1.out.c1, VX1.out.c2, VX1.out.c3⟩) ?_
 clear hK K
 try simp only [Act.put, putA, putZ, putC]
 clear hb hv
 refine on1 5 fun K hK => ?_
 go_simp
 refine hK.out _ _ (fun _ => ⟨VX1.out.c0, VX1.out.c1, VX1.out.c2, VX1.out.c3⟩) ?_
 clear hK K
 try simp only [Act.put, putA, putZ, putC]
 have HR := Lib.hid (show RetRt w (-x) (.returned (.agg #[.bool nb, .slice A1 l1 c1, .bool false, .slice xd xdl xdc])) _ from ret_rat_set (g := w.heap.size + 1) HB1.out (by omega) VR1.out (Rt.mk (q := -x) HV1.out L1xd.out))
 have HZ := Lib.hid (VR1.out.set (.bool nb) (.slice A1 l1 c1) (.bool false) (.slice xd xdl xdc))
 unfold set4 at HR HZ
 have r0 := VR1.out.c0
 have q0 := VR1.out.f0
 have r1 := VR1.out.c1
 have q1 := VR1.out.f1
 have r2 := VR1.out.c2
 have q2 := VR1.out.f2
 have r3 := VR1.out.c3
 have q3 := VR1.out.f3
 refine on1 6 fun K hK => ?_
 go_simp
 refine hK.out _ _ (fun h => absurd h (by decide)) ?_
 clear hK K r0 r1 r2 r3 q0 q1 q2 q3
 refine wpAnyC_done (by kernel_rfl) ?_ _
 go_wp2
 have z0 := HZ.out.c0
 have z1 := HZ.out.c1
 have z2 := HZ.out.c2
 have z3 := HZ.out.c3
 generalize ((((w1.setCell ⟨w.heap.size + 1, 0, none⟩ (.bool nb)).setCell ⟨w.heap.size + 1, 1, none⟩ (.slice A1 l1 c1)).setCell ⟨w.heap.size + 1, 2, none⟩ (.bool false)).setCell ⟨w.heap.size + 1, 3, none⟩ (.slice xd xdl xdc)) = W at *
 exact bodyPost_ret (v := .agg #[(.bool nb), (.slice A1 l1 c1), (.bool false), (.slice xd xdl xdc)]) (by simp [results, Tryz.results56, go_sem, z0, z1, z2, z3]) rfl HR.out
set_option maxRecDepth 100000 in
set_option maxHeartbeats 4000000 in
theorem rsub_any (u v : Value) (x y : Rat) (w : World) (hx : Rt w u x) (hy : Rt w v y) {N : Nat} (hN : N ≤ 100000000) (fx : FitR N x) (fy : FitR N y) : Calls Tryz.prog 88 #[u, v] w (RetRt w (x - y)) := by
 obtain ⟨xn, xnl, xnc, xd, xdl, xdc, rfl, hxn, hxd⟩ := hx.form
 obtain ⟨yn, ynl, ync, yd, ydl, ydc, rfl, hyn, hyd⟩ := hy.form
 obtain ⟨vx, vy, vr, hb0⟩ := boxes3 w (.bool (decide (x.num < 0))) (.slice xn xnl xnc) (.bool false) (.slice xd xdl xdc) (.bool (decide (y.num < 0))) (.slice yn ynl ync) (.bool false) (.slice yd ydl ydc) (.bool false) (.slice none 0 0) (.bool false) (.slice none 0 0)
 have Dxn := Lib.hid (hxn.ext hb0).drew
 have Dxd := Lib.hid (hxd.ext hb0).drew
 have VX := Lib.hid vx.drew
 have Dyn := Lib.hid (hyn.ext hb0).drew
 have Dyd := Lib.hid (hyd.ext hb0).drew
 have VY := Lib.hid vy.drew
 have VR := Lib.hid vr.drew
 have HB := Lib.hid hb0.drew
 obtain ⟨fxn, fxd⟩ := fx
 have FXN := Lib.hid fxn
 have FXD := Lib.hid fxd
 clear fxn fxd
 obtain ⟨fyn, fyd⟩ := fy
 have FYN := Lib.hid fyn
 have FYD := Lib.hid fyd
 clear fyn fyd
 clear vx vy vr hb0 hx hxn hxd hy hyn hyd
 generalize decide (x.num < 0) = xb at *
 generalize decide (y.num < 0) = yb at *
 unfold ratT at *
 go_enter Tryz.func88, Tryz.ntmps88
 go_upto_region 1 with (fail)
 generalize hW0 : (((w.alloc (Obj.cells #[Value.bool xb, Value.slice xn xnl xnc, Value.bool false, Value.slice xd xdl xdc] 71)).alloc (Obj.cells #[Value.bool yb, Value.slice yn ynl ync, Value.bool false, Value.slice yd ydl ydc] 71)).alloc (Obj.cells #[Value.bool false, Value.slice none 0 0, Value.bool false, Value.slice none 0 0] 71)) = W0 at *
 clear hW0
 refine wp_region_c (fun w' => w'.cell? ⟨w.heap.size, 0, none⟩ = some (.bool xb) ∧ w'.cell? ⟨w.heap.size, 1, none⟩ = some (.slice xn xnl xnc) ∧ w'.cell? ⟨w.heap.size, 2, none⟩ = some (.bool false) ∧ w'.cell? ⟨w.heap.size, 3, none⟩ = some (.slice xd xdl xdc) ∧ w'.cell? ⟨w.heap.size + 1, 0, none⟩ = some (.bool yb) ∧ w'.cell? ⟨w.heap.size + 1, 1, none⟩ = some (.slice yn ynl ync) ∧ w'.cell? ⟨w.heap.size + 1, 2, none⟩ = some (.bool false) ∧ w'.cell? ⟨w.heap.size + 1, 3, none⟩ = some (.slice yd ydl ydc)) 4 (by kernel_rfl) ?_
 refine tkS ⟨VX.out.c0, VX.out.c1, VX.out.c2, VX.out.c3, VY.out.c0, VY.out.c1, VY.out.c2, VY.out.c3⟩ fun hSS => ?_
 refine tq 0 (.agg #[.bool xb, .slice xn xnl xnc, .bool false, .slice xd xdl xdc]) rfl ?_ hSS ?_
 ·rintro w ⟨s0, s1, s2, s3, s4, s5, s6, s7⟩
  go_simp
 try simp only [Act.put, List.setIfInBounds_toArray]
 refine tq 1 (.agg #[.bool yb, .slice yn ynl ync, .bool false, .slice yd ydl ydc]) rfl ?_ hSS ?_
 ·rintro w ⟨s0, s1, s2, s3, s4, s5, s6, s7⟩
  go_simp
 try simp only [Act.put]
 refine on1 2 fun K hK => ?_
 go_simp
 go_at_call 56
 refine (rneg_any _ y _ (Rt.mk Dyn.out Dyd.out)).mono ?_
 rintro e w1 ⟨v1, rfl, hv, hb⟩
 have HB1 := Lib.hid (HB.out.trans (hb.mono HB.out.size))
 have VX1 := Lib.hid (VX.out.below hb)
 have VY1 := Lib.hid (VY.out.below hb)
 have VR1 := Lib.hid (VR.out.below hb)
 have L1xn := Lib.hid (Dxn.out.ext hb)
 have L1xd := Lib.hid (Dxd.out.ext hb)
 have L1yn := Lib.hid (Dyn.out.ext hb)
 have L1yd := Lib.hid (Dyd.out.ext hb)
 have HV1 := Lib.hid hv
 refine hK.out _ _ (fun _ => ⟨VX1.out.c0, VX1.out.c1, VX1.out.c2, VX1.out.c3, VY1.out.c0, VY1.out.c1, VY1.out.c2, VY1.out.c3⟩) ?_
 clear hK K
 try simp only [Act.put, putA, putZ, putC]
 clear hb hv
 refine on1 3 fun K hK => ?_
 go_simp
 go_at_call 40
 refine (radd_any _ _ x (-y) _ (Rt.mk L1xn.out L1xd.out) HV1.out (N := N) hN ⟨FXN.out, FXD.out⟩ ⟨FYN.out.neg, FYD.out⟩).mono ?_
 rintro e w2 ⟨v2, rfl, hv, hb⟩
 have HB2 := Lib.hid (HB1.out.trans (hb.mono HB1.out.size))
 have VX2 := Lib.hid (VX1.out.below hb)
 have VY2 := Lib.hid (VY1.out.below hb)
 have VR2 := Lib.hid (VR1.out.below hb)
 have L2xn := Lib.hid (L1xn.out.ext hb)
 have L2xd := Lib.hid (L1xd.out.ext hb)
 have L2yn := Lib.hid (L1yn.out.ext hb)
 have L2yd := Lib.hid (L1yd.out.ext hb)
 have HV2 := Lib.hid hv
 refine hK.out _ _ (fun _ => ⟨VX2.out.c0, VX2.out.c1, VX2.out.c2, VX2.out.c3, VY2.out.c0, VY2.out.c1, VY2.out.c2, VY2.out.c3⟩) ?_
 clear hK K
 try simp only [Act.put, putA, putZ, putC]
 clear hb hv
 have HV2 := HV2.out
 obtain ⟨rn, rnl, rnc, rd, rdl, rdc, rfl, -, -⟩ := HV2.form
 have HR := Lib.hid ((ret_rat_set (g := w.heap.size + 1 + 1) HB2.out (by omega) VR2.out HV2).of_eq ((Rat.sub_eq_add_neg x y).symm))
 clear HV2
 have HRX := HR.out
 clear HR
 obtain ⟨rb, hrb⟩ : ∃ b, decide ((x + -y).num < 0) = b := ⟨_, rfl⟩
 rw [hrb] at HRX ⊢
 have HR := Lib.hid HRX
 clear HRX hrb
 have HZ := Lib.hid (VR2.out.set (.bool rb) (.slice rn rnl rnc) (.bool false) (.slice rd rdl rdc))
 unfold set4 at HR HZ
 have r0 := VR2.out.c0
 have q0 := VR2.out.f0
 have r1 := VR2.out.c1
 have q1 := VR2.out.f1
 have r2 := VR2.out.c2
 have q2 := VR2.out.f2
 have r3 := VR2.out.c3
 have q3 := VR2.out.f3
 refine on1 4 fun K hK => ?_
 go_simp
 refine hK.out _ _ (fun h => absurd h (by decide)) ?_
 clear hK K r0 r1 r2 r3 q0 q1 q2 q3
 refine wpAnyC_done (by kernel_rfl) ?_ _
 go_wp2
 have z0 := HZ.out.c0
 have z1 := HZ.out.c1
 have z2 := HZ.out.c2
 have z3 := HZ.out.c3
 generalize ((((w2.setCell ⟨w.heap.size + 1 + 1, 0, none⟩ (.bool rb)).setCell ⟨w.heap.size + 1 + 1, 1, none⟩ (.slice rn rnl rnc)).setCell ⟨w.heap.size + 1 + 1, 2, none⟩ (.bool false)).setCell ⟨w.heap.size + 1 + 1, 3, none⟩ (.slice rd rdl rdc)) = W at *
 exact bodyPost_ret (v := .agg #[(.bool rb), (.slice rn rnl rnc), (.bool false), (.slice rd rdl rdc)]) (by simp [results, Tryz.results88, go_sem, z0, z1, z2, z3]) rfl HR.out
set_option maxRecDepth 100000 in
set_option maxHeartbeats 4000000 in
theorem rcmpp_any (u v : Value) (xp xq yp yq : Int) (w : World) (hx : Rp w u xp xq) (hy : Rp w v yp yq) (hxq : 0 < xq) (hyq : 0 < yq) {N : Nat} (hN : N ≤ 100000000) (fx : Fits N xp ∧ Fits N xq) (fy : Fits N yp ∧ Fits N yq) : Calls Tryz.prog 49 #[u, v] w (fun e w' => e = .returned (I (xp * yq - yp * xq).sign) ∧ Below w.heap.size w w') := by
 obtain ⟨xn, xnl, xnc, xd, xdl, xdc, rfl, hxn, hxd⟩ := hx.form hxq
 obtain ⟨yn, ynl, ync, yd, ydl, ydc, rfl, hyn, hyd⟩ := hy.form hyq
 obtain ⟨vx, vy, hb0⟩ := boxes2 w (.bool (decide (xp < 0))) (.slice xn xnl xnc) (.bool false) (.slice xd xdl xdc) (.bool (decide (yp < 0))) (.slice yn ynl ync) (.bool false) (.slice yd ydl ydc)
 have Dxn := Lib.hid (hxn.ext hb0).drew
 have Dxd := Lib.hid (hxd.ext hb0).drew
 have VX := Lib.hid vx.drew
 have Dyn := Lib.hid (hyn.ext hb0).drew
 have Dyd := Lib.hid (hyd.ext hb0).drew
 have VY := Lib.hid vy.drew
 have HB := Lib.hid hb0.drew
 obtain ⟨fxn, fxd⟩ := fx
 have FXN := Lib.hid fxn
 have FXD := Lib.hid fxd
 clear fxn fxd
 obtain ⟨fyn, fyd⟩ := fy
 have FYN := Lib.hid fyn
 have FYD := Lib.hid fyd
 clear fyn fyd
 clear vx vy hb0 hx hxn hxd hy hyn hyd
 generalize decide (xp < 0) = xb at *
 generalize decide (yp < 0) = yb at *
 unfold ratT at *
 go_enter Tryz.func49, Tryz.ntmps49
 go_upto_region 1 with (fail)
 generalize hW0 : ((w.alloc (Obj.cells #[Value.bool xb, Value.slice xn xnl xnc, Value.bool false, Value.slice xd xdl xdc] 71)).alloc (Obj.cells #[Value.bool yb, Value.slice yn ynl ync, Value.bool false, Value.slice yd ydl ydc] 71)) = W0 at *
 clear hW0
 refine wp_region_c (fun w' => w'.cell? ⟨w.heap.size, 0, none⟩ = some (.bool xb) ∧ w'.cell? ⟨w.heap.size, 1, none⟩ = some (.slice xn xnl xnc) ∧ w'.cell? ⟨w.heap.size, 2, none⟩ = some (.bool false) ∧ w'.cell? ⟨w.heap.size, 3, none⟩ = some (.slice xd xdl xdc) ∧ w'.cell? ⟨w.heap.size + 1, 0, none⟩ = some (.bool yb) ∧ w'.cell? ⟨w.heap.size + 1, 1, none⟩ = some (.slice yn ynl ync) ∧ w'.cell? ⟨w.heap.size + 1, 2, none⟩ = some (.bool false) ∧ w'.cell? ⟨w.heap.size + 1, 3, none⟩ = some (.slice yd ydl ydc)) 11 (by kernel_rfl) ?_
 refine tkS ⟨VX.out.c0, VX.out.c1, VX.out.c2, VX.out.c3, VY.out.c0, VY.out.c1, VY.out.c2, VY.out.c3⟩ fun hSS => ?_
 refine tq 0 (.pointer (some ⟨w.heap.size, 0, none⟩)) rfl ?_ hSS ?_
 ·rintro w ⟨s0, s1, s2, s3, s4, s5, s6, s7⟩
  go_simp
 try simp only [Act.put, List.setIfInBounds_toArray]
 refine tq 1 (.agg #[.bool xb, .slice xn xnl xnc]) rfl ?_ hSS ?_
 ·rintro w ⟨s0, s1, s2, s3, s4, s5, s6, s7⟩
  go_simp
 try simp only [Act.put]
 refine tq 2 (.pointer (some ⟨w.heap.size + 1, 2, none⟩)) rfl ?_ hSS ?_
 ·rintro w ⟨s0, s1, s2, s3, s4, s5, s6, s7⟩
  go_simp
 try simp only [Act.put]
 refine tq 3 (.agg #[.bool false, .slice yd ydl ydc]) rfl ?_ hSS ?_
 ·rintro w ⟨s0, s1, s2, s3, s4, s5, s6, s7⟩
  go_simp
 try simp only [Act.put]
 refine tq 5 (.pointer (some ⟨w.heap.size + 1, 0, none⟩)) rfl ?_ hSS ?_
 ·rintro w ⟨s0, s1, s2, s3, s4, s5, s6, s7⟩
  go_simp
 try simp only [Act.put]
 refine tq 6 (.agg #[.bool yb, .slice yn ynl ync]) rfl ?_ hSS ?_
 ·rintro w ⟨s0, s1, s2, s3, s4, s5, s6, s7⟩
  go_simp
 try simp only [Act.put]
 refine tq 7 (.pointer (some ⟨w.heap.size, 2, none⟩)) rfl ?_ hSS ?_
 ·rintro w ⟨s0, s1, s2, s3, s4, s5, s6, s7⟩
  go_simp
 try simp only [Act.put]
 refine tq 8 (.agg #[.bool false, .slice xd xdl xdc]) rfl ?_ hSS ?_
 ·rintro w ⟨s0, s1, s2, s3, s4, s5, s6, s7⟩
  go_simp
 try simp only [Act.put]
 refine on1 4 fun K hK => ?_
 go_simp
 go_at_call 76
 refine (mul_any _ _ xp yq _ Dxn.out Dyd.out (N := N) (by omega) FXN.out FYD.out).mono ?_
 rintro e w1 ⟨v1, rfl, hv, hb⟩
 obtain ⟨A1, l1, c1, rfl⟩ := hv.form
 have HB1 := Lib.hid (HB.out.trans (hb.mono HB.out.size))
 have VX1 := Lib.hid (VX.out.below hb)
 have VY1 := Lib.hid (VY.out.below hb)
 have L1xn := Lib.hid (Dxn.out.ext hb)
 have L1xd := Lib.hid (Dxd.out.ext hb)
 have L1yn := Lib.hid (Dyn.out.ext hb)
 have L1yd := Lib.hid (Dyd.out.ext hb)
 have HV1 := Lib.hid hv
 refine hK.out _ _ (fun _ => ⟨VX1.out.c0, VX1.out.c1, VX1.out.c2, VX1.out.c3, VY1.out.c0, VY1.out.c1, VY1.out.c2, VY1.out.c3⟩) ?_
 clear hK K
 try simp only [Act.put, putA, putZ, putC]
 clear hb hv
 refine on1 9 fun K hK => ?_
 go_simp
 go_at_call 76
 refine (mul_any _ _ yp xq _ L1yn.out L1xd.out (N := N) (by omega) FYN.out FXD.out).mono ?_
 rintro e w2 ⟨v2, rfl, hv, hb⟩
 obtain ⟨A2, l2, c2, rfl⟩ := hv.form
 have HB2 := Lib.hid (HB1.out.trans (hb.mono HB1.out.size))
 have VX2 := Lib.hid (VX1.out.below hb)
 have VY2 := Lib.hid (VY1.out.below hb)
 have L2xn := Lib.hid (L1xn.out.ext hb)
 have L2xd := Lib.hid (L1xd.out.ext hb)
 have L2yn := Lib.hid (L1yn.out.ext hb)
 have L2yd := Lib.hid (L1yd.out.ext hb)
 have HV1q2 := Lib.hid (HV1.out.ext hb)
 have HV2 := Lib.hid hv
 refine hK.out _ _ (fun _ => ⟨VX2.out.c0, VX2.out.c1, VX2.out.c2, VX2.out.c3, VY2.out.c0, VY2.out.c1, VY2.out.c2, VY2.out.c3⟩) ?_
 clear hK K
 try simp only [Act.put, putA, putZ, putC]
 clear hb hv
 refine on1 10 fun K hK => ?_
 go_simp
 go_at_call 81
 refine (cmp_any _ _ (xp * yq) (yp * xq) _ HV1q2.out HV2.out (N := N + N) (by omega) (FXN.out.mul FYD.out) (FYN.out.mul FXD.out)).mono ?_
 rintro e w3 ⟨rfl, hb⟩
 have HB3 := Lib.hid (HB2.out.trans (hb.mono HB2.out.size))
 have VX3 := Lib.hid (VX2.out.below hb)
 have VY3 := Lib.hid (VY2.out.below hb)
 have L3xn := Lib.hid (L2xn.out.ext hb)
 have L3xd := Lib.hid (L2xd.out.ext hb)
 have L3yn := Lib.hid (L2yn.out.ext hb)
 have L3yd := Lib.hid (L2yd.out.ext hb)
 have HV1q2q3 := Lib.hid (HV1q2.out.ext hb)
 have HV2q3 := Lib.hid (HV2.out.ext hb)
 refine hK.out _ _ (fun _ => ⟨VX3.out.c0, VX3.out.c1, VX3.out.c2, VX3.out.c3, VY3.out.c0, VY3.out.c1, VY3.out.c2, VY3.out.c3⟩) ?_
 clear hK K
 try simp only [Act.put, putA, putZ, putC]
 clear hb
 refine on1 11 fun K hK => ?_
 go_simp
 refine hK.out _ _ (fun h => absurd h (by decide)) ?_
 clear hK K
 refine wpAnyC_done (by kernel_rfl) ?_ _
 go_wp2
 go_ret
 exact ⟨rfl, HB3.out⟩
theorem rcmp_any (u v : Value) (x y : Rat) (w : World) (hx : Rt w u x) (hy : Rt w v y) {N : Nat} (hN : N ≤ 100000000) (fx : FitR N x) (fy : FitR N y) : Calls Tryz.prog 49 #[u, v] w fun e w' => e = .returned (I (x.num * (y.den : Int) - y.num * (x.den : Int)).sign) ∧ Below w.heap.size w w' :=
 rcmpp_any u v _ _ _ _ w hx.pair hy.pair (den_pos x) (den_pos y) hN fx fy
def SL (s : ByteArray) : List UInt8 := s.data.toList
theorem SL_len (s : ByteArray) : (SL s).length = s.size := by simp [SL]
theorem SL_mk (l : List UInt8) : SL ⟨l.toArray⟩ = l := rfl
theorem SL_inj {s t : ByteArray} (h : SL s = SL t) : s = t := by
 obtain ⟨⟨s⟩⟩ := s
 obtain ⟨⟨t⟩⟩ := t
 simp only [SL] at h
 rw [h]
theorem chk_of {s : ByteArray} (h : digsB (SL s) = true) (h0 : s.size ≠ 0) (h1 : ¬ (1 < s.size ∧ ((SL s).getD 0 0).toNat = 48)) : chk (SL s) = if 2000 < s.size then 2 else 0 := by
 unfold chk
 rw [if_neg (by rw [h]; simp), if_neg, SL_len]
 rintro (e | ⟨e1, e2⟩)
 ·have := SL_len s
  rw [e] at this
  exact h0 this.symm
 ·rw [SL_len] at e1
  refine h1 ⟨e1, ?_⟩
  cases hl : SL s with
  | nil => rw [hl] at e2; cases e2
  | cons c l =>
   rw [hl, List.head?_cons] at e2
   rw [Option.some.inj e2]
   rfl
theorem chk_bad {s : ByteArray} (h : digsB (SL s) = false) : chk (SL s) = 5 := by unfold chk; rw [if_pos h]
theorem chk_empty {s : ByteArray} (h0 : s.size = 0) : chk (SL s) = 5 := by
 have : SL s = [] := List.eq_nil_of_length_eq_zero (by rw [SL_len]; exact h0)
 rw [this]; rfl
theorem chk_zero {s : ByteArray} (h : 1 < s.size) (h1 : ((SL s).getD 0 0).toNat = 48) : chk (SL s) = 5 := by
 unfold chk
 split
 ·rfl
 ·rw [if_pos]
  refine .inr ⟨by rw [SL_len]; exact h, ?_⟩
  cases hl : SL s with
  | nil => have := SL_len s; rw [hl] at this; simp at this; omega
  | cons c l =>
   rw [hl] at h1
   rw [List.head?_cons, show c = 48 from UInt8.toNat_inj.1 h1]
theorem byte_lt (s : ByteArray) (k : Nat) : ((SL s).getD k 0).toNat < 256 := UInt8.toNat_lt _
theorem beq_lit (s : ByteArray) (l L : List UInt8) (h : (⟨l.toArray⟩ : ByteArray).toList = L) : (s.toList == L) = decide (SL s = l) := by
 rw [← h]
 by_cases e : SL s = l
 ·rw [decide_eq_true e]
  exact (Lib.bytes_beq_iff _ _).2 (SL_inj e)
 ·rw [decide_eq_false e]
  exact (Lib.bytes_beq_false_iff _ _).2 fun k => e (by rw [k]; exact SL_mk l)
set_option maxRecDepth 100000 in
set_option maxHeartbeats 400000 in
theorem chk_any (s : ByteArray) (w : World) (hs : s.size ≤ 9223372036854775807) : Calls Tryz.prog 70 #[.string s] w fun e w' => e = .returned (I (chk (SL s))) ∧ Below w.heap.size w w' := by
 have hcv := Lib.run_convert_string_bytes (P := Tryz.prog) w 9 144 5 s Tryz.underlying9 Tryz.underlying144 Tryz.underlying5
 go_enter Tryz.func70, Tryz.ntmps70
 go_wp2
 have HB : Hid (Below w.heap.size w (Lib.bytesWorld w 5 s)) := ⟨rfl, rfl, rfl, by rw [Lib.bytesWorld_size]; omega, fun j hj => Lib.bytesWorld_at_old w 5 s j hj⟩
 have HC := Lib.hid (fun j hj => Lib.bytesWorld_cell w 5 s j hj)
 clear hcv
 generalize Lib.bytesWorld w 5 s = wb at *
 generalize grownCap w s.size 0 5 = gc at *
 go_loopg [8] (s.size - 0) (fun r v wr => ∃ k : Nat, r = s.size - k ∧ v = I k ∧ k ≤ s.size ∧ wb = wr ∧ Hid (digsB (SL s) = digsB ((SL s).drop k)))
 case atStart => exact ⟨0, rfl, rfl, by omega, rfl, rfl⟩
 case round =>
  obtain ⟨k, rfl, rfl, hk, rfl, HO⟩ := hrel
  by_cases hlt : k < s.size
  ·have hc : wb.cell? ⟨w.heap.size, k, none⟩ = some (.int .u8 (((SL s).getD k 0).toNat : Int)) := by have := HC.out k hlt; simpa [SL] using this
   have hb := byte_lt s k
   have HO2 := Lib.hid (show digsB (SL s) = ((decide (48 ≤ ((SL s).getD k 0).toNat) && decide (((SL s).getD k 0).toNat ≤ 57)) && digsB ((SL s).drop (k + 1))) by
    have hk' : k < (SL s).length := by rw [SL_len]; exact hlt
    rw [HO.out, List.drop_eq_getElem_cons hk', digsB, List.all_cons, List.getD_eq_getElem?_getD, List.getElem?_eq_getElem hk']
    rfl)
   obtain ⟨x, hx⟩ : ∃ x, ((SL s).getD k 0).toNat = x := ⟨_, rfl⟩
   rw [hx] at hc hb HO2
   clear hx HO
   by_cases h1 : 48 ≤ x
   ·by_cases h2 : x ≤ 57
    ·have HO3 := Lib.hid (show digsB (SL s) = digsB ((SL s).drop (k + 1)) by rw [HO2.out, decide_eq_true h1, decide_eq_true h2]; rfl)
     go_wp2
     go_roundg (s.size - (k + 1))
     case measure => omega
     case rel => exact ⟨k + 1, rfl, by go_num, by omega, rfl, HO3⟩
    ·have HN := Lib.hid (chk_bad (s := s) (by rw [HO2.out, decide_eq_false h2]; simp))
     go_wp2
     go_ret
     exact ⟨ret_int HN.out.symm, HB.out⟩
   ·have HN := Lib.hid (chk_bad (s := s) (by rw [HO2.out, decide_eq_false h1]; simp))
    go_wp2
    go_ret
    exact ⟨ret_int HN.out.symm, HB.out⟩
  ·have HD := Lib.hid (show digsB (SL s) = true by
    have hk' : (SL s).drop k = [] := List.drop_of_length_le (by rw [SL_len]; omega)
    rw [HO.out, hk']; rfl)
   clear HO
   have te := beq_lit s [] [] (by decide +kernel)
   have el : SL s = [] ↔ s.size = 0 := by rw [← SL_len]; exact List.length_eq_zero_iff.symm
   by_cases h0 : s.size = 0
   ·have HN := Lib.hid (chk_empty h0)
    rw [decide_eq_true (el.2 h0)] at te
    clear el
    go_wp2
    go_ret
    exact ⟨ret_int HN.out.symm, HB.out⟩
   ·rw [decide_eq_false (fun k => h0 (el.1 k))] at te
    clear el
    by_cases h1 : 1 < s.size
    ·have e0 : (SL s).getD 0 0 = s[0]'(by omega) := by
      have : 0 < (SL s).length := by rw [SL_len]; omega
      rw [List.getD_eq_getElem?_getD, List.getElem?_eq_getElem this]
      rfl
     by_cases h48 : (s[0]'(by omega)).toNat = 48
     ·have HX := Lib.hid (chk_zero h1 (by rw [e0]; exact h48))
      have t48 : (((s[0]'(by omega)).toNat : Int) == 48) = true := beq_iff_eq.2 (by omega)
      clear e0
      go_wp2
      go_ret
      exact ⟨ret_int HX.out.symm, HB.out⟩
     ·have t48 : (((s[0]'(by omega)).toNat : Int) == 48) = false := beq_eq_false_iff_ne.2 (by omega)
      have HY := Lib.hid (chk_of HD.out h0 (fun k => h48 (by rw [← e0]; exact k.2)))
      clear e0
      by_cases h2 : 2000 < s.size
      ·rw [if_pos h2] at HY
       go_wp2
       go_ret
       exact ⟨ret_int HY.out.symm, HB.out⟩
      ·rw [if_neg h2] at HY
       go_wp2
       go_ret
       exact ⟨ret_int HY.out.symm, HB.out⟩
    ·have HY := Lib.hid (chk_of HD.out h0 (fun k => h1 k.1))
     rw [if_neg (by omega)] at HY
     go_wp2
     go_ret
     exact ⟨ret_int HY.out.symm, HB.out⟩
theorem hasPrefix_dig {l : List UInt8} (h : Digs l) : Lib.hasPrefix l [45] = false := by
 cases l with
 | nil => rfl
 | cons c l =>
  have := h c List.mem_cons_self
  have hc : c ≠ 45 := fun e => by rw [e] at this; exact absurd this.1 (by decide)
  simp [Lib.hasPrefix, List.isPrefixOf, beq_eq_false_iff_ne.2 (Ne.symm hc)]
theorem trimPrefix_dig {l : List UInt8} (h : Digs l) : Lib.trimPrefix l [45] = l := by
 unfold Lib.trimPrefix
 rw [hasPrefix_dig h]
 rfl
theorem read_num (s : ByteArray) (w : World) (h : Num (SL s)) : Calls Tryz.prog 79 #[.string s] w (RetBig w (num (SL s) : Int)) :=
 read_any false (SL s) h.digs h.len s w (hasPrefix_dig h.digs) (trimPrefix_dig h.digs)
theorem index_two0 (s t : ByteArray) (w : World) : (Instr.index 169 (.agg #[.string s, .string t]) (.int .i64 0)).run Tryz.prog w = .ok (.string s) w := by kernel_rfl
theorem index_two1 (s t : ByteArray) (w : World) : (Instr.index 169 (.agg #[.string s, .string t]) (.int .i64 1)).run Tryz.prog w = .ok (.string t) w := by kernel_rfl
def TwoR (w : World) (s t : ByteArray) (e : Ending) (w' : World) : Prop := ∃ u v x y, e = .returned (.tuple #[u, v, I (natTwo (SL s) (SL t))]) ∧ Big w' u x ∧ Big w' v y ∧
 (natTwo (SL s) (SL t) = 0 → x = (num (SL s) : Int) ∧ y = (num (SL t) : Int)) ∧ Below w.heap.size w w'
theorem TwoR.bad {w w' : World} {s t : ByteArray} {c : Int} (hc : natTwo (SL s) (SL t) = c) (h0 : c ≠ 0) (hb : Below w.heap.size w w') : TwoR w s t (.returned (.tuple #[.agg #[.bool false, .slice none 0 0], .agg #[.bool false, .slice none 0 0], I c])) w' :=
 ⟨_, _, 0, 0, by rw [hc], big_zero _, big_zero _, fun k => absurd (hc.symm.trans k) h0, hb⟩
theorem TwoR.good {w w' : World} {s t : ByteArray} {u v : Value} (hc : natTwo (SL s) (SL t) = 0) (hu : Big w' u (num (SL s) : Int)) (hv : Big w' v (num (SL t) : Int)) (hb : Below w.heap.size w w') : TwoR w s t (.returned (.tuple #[u, v, I 0])) w' :=
 ⟨_, _, _, _, by rw [hc], hu, hv, fun _ => ⟨rfl, rfl⟩, hb⟩
set_option maxRecDepth 100000 in
set_option maxHeartbeats 1000000 in
theorem two_any (s t : ByteArray) (w : World) (hs : s.size ≤ 9223372036854775807) (ht : t.size ≤ 9223372036854775807) : Calls Tryz.prog 97 #[.string s, .string t] w (TwoR w s t) := by
 have hb1 : Below w.heap.size w ((w.alloc (.cells #[.bool false, .slice none 0 0] bigT)).alloc (.cells #[.bool false, .slice none 0 0] bigT)) := ((Below.refl _ _).alloc (Nat.le_refl _) _).alloc (by simp) _
 have V0 := Lib.hid ((Blk.new w bigT #[.bool false, .slice none 0 0]).alloc (.cells #[.bool false, .slice none 0 0] bigT)).var
 have V1 := (Blk.new (w.alloc (.cells #[.bool false, .slice none 0 0] bigT)) bigT #[.bool false, .slice none 0 0]).var
 rw [World.size_alloc w] at V1
 have V1 := Lib.hid V1
 have HB := Lib.hid hb1
 clear hb1
 have ix0 := index_two0 s t
 have ix1 := index_two1 s t
 unfold bigT at *
 go_enter Tryz.func97, Tryz.ntmps97
 go_wp2
 generalize hW0 : (w.alloc (Obj.cells #[Value.bool false, Value.slice none 0 0] 69)).alloc (Obj.cells #[Value.bool false, Value.slice none 0 0] 69) = W0 at *
 clear hW0
 refine wp_loop_rounds 3 ?_
 rw [rounds_succ]
 go_wp2_with (go_at_call 70; refine (chk_any s _ hs).mono ?_)
 rintro e w1 ⟨rfl, hb⟩
 have HB1 := Lib.hid (HB.out.trans (hb.mono HB.out.size))
 have V01 := Lib.hid (V0.out.below hb)
 have V11 := Lib.hid (V1.out.below hb)
 clear hb V0 V1 HB
 by_cases h0 : chk (SL s) = 0
 ·rw [h0]
  go_wp2
  rw [rounds_succ]
  go_wp2_with (go_at_call 70; refine (chk_any t _ ht).mono ?_)
  rintro e w2 ⟨rfl, hb⟩
  have HB2 := Lib.hid (HB1.out.trans (hb.mono HB1.out.size))
  have V02 := Lib.hid (V01.out.below hb)
  have V12 := Lib.hid (V11.out.below hb)
  clear hb V01 V11 HB1
  by_cases h1 : chk (SL t) = 0
  ·have HT := Lib.hid (show natTwo (SL s) (SL t) = 0 by rw [natTwo, if_pos h0, h1])
   have ns := (chk_ok _).1 h0
   have nt := (chk_ok _).1 h1
   rw [h1]
   go_wp2
   rw [rounds_succ]
   go_wp2_with (go_at_call 79; refine (read_num s _ ns).mono ?_)
   rintro e w3 ⟨vs, rfl, hvs, hb⟩
   have HB3 := Lib.hid (HB2.out.trans (hb.mono HB2.out.size))
   have V03 := Lib.hid (V02.out.below hb)
   have V13 := Lib.hid (V12.out.below hb)
   have HS := Lib.hid hvs
   obtain ⟨As, ls, cs, rfl⟩ := hvs.form
   clear hb V02 V12 HB2 hvs
   go_wp2_with (go_at_call 79; refine (read_num t _ nt).mono ?_)
   rintro e w4 ⟨vt, rfl, hvt, hb⟩
   have HB4 := Lib.hid (HB3.out.trans (hb.mono HB3.out.size))
   have V04 := Lib.hid (V03.out.below hb)
   have V14 := Lib.hid (V13.out.below hb)
   have HS4 := Lib.hid (HS.out.ext hb)
   have HT4 := Lib.hid hvt
   obtain ⟨At, lt, ct, rfl⟩ := hvt.form
   clear hb V03 V13 HB3 hvt HS
   have c0 := V04.out.c0
   have c1 := V04.out.c1
   have c2 := V04.out.f0
   have c3 := V04.out.f1
   have d0 := V14.out.c0
   have d1 := V14.out.c1
   have d2 := V14.out.f0
   have d3 := V14.out.f1
   generalize decide ((num (SL s) : Int) < 0) = bs at *
   generalize decide ((num (SL t) : Int) < 0) = bt at *
   have V05 := V04.out.set (.bool bs) (.slice As ls cs)
   have HQ := Lib.hid (TwoR.good HT.out ((HS4.out.setVar V04.out (.bool bs) (.slice As ls cs)).setVar (V14.out.far (g' := w.heap.size) (by omega) (.bool bs) (.slice As ls cs)) (.bool bt) (.slice At lt ct)) ((HT4.out.setVar V04.out (.bool bs) (.slice As ls cs)).setVar (V14.out.far (g' := w.heap.size) (by omega) (.bool bs) (.slice As ls cs)) (.bool bt) (.slice At lt ct)) (((HB4.out.setCell (p := ⟨w.heap.size, 0, none⟩) (Nat.le_refl _) (.bool bs)).setCell (p := ⟨w.heap.size, 1, none⟩) (Nat.le_refl _) (.slice As ls cs) |>.setCell (p := ⟨w.heap.size + 1, 0, none⟩) (Nat.le_succ _) (.bool bt)).setCell (p := ⟨w.heap.size + 1, 1, none⟩) (Nat.le_succ _) (.slice At lt ct)))
   have Z0 := Lib.hid (V05.far (g' := w.heap.size + 1) (by omega) (.bool bt) (.slice At lt ct))
   have Z1 := Lib.hid ((V14.out.far (g' := w.heap.size) (by omega) (.bool bs) (.slice As ls cs)).set (.bool bt) (.slice At lt ct))
   clear V05
   go_wp2
   have z0 := Z0.out.c0
   have z1 := Z0.out.c1
   have y0 := Z1.out.c0
   have y1 := Z1.out.c1
   generalize ((((w4.setCell ⟨w.heap.size, 0, none⟩ (.bool bs)).setCell ⟨w.heap.size, 1, none⟩ (.slice As ls cs)).setCell ⟨w.heap.size + 1, 0, none⟩ (.bool bt)).setCell ⟨w.heap.size + 1, 1, none⟩ (.slice At lt ct)) = W at *
   exact bodyPost_ret (v := .tuple #[.agg #[(.bool bs), (.slice As ls cs)], .agg #[(.bool bt), (.slice At lt ct)], I 0]) (by simp [results, Tryz.results97, go_sem, z0, z1, y0, y1]) rfl HQ.out
  ·have HT := Lib.hid (show natTwo (SL s) (SL t) = chk (SL t) by rw [natTwo, if_pos h0])
   generalize chk (SL t) = c at *
   have c0 := V02.out.c0
   have c1 := V02.out.c1
   have c2 := V02.out.f0
   have c3 := V02.out.f1
   have d0 := V12.out.c0
   have d1 := V12.out.c1
   have d2 := V12.out.f0
   have d3 := V12.out.f1
   have tc : (c != 0) = true := bne_iff_ne.2 h1
   have HQ := Lib.hid (TwoR.bad HT.out h1 (((HB2.out.setCell (p := ⟨w.heap.size, 0, none⟩) (Nat.le_refl _) (.bool false)).setCell (p := ⟨w.heap.size, 1, none⟩) (Nat.le_refl _) (.slice none 0 0) |>.setCell (p := ⟨w.heap.size + 1, 0, none⟩) (Nat.le_succ _) (.bool false)).setCell (p := ⟨w.heap.size + 1, 1, none⟩) (Nat.le_succ _) (.slice none 0 0)))
   have Z0 := Lib.hid ((V02.out.set (.bool false) (.slice none 0 0)).far (g' := w.heap.size + 1) (by omega) (.bool false) (.slice none 0 0))
   have Z1 := Lib.hid ((V12.out.far (g' := w.heap.size) (by omega) (.bool false) (.slice none 0 0)).set (.bool false) (.slice none 0 0))
   go_wp2
   have z0 := Z0.out.c0
   have z1 := Z0.out.c1
   have y0 := Z1.out.c0
   have y1 := Z1.out.c1
   generalize ((((w2.setCell ⟨w.heap.size, 0, none⟩ (.bool false)).setCell ⟨w.heap.size, 1, none⟩ (.slice none 0 0)).setCell ⟨w.heap.size + 1, 0, none⟩ (.bool false)).setCell ⟨w.heap.size + 1, 1, none⟩ (.slice none 0 0)) = W at *
   exact bodyPost_ret (v := .tuple #[.agg #[(.bool false), (.slice none 0 0)], .agg #[(.bool false), (.slice none 0 0)], I c]) (by simp [results, Tryz.results97, go_sem, z0, z1, y0, y1]) rfl HQ.out
 ·have HT := Lib.hid (show natTwo (SL s) (SL t) = chk (SL s) by rw [natTwo, if_neg h0])
  generalize chk (SL s) = c at *
  have c0 := V01.out.c0
  have c1 := V01.out.c1
  have c2 := V01.out.f0
  have c3 := V01.out.f1
  have d0 := V11.out.c0
  have d1 := V11.out.c1
  have d2 := V11.out.f0
  have d3 := V11.out.f1
  have tc : (c != 0) = true := bne_iff_ne.2 h0
  have HQ := Lib.hid (TwoR.bad HT.out h0 (((HB1.out.setCell (p := ⟨w.heap.size, 0, none⟩) (Nat.le_refl _) (.bool false)).setCell (p := ⟨w.heap.size, 1, none⟩) (Nat.le_refl _) (.slice none 0 0) |>.setCell (p := ⟨w.heap.size + 1, 0, none⟩) (Nat.le_succ _) (.bool false)).setCell (p := ⟨w.heap.size + 1, 1, none⟩) (Nat.le_succ _) (.slice none 0 0)))
  have Z0 := Lib.hid ((V01.out.set (.bool false) (.slice none 0 0)).far (g' := w.heap.size + 1) (by omega) (.bool false) (.slice none 0 0))
  have Z1 := Lib.hid ((V11.out.far (g' := w.heap.size) (by omega) (.bool false) (.slice none 0 0)).set (.bool false) (.slice none 0 0))
  go_wp2
  have z0 := Z0.out.c0
  have z1 := Z0.out.c1
  have y0 := Z1.out.c0
  have y1 := Z1.out.c1
  generalize ((((w1.setCell ⟨w.heap.size, 0, none⟩ (.bool false)).setCell ⟨w.heap.size, 1, none⟩ (.slice none 0 0)).setCell ⟨w.heap.size + 1, 0, none⟩ (.bool false)).setCell ⟨w.heap.size + 1, 1, none⟩ (.slice none 0 0)) = W at *
  exact bodyPost_ret (v := .tuple #[.agg #[(.bool false), (.slice none 0 0)], .agg #[(.bool false), (.slice none 0 0)], I c]) (by simp [results, Tryz.results97, go_sem, z0, z1, y0, y1]) rfl HQ.out
def RetTx (w : World) (r : List UInt8 × Int) (e : Ending) (w' : World) : Prop := e = .returned (.tuple #[.string ⟨r.1.toArray⟩, I r.2]) ∧ Below w.heap.size w w'
theorem short_nat (n : Nat) : short (n : Int) = fitN n := by simp [short, fitN]
theorem tx_yes {n : Nat} {s : ByteArray} (h : short (n : Int) = true) (hs : s = ⟨(Lib.itoa (n : Int)).toArray⟩) : Ending.returned (.tuple #[.string s, I 0]) = .returned (.tuple #[.string ⟨(natTx n).1.toArray⟩, I (natTx n).2]) := by
 rw [hs, natTx_ok (by rw [← short_nat]; exact h), itoa_nat]
theorem tx_no {n : Nat} (h : short (n : Int) = false) : Ending.returned (.tuple #[.string ⟨#[]⟩, I 2]) = .returned (.tuple #[.string ⟨(natTx n).1.toArray⟩, I (natTx n).2]) := by
 rw [natTx, if_neg (by rw [← short_nat, h]; simp)]
set_option maxRecDepth 100000 in
set_option maxHeartbeats 1000000 in
theorem natText_any (v : Value) (n : Nat) (w : World) (hx : Big w v (n : Int)) (htab : Tab w) : Calls Tryz.prog 98 #[v] w (RetTx w (natTx n)) := by
 obtain ⟨A, l, c, rfl⟩ := hx.form
 have hb1 : Below w.heap.size w (w.alloc (.cells #[.bool (decide ((n : Int) < 0)), .slice A l c] bigT)) := (Below.refl _ _).alloc (Nat.le_refl _) _
 have HT := Lib.hid (text_any _ (n : Int) _ (hx.ext hb1) (tab_below htab hb1))
 have HB := Lib.hid hb1
 clear hb1 hx htab
 generalize decide ((n : Int) < 0) = b at *
 unfold bigT at *
 go_enter Tryz.func98, Tryz.ntmps98
 go_wp2_with fail
 refine HT.out.mono ?_
 rintro e w1 ⟨s, rfl, hs, hb⟩
 have HB1 := Lib.hid (HB.out.trans (hb.mono HB.out.size))
 clear HB HT hb
 by_cases h : short (n : Int) = true
 ·have HQ := Lib.hid (tx_yes h (hs h))
  clear hs
  rw [h]
  go_wp2
  go_ret2
  exact ⟨HQ.out, HB1.out⟩
 ·have h := Bool.eq_false_iff.2 h
  have HQ := Lib.hid (tx_no h)
  clear hs
  rw [h]
  go_wp2
  go_ret2
  exact ⟨HQ.out, HB1.out⟩
theorem ext_take (s : ByteArray) (k : Nat) : s.extract 0 k = ⟨((SL s).take k).toArray⟩ := SL_inj (by rw [SL_mk]; simp [SL])
theorem ext_drop (s : ByteArray) (k : Nat) : s.extract k s.size = ⟨((SL s).drop k).toArray⟩ := SL_inj (by
 rw [SL_mk]
 show (s.extract k s.size).data.toList = _
 rw [ByteArray.data_extract, Array.toList_extract, List.extract_eq_take_drop]
 exact List.take_of_length_le (by rw [List.length_drop, Array.length_toList]; exact Nat.le_refl _))
def CutR (w : World) (s : ByteArray) (e : Ending) (w' : World) : Prop := e = .returned (.tuple #[.string ⟨(cutA (SL s)).toArray⟩, .string ⟨(cutD (SL s)).toArray⟩, .bool (cutI (SL s))]) ∧ ∃ n, w' = w.drewN n
set_option maxRecDepth 100000 in
set_option maxHeartbeats 1000000 in
theorem scut_any (s : ByteArray) (w : World) (hs : s.size ≤ 9223372036854775807) : Calls Tryz.prog 96 #[.string s, .string ⟨#[47]⟩] w (CutR w s) := by
 have HI := Lib.hid (Tryz.stringslite_Index_one s 47 w)
 have hge := Lib.indexByte_ge s.data.toList 47
 have h1 : ∀ k : Nat, Lib.indexByte s.data.toList 47 = k → CutR w s (.returned (.tuple #[.string (s.extract 0 k), .string (s.extract (k + 1) s.size), .bool true])) w := fun k h => by
  obtain ⟨a, b, c, _⟩ := cut_some (SL s) k h
  refine ⟨?_, 0, rfl⟩
  rw [ext_take, ext_drop, a, b, c]
 have h0 : Lib.indexByte s.data.toList 47 = -1 → CutR w s (.returned (.tuple #[.string s, .string ⟨#[]⟩, .bool false])) w := fun h => by
  obtain ⟨a, b, c⟩ := cut_none (SL s) h
  refine ⟨?_, 0, rfl⟩
  rw [a, b, c]
  rfl
 have h2 : ∀ k : Nat, Lib.indexByte s.data.toList 47 = k → k < s.size := fun k h => by
  have := (cut_some (SL s) k h).2.2.2
  rwa [SL_len] at this
 have H1 := Lib.hid h1
 have H0 := Lib.hid h0
 clear h0 h1
 generalize Lib.indexByte s.data.toList 47 = i at *
 go_enter Tryz.func96, Tryz.ntmps96
 go_wp2_with fail
 refine HI.out.mono ?_
 rintro e w1 ⟨rfl, rfl⟩
 clear HI
 by_cases hi : i < 0
 ·obtain rfl : i = -1 := by omega
  have HQ := Lib.hid (H0.out rfl)
  clear H0 H1 h2 hge hi
  go_wp2
  go_ret3
  exact HQ.out
 ·obtain ⟨k, rfl⟩ : ∃ k : Nat, i = k := ⟨i.toNat, by omega⟩
  have hk := h2 k rfl
  have HQ := Lib.hid (H1.out k rfl)
  clear H0 H1 h2 hge hi
  have c1 : (0 : Int) ≤ (k : Int) := by omega
  have c2 : (k : Int) ≤ (s.size : Int) := by omega
  have c3 : (0 : Int) ≤ (k : Int) + 1 := by omega
  have c4 : (k : Int) + 1 ≤ (s.size : Int) := by omega
  have ew : IntKind.i64.wrap ((k : Int) + 1) = (k : Int) + 1 := IntWalk.i64_in _ (by omega)
  have et : ((k : Int) + 1).toNat = k + 1 := by omega
  have mixed : Tryz.prog.follows .mixedOrders = true := by kernel_rfl
  go_wp2
  go_region_o
  go_wp2
  go_ret3
  exact ⟨HQ.out.1, 1, rfl⟩
theorem cut_any (s : ByteArray) (w : World) (hs : s.size ≤ 9223372036854775807) : Calls Tryz.prog 69 #[.string s, .string ⟨#[47]⟩] w (CutR w s) := by
 go_enter Tryz.func69, Tryz.ntmps69
 go_wp2_with (go_at_call 96; refine (scut_any s _ hs).mono ?_; rintro e w' ⟨rfl, n, rfl⟩)
 go_ret3
 exact ⟨rfl, n, rfl⟩
end Go.Proofs.YtcgfdfdcbamceaaGreatDoor
