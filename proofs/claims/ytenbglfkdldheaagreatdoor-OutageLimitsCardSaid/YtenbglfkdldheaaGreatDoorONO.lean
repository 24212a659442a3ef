/- large.Rat: Neg, Sub, Cmp. -/
import Derived.Test.YtenbglfkdldheaaGreatDoorOL
import Derived.Test.YtenbglfkdldheaaGreatDoorOM
set_option maxRecDepth 100000
set_option maxHeartbeats 4000000
namespace Go.Proofs.YtenbglfkdldheaaGreatDoor
open Go.RowKit
theorem xR (u : Value) (x : Rat) (w : World) (hx : Rt w u x) : Calls Tryz.prog 112 #[u] w (RetRt w (-x)) := by
 obtain ⟨xn, xnl, xnc, xd, xdl, xdc, rfl, hxn, hxd⟩ := hx.form
 obtain ⟨vx, vr, hb0⟩ := vR w (.bool (decide (x.num < 0))) (.slice xn xnl xnc) (.bool false) (.slice xd xdl xdc) (.bool false) (.slice none 0 0) (.bool false) (.slice none 0 0)
 have Dxn := aH (hxn.ext hb0).drew
 have Dxd := aH (hxd.ext hb0).drew
 have VX := aH vx.drew
 have VR := aH vr.drew
 have HB := aH hb0.drew
 clear vx vr hb0 hx hxn hxd
 generalize decide (x.num < 0) = xb at *
 unfold aJ at *
 go_enter Tryz.func112, Tryz.ntmps112
 go_upto_region 1 with (fail)
 generalize hW0 : ((w.alloc (Obj.cells #[Value.bool xb, Value.slice xn xnl xnc, Value.bool false, Value.slice xd xdl xdc] 122)).alloc (Obj.cells #[Value.bool false, Value.slice none 0 0, Value.bool false, Value.slice none 0 0] 122)) = W0 at *
 clear hW0
 refine aI (fun w' => w'.cell? ⟨w.heap.size, 0, none⟩ = some (.bool xb) ∧ w'.cell? ⟨w.heap.size, 1, none⟩ = some (.slice xn xnl xnc) ∧ w'.cell? ⟨w.heap.size, 2, none⟩ = some (.bool false) ∧ w'.cell? ⟨w.heap.size, 3, none⟩ = some (.slice xd xdl xdc)) 6 (by kernel_rfl) ?_
 refine tkS ⟨VX.out.c0, VX.out.c1, VX.out.c2, VX.out.c3⟩ fun hSS => ?_
 refine aZ 0 (.pointer (some ⟨w.heap.size, 0, none⟩)) rfl hSS ?_
 refine aZ 1 (.agg #[.bool xb, .slice xn xnl xnc]) rfl hSS ?_
 refine aZ 3 (.pointer (some ⟨w.heap.size, 2, none⟩)) rfl hSS ?_
 refine aZ 4 (.agg #[.bool false, .slice xd xdl xdc]) rfl hSS ?_
 refine on1 2 fun K hK => ?_
 go_simp
 go_at_call 155
 refine (pW _ x.num _ Dxn.out).mono ?_
 rintro e w1 ⟨v1, rfl, hv, hb⟩
 obtain ⟨nb, A1, l1, c1, rfl⟩ := hv.ofWords
 have HB1 := aH (HB.out.trans (hb.mono HB.out.size))
 have VX1 := aH (VX.out.below hb)
 have VR1 := aH (VR.out.below hb)
 have L1xn := aH (Dxn.out.ext hb)
 have L1xd := aH (Dxd.out.ext hb)
 have HV1 := aH hv
 refine hK.out _ _ (fun _ => ⟨VX1.out.c0, VX1.out.c1, VX1.out.c2, VX1.out.c3⟩) ?_
 clear hK K
 clear hb hv
 refine on1 5 fun K hK => ?_
 go_simp
 refine hK.out _ _ (fun _ => ⟨VX1.out.c0, VX1.out.c1, VX1.out.c2, VX1.out.c3⟩) ?_
 clear hK K
 have HR := aH (show RetRt w (-x) (.returned (.agg #[.bool nb, .slice A1 l1 c1, .bool false, .slice xd xdl xdc])) _ from bN (g := w.heap.size + 1) HB1.out (by omega) VR1.out (Rt.mk (q := -x) HV1.out L1xd.out))
 have HZ := aH (VR1.out.set (.bool nb) (.slice A1 l1 c1) (.bool false) (.slice xd xdl xdc))
 unfold set4 at HR HZ
 have r0 := VR1.out.c0
 have q0 := VR1.out.f0
 have r1 := VR1.out.c1
 have q1 := VR1.out.f1
 have r2 := VR1.out.c2
 have q2 := VR1.out.f2
 have r3 := VR1.out.c3
 have q3 := VR1.out.f3
 refine on1 6 fun K hK => ?_
 go_simp
 refine hK.out _ _ (fun h => absurd h (by decide)) ?_
 clear hK K r0 r1 r2 r3 q0 q1 q2 q3
 refine aE (by kernel_rfl) ?_ _
 go_wp2
 have z0 := HZ.out.c0
 have z1 := HZ.out.c1
 have z2 := HZ.out.c2
 have z3 := HZ.out.c3
 generalize ((((w1.setCell ⟨w.heap.size + 1, 0, none⟩ (.bool nb)).setCell ⟨w.heap.size + 1, 1, none⟩ (.slice A1 l1 c1)).setCell ⟨w.heap.size + 1, 2, none⟩ (.bool false)).setCell ⟨w.heap.size + 1, 3, none⟩ (.slice xd xdl xdc)) = W at *
 exact bodyPost_ret (v := .agg #[(.bool nb), (.slice A1 l1 c1), (.bool false), (.slice xd xdl xdc)]) (by simp [results, Tryz.results112, go_sem, z0, z1, z2, z3]) rfl HR.out
theorem kN (u v : Value) (x y : Rat) (w : World) (hx : Rt w u x) (hy : Rt w v y) {N : Nat} (hN : N ≤ 100000000) (fx : FitR N x) (fy : FitR N y) : Calls Tryz.prog 111 #[u, v] w (RetRt w (x - y)) := by
 obtain ⟨xn, xnl, xnc, xd, xdl, xdc, rfl, hxn, hxd⟩ := hx.form
 obtain ⟨yn, ynl, ync, yd, ydl, ydc, rfl, hyn, hyd⟩ := hy.form
 obtain ⟨vx, vy, vr, hb0⟩ := vS w (.bool (decide (x.num < 0))) (.slice xn xnl xnc) (.bool false) (.slice xd xdl xdc) (.bool (decide (y.num < 0))) (.slice yn ynl ync) (.bool false) (.slice yd ydl ydc) (.bool false) (.slice none 0 0) (.bool false) (.slice none 0 0)
 have Dxn := aH (hxn.ext hb0).drew
 have Dxd := aH (hxd.ext hb0).drew
 have VX := aH vx.drew
 have Dyn := aH (hyn.ext hb0).drew
 have Dyd := aH (hyd.ext hb0).drew
 have VY := aH vy.drew
 have VR := aH vr.drew
 have HB := aH hb0.drew
 obtain ⟨fxn, fxd⟩ := fx
 have FXN := aH fxn
 have FXD := aH fxd
 clear fxn fxd
 obtain ⟨fyn, fyd⟩ := fy
 have FYN := aH fyn
 have FYD := aH fyd
 clear fyn fyd
 clear vx vy vr hb0 hx hxn hxd hy hyn hyd
 generalize decide (x.num < 0) = xb at *
 generalize decide (y.num < 0) = yb at *
 unfold aJ at *
 go_enter Tryz.func111, Tryz.ntmps111
 go_upto_region 1 with (fail)
 generalize hW0 : (((w.alloc (Obj.cells #[Value.bool xb, Value.slice xn xnl xnc, Value.bool false, Value.slice xd xdl xdc] 122)).alloc (Obj.cells #[Value.bool yb, Value.slice yn ynl ync, Value.bool false, Value.slice yd ydl ydc] 122)).alloc (Obj.cells #[Value.bool false, Value.slice none 0 0, Value.bool false, Value.slice none 0 0] 122)) = W0 at *
 clear hW0
 refine aI (fun w' => w'.cell? ⟨w.heap.size, 0, none⟩ = some (.bool xb) ∧ w'.cell? ⟨w.heap.size, 1, none⟩ = some (.slice xn xnl xnc) ∧ w'.cell? ⟨w.heap.size, 2, none⟩ = some (.bool false) ∧ w'.cell? ⟨w.heap.size, 3, none⟩ = some (.slice xd xdl xdc) ∧ w'.cell? ⟨w.heap.size + 1, 0, none⟩ = some (.bool yb) ∧ w'.cell? ⟨w.heap.size + 1, 1, none⟩ = some (.slice yn ynl ync) ∧ w'.cell? ⟨w.heap.size + 1, 2, none⟩ = some (.bool false) ∧ w'.cell? ⟨w.heap.size + 1, 3, none⟩ = some (.slice yd ydl ydc)) 4 (by kernel_rfl) ?_
 refine tkS ⟨VX.out.c0, VX.out.c1, VX.out.c2, VX.out.c3, VY.out.c0, VY.out.c1, VY.out.c2, VY.out.c3⟩ fun hSS => ?_
 refine aZ 0 (.agg #[.bool xb, .slice xn xnl xnc, .bool false, .slice xd xdl xdc]) rfl hSS ?_
 refine aZ 1 (.agg #[.bool yb, .slice yn ynl ync, .bool false, .slice yd ydl ydc]) rfl hSS ?_
 refine on1 2 fun K hK => ?_
 go_simp
 go_at_call 112
 refine (xR _ y _ (Rt.mk Dyn.out Dyd.out)).mono ?_
 rintro e w1 ⟨v1, rfl, hv, hb⟩
 have HB1 := aH (HB.out.trans (hb.mono HB.out.size))
 have VX1 := aH (VX.out.below hb)
 have VY1 := aH (VY.out.below hb)
 have VR1 := aH (VR.out.below hb)
 have L1xn := aH (Dxn.out.ext hb)
 have L1xd := aH (Dxd.out.ext hb)
 have L1yn := aH (Dyn.out.ext hb)
 have L1yd := aH (Dyd.out.ext hb)
 have HV1 := aH hv
 refine hK.out _ _ (fun _ => ⟨VX1.out.c0, VX1.out.c1, VX1.out.c2, VX1.out.c3, VY1.out.c0, VY1.out.c1, VY1.out.c2, VY1.out.c3⟩) ?_
 clear hK K
 clear hb hv
 refine on1 3 fun K hK => ?_
 go_simp
 go_at_call 99
 refine (iB _ _ x (-y) _ (Rt.mk L1xn.out L1xd.out) HV1.out (N := N) hN ⟨FXN.out, FXD.out⟩ ⟨FYN.out.neg, FYD.out⟩).mono ?_
 rintro e w2 ⟨v2, rfl, hv, hb⟩
 have HB2 := aH (HB1.out.trans (hb.mono HB1.out.size))
 have VX2 := aH (VX1.out.below hb)
 have VY2 := aH (VY1.out.below hb)
 have VR2 := aH (VR1.out.below hb)
 have L2xn := aH (L1xn.out.ext hb)
 have L2xd := aH (L1xd.out.ext hb)
 have L2yn := aH (L1yn.out.ext hb)
 have L2yd := aH (L1yd.out.ext hb)
 have HV2 := aH hv
 refine hK.out _ _ (fun _ => ⟨VX2.out.c0, VX2.out.c1, VX2.out.c2, VX2.out.c3, VY2.out.c0, VY2.out.c1, VY2.out.c2, VY2.out.c3⟩) ?_
 clear hK K
 clear hb hv
 have HV2 := HV2.out
 obtain ⟨rn, rnl, rnc, rd, rdl, rdc, rfl, -, -⟩ := HV2.form
 have HR := aH ((bN (g := w.heap.size + 1 + 1) HB2.out (by omega) VR2.out HV2).of_eq ((Rat.sub_eq_add_neg x y).symm))
 clear HV2
 have HRX := HR.out
 clear HR
 obtain ⟨rb, hrb⟩ : ∃ b, decide ((x + -y).num < 0) = b := ⟨_, rfl⟩
 rw [hrb] at HRX ⊢
 have HR := aH HRX
 clear HRX hrb
 have HZ := aH (VR2.out.set (.bool rb) (.slice rn rnl rnc) (.bool false) (.slice rd rdl rdc))
 unfold set4 at HR HZ
 have r0 := VR2.out.c0
 have q0 := VR2.out.f0
 have r1 := VR2.out.c1
 have q1 := VR2.out.f1
 have r2 := VR2.out.c2
 have q2 := VR2.out.f2
 have r3 := VR2.out.c3
 have q3 := VR2.out.f3
 refine on1 4 fun K hK => ?_
 go_simp
 refine hK.out _ _ (fun h => absurd h (by decide)) ?_
 clear hK K r0 r1 r2 r3 q0 q1 q2 q3
 refine aE (by kernel_rfl) ?_ _
 go_wp2
 have z0 := HZ.out.c0
 have z1 := HZ.out.c1
 have z2 := HZ.out.c2
 have z3 := HZ.out.c3
 generalize ((((w2.setCell ⟨w.heap.size + 1 + 1, 0, none⟩ (.bool rb)).setCell ⟨w.heap.size + 1 + 1, 1, none⟩ (.slice rn rnl rnc)).setCell ⟨w.heap.size + 1 + 1, 2, none⟩ (.bool false)).setCell ⟨w.heap.size + 1 + 1, 3, none⟩ (.slice rd rdl rdc)) = W at *
 exact bodyPost_ret (v := .agg #[(.bool rb), (.slice rn rnl rnc), (.bool false), (.slice rd rdl rdc)]) (by simp [results, Tryz.results111, go_sem, z0, z1, z2, z3]) rfl HR.out
theorem aEb (u v : Value) (xp xq yp yq : Int) (w : World) (hx : Rp w u xp xq) (hy : Rp w v yp yq) (hxq : 0 < xq) (hyq : 0 < yq) {N : Nat} (hN : N ≤ 100000000) (fx : Fits N xp ∧ Fits N xq) (fy : Fits N yp ∧ Fits N yq) : Calls Tryz.prog 117 #[u, v] w (fun e w' => e = .returned (I (xp * yq - yp * xq).sign) ∧ Below w.heap.size w w') := by
 obtain ⟨xn, xnl, xnc, xd, xdl, xdc, rfl, hxn, hxd⟩ := hx.form hxq
 obtain ⟨yn, ynl, ync, yd, ydl, ydc, rfl, hyn, hyd⟩ := hy.form hyq
 obtain ⟨vx, vy, hb0⟩ := vR w (.bool (decide (xp < 0))) (.slice xn xnl xnc) (.bool false) (.slice xd xdl xdc) (.bool (decide (yp < 0))) (.slice yn ynl ync) (.bool false) (.slice yd ydl ydc)
 have Dxn := aH (hxn.ext hb0).drew
 have Dxd := aH (hxd.ext hb0).drew
 have VX := aH vx.drew
 have Dyn := aH (hyn.ext hb0).drew
 have Dyd := aH (hyd.ext hb0).drew
 have VY := aH vy.drew
 have HB := aH hb0.drew
 obtain ⟨fxn, fxd⟩ := fx
 have FXN := aH fxn
 have FXD := aH fxd
 clear fxn fxd
 obtain ⟨fyn, fyd⟩ := fy
 have FYN := aH fyn
 have FYD := aH fyd
 clear fyn fyd
 clear vx vy hb0 hx hxn hxd hy hyn hyd
 generalize decide (xp < 0) = xb at *
 generalize decide (yp < 0) = yb at *
 unfold aJ at *
 go_enter Tryz.func117, Tryz.ntmps117
 go_upto_region 1 with (fail)
 generalize hW0 : ((w.alloc (Obj.cells #[Value.bool xb, Value.slice xn xnl xnc, Value.bool false, Value.slice xd xdl xdc] 122)).alloc (Obj.cells #[Value.bool yb, Value.slice yn ynl ync, Value.bool false, Value.slice yd ydl ydc] 122)) = W0 at *
 clear hW0
 refine aI (fun w' => w'.cell? ⟨w.heap.size, 0, none⟩ = some (.bool xb) ∧ w'.cell? ⟨w.heap.size, 1, none⟩ = some (.slice xn xnl xnc) ∧ w'.cell? ⟨w.heap.size, 2, none⟩ = some (.bool false) ∧ w'.cell? ⟨w.heap.size, 3, none⟩ = some (.slice xd xdl xdc) ∧ w'.cell? ⟨w.heap.size + 1, 0, none⟩ = some (.bool yb) ∧ w'.cell? ⟨w.heap.size + 1, 1, none⟩ = some (.slice yn ynl ync) ∧ w'.cell? ⟨w.heap.size + 1, 2, none⟩ = some (.bool false) ∧ w'.cell? ⟨w.heap.size + 1, 3, none⟩ = some (.slice yd ydl ydc)) 11 (by kernel_rfl) ?_
 refine tkS ⟨VX.out.c0, VX.out.c1, VX.out.c2, VX.out.c3, VY.out.c0, VY.out.c1, VY.out.c2, VY.out.c3⟩ fun hSS => ?_
 refine aZ 0 (.pointer (some ⟨w.heap.size, 0, none⟩)) rfl hSS ?_
 refine aZ 1 (.agg #[.bool xb, .slice xn xnl xnc]) rfl hSS ?_
 refine aZ 2 (.pointer (some ⟨w.heap.size + 1, 2, none⟩)) rfl hSS ?_
 refine aZ 3 (.agg #[.bool false, .slice yd ydl ydc]) rfl hSS ?_
 refine aZ 5 (.pointer (some ⟨w.heap.size + 1, 0, none⟩)) rfl hSS ?_
 refine aZ 6 (.agg #[.bool yb, .slice yn ynl ync]) rfl hSS ?_
 refine aZ 7 (.pointer (some ⟨w.heap.size, 2, none⟩)) rfl hSS ?_
 refine aZ 8 (.agg #[.bool false, .slice xd xdl xdc]) rfl hSS ?_
 refine on1 4 fun K hK => ?_
 go_simp
 go_at_call 149
 refine (gP _ _ xp yq _ Dxn.out Dyd.out (N := N) (by omega) FXN.out FYD.out).mono ?_
 rintro e w1 ⟨v1, rfl, hv, hb⟩
 obtain ⟨A1, l1, c1, rfl⟩ := hv.form
 have HB1 := aH (HB.out.trans (hb.mono HB.out.size))
 have VX1 := aH (VX.out.below hb)
 have VY1 := aH (VY.out.below hb)
 have L1xn := aH (Dxn.out.ext hb)
 have L1xd := aH (Dxd.out.ext hb)
 have L1yn := aH (Dyn.out.ext hb)
 have L1yd := aH (Dyd.out.ext hb)
 have HV1 := aH hv
 refine hK.out _ _ (fun _ => ⟨VX1.out.c0, VX1.out.c1, VX1.out.c2, VX1.out.c3, VY1.out.c0, VY1.out.c1, VY1.out.c2, VY1.out.c3⟩) ?_
 clear hK K
 clear hb hv
 refine on1 9 fun K hK => ?_
 go_simp
 go_at_call 149
 refine (gP _ _ yp xq _ L1yn.out L1xd.out (N := N) (by omega) FYN.out FXD.out).mono ?_
 rintro e w2 ⟨v2, rfl, hv, hb⟩
 obtain ⟨A2, l2, c2, rfl⟩ := hv.form
 have HB2 := aH (HB1.out.trans (hb.mono HB1.out.size))
 have VX2 := aH (VX1.out.below hb)
 have VY2 := aH (VY1.out.below hb)
 have L2xn := aH (L1xn.out.ext hb)
 have L2xd := aH (L1xd.out.ext hb)
 have L2yn := aH (L1yn.out.ext hb)
 have L2yd := aH (L1yd.out.ext hb)
 have HV1q2 := aH (HV1.out.ext hb)
 have HV2 := aH hv
 refine hK.out _ _ (fun _ => ⟨VX2.out.c0, VX2.out.c1, VX2.out.c2, VX2.out.c3, VY2.out.c0, VY2.out.c1, VY2.out.c2, VY2.out.c3⟩) ?_
 clear hK K
 clear hb hv
 refine on1 10 fun K hK => ?_
 go_simp
 go_at_call 156
 refine (aKn _ _ (xp * yq) (yp * xq) _ HV1q2.out HV2.out (N := N + N) (by omega) (FXN.out.mul FYD.out) (FYN.out.mul FXD.out)).mono ?_
 rintro e w3 ⟨rfl, hb⟩
 have HB3 := aH (HB2.out.trans (hb.mono HB2.out.size))
 have VX3 := aH (VX2.out.below hb)
 have VY3 := aH (VY2.out.below hb)
 have L3xn := aH (L2xn.out.ext hb)
 have L3xd := aH (L2xd.out.ext hb)
 have L3yn := aH (L2yn.out.ext hb)
 have L3yd := aH (L2yd.out.ext hb)
 have HV1q2q3 := aH (HV1q2.out.ext hb)
 have HV2q3 := aH (HV2.out.ext hb)
 refine hK.out _ _ (fun _ => ⟨VX3.out.c0, VX3.out.c1, VX3.out.c2, VX3.out.c3, VY3.out.c0, VY3.out.c1, VY3.out.c2, VY3.out.c3⟩) ?_
 clear hK K
 clear hb
 refine on1 11 fun K hK => ?_
 go_simp
 refine hK.out _ _ (fun h => absurd h (by decide)) ?_
 clear hK K
 refine aE (by kernel_rfl) ?_ _
 go_wp2
 go_ret
 exact ⟨rfl, HB3.out⟩
theorem aHv (u v : Value) (x y : Rat) (w : World) (hx : Rt w u x) (hy : Rt w v y) {N : Nat} (hN : N ≤ 100000000) (fx : FitR N x) (fy : FitR N y) : Calls Tryz.prog 117 #[u, v] w fun e w' => e = .returned (I (x.num * (y.den : Int) - y.num * (x.den : Int)).sign) ∧ Below w.heap.size w w' :=
 aEb u v _ _ _ _ w hx.pair hy.pair (den_pos x) (den_pos y) hN fx fy
end Go.Proofs.YtenbglfkdldheaaGreatDoor
