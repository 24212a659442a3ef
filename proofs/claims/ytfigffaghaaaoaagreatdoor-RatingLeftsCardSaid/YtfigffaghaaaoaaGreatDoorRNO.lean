/- large.Rat: Neg, Sub, Cmp. -/
import Derived.Test.YtfigffaghaaaoaaGreatDoorRL
import Derived.Test.YtfigffaghaaaoaaGreatDoorRM
namespace Go.Proofs.YtfigffaghaaaoaaGreatDoor
open Go.RowKit

set_option maxRecDepth 100000 in
set_option maxHeartbeats 4000000 in
theorem rneg_any (u : Value) (x : Rat) (w : World) (hx : Rt w u x) : Calls Tryz.prog 49 #[u] w (RetRt w (-x)) := by
  obtain ⟨xn, xnl, xnc, xd, xdl, xdc, rfl, hxn, hxd⟩ := hx.form
  obtain ⟨vx, vr, hb0⟩ := boxes2 w (.bool (decide (x.num < 0))) (.slice xn xnl xnc) (.bool false) (.slice xd xdl xdc) (.bool false) (.slice none 0 0) (.bool false) (.slice none 0 0)
  have Dxn := Lib.hid (hxn.ext hb0).drew
  have Dxd := Lib.hid (hxd.ext hb0).drew
  have VX := Lib.hid vx.drew
  have VR := Lib.hid vr.drew
  have HB := Lib.hid hb0.drew
  clear vx vr hb0 hx hxn hxd
  generalize decide (x.num < 0) = xb at *
  unfold ratT at *
  go_enter Tryz.func49, Tryz.ntmps49
  go_upto_region 1 with (fail)
  generalize hW0 : ((w.alloc (Obj.cells #[Value.bool xb, Value.slice xn xnl xnc, Value.bool false, Value.slice xd xdl xdc] 73)).alloc (Obj.cells #[Value.bool false, Value.slice none 0 0, Value.bool false, Value.slice none 0 0] 73)) = W0 at *
  clear hW0
  refine wp_region_c (fun w' => w'.cell? ⟨w.heap.size, 0, none⟩ = some (.bool xb) ∧ w'.cell? ⟨w.heap.size, 1, none⟩ = some (.slice xn xnl xnc) ∧ w'.cell? ⟨w.heap.size, 2, none⟩ = some (.bool false) ∧ w'.cell? ⟨w.heap.size, 3, none⟩ = some (.slice xd xdl xdc)) 6 (by kernel_rfl) ?_
  refine wpAnyC_take8 (i := 0) (oi := _) (v := .pointer (some ⟨w.heap.size, 0, none⟩)) rfl (by kernel_rfl) (by kernel_rfl) (by kernel_rfl) (by kernel_rfl) (by kernel_rfl) (by kernel_rfl) (fun _ _ _ h => h) (Or.inl ⟨by rfl, ?_⟩) ⟨VX.out.c0, VX.out.c1, VX.out.c2, VX.out.c3⟩ ?_
  · intro w hSw
    obtain ⟨s0, s1, s2, s3⟩ := hSw
    go_simp
  try simp only [Act.put, List.setIfInBounds_toArray]
  refine wpAnyC_take8 (i := 1) (oi := _) (v := .agg #[.bool xb, .slice xn xnl xnc]) rfl (by kernel_rfl) (by kernel_rfl) (by kernel_rfl) (by kernel_rfl) (by kernel_rfl) (by kernel_rfl) (fun _ _ _ h => h) (Or.inl ⟨by rfl, ?_⟩) ⟨VX.out.c0, VX.out.c1, VX.out.c2, VX.out.c3⟩ ?_
  · intro w hSw
    obtain ⟨s0, s1, s2, s3⟩ := hSw
    go_simp
  try simp only [Act.put]
  refine wpAnyC_take8 (i := 3) (oi := _) (v := .pointer (some ⟨w.heap.size, 2, none⟩)) rfl (by kernel_rfl) (by kernel_rfl) (by kernel_rfl) (by kernel_rfl) (by kernel_rfl) (by kernel_rfl) (fun _ _ _ h => h) (Or.inl ⟨by rfl, ?_⟩) ⟨VX.out.c0, VX.out.c1, VX.out.c2, VX.out.c3⟩ ?_
  · intro w hSw
    obtain ⟨s0, s1, s2, s3⟩ := hSw
    go_simp
  try simp only [Act.put]
  refine wpAnyC_take8 (i := 4) (oi := _) (v := .agg #[.bool false, .slice xd xdl xdc]) rfl (by kernel_rfl) (by kernel_rfl) (by kernel_rfl) (by kernel_rfl) (by kernel_rfl) (by kernel_rfl) (fun _ _ _ h => h) (Or.inl ⟨by rfl, ?_⟩) ⟨VX.out.c0, VX.out.c1, VX.out.c2, VX.out.c3⟩ ?_
  · intro w hSw
    obtain ⟨s0, s1, s2, s3⟩ := hSw
    go_simp
  try simp only [Act.put]
  refine wpAnyC_one (i := 2) (by kernel_rfl) rfl (fun K hK => ?_)
  go_simp
  go_at_call 66
  refine (neg_any _ x.num _ Dxn.out).mono ?_
  rintro e w1 ⟨v1, rfl, hv, hb⟩
  obtain ⟨nb, A1, l1, c1, rfl⟩ := hv.ofWords
  have HB1 := Lib.hid (HB.out.trans (hb.mono HB.out.size))
  have VX1 := Lib.hid (VX.out.below hb)
  have VR1 := Lib.hid (VR.out.below hb)
  have L1xn := Lib.hid (Dxn.out.ext hb)
  have L1xd := Lib.hid (Dxd.out.ext hb)
  have HV1 := Lib.hid hv
  refine hK.out _ _ (fun _ => ⟨VX1.out.c0, VX1.out.c1, VX1.out.c2, VX1.out.c3⟩) ?_
  clear hK K
  try simp only [Act.put, List.setIfInBounds_toArray, List.set_cons_zero, List.set_cons_succ]
  clear hb hv
  refine wpAnyC_one (i := 5) (by kernel_rfl) rfl (fun K hK => ?_)
  go_simp
  refine hK.out _ _ (fun _ => ⟨VX1.out.c0, VX1.out.c1, VX1.out.c2, VX1.out.c3⟩) ?_
  clear hK K
  try simp only [Act.put, List.setIfInBounds_toArray, List.set_cons_zero, List.set_cons_succ]
  have HR := Lib.hid (show RetRt w (-x) (.returned (.agg #[.bool nb, .slice A1 l1 c1, .bool false, .slice xd xdl xdc])) _ from ret_rat_set (g := w.heap.size + 1) HB1.out (by omega) VR1.out (Rt.mk (q := -x) HV1.out L1xd.out))
  have HZ := Lib.hid (VR1.out.set (.bool nb) (.slice A1 l1 c1) (.bool false) (.slice xd xdl xdc))
  unfold set4 at HR HZ
  have r0 := VR1.out.c0
  have q0 := VR1.out.f0
  have r1 := VR1.out.c1
  have q1 := VR1.out.f1
  have r2 := VR1.out.c2
  have q2 := VR1.out.f2
  have r3 := VR1.out.c3
  have q3 := VR1.out.f3
  refine wpAnyC_one (i := 6) (by kernel_rfl) rfl (fun K hK => ?_)
  go_simp
  refine hK.out _ _ (fun h => absurd h (by decide)) ?_
  clear hK K r0 r1 r2 r3 q0 q1 q2 q3
  refine wpAnyC_done (by kernel_rfl) ?_ _
  go_wp2
  have z0 := HZ.out.c0
  have z1 := HZ.out.c1
  have z2 := HZ.out.c2
  have z3 := HZ.out.c3
  generalize ((((w1.setCell ⟨w.heap.size + 1, 0, none⟩ (.bool nb)).setCell ⟨w.heap.size + 1, 1, none⟩ (.slice A1 l1 c1)).setCell ⟨w.heap.size + 1, 2, none⟩ (.bool false)).setCell ⟨w.heap.size + 1, 3, none⟩ (.slice xd xdl xdc)) = W at *
  exact bodyPost_ret (v := .agg #[(.bool nb), (.slice A1 l1 c1), (.bool false), (.slice xd xdl xdc)]) (by simp [results, Tryz.results49, go_sem, z0, z1, z2, z3]) rfl HR.out

set_option maxRecDepth 100000 in
set_option maxHeartbeats 4000000 in
theorem rcmpp_any (u v : Value) (xp xq yp yq : Int) (w : World) (hx : Rp w u xp xq) (hy : Rp w v yp yq) (hxq : 0 < xq) (hyq : 0 < yq) {N : Nat} (hN : N ≤ 100000000) (fx : Fits N xp ∧ Fits N xq) (fy : Fits N yp ∧ Fits N yq) : Calls Tryz.prog 27 #[u, v] w (fun e w' => e = .returned (I (xp * yq - yp * xq).sign) ∧ Below w.heap.size w w') := by
  obtain ⟨xn, xnl, xnc, xd, xdl, xdc, rfl, hxn, hxd⟩ := hx.form hxq
  obtain ⟨yn, ynl, ync, yd, ydl, ydc, rfl, hyn, hyd⟩ := hy.form hyq
  obtain ⟨vx, vy, hb0⟩ := boxes2 w (.bool (decide (xp < 0))) (.slice xn xnl xnc) (.bool false) (.slice xd xdl xdc) (.bool (decide (yp < 0))) (.slice yn ynl ync) (.bool false) (.slice yd ydl ydc)
  have Dxn := Lib.hid (hxn.ext hb0).drew
  have Dxd := Lib.hid (hxd.ext hb0).drew
  have VX := Lib.hid vx.drew
  have Dyn := Lib.hid (hyn.ext hb0).drew
  have Dyd := Lib.hid (hyd.ext hb0).drew
  have VY := Lib.hid vy.drew
  have HB := Lib.hid hb0.drew
  obtain ⟨fxn, fxd⟩ := fx
  have FXN := Lib.hid fxn
  have FXD := Lib.hid fxd
  clear fxn fxd
  obtain ⟨fyn, fyd⟩ := fy
  have FYN := Lib.hid fyn
  have FYD := Lib.hid fyd
  clear fyn fyd
  clear vx vy hb0 hx hxn hxd hy hyn hyd
  generalize decide (xp < 0) = xb at *
  generalize decide (yp < 0) = yb at *
  unfold ratT at *
  go_enter Tryz.func27, Tryz.ntmps27
  go_upto_region 1 with (fail)
  generalize hW0 : ((w.alloc (Obj.cells #[Value.bool xb, Value.slice xn xnl xnc, Value.bool false, Value.slice xd xdl xdc] 73)).alloc (Obj.cells #[Value.bool yb, Value.slice yn ynl ync, Value.bool false, Value.slice yd ydl ydc] 73)) = W0 at *
  clear hW0
  refine wp_region_c (fun w' => w'.cell? ⟨w.heap.size, 0, none⟩ = some (.bool xb) ∧ w'.cell? ⟨w.heap.size, 1, none⟩ = some (.slice xn xnl xnc) ∧ w'.cell? ⟨w.heap.size, 2, none⟩ = some (.bool false) ∧ w'.cell? ⟨w.heap.size, 3, none⟩ = some (.slice xd xdl xdc) ∧ w'.cell? ⟨w.heap.size + 1, 0, none⟩ = some (.bool yb) ∧ w'.cell? ⟨w.heap.size + 1, 1, none⟩ = some (.slice yn ynl ync) ∧ w'.cell? ⟨w.heap.size + 1, 2, none⟩ = some (.bool false) ∧ w'.cell? ⟨w.heap.size + 1, 3, none⟩ = some (.slice yd ydl ydc)) 11 (by kernel_rfl) ?_
  refine wpAnyC_take8 (i := 0) (oi := _) (v := .pointer (some ⟨w.heap.size, 0, none⟩)) rfl (by kernel_rfl) (by kernel_rfl) (by kernel_rfl) (by kernel_rfl) (by kernel_rfl) (by kernel_rfl) (fun _ _ _ h => h) (Or.inl ⟨by rfl, ?_⟩) ⟨VX.out.c0, VX.out.c1, VX.out.c2, VX.out.c3, VY.out.c0, VY.out.c1, VY.out.c2, VY.out.c3⟩ ?_
  · intro w hSw
    obtain ⟨s0, s1, s2, s3, s4, s5, s6, s7⟩ := hSw
    go_simp
  try simp only [Act.put, List.setIfInBounds_toArray]
  refine wpAnyC_take8 (i := 1) (oi := _) (v := .agg #[.bool xb, .slice xn xnl xnc]) rfl (by kernel_rfl) (by kernel_rfl) (by kernel_rfl) (by kernel_rfl) (by kernel_rfl) (by kernel_rfl) (fun _ _ _ h => h) (Or.inl ⟨by rfl, ?_⟩) ⟨VX.out.c0, VX.out.c1, VX.out.c2, VX.out.c3, VY.out.c0, VY.out.c1, VY.out.c2, VY.out.c3⟩ ?_
  · intro w hSw
    obtain ⟨s0, s1, s2, s3, s4, s5, s6, s7⟩ := hSw
    go_simp
  try simp only [Act.put]
  refine wpAnyC_take8 (i := 2) (oi := _) (v := .pointer (some ⟨w.heap.size + 1, 2, none⟩)) rfl (by kernel_rfl) (by kernel_rfl) (by kernel_rfl) (by kernel_rfl) (by kernel_rfl) (by kernel_rfl) (fun _ _ _ h => h) (Or.inl ⟨by rfl, ?_⟩) ⟨VX.out.c0, VX.out.c1, VX.out.c2, VX.out.c3, VY.out.c0, VY.out.c1, VY.out.c2, VY.out.c3⟩ ?_
  · intro w hSw
    obtain ⟨s0, s1, s2, s3, s4, s5, s6, s7⟩ := hSw
    go_simp
  try simp only [Act.put]
  refine wpAnyC_take8 (i := 3) (oi := _) (v := .agg #[.bool false, .slice yd ydl ydc]) rfl (by kernel_rfl) (by kernel_rfl) (by kernel_rfl) (by kernel_rfl) (by kernel_rfl) (by kernel_rfl) (fun _ _ _ h => h) (Or.inl ⟨by rfl, ?_⟩) ⟨VX.out.c0, VX.out.c1, VX.out.c2, VX.out.c3, VY.out.c0, VY.out.c1, VY.out.c2, VY.out.c3⟩ ?_
  · intro w hSw
    obtain ⟨s0, s1, s2, s3, s4, s5, s6, s7⟩ := hSw
    go_simp
  try simp only [Act.put]
  refine wpAnyC_take8 (i := 5) (oi := _) (v := .pointer (some ⟨w.heap.size + 1, 0, none⟩)) rfl (by kernel_rfl) (by kernel_rfl) (by kernel_rfl) (by kernel_rfl) (by kernel_rfl) (by kernel_rfl) (fun _ _ _ h => h) (Or.inl ⟨by rfl, ?_⟩) ⟨VX.out.c0, VX.out.c1, VX.out.c2, VX.out.c3, VY.out.c0, VY.out.c1, VY.out.c2, VY.out.c3⟩ ?_
  · intro w hSw
    obtain ⟨s0, s1, s2, s3, s4, s5, s6, s7⟩ := hSw
    go_simp
  try simp only [Act.put]
  refine wpAnyC_take8 (i := 6) (oi := _) (v := .agg #[.bool yb, .slice yn ynl ync]) rfl (by kernel_rfl) (by kernel_rfl) (by kernel_rfl) (by kernel_rfl) (by kernel_rfl) (by kernel_rfl) (fun _ _ _ h => h) (Or.inl ⟨by rfl, ?_⟩) ⟨VX.out.c0, VX.out.c1, VX.out.c2, VX.out.c3, VY.out.c0, VY.out.c1, VY.out.c2, VY.out.c3⟩ ?_
  · intro w hSw
    obtain ⟨s0, s1, s2, s3, s4, s5, s6, s7⟩ := hSw
    go_simp
  try simp only [Act.put]
  refine wpAnyC_take8 (i := 7) (oi := _) (v := .pointer (some ⟨w.heap.size, 2, none⟩)) rfl (by kernel_rfl) (by kernel_rfl) (by kernel_rfl) (by kernel_rfl) (by kernel_rfl) (by kernel_rfl) (fun _ _ _ h => h) (Or.inl ⟨by rfl, ?_⟩) ⟨VX.out.c0, VX.out.c1, VX.out.c2, VX.out.c3, VY.out.c0, VY.out.c1, VY.out.c2, VY.out.c3⟩ ?_
  · intro w hSw
    obtain ⟨s0, s1, s2, s3, s4, s5, s6, s7⟩ := hSw
    go_simp
  try simp only [Act.put]
  refine wpAnyC_take8 (i := 8) (oi := _) (v := .agg #[.bool false, .slice xd xdl xdc]) rfl (by kernel_rfl) (by kernel_rfl) (by kernel_rfl) (by kernel_rfl) (by kernel_rfl) (by kernel_rfl) (fun _ _ _ h => h) (Or.inl ⟨by rfl, ?_⟩) ⟨VX.out.c0, VX.out.c1, VX.out.c2, VX.out.c3, VY.out.c0, VY.out.c1, VY.out.c2, VY.out.c3⟩ ?_
  · intro w hSw
    obtain ⟨s0, s1, s2, s3, s4, s5, s6, s7⟩ := hSw
    go_simp
  try simp only [Act.put]
  refine wpAnyC_one (i := 4) (by kernel_rfl) rfl (fun K hK => ?_)
  go_simp
  go_at_call 50
  refine (mul_any _ _ xp yq _ Dxn.out Dyd.out (N := N) (by omega) FXN.out FYD.out).mono ?_
  rintro e w1 ⟨v1, rfl, hv, hb⟩
  obtain ⟨A1, l1, c1, rfl⟩ := hv.form
  have HB1 := Lib.hid (HB.out.trans (hb.mono HB.out.size))
  have VX1 := Lib.hid (VX.out.below hb)
  have VY1 := Lib.hid (VY.out.below hb)
  have L1xn := Lib.hid (Dxn.out.ext hb)
  have L1xd := Lib.hid (Dxd.out.ext hb)
  have L1yn := Lib.hid (Dyn.out.ext hb)
  have L1yd := Lib.hid (Dyd.out.ext hb)
  have HV1 := Lib.hid hv
  refine hK.out _ _ (fun _ => ⟨VX1.out.c0, VX1.out.c1, VX1.out.c2, VX1.out.c3, VY1.out.c0, VY1.out.c1, VY1.out.c2, VY1.out.c3⟩) ?_
  clear hK K
  try simp only [Act.put, List.setIfInBounds_toArray, List.set_cons_zero, List.set_cons_succ]
  clear hb hv
  refine wpAnyC_one (i := 9) (by kernel_rfl) rfl (fun K hK => ?_)
  go_simp
  go_at_call 50
  refine (mul_any _ _ yp xq _ L1yn.out L1xd.out (N := N) (by omega) FYN.out FXD.out).mono ?_
  rintro e w2 ⟨v2, rfl, hv, hb⟩
  obtain ⟨A2, l2, c2, rfl⟩ := hv.form
  have HB2 := Lib.hid (HB1.out.trans (hb.mono HB1.out.size))
  have VX2 := Lib.hid (VX1.out.below hb)
  have VY2 := Lib.hid (VY1.out.below hb)
  have L2xn := Lib.hid (L1xn.out.ext hb)
  have L2xd := Lib.hid (L1xd.out.ext hb)
  have L2yn := Lib.hid (L1yn.out.ext hb)
  have L2yd := Lib.hid (L1yd.out.ext hb)
  have HV1q2 := Lib.hid (HV1.out.ext hb)
  have HV2 := Lib.hid hv
  refine hK.out _ _ (fun _ => ⟨VX2.out.c0, VX2.out.c1, VX2.out.c2, VX2.out.c3, VY2.out.c0, VY2.out.c1, VY2.out.c2, VY2.out.c3⟩) ?_
  clear hK K
  try simp only [Act.put, List.setIfInBounds_toArray, List.set_cons_zero, List.set_cons_succ]
  clear hb hv
  refine wpAnyC_one (i := 10) (by kernel_rfl) rfl (fun K hK => ?_)
  go_simp
  go_at_call 51
  refine (cmp_any _ _ (xp * yq) (yp * xq) _ HV1q2.out HV2.out (N := N + N) (by omega) (FXN.out.mul FYD.out) (FYN.out.mul FXD.out)).mono ?_
  rintro e w3 ⟨rfl, hb⟩
  have HB3 := Lib.hid (HB2.out.trans (hb.mono HB2.out.size))
  have VX3 := Lib.hid (VX2.out.below hb)
  have VY3 := Lib.hid (VY2.out.below hb)
  have L3xn := Lib.hid (L2xn.out.ext hb)
  have L3xd := Lib.hid (L2xd.out.ext hb)
  have L3yn := Lib.hid (L2yn.out.ext hb)
  have L3yd := Lib.hid (L2yd.out.ext hb)
  have HV1q2q3 := Lib.hid (HV1q2.out.ext hb)
  have HV2q3 := Lib.hid (HV2.out.ext hb)
  refine hK.out _ _ (fun _ => ⟨VX3.out.c0, VX3.out.c1, VX3.out.c2, VX3.out.c3, VY3.out.c0, VY3.out.c1, VY3.out.c2, VY3.out.c3⟩) ?_
  clear hK K
  try simp only [Act.put, List.setIfInBounds_toArray, List.set_cons_zero, List.set_cons_succ]
  clear hb
  refine wpAnyC_one (i := 11) (by kernel_rfl) rfl (fun K hK => ?_)
  go_simp
  refine hK.out _ _ (fun h => absurd h (by decide)) ?_
  clear hK K
  refine wpAnyC_done (by kernel_rfl) ?_ _
  go_wp2
  go_ret
  exact ⟨rfl, HB3.out⟩
theorem rcmp_any (u v : Value) (x y : Rat) (w : World) (hx : Rt w u x) (hy : Rt w v y) {N : Nat} (hN : N ≤ 100000000) (fx : FitR N x) (fy : FitR N y) : Calls Tryz.prog 27 #[u, v] w fun e w' => e = .returned (I (x.num * (y.den : Int) - y.num * (x.den : Int)).sign) ∧ Below w.heap.size w w' :=
  rcmpp_any u v _ _ _ _ w hx.pair hy.pair (den_pos x) (den_pos y) hN fx fy

end Go.Proofs.YtfigffaghaaaoaaGreatDoor
