/- large.Rat: Floor, Ceil; rat.whole, Floor, Ceil. -/
import Derived.Test.YtpbdlmjfjkfphaaGreatDoorRFun2
namespace Go.Proofs.YtpbdlmjfjkfphaaGreatDoor
open Go.RowKit

theorem boxB (w : World) (a0 a1 a2 a3 : Value) : Vr ((w.alloc (.cells #[a0, a1, a2, a3] ratT)).alloc (.cells #[.bool false, .slice none 0 0] bigT)) w.heap.size a0 a1 a2 a3 ∧ Var ((w.alloc (.cells #[a0, a1, a2, a3] ratT)).alloc (.cells #[.bool false, .slice none 0 0] bigT)) (w.heap.size + 1) (.bool false) (.slice none 0 0) ∧
    Below w.heap.size w ((w.alloc (.cells #[a0, a1, a2, a3] ratT)).alloc (.cells #[.bool false, .slice none 0 0] bigT)) := by
  obtain ⟨h1, h2⟩ := boxes1 w a0 a1 a2 a3
  have h3 := (Blk.new (w.alloc (.cells #[a0, a1, a2, a3] ratT)) bigT #[.bool false, .slice none 0 0]).var
  rw [World.size_alloc w] at h3
  exact ⟨h1.alloc _, h3, h2.alloc h2.size _⟩
set_option maxRecDepth 100000 in
set_option maxHeartbeats 2000000 in
theorem floorp_any (v : Value) (n d : Int) (w : World) (hx : Rp w v n d) (hd : 0 < d) {N : Nat} (hN : N ≤ 400000) (fn : Fits N n) (fd : Fits N d) : Calls Tryz.prog 36 #[v] w (RetBig w (n / d)) := by
  obtain ⟨A, l, c, B, m, e, rfl, hn, hdd⟩ := hx.form hd
  obtain ⟨vx, vr, hb⟩ := boxB w (.bool (decide (n < 0))) (.slice A l c) (.bool false) (.slice B m e)
  have HD := Lib.hid (divmod_any _ _ n d _ (hn.ext hb) (hdd.ext hb) (N := N) (by omega) fn fd hd)
  have HB := Lib.hid hb
  have VR := Lib.hid vr
  have v0 := vx.c0
  have v1 := vx.c1
  have v2 := vx.c2
  have v3 := vx.c3
  clear vx vr hb hn hdd hx fn fd
  generalize decide (n < 0) = nb at *
  unfold ratT bigT at *
  go_enter Tryz.func36, Tryz.ntmps36
  go_wp2_with fail
  refine HD.out.mono ?_
  rintro e1 w1 ⟨vq, vm, rfl, hq, hm, hb⟩
  obtain ⟨qb, Aq, lq, cq, rfl⟩ := hq.ofWords
  obtain ⟨mb, Am, lm, cm, rfl⟩ := hm.ofWords
  have hb2 := two_alloc (HB.out.trans (hb.mono HB.out.size)) (.cells #[.bool qb, .slice Aq lq cq] bigT) (.cells #[.bool mb, .slice Am lm cm] bigT)
  have hq2 := hq.alloc2 (.cells #[.bool qb, .slice Aq lq cq] bigT) (.cells #[.bool mb, .slice Am lm cm] bigT)
  have hv2 := (VR.out.below hb).below ((Below.refl w1.heap.size w1).alloc (Nat.le_refl _) (.cells #[.bool qb, .slice Aq lq cq] bigT) |>.alloc (by simp) (.cells #[.bool mb, .slice Am lm cm] bigT))
  have hvar := (Var.two (w := w1) (x0 := .bool qb) (x1 := .slice Aq lq cq) (y0 := .bool mb) (y1 := .slice Am lm cm)).1
  have HQ := Lib.hid (show RetBig w (n / d) (.returned (.agg #[.bool qb, .slice Aq lq cq])) _ from ⟨_, rfl, hq2.setVar hv2 (.bool qb) (.slice Aq lq cq), (hb2.setCell (p := ⟨w.heap.size + 1, 0, none⟩) (by simp only; omega) (.bool qb)).setCell (p := ⟨w.heap.size + 1, 1, none⟩) (by simp only; omega) (.slice Aq lq cq)⟩)
  have HZ := Lib.hid (hv2.set (.bool qb) (.slice Aq lq cq))
  have a0 := hvar.c0
  have a1 := hvar.c1
  have r0 := hv2.c0
  have r1 := hv2.c1
  have r2 := hv2.f0
  have r3 := hv2.f1
  have hlt : w.heap.size + 1 < w1.heap.size := (VR.out.below hb).lt
  clear hb hq hm hb2 hq2 hv2 hvar HB VR HD v0 v1 v2 v3
  unfold bigT at *
  go_wp2
  have z0 := HZ.out.c0
  have z1 := HZ.out.c1
  generalize (((w1.alloc (.cells #[.bool qb, .slice Aq lq cq] 45)).alloc (.cells #[.bool mb, .slice Am lm cm] 45)).setCell ⟨w.heap.size + 1, 0, none⟩ (.bool qb)).setCell ⟨w.heap.size + 1, 1, none⟩ (.slice Aq lq cq) = W at *
  exact bodyPost_ret (v := .agg #[.bool qb, .slice Aq lq cq]) (by simp [results, Tryz.results36, go_sem, z0, z1]) rfl HQ.out
theorem rfloor_any (v : Value) (q : Rat) (w : World) (hx : Rt w v q) {N : Nat} (hN : N ≤ 400000) (f : FitR N q) : Calls Tryz.prog 36 #[v] w (RetBig w q.floor) := by
  rw [Rat.floor_def]
  exact floorp_any v _ _ w hx.pair (den_pos q) hN f.1 f.2
set_option maxRecDepth 100000 in
set_option maxHeartbeats 2000000 in
theorem rceil_any (v : Value) (q : Rat) (w : World) (hx : Rt w v q) {N : Nat} (hN : N ≤ 400000) (f : FitR N q) : Calls Tryz.prog 37 #[v] w (RetBig w q.ceil) := by
  obtain ⟨A, l, c, B, m, e, rfl, -, -⟩ := hx.form
  obtain ⟨vx, vr, hb⟩ := boxB w (.bool (decide (q.num < 0))) (.slice A l c) (.bool false) (.slice B m e)
  have HN := Lib.hid (rneg_any _ q _ (hx.ext hb))
  have HB := Lib.hid hb
  have VR := Lib.hid vr
  have v0 := vx.c0
  have v1 := vx.c1
  have v2 := vx.c2
  have v3 := vx.c3
  have FN := Lib.hid (show FitR N (-q) from ⟨f.1.neg, f.2⟩)
  clear vx vr hb hx f
  generalize decide (q.num < 0) = nb at *
  unfold ratT bigT at *
  go_enter Tryz.func37, Tryz.ntmps37
  go_wp2_with fail
  refine HN.out.mono ?_
  rintro e1 w1 ⟨u, rfl, hu, hb⟩
  have HB1 := Lib.hid (HB.out.trans (hb.mono HB.out.size))
  have VR1 := Lib.hid (VR.out.below hb)
  have HF := Lib.hid (rfloor_any u (-q) w1 hu hN FN.out)
  clear hb hu HB VR HN v0 v1 v2 v3
  go_wp2_with fail
  refine HF.out.mono ?_
  rintro e2 w2 ⟨z, rfl, hz, hb⟩
  have HB2 := Lib.hid (HB1.out.trans (hb.mono HB1.out.size))
  have VR2 := Lib.hid (VR1.out.below hb)
  have HG := Lib.hid (neg_any z _ w2 hz)
  clear hb hz HB1 VR1 HF
  go_wp2_with fail
  refine HG.out.mono ?_
  rintro e3 w3 ⟨y, rfl, hy, hb⟩
  rw [← Rat.ceil_eq_neg_floor_neg] at hy
  obtain ⟨yb, Ay, ly, cy, rfl⟩ := hy.ofWords
  have hv := VR2.out.below hb
  have HQ := Lib.hid (show RetBig w q.ceil (.returned (.agg #[.bool yb, .slice Ay ly cy])) _ from ⟨_, rfl, hy.setVar hv (.bool yb) (.slice Ay ly cy), ((HB2.out.trans (hb.mono HB2.out.size)).setCell (p := ⟨w.heap.size + 1, 0, none⟩) (by simp only; omega) (.bool yb)).setCell (p := ⟨w.heap.size + 1, 1, none⟩) (by simp only; omega) (.slice Ay ly cy)⟩)
  have HZ := Lib.hid (hv.set (.bool yb) (.slice Ay ly cy))
  have r0 := hv.c0
  have r1 := hv.c1
  have r2 := hv.f0
  have r3 := hv.f1
  clear hb hy hv HB2 VR2 HG
  go_wp2
  have z0 := HZ.out.c0
  have z1 := HZ.out.c1
  generalize (w3.setCell ⟨w.heap.size + 1, 0, none⟩ (.bool yb)).setCell ⟨w.heap.size + 1, 1, none⟩ (.slice Ay ly cy) = W at *
  exact bodyPost_ret (v := .agg #[.bool yb, .slice Ay ly cy]) (by simp [results, Tryz.results37, go_sem, z0, z1]) rfl HQ.out
theorem whole_rt {w : World} {x0 x1 x2 x3 : Value} {z : Int} (h1 : Big w (.agg #[x0, x1]) z) (h2 : Big w (.agg #[x2, x3]) 1) : Rt w (.agg #[x0, x1, x2, x3]) (z : Rat) := Rt.mk h1 h2
set_option maxRecDepth 100000 in
set_option maxHeartbeats 2000000 in
theorem whole_any (v : Value) (z : Int) (w : World) (hx : Big w v z) (htab : Tab w) : Calls Tryz.prog 55 #[v] w (RetTx w (ratTx (z : Rat))) := by
  obtain ⟨zb, A, l, c, rfl⟩ := hx.ofWords
  have hb := (Below.refl w.heap.size w).alloc (Nat.le_refl _) (.cells #[.bool zb, .slice A l c] bigT)
  have VX := Lib.hid (Blk.new w bigT #[.bool zb, .slice A l c]).var.drew
  have HX := Lib.hid (hx.ext hb).drew
  have HB := Lib.hid hb.drew
  have HTB := Lib.hid htab
  clear hx hb htab
  unfold bigT at *
  go_enter Tryz.func55, Tryz.ntmps55
  go_upto_region 1 with (fail)
  generalize w.alloc (Obj.cells #[Value.bool zb, Value.slice A l c] 45) = W0 at *
  refine wp_region_c (fun w' => w'.cell? ⟨w.heap.size, 0, none⟩ = some (.bool zb) ∧ w'.cell? ⟨w.heap.size, 1, none⟩ = some (.slice A l c)) 7 (by kernel_rfl) ?_
  refine wpAnyC_take8 (i := 0) (oi := _) (v := .agg #[.bool zb, .slice A l c]) rfl (by kernel_rfl) (by kernel_rfl) (by kernel_rfl) (by kernel_rfl) (by kernel_rfl) (by kernel_rfl) (fun _ _ _ h => h) (Or.inl ⟨by rfl, ?_⟩) ⟨VX.out.c0, VX.out.c1⟩ ?_
  · intro w hSw
    obtain ⟨s0, s1⟩ := hSw
    go_simp
  try simp only [Act.put, List.setIfInBounds_toArray]
  refine wpAnyC_one (i := 1) (by kernel_rfl) rfl (fun K hK => ?_)
  go_simp
  go_at_call 52
  refine (of_any 1 _ (by omega) (by omega)).mono ?_
  rintro e1 w1 ⟨v1, rfl, hv, hb⟩
  obtain ⟨ob, B, m, d, rfl⟩ := hv.ofWords
  have HB1 := Lib.hid (HB.out.trans (hb.mono HB.out.size))
  have VX1 := Lib.hid (VX.out.below hb)
  have HR := Lib.hid (whole_rt (HX.out.ext hb) hv)
  refine hK.out _ _ (fun _ => ⟨VX1.out.c0, VX1.out.c1⟩) ?_
  clear hK K hb hv VX HX HB
  try simp only [Act.put, List.setIfInBounds_toArray, List.set_cons_zero, List.set_cons_succ]
  refine wpAnyC_one (i := 2) (by kernel_rfl) rfl (fun K hK => ?_)
  go_simp
  refine hK.out _ _ (fun _ => ⟨VX1.out.c0, VX1.out.c1⟩) ?_
  clear hK K
  try simp only [Act.put, List.setIfInBounds_toArray, List.set_cons_zero, List.set_cons_succ]
  refine wpAnyC_one (i := 3) (by kernel_rfl) rfl (fun K hK => ?_)
  go_simp
  go_at_call 46
  refine (ratText_any _ _ w1 HR.out (tab_below HTB.out HB1.out)).mono ?_
  rintro e2 w2 ⟨rfl, hb⟩
  have HQ := Lib.hid (show RetTx w (ratTx (z : Rat)) _ w2 from ⟨rfl, HB1.out.trans (hb.mono HB1.out.size)⟩)
  have VX2 := Lib.hid (VX1.out.below hb)
  refine hK.out _ _ (fun _ => ⟨VX2.out.c0, VX2.out.c1⟩) ?_
  clear hK K hb HB1 VX1 HR
  try simp only [Act.put, List.setIfInBounds_toArray, List.set_cons_zero, List.set_cons_succ]
  refine wpAnyC_take8 (i := 4) (oi := _) (v := .string ⟨(ratTx (z : Rat)).1.toArray⟩) rfl (by kernel_rfl) (by kernel_rfl) (by kernel_rfl) (by kernel_rfl) (by kernel_rfl) (by kernel_rfl) (fun _ _ _ h => h) (Or.inl ⟨by rfl, ?_⟩) ⟨VX2.out.c0, VX2.out.c1⟩ ?_
  · intro w hSw
    go_simp
  try simp only [Act.put, List.setIfInBounds_toArray]
  refine wpAnyC_one (i := 5) (by kernel_rfl) rfl (fun K hK => ?_)
  go_simp
  refine hK.out _ _ (fun _ => ⟨VX2.out.c0, VX2.out.c1⟩) ?_
  clear hK K
  try simp only [Act.put, List.setIfInBounds_toArray, List.set_cons_zero, List.set_cons_succ]
  refine wpAnyC_one (i := 6) (by kernel_rfl) rfl (fun K hK => ?_)
  go_simp
  refine hK.out _ _ (fun _ => ⟨VX2.out.c0, VX2.out.c1⟩) ?_
  clear hK K
  try simp only [Act.put, List.setIfInBounds_toArray, List.set_cons_zero, List.set_cons_succ]
  refine wpAnyC_one (i := 7) (by kernel_rfl) rfl (fun K hK => ?_)
  go_simp
  refine hK.out _ _ (fun h => absurd h (by decide)) ?_
  clear hK K
  refine wpAnyC_done (by kernel_rfl) ?_ _
  go_wp2
  go_ret2
  exact HQ.out
set_option maxRecDepth 100000 in
set_option maxHeartbeats 2000000 in
theorem roundedFloor_any (s : ByteArray) (w : World) (hs : s.size ≤ 9223372036854775807) (htab : Tab w) : Calls Tryz.prog 35 #[.string s, .func (.func 36) #[] #[]] w (RetTx w (ratInt (SL s) ((rval (SL s)).floor))) := by
  have HA := Lib.hid (rchk_any s w hs htab)
  have HTB := Lib.hid htab
  clear htab
  go_enter Tryz.func35, Tryz.ntmps35
  go_wp2_with fail
  refine HA.out.mono ?_
  rintro e w1 ⟨rfl, hb⟩
  have HB1 := Lib.hid hb
  clear hb HA
  by_cases h0 : rchk (SL s) = 0
  · have HT := Lib.hid h0
    have HVA := Lib.hid (rchk_val _ h0)
    rw [h0]
    clear h0
    go_wp2_with fail
    refine (parse_any s w1 hs HVA.out).mono ?_
    rintro e w2 ⟨u, rfl, hu, hb2⟩
    have HB2 := Lib.hid (HB1.out.trans (hb2.mono HB1.out.size))
    have HU := Lib.hid hu
    clear hb2 HB1 hu
    go_wp2_with fail
    refine (rfloor_any u _ w2 HU.out (N := 210) (by omega) (val_fit HVA.out)).mono ?_
    rintro e w3 ⟨z, rfl, hz, hb3⟩
    have HB3 := Lib.hid (HB2.out.trans (hb3.mono HB2.out.size))
    have HZ := Lib.hid (whole_any z _ w3 hz (tab_below HTB.out HB3.out))
    clear hb3 HB2 hz HU
    go_wp2_with fail
    refine HZ.out.mono ?_
    rintro e w4 ⟨rfl, hb4⟩
    have HQ := Lib.hid (show RetTx w (ratInt (SL s) ((rval (SL s)).floor)) (.returned (.tuple #[.string ⟨(ratTx (((rval (SL s)).floor : Int) : Rat)).1.toArray⟩, I (ratTx (((rval (SL s)).floor : Int) : Rat)).2])) w4 from ⟨by rw [ratInt, if_pos HT.out], HB3.out.trans (hb4.mono HB3.out.size)⟩)
    clear hb4 HB3 HZ
    go_wp2
    go_ret2
    exact HQ.out
  · have HQ := Lib.hid (show RetTx w (ratInt (SL s) ((rval (SL s)).floor)) (.returned (.tuple #[.string ⟨#[]⟩, I (rchk (SL s))])) w1 from ⟨by rw [ratInt, if_neg h0], HB1.out⟩)
    have tc : (rchk (SL s) != 0) = true := bne_iff_ne.2 h0
    generalize rchk (SL s) = c at *
    clear h0
    go_wp2
    go_ret2
    exact HQ.out
set_option maxRecDepth 100000 in
theorem ratFloor_any (s : ByteArray) (w : World) (hs : s.size ≤ 9223372036854775807) (htab : Tab w) : Calls Tryz.prog 16 #[.string s] w (RetTx w (ratInt (SL s) ((rval (SL s)).floor))) := by
  have HO := Lib.hid (roundedFloor_any s w hs htab)
  go_enter Tryz.func16, Tryz.ntmps16
  go_wp2_with fail
  refine HO.out.mono ?_
  rintro e w1 ⟨rfl, hb⟩
  have HQ := Lib.hid (show RetTx w (ratInt (SL s) ((rval (SL s)).floor)) _ w1 from ⟨rfl, hb⟩)
  clear HO hb
  go_wp2
  go_ret2
  exact HQ.out
set_option maxRecDepth 100000 in
set_option maxHeartbeats 2000000 in
theorem roundedCeil_any (s : ByteArray) (w : World) (hs : s.size ≤ 9223372036854775807) (htab : Tab w) : Calls Tryz.prog 35 #[.string s, .func (.func 37) #[] #[]] w (RetTx w (ratInt (SL s) ((rval (SL s)).ceil))) := by
  have HA := Lib.hid (rchk_any s w hs htab)
  have HTB := Lib.hid htab
  clear htab
  go_enter Tryz.func35, Tryz.ntmps35
  go_wp2_with fail
  refine HA.out.mono ?_
  rintro e w1 ⟨rfl, hb⟩
  have HB1 := Lib.hid hb
  clear hb HA
  by_cases h0 : rchk (SL s) = 0
  · have HT := Lib.hid h0
    have HVA := Lib.hid (rchk_val _ h0)
    rw [h0]
    clear h0
    go_wp2_with fail
    refine (parse_any s w1 hs HVA.out).mono ?_
    rintro e w2 ⟨u, rfl, hu, hb2⟩
    have HB2 := Lib.hid (HB1.out.trans (hb2.mono HB1.out.size))
    have HU := Lib.hid hu
    clear hb2 HB1 hu
    go_wp2_with fail
    refine (rceil_any u _ w2 HU.out (N := 210) (by omega) (val_fit HVA.out)).mono ?_
    rintro e w3 ⟨z, rfl, hz, hb3⟩
    have HB3 := Lib.hid (HB2.out.trans (hb3.mono HB2.out.size))
    have HZ := Lib.hid (whole_any z _ w3 hz (tab_below HTB.out HB3.out))
    clear hb3 HB2 hz HU
    go_wp2_with fail
    refine HZ.out.mono ?_
    rintro e w4 ⟨rfl, hb4⟩
    have HQ := Lib.hid (show RetTx w (ratInt (SL s) ((rval (SL s)).ceil)) (.returned (.tuple #[.string ⟨(ratTx (((rval (SL s)).ceil : Int) : Rat)).1.toArray⟩, I (ratTx (((rval (SL s)).ceil : Int) : Rat)).2])) w4 from ⟨by rw [ratInt, if_pos HT.out], HB3.out.trans (hb4.mono HB3.out.size)⟩)
    clear hb4 HB3 HZ
    go_wp2
    go_ret2
    exact HQ.out
  · have HQ := Lib.hid (show RetTx w (ratInt (SL s) ((rval (SL s)).ceil)) (.returned (.tuple #[.string ⟨#[]⟩, I (rchk (SL s))])) w1 from ⟨by rw [ratInt, if_neg h0], HB1.out⟩)
    have tc : (rchk (SL s) != 0) = true := bne_iff_ne.2 h0
    generalize rchk (SL s) = c at *
    clear h0
    go_wp2
    go_ret2
    exact HQ.out
set_option maxRecDepth 100000 in
theorem ratCeil_any (s : ByteArray) (w : World) (hs : s.size ≤ 9223372036854775807) (htab : Tab w) : Calls Tryz.prog 17 #[.string s] w (RetTx w (ratInt (SL s) ((rval (SL s)).ceil))) := by
  have HO := Lib.hid (roundedCeil_any s w hs htab)
  go_enter Tryz.func17, Tryz.ntmps17
  go_wp2_with fail
  refine HO.out.mono ?_
  rintro e w1 ⟨rfl, hb⟩
  have HQ := Lib.hid (show RetTx w (ratInt (SL s) ((rval (SL s)).ceil)) _ w1 from ⟨rfl, hb⟩)
  clear HO hb
  go_wp2
  go_ret2
  exact HQ.out
end Go.Proofs.YtpbdlmjfjkfphaaGreatDoor
