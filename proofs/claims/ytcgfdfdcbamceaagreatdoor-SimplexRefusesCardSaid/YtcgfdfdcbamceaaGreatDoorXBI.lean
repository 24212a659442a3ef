/- simplex.proved: the function mixed. -/
import Derived.Test.YtcgfdfdcbamceaaGreatDoorXBH
namespace Go.Proofs.YtcgfdfdcbamceaaGreatDoor
open Go.RowKit
def mixF (a : MQ) (y : List Rat) (k i : Nat) : Rat := y.getD i 0 * ent a i k
def mixQ (a : MQ) (y : List Rat) (m k : Nat) : Rat := sm m (mixF a y k)
set_option maxRecDepth 100000 in
set_option maxHeartbeats 20000000 in
theorem mix_any (k ga gy m ca ny cy n : Nat) (A Ay : Option Addr) (a : MQ) (y : List Rat) (w : World) (h1 : w.cell? ⟨ga, 0, none⟩ = some (.slice A m ca)) (h2 : w.cell? ⟨gy, 0, none⟩ = some (.slice Ay ny cy))
  (hm : RM w A m a) (hr : ∀ r ∈ a, r.length = n) (hy : RV w Ay ny y) (hk : k < n) (hmy : m ≤ ny) (hm9 : m ≤ 40) (fa : ∀ i k, FitR 1000 (ent a i k)) (fy : ∀ i, FitR 1000 (y.getD i 0)) :
  Calls Tryz.prog 73 #[I k, .pointer (some ⟨ga, 0, none⟩), .pointer (some ⟨gy, 0, none⟩)] w (RetRt w (mixQ a y m k)) := by
 have hal := hm.len
 have hyl := hy.len
 have HAL := Lib.hid hal
 have HYL := Lib.hid hyl
 obtain ⟨vr, hb0⟩ := boxes1 w (.bool false) (.slice none 0 0) (.bool false) (.slice none 0 0)
 have VR0 := Lib.hid vr
 have HB0 := Lib.hid hb0
 have HM := Lib.hid hm
 have HRL := Lib.hid hr
 have HYV := Lib.hid hy
 have HFA := Lib.hid fa
 have HFY := Lib.hid fy
 have H1 := Lib.hid h1
 have H2 := Lib.hid h2
 clear vr hb0 hm hr hy fa fy h1 h2 hal hyl
 have HW := Lib.hid (rwhole_any 0 (w.alloc (.cells #[.bool false, .slice none 0 0, .bool false, .slice none 0 0] ratT)) (by decide) (by decide))
 unfold ratT at *
 go_enter Tryz.func73, Tryz.ntmps73
 go_wp2_with fail
 refine HW.out.mono ?_
 rintro e w1 ⟨v, rfl, hv, hb⟩
 obtain ⟨nb0, A0, l0, c0, B0, m0, d0, rfl⟩ := hv.bools
 obtain ⟨vs1, hb1⟩ := boxes1 w1 (.bool nb0) (.slice A0 l0 c0) (.bool false) (.slice B0 m0 d0)
 unfold ratT at vs1 hb1
 have HB := Lib.hid ((HB0.out.trans (hb.mono HB0.out.size)).trans (hb1.mono (HB0.out.trans (hb.mono HB0.out.size)).size))
 have VR := Lib.hid ((VR0.out.below hb).below hb1)
 have HS := Lib.hid (show Vq _ w1.heap.size (sm 0 (mixF a y k)) from ⟨_, _, _, _, _, _, _, vs1, hv.ext hb1⟩)
 have hR : w.heap.size < w1.heap.size := (VR0.out.below hb).lt
 have q1 := cell_below H1.out HB.out
 clear hv hb vs1 hb1 HW HB0 VR0
 generalize hS : w1.heap.size = sB at *
 go_wp2
 clear q1
 go_loopg [10] (m - 0) (fun mm iv wr => ∃ i : Nat, mm = m - i ∧ iv = I i ∧ i ≤ m ∧ Hid (Vq wr sB (sm i (mixF a y k))) ∧ Hid (Vr wr w.heap.size (.bool false) (.slice none 0 0) (.bool false) (.slice none 0 0)) ∧ Hid (Below w.heap.size w wr))
 case atStart => exact ⟨0, rfl, rfl, by omega, HS, VR, HB⟩
 case round =>
  clear HS VR HB
  obtain ⟨i, rfl, rfl, hi, HS, VR, HB⟩ := hrel
  obtain ⟨wa, rfl⟩ : ∃ wa : World, wa = wr := ⟨_, rfl⟩
  by_cases hil : i < m
  ·obtain ⟨r, hr⟩ : ∃ r, a[i]? = some r := ⟨_, List.getElem?_eq_getElem (by rw [HAL.out]; exact hil)⟩
   have hge : a.getD i [] = r := by rw [List.getD_eq_getElem?_getD, hr]; rfl
   have hrl : r.length = n := HRL.out r (List.mem_of_getElem? hr)
   have hil2 : i < ny := by omega
   obtain ⟨ba, oa, B, d, rfl, _, hc, hrx⟩ := (HM.out.below HB.out).at_ hil r hr
   rw [hrl] at hc hrx
   obtain ⟨b1, o1, xb, xn, xnl, xnc, xd, xdl, xdc, rfl, _, hCx, hrx2⟩ := hrx.form hk (r.getD k 0) (by rw [List.getD_eq_getElem?_getD, List.getElem?_eq_getElem (by rw [hrl]; exact hk)]; rfl)
   obtain ⟨b2, o2, yb, yn, ynl, ync, yd, ydl, ydc, rfl, _, hCy, hry⟩ := (HYV.out.below HB.out).form hil2 (y.getD i 0) (by rw [List.getD_eq_getElem?_getD, List.getElem?_eq_getElem (by rw [HYL.out]; exact hil2)]; rfl)
   have hxe : r.getD k 0 = ent a i k := by rw [ent, hge]
   rw [hxe] at hrx2
   have CX := Lib.hid hCx
   have CY := Lib.hid hCy
   have RX := Lib.hid hrx2
   have RY := Lib.hid hry
   have GA := Lib.hid (cell_below H1.out HB.out)
   have GY := Lib.hid (cell_below H2.out HB.out)
   have GC := Lib.hid hc
   obtain ⟨tb, An, ln, cn, Ad, ld, cd, vs, hs⟩ := HS.out
   have VS := Lib.hid vs
   have RS := Lib.hid hs
   clear vs hs HS hc hrx hCx hCy hrx2 hry hge hrl hr hxe
   have HN := Lib.hid (show sm (i + 1) (mixF a y k) = sm i (mixF a y k) + y.getD i 0 * ent a i k by rw [sm, mixF])
   have HFS := Lib.hid (show FitR 200000 (sm i (mixF a y k)) from (fitR_sum (N := 2000) i fun j _ => fitR_mul (N := 1000) (HFY.out j) (HFA.out j k)).mono (by have := Nat.mul_le_mul_right 2001 (show i ≤ 40 by omega); omega))
   go_upto_region 5 with (fail)
   have hd := below_draw wa
   replace HB := Lib.hid (HB.out.trans (hd.mono HB.out.size))
   replace CX := Lib.hid (CX.out.below hd)
   replace CY := Lib.hid (CY.out.below hd)
   replace RX := Lib.hid (RX.out.ext hd)
   replace RY := Lib.hid (RY.out.ext hd)
   replace GA := Lib.hid (cell_below GA.out hd)
   replace GY := Lib.hid (cell_below GY.out hd)
   replace GC := Lib.hid (cell_below GC.out hd)
   replace VS := Lib.hid (VS.out.below hd)
   replace RS := Lib.hid (RS.out.ext hd)
   replace VR := Lib.hid (VR.out.below hd)
   clear hd
   refine wp_region_c (fun w' => w'.cell? ⟨sB, 0, none⟩ = some (.bool tb) ∧ w'.cell? ⟨sB, 1, none⟩ = some (.slice An ln cn) ∧ w'.cell? ⟨sB, 2, none⟩ = some (.bool false) ∧ w'.cell? ⟨sB, 3, none⟩ = some (.slice Ad ld cd) ∧ w'.cell? ⟨ga, 0, none⟩ = some (.slice (some ⟨ba, oa, none⟩) m ca) ∧ w'.cell? ⟨gy, 0, none⟩ = some (.slice (some ⟨b2, o2, none⟩) ny cy) ∧ w'.cell? ⟨ba, oa + i, none⟩ = some (.slice (some ⟨b1, o1, none⟩) n d) ∧ w'.cell? ⟨b1, o1 + k * 4, none⟩ = some (.bool xb) ∧ w'.cell? ⟨b1, o1 + k * 4 + 1, none⟩ = some (.slice xn xnl xnc) ∧ w'.cell? ⟨b1, o1 + k * 4 + 2, none⟩ = some (.bool false) ∧ w'.cell? ⟨b1, o1 + k * 4 + 3, none⟩ = some (.slice xd xdl xdc) ∧ w'.cell? ⟨b2, o2 + i * 4, none⟩ = some (.bool yb) ∧ w'.cell? ⟨b2, o2 + i * 4 + 1, none⟩ = some (.slice yn ynl ync) ∧ w'.cell? ⟨b2, o2 + i * 4 + 2, none⟩ = some (.bool false) ∧ w'.cell? ⟨b2, o2 + i * 4 + 3, none⟩ = some (.slice yd ydl ydc)) 14 (by kernel_rfl) ?_
   generalize wa.drew = wb at *
   refine tkS ⟨VS.out.c0, VS.out.c1, VS.out.c2, VS.out.c3, GA.out, GY.out, GC.out, CX.out.c0, CX.out.c1, CX.out.c2, CX.out.c3, CY.out.c0, CY.out.c1, CY.out.c2, CY.out.c3⟩ fun hSS => ?_
   refine tq 0 (.agg #[.bool tb, .slice An ln cn, .bool false, .slice Ad ld cd]) rfl ?_ hSS ?_
   ·rintro w ⟨s0, s1, s2, s3, s4, s5, s6, s7, s8, s9, s10, s11, s12, s13, s14⟩
    go_simp
   try simp only [Act.put, putA]
   refine tq 1 (.slice (some ⟨b2, o2, none⟩) ny cy) rfl ?_ hSS ?_
   ·rintro w ⟨s0, s1, s2, s3, s4, s5, s6, s7, s8, s9, s10, s11, s12, s13, s14⟩
    go_simp
   try simp only [Act.put]
   refine tq 2 (I i) rfl ?_ hSS ?_
   ·rintro w ⟨s0, s1, s2, s3, s4, s5, s6, s7, s8, s9, s10, s11, s12, s13, s14⟩
    go_simp
   try simp only [Act.put]
   refine tq 3 (.pointer (some ⟨b2, o2 + i * 4, none⟩)) rfl ?_ hSS ?_
   ·rintro w ⟨s0, s1, s2, s3, s4, s5, s6, s7, s8, s9, s10, s11, s12, s13, s14⟩
    go_simp
   try simp only [Act.put]
   refine tq 4 (.agg #[.bool yb, .slice yn ynl ync, .bool false, .slice yd ydl ydc]) rfl ?_ hSS ?_
   ·rintro w ⟨s0, s1, s2, s3, s4, s5, s6, s7, s8, s9, s10, s11, s12, s13, s14⟩
    go_simp
   try simp only [Act.put]
   refine tq 5 (.slice (some ⟨ba, oa, none⟩) m ca) rfl ?_ hSS ?_
   ·rintro w ⟨s0, s1, s2, s3, s4, s5, s6, s7, s8, s9, s10, s11, s12, s13, s14⟩
    go_simp
   try simp only [Act.put]
   refine tq 6 (I i) rfl ?_ hSS ?_
   ·rintro w ⟨s0, s1, s2, s3, s4, s5, s6, s7, s8, s9, s10, s11, s12, s13, s14⟩
    go_simp
   try simp only [Act.put]
   refine tq 7 (.pointer (some ⟨ba, oa + i, none⟩)) rfl ?_ hSS ?_
   ·rintro w ⟨s0, s1, s2, s3, s4, s5, s6, s7, s8, s9, s10, s11, s12, s13, s14⟩
    go_simp
   try simp only [Act.put]
   refine tq 8 (.slice (some ⟨b1, o1, none⟩) n d) rfl ?_ hSS ?_
   ·rintro w ⟨s0, s1, s2, s3, s4, s5, s6, s7, s8, s9, s10, s11, s12, s13, s14⟩
    go_simp
   try simp only [Act.put]
   refine tq 9 (I k) rfl ?_ hSS ?_
   ·rintro w ⟨s0, s1, s2, s3, s4, s5, s6, s7, s8, s9, s10, s11, s12, s13, s14⟩
    go_simp
   try simp only [Act.put]
   refine tq 10 (.pointer (some ⟨b1, o1 + k * 4, none⟩)) rfl ?_ hSS ?_
   ·rintro w ⟨s0, s1, s2, s3, s4, s5, s6, s7, s8, s9, s10, s11, s12, s13, s14⟩
    go_simp
   try simp only [Act.put]
   refine tq 11 (.agg #[.bool xb, .slice xn xnl xnc, .bool false, .slice xd xdl xdc]) rfl ?_ hSS ?_
   ·rintro w ⟨s0, s1, s2, s3, s4, s5, s6, s7, s8, s9, s10, s11, s12, s13, s14⟩
    go_simp
   try simp only [Act.put]
   refine on1 12 fun K hK => ?_
   go_simp
   go_at_call 54
   refine (rmul_any _ _ (y.getD i 0) (ent a i k) _ RY.out RX.out (N := 1000) (Nat.le_of_ble_eq_true rfl) (HFY.out i) (HFA.out i k)).mono ?_
   rintro e wc ⟨v4, rfl, hv, hb⟩
   obtain ⟨pb, pn, pnl, pnc, pd, pdl, pdc, rfl⟩ := hv.bools
   have RM4 := Lib.hid hv
   clear hv
   replace HB := Lib.hid (HB.out.trans (hb.mono HB.out.size))
   replace CX := Lib.hid (CX.out.below hb)
   replace CY := Lib.hid (CY.out.below hb)
   replace RX := Lib.hid (RX.out.ext hb)
   replace RY := Lib.hid (RY.out.ext hb)
   replace GA := Lib.hid (cell_below GA.out hb)
   replace GY := Lib.hid (cell_below GY.out hb)
   replace GC := Lib.hid (cell_below GC.out hb)
   replace VS := Lib.hid (VS.out.below hb)
   replace RS := Lib.hid (RS.out.ext hb)
   replace VR := Lib.hid (VR.out.below hb)
   clear hb
   refine hK.out _ _ (fun _ => ⟨VS.out.c0, VS.out.c1, VS.out.c2, VS.out.c3, GA.out, GY.out, GC.out, CX.out.c0, CX.out.c1, CX.out.c2, CX.out.c3, CY.out.c0, CY.out.c1, CY.out.c2, CY.out.c3⟩) ?_
   clear hK K
   try simp only [Act.put, putA, putZ, putC]
   refine on1 13 fun K hK => ?_
   go_simp
   go_at_call 40
   refine (radd_any _ _ (sm i (mixF a y k)) (y.getD i 0 * ent a i k) _ RS.out RM4.out (N := 200000) (Nat.le_of_ble_eq_true rfl) HFS.out ((fitR_mul (HFY.out i) (HFA.out i k)).mono (Nat.le_of_ble_eq_true rfl))).mono ?_
   rintro e wd ⟨v5, rfl, hv, hb⟩
   obtain ⟨qb, qn, qnl, qnc, qd, qdl, qdc, rfl⟩ := hv.bools
   have HV5 := Lib.hid hv
   clear hv
   replace HB := Lib.hid (HB.out.trans (hb.mono HB.out.size))
   replace CX := Lib.hid (CX.out.below hb)
   replace CY := Lib.hid (CY.out.below hb)
   replace RX := Lib.hid (RX.out.ext hb)
   replace RY := Lib.hid (RY.out.ext hb)
   replace GA := Lib.hid (cell_below GA.out hb)
   replace GY := Lib.hid (cell_below GY.out hb)
   replace GC := Lib.hid (cell_below GC.out hb)
   replace VS := Lib.hid (VS.out.below hb)
   replace RS := Lib.hid (RS.out.ext hb)
   replace VR := Lib.hid (VR.out.below hb)
   replace RM4 := Lib.hid (RM4.out.ext hb)
   clear hb
   refine hK.out _ _ (fun _ => ⟨VS.out.c0, VS.out.c1, VS.out.c2, VS.out.c3, GA.out, GY.out, GC.out, CX.out.c0, CX.out.c1, CX.out.c2, CX.out.c3, CY.out.c0, CY.out.c1, CY.out.c2, CY.out.c3⟩) ?_
   clear hK K
   try simp only [Act.put, putA, putZ, putC]
   rw [← HN.out] at HV5
   have HZ := Lib.hid (VS.out.set (.bool qb) (.slice qn qnl qnc) (.bool false) (.slice qd qdl qdc))
   have HQ := Lib.hid (HV5.out.set4 VS.out (.bool qb) (.slice qn qnl qnc) (.bool false) (.slice qd qdl qdc))
   have VR6 := Lib.hid (VR.out.far (g' := sB) (by omega) (.bool qb) (.slice qn qnl qnc) (.bool false) (.slice qd qdl qdc))
   have HB6 := Lib.hid (below_set4 HB.out (g := sB) (by omega) (.bool qb) (.slice qn qnl qnc) (.bool false) (.slice qd qdl qdc))
   have HS6 := Lib.hid (show Vq _ sB (sm (i + 1) (mixF a y k)) from ⟨_, _, _, _, _, _, _, HZ.out, HQ.out⟩)
   unfold set4 at HS6 VR6 HB6
   have r0 := VS.out.c0
   have q0 := VS.out.f0
   have r1 := VS.out.c1
   have q1 := VS.out.f1
   have r2 := VS.out.c2
   have q2 := VS.out.f2
   have r3 := VS.out.c3
   have q3 := VS.out.f3
   clear HZ HQ HV5 RM4 CX CY RX RY GA GY GC VS RS VR HB HFS HN
   refine on1 14 fun K hK => ?_
   go_simp
   refine hK.out _ _ (fun h => absurd h (by decide)) ?_
   clear hK K r0 r1 r2 r3 q0 q1 q2 q3
   refine wpAnyC_done (by kernel_rfl) ?_ _
   go_wp2
   go_roundg (m - (i + 1))
   case measure => omega
   case rel => exact ⟨i + 1, rfl, by go_num, by omega, HS6, VR6, HB6⟩
  ·obtain rfl : i = m := by omega
   obtain ⟨tb, An, ln, cn, Ad, ld, cd, vs, hs⟩ := HS.out
   have HR := Lib.hid (ret_rat_set (g := w.heap.size) HB.out (Nat.le_refl _) VR.out hs)
   have HZ := Lib.hid (VR.out.set (.bool tb) (.slice An ln cn) (.bool false) (.slice Ad ld cd))
   have s0 := vs.c0
   have s1 := vs.c1
   have s2 := vs.c2
   have s3 := vs.c3
   have r0 := VR.out.c0
   have r1 := VR.out.c1
   have r2 := VR.out.c2
   have r3 := VR.out.c3
   have q0 := VR.out.f0
   have q1 := VR.out.f1
   have q2 := VR.out.f2
   have q3 := VR.out.f3
   unfold set4 at HR HZ
   clear vs hs HS VR HB
   go_wp2
   have z0 := HZ.out.c0
   have z1 := HZ.out.c1
   have z2 := HZ.out.c2
   have z3 := HZ.out.c3
   generalize (((wa.setCell ⟨w.heap.size, 0, none⟩ (.bool tb)).setCell ⟨w.heap.size, 1, none⟩ (.slice An ln cn)).setCell ⟨w.heap.size, 2, none⟩ (.bool false)).setCell ⟨w.heap.size, 3, none⟩ (.slice Ad ld cd) = W at *
   exact bodyPost_ret (v := .agg #[.bool tb, .slice An ln cn, .bool false, .slice Ad ld cd]) (by simp [results, Tryz.results73, go_sem, z0, z1, z2, z3]) rfl HR.out
end Go.Proofs.YtcgfdfdcbamceaaGreatDoor
