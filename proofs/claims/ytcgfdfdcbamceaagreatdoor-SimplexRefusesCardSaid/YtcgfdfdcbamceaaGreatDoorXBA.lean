/- (large.Rat).Sign, large.Dot. 'm[i][k] = q' at matrices of numbers. lin.Copy. Rows of values that are no words, that the call owns: appends to them; matrices beside them. -/
import Derived.Test.YtcgfdfdcbamceaaGreatDoorXAY
import Derived.Test.YtcgfdfdcbamceaaGreatDoorXAZ
namespace Go.Proofs.YtcgfdfdcbamceaaGreatDoor
open Go.RowKit
set_option maxRecDepth 100000 in
theorem rsign_any (v : Value) (q : Rat) (w : World) (h : Rt w v q) : Calls Tryz.prog 61 #[v] w fun e w' => e = .returned (I q.num.sign) ∧ Below w.heap.size w w' := by
 obtain ⟨A, l, c, B, m, d, rfl, hn, -⟩ := h.form
 obtain ⟨hv, hb⟩ := boxes1 w (.bool (decide (q.num < 0))) (.slice A l c) (.bool false) (.slice B m d)
 have HC := Lib.hid (sign_any _ _ _ (hn.ext hb))
 have HB := Lib.hid hb
 have v0 := hv.c0
 have v1 := hv.c1
 clear hb hn hv h
 generalize decide (q.num < 0) = nb at *
 unfold ratT at *
 go_enter Tryz.func61, Tryz.ntmps61
 go_wp2_with fail
 refine HC.out.mono ?_
 rintro e w1 ⟨rfl, hb⟩
 have HB1 := Lib.hid (HB.out.trans (hb.mono HB.out.size))
 clear hb HC HB v0 v1
 go_wp2
 go_ret
 exact ⟨rfl, HB1.out⟩
theorem sign_zero {q : Rat} : q.num.sign = 0 ↔ q = 0 := by rw [Int.sign_eq_zero_iff_zero, Rat.num_eq_zero]
theorem sign_ne {q : Rat} : (q.num.sign != 0) = decide (q ≠ 0) := by
 by_cases h : q = 0
 ·rw [decide_eq_false (fun k => k h), sign_zero.2 h]; rfl
 ·rw [decide_eq_true h]; exact bne_iff_ne.2 (fun k => h (sign_zero.1 k))
theorem C4.below {w w' : World} {b o : Nat} {x0 x1 x2 x3 : Value} (h : C4 w b o x0 x1 x2 x3) (hb : Below w.heap.size w w') : C4 w' b o x0 x1 x2 x3 := by
 have hl := World.block_lt_of_cell? w ⟨b, o, none⟩ h.c0
 exact ⟨(hb.cell (p := ⟨b, o, none⟩) hl).trans h.c0, (hb.cell (p := ⟨b, o + 1, none⟩) hl).trans h.c1, (hb.cell (p := ⟨b, o + 2, none⟩) hl).trans h.c2, (hb.cell (p := ⟨b, o + 3, none⟩) hl).trans h.c3⟩
theorem C4.drew {w : World} {b o : Nat} {x0 x1 x2 x3 : Value} (h : C4 w b o x0 x1 x2 x3) : C4 w.drew b o x0 x1 x2 x3 := ⟨h.c0, h.c1, h.c2, h.c3⟩
def Vq (w : World) (g : Nat) (q : Rat) : Prop := ∃ nb A l c B m d, Vr w g (.bool nb) (.slice A l c) (.bool false) (.slice B m d) ∧ Rt w (.agg #[.bool nb, .slice A l c, .bool false, .slice B m d]) q
theorem Vq.below {w w' : World} {g : Nat} {q : Rat} (h : Vq w g q) (hb : Below w.heap.size w w') : Vq w' g q := by
 obtain ⟨nb, A, l, c, B, m, d, h1, h2⟩ := h
 exact ⟨nb, A, l, c, B, m, d, h1.below hb, h2.ext hb⟩
theorem Rt.bools {w : World} {v : Value} {q : Rat} (h : Rt w v q) : ∃ nb A l c B m d, v = .agg #[.bool nb, .slice A l c, .bool false, .slice B m d] := by
 obtain ⟨A, l, c, B, m, d, e, -, -⟩ := h.form
 exact ⟨_, A, l, c, B, m, d, e⟩
def dotF (a b : List Rat) (i : Nat) : Rat := a.getD i 0 * b.getD i 0
structure DotFit (N : Nat) (a b : List Rat) : Prop where
 fa : ∀ i, i < a.length → FitR N (a.getD i 0)
 fb : ∀ i, i < a.length → FitR N (b.getD i 0)
 sum : ∀ k, k ≤ a.length → FitR N (sm k (dotF a b))
theorem fitR_mul {N : Nat} {x y : Rat} (hx : FitR N x) (hy : FitR N y) : FitR (N + N) (x * y) := by
 have h := divInt_mul x y
 have h1 := divInt_le (x.num * y.num) ((x.den : Int) * (y.den : Int))
 rw [h] at h1
 have f1 := hx.1.mul hy.1
 have f2 := hx.2.mul hy.2
 unfold FitR Fits at *
 have hd : (1 : Int) ≤ ((x.den : Int) * (y.den : Int)).natAbs := by
  have := mul_ne (den_ne x) (den_ne y)
  omega
 exact ⟨by omega, by omega⟩
set_option maxRecDepth 100000 in
set_option maxHeartbeats 4000000 in
theorem dot_any (a b : List Rat) (n : Nat) (A B : Option Addr) (ca nb cb : Nat) (w : World) (ha : RV w A n a) (hb : RV w B nb b) (hnb : n ≤ nb) (hn : n ≤ 1000000) {N : Nat} (hN : N ≤ 40000000) (hf : DotFit N a b) :
  Calls Tryz.prog 44 #[.slice A n ca, .slice B nb cb] w (RetRt w (dotQ a b)) := by
 have hN2 : N + N ≤ 100000000 := by omega
 have hla := ha.len
 have hlb := hb.len
 obtain ⟨vr, hb0⟩ := boxes1 w (.bool false) (.slice none 0 0) (.bool false) (.slice none 0 0)
 have VR0 := Lib.hid vr
 have HB0 := Lib.hid hb0
 have HF := Lib.hid hf
 have HA := Lib.hid ha
 have HBB := Lib.hid hb
 have HLA := Lib.hid hla
 have HLB := Lib.hid hlb
 clear vr hb0 hf ha hb
 have HW := Lib.hid (rwhole_any 0 (w.alloc (.cells #[.bool false, .slice none 0 0, .bool false, .slice none 0 0] ratT)) (by decide) (by decide))
 unfold ratT at *
 go_enter Tryz.func44, Tryz.ntmps44
 go_wp2_with fail
 refine HW.out.mono ?_
 rintro e w1 ⟨v, rfl, hv, hb⟩
 obtain ⟨nb0, A0, l0, c0, B0, m0, d0, rfl⟩ := hv.bools
 obtain ⟨vs1, hb1⟩ := boxes1 w1 (.bool nb0) (.slice A0 l0 c0) (.bool false) (.slice B0 m0 d0)
 unfold ratT at vs1 hb1
 have HB1 := Lib.hid ((HB0.out.trans (hb.mono HB0.out.size)).trans (hb1.mono (HB0.out.trans (hb.mono HB0.out.size)).size))
 have VR1 := Lib.hid ((VR0.out.below hb).below hb1)
 have HS1 := Lib.hid (show Vq _ w1.heap.size (sm 0 (dotF a b)) from ⟨_, _, _, _, _, _, _, vs1, hv.ext hb1⟩)
 have hR : w.heap.size < w1.heap.size := (VR0.out.below hb).lt
 clear hv hb vs1 hb1 HW HB0 VR0
 generalize hS : w1.heap.size = sB at *
 go_wp2
 go_loopg [10] (n - 0) (fun r v wr => ∃ k : Nat, r = n - k ∧ v = I k ∧ k ≤ n ∧ Hid (Vq wr sB (sm k (dotF a b))) ∧ Hid (Vr wr w.heap.size (.bool false) (.slice none 0 0) (.bool false) (.slice none 0 0)) ∧ Hid (Below w.heap.size w wr))
 case atStart => exact ⟨0, rfl, rfl, by omega, HS1, VR1, HB1⟩
 case round =>
  clear HS1 VR1 HB1
  obtain ⟨k, rfl, rfl, hk, HS, VR, HB⟩ := hrel
  obtain ⟨wa, rfl⟩ : ∃ wa : World, wa = wr := ⟨_, rfl⟩
  by_cases hlt : k < n
  ·obtain ⟨x, hx⟩ : ∃ x, a[k]? = some x := ⟨_, List.getElem?_eq_getElem (by omega)⟩
   obtain ⟨y, hy⟩ : ∃ y, b[k]? = some y := ⟨_, List.getElem?_eq_getElem (by omega)⟩
   obtain ⟨b1, o1, xb, xn, xnl, xnc, xd, xdl, xdc, rfl, _, hCx, hrx⟩ := (HA.out.below HB.out).form hlt x hx
   obtain ⟨b2, o2, yb, yn, ynl, ync, yd, ydl, ydc, rfl, _, hCy, hry⟩ := (HBB.out.below HB.out).form (show k < nb by omega) y hy
   have hlt2 : k < nb := by omega
   have HX := Lib.hid (show a.getD k 0 = x by rw [List.getD_eq_getElem?_getD, hx]; rfl)
   have HY := Lib.hid (show b.getD k 0 = y by rw [List.getD_eq_getElem?_getD, hy]; rfl)
   have HCX := Lib.hid hCx
   have HCY := Lib.hid hCy
   have HRX := Lib.hid hrx
   have HRY := Lib.hid hry
   clear hx hy hCx hCy hrx hry hla hlb
   have x0 := HCX.out.c0
   have x1 := HCX.out.c1
   have x2 := HCX.out.c2
   have x3 := HCX.out.c3
   have HSX := Lib.hid (rsign_any _ x wa HRX.out)
   go_wp2_with fail
   refine HSX.out.mono ?_
   rintro e w2 ⟨rfl, hb⟩
   have HB2 := Lib.hid (HB.out.trans (hb.mono HB.out.size))
   have VR2 := Lib.hid (VR.out.below hb)
   have HS2 := Lib.hid (HS.out.below hb)
   have HCX2 := Lib.hid (HCX.out.below hb)
   have HCY2 := Lib.hid (HCY.out.below hb)
   have HRX2 := Lib.hid (HRX.out.ext hb)
   have HRY2 := Lib.hid (HRY.out.ext hb)
   clear hb HB VR HS HCX HCY HRX HRY HSX x0 x1 x2 x3
   by_cases hx0 : x = 0
   ·have ts := sign_zero.2 hx0
    have HN := Lib.hid (show sm (k + 1) (dotF a b) = sm k (dotF a b) by rw [sm, dotF, HX.out, hx0]; grind)
    have HS3 := Lib.hid (show Vq w2 sB (sm (k + 1) (dotF a b)) by rw [HN.out]; exact HS2.out)
    rw [ts]
    clear hx0 ts HN
    go_wp2
    go_roundg (n - (k + 1))
    case measure => omega
    case rel => exact ⟨k + 1, rfl, by go_num, by omega, HS3, VR2, HB2⟩
   ·have ts : (x.num.sign != 0) = true := by rw [sign_ne]; exact decide_eq_true hx0
    clear hx0
    generalize x.num.sign = sx at *
    have y0 := HCY2.out.c0
    have y1 := HCY2.out.c1
    have y2 := HCY2.out.c2
    have y3 := HCY2.out.c3
    have HSY := Lib.hid (rsign_any _ y w2 HRY2.out)
    go_wp2_with fail
    refine HSY.out.mono ?_
    rintro e w3 ⟨rfl, hb⟩
    have HB3 := Lib.hid (HB2.out.trans (hb.mono HB2.out.size))
    have VR3 := Lib.hid (VR2.out.below hb)
    have HS3 := Lib.hid (HS2.out.below hb)
    have HCX3 := Lib.hid (HCX2.out.below hb)
    have HCY3 := Lib.hid (HCY2.out.below hb)
    have HRX3 := Lib.hid (HRX2.out.ext hb)
    have HRY3 := Lib.hid (HRY2.out.ext hb)
    clear hb HB2 VR2 HS2 HCX2 HCY2 HRX2 HRY2 HSY y0 y1 y2 y3
    by_cases hy0 : y = 0
    ·have tt := sign_zero.2 hy0
     have HN := Lib.hid (show sm (k + 1) (dotF a b) = sm k (dotF a b) by rw [sm, dotF, HY.out, hy0]; grind)
     have HS4 := Lib.hid (show Vq w3 sB (sm (k + 1) (dotF a b)) by rw [HN.out]; exact HS3.out)
     rw [tt]
     clear hy0 tt HN
     go_wp2
     go_roundg (n - (k + 1))
     case measure => omega
     case rel => exact ⟨k + 1, rfl, by go_num, by omega, HS4, VR3, HB3⟩
    ·have tt : (y.num.sign != 0) = true := by rw [sign_ne]; exact decide_eq_true hy0
     clear hy0
     generalize y.num.sign = sy at *
     have HFX := Lib.hid (show FitR N x by rw [← HX.out]; exact HF.out.fa k (by rw [HLA.out]; exact hlt))
     have HFY := Lib.hid (show FitR N y by rw [← HY.out]; exact HF.out.fb k (by rw [HLA.out]; exact hlt))
     have HFS := Lib.hid (HF.out.sum k (by rw [HLA.out]; exact hk))
     have HN := Lib.hid (show sm (k + 1) (dotF a b) = sm k (dotF a b) + x * y by rw [sm, dotF, HX.out, HY.out])
     obtain ⟨tb, An, ln, cn, Ad, ld, cd, vs, hs⟩ := HS3.out
     have VS := Lib.hid vs.drew
     have HSQ := Lib.hid hs.drew
     have VRd := Lib.hid VR3.out.drew
     have HBd := Lib.hid HB3.out.drew
     have HCXd := Lib.hid HCX3.out.drew
     have HCYd := Lib.hid HCY3.out.drew
     have HRXd := Lib.hid HRX3.out.drew
     have HRYd := Lib.hid HRY3.out.drew
     clear vs hs HS3 HB3 VR3 HCX3 HCY3 HRX3 HRY3
     go_upto_region 6 with (fail)
     refine wp_region_c (fun w' => w'.cell? ⟨sB, 0, none⟩ = some (.bool tb) ∧ w'.cell? ⟨sB, 1, none⟩ = some (.slice An ln cn) ∧ w'.cell? ⟨sB, 2, none⟩ = some (.bool false) ∧ w'.cell? ⟨sB, 3, none⟩ = some (.slice Ad ld cd) ∧ w'.cell? ⟨b1, o1 + k * 4, none⟩ = some (.bool xb) ∧ w'.cell? ⟨b1, o1 + k * 4 + 1, none⟩ = some (.slice xn xnl xnc) ∧ w'.cell? ⟨b1, o1 + k * 4 + 2, none⟩ = some (.bool false) ∧ w'.cell? ⟨b1, o1 + k * 4 + 3, none⟩ = some (.slice xd xdl xdc) ∧ w'.cell? ⟨b2, o2 + k * 4, none⟩ = some (.bool yb) ∧ w'.cell? ⟨b2, o2 + k * 4 + 1, none⟩ = some (.slice yn ynl ync) ∧ w'.cell? ⟨b2, o2 + k * 4 + 2, none⟩ = some (.bool false) ∧ w'.cell? ⟨b2, o2 + k * 4 + 3, none⟩ = some (.slice yd ydl ydc)) 11 (by kernel_rfl) ?_
     refine tkS ⟨VS.out.c0, VS.out.c1, VS.out.c2, VS.out.c3, HCXd.out.c0, HCXd.out.c1, HCXd.out.c2, HCXd.out.c3, HCYd.out.c0, HCYd.out.c1, HCYd.out.c2, HCYd.out.c3⟩ fun hSS => ?_
     refine tq 0 (.agg #[.bool tb, .slice An ln cn, .bool false, .slice Ad ld cd]) rfl ?_ hSS ?_
     ·rintro w ⟨s0, s1, s2, s3, s4, s5, s6, s7, s8, s9, s10, s11⟩
      go_simp
     try simp only [Act.put, List.setIfInBounds_toArray]
     refine tq 1 (.slice (some ⟨b1, o1, none⟩) n ca) rfl ?_ hSS ?_
     ·rintro w ⟨s0, s1, s2, s3, s4, s5, s6, s7, s8, s9, s10, s11⟩
      go_simp
     try simp only [Act.put]
     refine tq 2 (I k) rfl ?_ hSS ?_
     ·rintro w ⟨s0, s1, s2, s3, s4, s5, s6, s7, s8, s9, s10, s11⟩
      go_simp
     try simp only [Act.put]
     refine tq 3 (.pointer (some ⟨b1, o1 + k * 4, none⟩)) rfl ?_ hSS ?_
     ·rintro w ⟨s0, s1, s2, s3, s4, s5, s6, s7, s8, s9, s10, s11⟩
      go_simp
     try simp only [Act.put]
     refine tq 4 (.agg #[.bool xb, .slice xn xnl xnc, .bool false, .slice xd xdl xdc]) rfl ?_ hSS ?_
     ·rintro w ⟨s0, s1, s2, s3, s4, s5, s6, s7, s8, s9, s10, s11⟩
      go_simp
     try simp only [Act.put]
     refine tq 5 (.slice (some ⟨b2, o2, none⟩) nb cb) rfl ?_ hSS ?_
     ·rintro w ⟨s0, s1, s2, s3, s4, s5, s6, s7, s8, s9, s10, s11⟩
      go_simp
     try simp only [Act.put]
     refine tq 6 (I k) rfl ?_ hSS ?_
     ·rintro w ⟨s0, s1, s2, s3, s4, s5, s6, s7, s8, s9, s10, s11⟩
      go_simp
     try simp only [Act.put]
     refine tq 7 (.pointer (some ⟨b2, o2 + k * 4, none⟩)) rfl ?_ hSS ?_
     ·rintro w ⟨s0, s1, s2, s3, s4, s5, s6, s7, s8, s9, s10, s11⟩
      go_simp
     try simp only [Act.put]
     refine tq 8 (.agg #[.bool yb, .slice yn ynl ync, .bool false, .slice yd ydl ydc]) rfl ?_ hSS ?_
     ·rintro w ⟨s0, s1, s2, s3, s4, s5, s6, s7, s8, s9, s10, s11⟩
      go_simp
     try simp only [Act.put]
     refine on1 9 fun K hK => ?_
     go_simp
     go_at_call 54
     refine (rmul_any _ _ x y _ HRXd.out HRYd.out (N := N) (by omega) HFX.out HFY.out).mono ?_
     rintro e w4 ⟨v4, rfl, hv, hb⟩
     obtain ⟨pb, pn, pnl, pnc, pd, pdl, pdc, rfl⟩ := hv.bools
     have HB4 := Lib.hid (HBd.out.trans (hb.mono HBd.out.size))
     have VR4 := Lib.hid (VRd.out.below hb)
     have VS4 := Lib.hid (VS.out.below hb)
     have HSQ4 := Lib.hid (HSQ.out.ext hb)
     have HCX4 := Lib.hid (HCXd.out.below hb)
     have HCY4 := Lib.hid (HCYd.out.below hb)
     have HV4 := Lib.hid hv
     clear hb hv
     refine hK.out _ _ (fun _ => ⟨VS4.out.c0, VS4.out.c1, VS4.out.c2, VS4.out.c3, HCX4.out.c0, HCX4.out.c1, HCX4.out.c2, HCX4.out.c3, HCY4.out.c0, HCY4.out.c1, HCY4.out.c2, HCY4.out.c3⟩) ?_
     clear hK K
     try simp only [Act.put, putA, putZ, putC]
     clear HBd VRd VS HSQ HCXd HCYd
     refine on1 10 fun K hK => ?_
     go_simp
     go_at_call 40
     refine (radd_any _ _ (sm k (dotF a b)) (x * y) _ HSQ4.out HV4.out (N := N + N) hN2 (HFS.out.mono (Nat.le_add_right N N)) (fitR_mul HFX.out HFY.out)).mono ?_
     rintro e w5 ⟨v5, rfl, hv, hb⟩
     obtain ⟨qb, qn, qnl, qnc, qd, qdl, qdc, rfl⟩ := hv.bools
     have HB5 := Lib.hid (HB4.out.trans (hb.mono HB4.out.size))
     have VR5 := Lib.hid (VR4.out.below hb)
     have VS5 := Lib.hid (VS4.out.below hb)
     have HCX5 := Lib.hid (HCX4.out.below hb)
     have HCY5 := Lib.hid (HCY4.out.below hb)
     have HV5 := Lib.hid hv
     clear hb hv
     refine hK.out _ _ (fun _ => ⟨VS5.out.c0, VS5.out.c1, VS5.out.c2, VS5.out.c3, HCX5.out.c0, HCX5.out.c1, HCX5.out.c2, HCX5.out.c3, HCY5.out.c0, HCY5.out.c1, HCY5.out.c2, HCY5.out.c3⟩) ?_
     clear hK K
     try simp only [Act.put, putA, putZ, putC]
     clear HB4 VR4 VS4 HSQ4 HCX4 HCY4 HV4
     have HZ := Lib.hid (VS5.out.set (.bool qb) (.slice qn qnl qnc) (.bool false) (.slice qd qdl qdc))
     have HQ := Lib.hid (HV5.out.set4 VS5.out (.bool qb) (.slice qn qnl qnc) (.bool false) (.slice qd qdl qdc))
     have VR6 := Lib.hid (VR5.out.far (g' := sB) (by omega) (.bool qb) (.slice qn qnl qnc) (.bool false) (.slice qd qdl qdc))
     have HB6 := Lib.hid (below_set4 HB5.out (g := sB) (by omega) (.bool qb) (.slice qn qnl qnc) (.bool false) (.slice qd qdl qdc))
     have HS6 := Lib.hid (show Vq _ sB (sm (k + 1) (dotF a b)) from ⟨_, _, _, _, _, _, _, HZ.out, by rw [HN.out]; exact HQ.out⟩)
     unfold set4 at HS6 VR6 HB6
     have r0 := VS5.out.c0
     have q0 := VS5.out.f0
     have r1 := VS5.out.c1
     have q1 := VS5.out.f1
     have r2 := VS5.out.c2
     have q2 := VS5.out.f2
     have r3 := VS5.out.c3
     have q3 := VS5.out.f3
     clear HZ HQ HV5 HCX5 HCY5 VR5 VS5 HB5
     refine on1 11 fun K hK => ?_
     go_simp
     refine hK.out _ _ (fun h => absurd h (by decide)) ?_
     clear hK K
     clear r0 r1 r2 r3 q0 q1 q2 q3
     refine wpAnyC_done (by kernel_rfl) ?_ _
     go_wp2
     go_roundg (n - (k + 1))
     case measure => omega
     case rel => exact ⟨k + 1, rfl, by go_num, by omega, HS6, VR6, HB6⟩
  ·have hkn : k = n := by omega
   subst hkn
   obtain ⟨tb, An, ln, cn, Ad, ld, cd, vs, hs⟩ := HS.out
   have hD : sm k (dotF a b) = dotQ a b := by rw [dotQ, HLA.out]; rfl
   rw [hD] at hs
   have HR := Lib.hid (ret_rat_set (g := w.heap.size) HB.out (Nat.le_refl _) VR.out hs)
   have HZ := Lib.hid (VR.out.set (.bool tb) (.slice An ln cn) (.bool false) (.slice Ad ld cd))
   have s0 := vs.c0
   have s1 := vs.c1
   have s2 := vs.c2
   have s3 := vs.c3
   have r0 := VR.out.c0
   have r1 := VR.out.c1
   have r2 := VR.out.c2
   have r3 := VR.out.c3
   have q0 := VR.out.f0
   have q1 := VR.out.f1
   have q2 := VR.out.f2
   have q3 := VR.out.f3
   unfold set4 at HR HZ
   clear vs hs HS VR HB hD
   go_wp2
   have z0 := HZ.out.c0
   have z1 := HZ.out.c1
   have z2 := HZ.out.c2
   have z3 := HZ.out.c3
   generalize (((wa.setCell ⟨w.heap.size, 0, none⟩ (.bool tb)).setCell ⟨w.heap.size, 1, none⟩ (.slice An ln cn)).setCell ⟨w.heap.size, 2, none⟩ (.bool false)).setCell ⟨w.heap.size, 3, none⟩ (.slice Ad ld cd) = W at *
   exact bodyPost_ret (v := .agg #[.bool tb, .slice An ln cn, .bool false, .slice Ad ld cd]) (by simp [results, Tryz.results44, go_sem, z0, z1, z2, z3]) rfl HR.out
theorem sl_addr {A B : Option Addr} {n c n' c' : Nat} (h : Value.slice A n c = .slice B n' c') : A = B := by
 injection h
theorem RRow.putEl {w : World} {base g off n c : Nat} {qs : List Rat} (h : RRow w base (.slice (some ⟨g, off, none⟩) n c) qs) {k : Nat} (hk : k < n) {u0 u1 u2 u3 : Value} {r : Rat} (hr : Rt w (.agg #[u0, u1, u2, u3]) r) :
  RRow (put4 w g (off + k * 4) u0 u1 u2 u3) base (.slice (some ⟨g, off, none⟩) n c) (qs.set k r) ∧ Kw w (put4 w g (off + k * 4) u0 u1 u2 u3) ∧ base ≤ g := by
 obtain ⟨⟨xs, hrow, hxs⟩, hnw⟩ := h
 have hn : qs.length = n := by
  obtain ⟨A', c', e⟩ := hrow.val
  injection e with _ e _
  exact e.symm
 rw [hn] at hrow
 obtain ⟨hb, hlt, cur, hB⟩ := own_lt hrow (g := g) rfl
 obtain ⟨n0, n1, n2, n3⟩ := hr.noW
 have hcw := noWord_of hB (fun o x => hnw g o x rfl)
 have hkw := kw_put4 hB hcw (off + k * 4) (u3 := u3) n0 n1 n2
 obtain ⟨cs', hB', hw'⟩ := put4_blk hB hcw (off + k * 4) n0 n1 n2 n3
 have h0 := hrow.set_at (j := k * 4) (by omega) u0
 have h1 := h0.set_at (j := k * 4 + 1) (by omega) u1
 have h2 := h1.set_at (j := k * 4 + 2) (by omega) u2
 have h3 := h2.set_at (j := k * 4 + 3) (by omega) u3
 refine ⟨⟨⟨set4L xs k u0 u1 u2 u3, ?_, (hxs.kw hkw).set_ (hr.kw hkw) k (by omega)⟩, fun g' o x hg' => ?_⟩, hkw, hb⟩
 ·rw [List.length_set, hn]
  exact h3
 ·have hg' : g = g' := by simpa [Value.ownBlock] using hg'
  subst hg'
  exact blk_noWord hB' hw' o x
theorem put4_below {w w' : World} {B g o : Nat} (hb : Below B w w') (hg : B ≤ g) (u0 u1 u2 u3 : Value) : Below B w (put4 w' g o u0 u1 u2 u3) :=
 (((hb.setCell (p := ⟨g, o, none⟩) hg u0).setCell (p := ⟨g, o + 1, none⟩) hg u1).setCell (p := ⟨g, o + 2, none⟩) hg u2).setCell (p := ⟨g, o + 3, none⟩) hg u3
structure El (w : World) (b o : Nat) (x0 x1 x2 x3 : Value) : Prop where
 c0 : w.cell? ⟨b, o, none⟩ = some x0
 c1 : w.cell? ⟨b, o + 1, none⟩ = some x1
 c2 : w.cell? ⟨b, o + 2, none⟩ = some x2
 c3 : w.cell? ⟨b, o + 3, none⟩ = some x3
 f0 : w.frozen? ⟨b, o, none⟩ = false
 f1 : w.frozen? ⟨b, o + 1, none⟩ = false
 f2 : w.frozen? ⟨b, o + 2, none⟩ = false
 f3 : w.frozen? ⟨b, o + 3, none⟩ = false
theorem El.below {w w' : World} {b o : Nat} {x0 x1 x2 x3 : Value} (h : El w b o x0 x1 x2 x3) (hb : Below w.heap.size w w') : El w' b o x0 x1 x2 x3 := by
 have hl := World.block_lt_of_cell? w ⟨b, o, none⟩ h.c0
 exact ⟨(hb.cell (p := ⟨b, o, none⟩) hl).trans h.c0, (hb.cell (p := ⟨b, o + 1, none⟩) hl).trans h.c1, (hb.cell (p := ⟨b, o + 2, none⟩) hl).trans h.c2, (hb.cell (p := ⟨b, o + 3, none⟩) hl).trans h.c3,
  (hb.frozen (p := ⟨b, o, none⟩) hl).trans h.f0, (hb.frozen (p := ⟨b, o + 1, none⟩) hl).trans h.f1, (hb.frozen (p := ⟨b, o + 2, none⟩) hl).trans h.f2, (hb.frozen (p := ⟨b, o + 3, none⟩) hl).trans h.f3⟩
theorem RRow.el {w : World} {base : Nat} {v : Value} {qs : List Rat} (h : RRow w base v qs) {n k : Nat} (hn : qs.length = n) (hk : k < n) :
  ∃ b o c nb B1 l1 c1 B2 l2 c2, v = .slice (some ⟨b, o, none⟩) n c ∧ El w b (o + k * 4) (.bool nb) (.slice B1 l1 c1) (.bool false) (.slice B2 l2 c2) ∧ base ≤ b ∧ b < w.heap.size := by
 subst hn
 obtain ⟨A, c, rfl⟩ := h.val
 have hq : qs[k]? = some (qs.getD k 0) := by rw [List.getD_eq_getElem?_getD, List.getElem?_eq_getElem hk]; rfl
 obtain ⟨b, o, nb, B1, l1, c1, B2, l2, c2, rfl, hbl, hC, hrt⟩ := h.rv.form hk _ hq
 obtain ⟨cur, hB⟩ := h.blk (g := b) rfl
 exact ⟨b, o, c, nb, B1, l1, c1, B2, l2, c2, rfl, ⟨hC.c0, hC.c1, hC.c2, hC.c3, hB.frozen _, hB.frozen _, hB.frozen _, hB.frozen _⟩, (h.lt (g := b) rfl).1, hbl⟩
theorem wpList_appN {w : World} {ops : Array Oper} {rest : List Oper} {o : Oper} {a : Act} {Q : Exit → Act → World → Prop} (hgd : o.guard = none) (s x : Operand)
  (ho : o.op = .call { callee := .builtin .append, args := #[s, x], argTypes := #[rowT, rowT] }) (base : Nat) (v : Value) (qs : List Rat) (hsv : a.eval s = v) (hr : RRow w base v qs)
  (B : Option Addr) (m c : Nat) (hx : a.eval x = .slice B m c) {rs : List Rat} (hq : RV w B m rs) (hl : qs.length + m ≤ 1000000) (hbase : base ≤ w.heap.size)
  (h : ∀ v' w', Apd w base v (qs ++ rs) v' w' → wpList Tryz.prog ops Q rest (a.put o.dst v') w') : wpList Tryz.prog ops Q (o :: rest) a w := by
 refine wpList_plain hgd fun K hK => ?_
 obtain ⟨i, hi, hz0, hz1, hz2⟩ := info_parts info_rat
 obtain ⟨news, hs, hn⟩ := hq
 obtain ⟨v', w', hrun, hap⟩ := run_append_rats (P := Tryz.prog) w base rowT o.type i _ 64 Tryz.underlying66 hi hz0 hz1 hz2 rfl v qs hr w.heap.size B m c news rs hs hn (by unfold maxLen; omega) (by omega) hbase
 unfold Oper.wp execOp
 simp only [ho, resolve, invoke, builtin, Sem.run_bind, Sem.run_pure, Result.andThen_ok, List.map_toArray, List.map_cons, List.map_nil, hsv, hx, hrun]
 exact hK _ _ (h v' w' hap)
structure NRow (w : World) (base : Nat) (e : TypeId) (v : Value) (xs : List Value) : Prop where
 row : Row w base e 1 v xs.length xs
 nw : ∀ g o n, v.ownBlock = some g → w.cell? ⟨g, o, none⟩ ≠ some (U n)
 wd : ∀ u ∈ xs, noWord u ∧ u.oneCell' = true
theorem NRow.nil (w : World) (base : Nat) (e : TypeId) : NRow w base e (.slice none 0 0) [] := ⟨Row.nil _ _ _ _, fun g o n h => (by cases h), fun u hu => (by cases hu)⟩
theorem NRow.call {w w' : World} {base : Nat} {e : TypeId} {v : Value} {xs : List Value} (h : NRow w base e v xs) (hb : Below w.heap.size w w') : NRow w' base e v xs := by
 refine ⟨h.row.call hb, fun g o n hg => ?_, h.wd⟩
 rw [hb.cell (p := ⟨g, o, none⟩) (own_lt h.row hg).2.1]
 exact h.nw g o n hg
theorem NRow.keep {w w' : World} {base : Nat} {e : TypeId} {v : Value} {xs : List Value} (h : NRow w base e v xs) (hk : ∀ g, v.ownBlock = some g → w'.heap[g]? = w.heap[g]?) : NRow w' base e v xs := by
 refine ⟨⟨h.row.1, h.row.2.imp id ?_⟩, fun g o n hg => ?_, h.wd⟩
 ·rintro ⟨g, off, cap, cur, hv, hb, hh, r⟩
  exact ⟨g, off, cap, cur, hv, hb, (hk g (by rw [hv]; rfl)).trans hh, r⟩
 ·rw [World.cell?_of_block (a := ⟨g, o, none⟩) (hk g hg)]
  exact h.nw g o n hg
theorem NRow.val {w : World} {base : Nat} {e : TypeId} {v : Value} {xs : List Value} (h : NRow w base e v xs) : ∃ A c, v = .slice A xs.length c := h.row.val
theorem NRow.blk {w : World} {base : Nat} {e : TypeId} {v : Value} {xs : List Value} (h : NRow w base e v xs) {g : Nat} (hg : v.ownBlock = some g) : base ≤ g ∧ g < w.heap.size ∧ ∃ cur, Blk w g e cur := own_lt h.row hg
structure NApd (w : World) (base : Nat) (e : TypeId) (v : Value) (xs : List Value) (v' : Value) (w' : World) : Prop where
 row : NRow w' base e v' xs
 kw : Kw w w'
 grown : w.grownBy w' v.ownBlock
 own : ∀ g, v'.ownBlock = some g → v.ownBlock = some g ∨ w.heap.size ≤ g
theorem run_append_nw {P : Program} (w : World) (base : Nat) (t ty e : TypeId) (i : TypeInfo) (z : Value) (bytes : Nat) (ht : P.underlying t = some (.slice e)) (hi : P.info? e = some i) (hz : i.zero = some z)
  (hsize : i.size = 1) (hby : i.bytes = bytes) (hz1 : z.cells.size = 1) (hzw : ∀ n, ∀ u ∈ (Builtin.zeroCells z.cells n).toList, noWord u) (v : Value) (xs : List Value) (hr : NRow w base e v xs)
  (B : Nat) (A : Option Addr) (m c : Nat) (news : List Value) (hs : Reads w B 1 A m news) (hl : ∀ u ∈ news, noWord u ∧ u.oneCell' = true)
  (h63 : xs.length + m ≤ maxLen) (hbytes : (xs.length + m) * bytes ≤ 140737488355328) (hbase : base ≤ w.heap.size) :
  ∃ v' w', (Builtin.append_ #[t, t] ty #[v, .slice A m c]).run P w = .ok v' w' ∧ NApd w base e v (xs ++ news) v' w' := by
 have hrl : news.length = m := by have := hs.1; omega
 have h1 : ∀ u ∈ news, u.oneCell' = true := fun u hu => (hl u hu).2
 have h1w : ∀ u ∈ news, noWord u := fun u hu => (hl u hu).1
 obtain ⟨hrow, hnw, hxs⟩ := id hr
 rcases A with _ | ad
 ·have hm : m = 0 := by
   rcases Nat.eq_zero_or_pos m with h0 | h0
   ·exact h0
   ·obtain ⟨b, off, h, _⟩ := hs.2 h0
    cases h
  have hn : news = [] := List.eq_nil_of_length_eq_zero (by omega)
  subst hm hn
  exact ⟨v, w, run_append_nothing w base t ty e i ht hi 1 xs.length v xs hrow c, by rw [List.append_nil]; exact hr, Kw.refl w, ⟨rfl, rfl, rfl, Nat.le_refl _, fun _ _ _ => rfl⟩, fun g h => .inl h⟩
 ·have hcells : ∀ j u, news[j]? = some u → w.cell? (ad.add j) = some u := by
   intro j u hu
   rcases Nat.eq_zero_or_pos m with h0 | h0
   ·subst h0
    have hn : news = [] := List.eq_nil_of_length_eq_zero (by simpa using hs.1)
    subst hn
    simp at hu
   ·obtain ⟨b, off, h, _, hc⟩ := hs.2 h0
    injection h with h
    subst h
    rw [Addr.add_lit]
    exact hc j u hu
  have hlen : (xs ++ news).length = (xs ++ news).length * 1 := by omega
  have wda : ∀ u ∈ xs ++ news, noWord u ∧ u.oneCell' = true := fun u hu => (List.mem_append.1 hu).elim (hxs u) (hl u)
  have hql : (xs ++ news).length = xs.length + m := by rw [List.length_append, hrl]
  have fresh : ∀ cap, xs.length + m ≤ cap → cap ≤ maxLen → ∀ zs : Array Value, zs.size = (cap - (xs.length + m)) * 1 → (∀ u ∈ zs.toList, noWord u) →
    NApd w base e v (xs ++ news) (.slice (some ⟨w.heap.size, 0, none⟩) (xs.length + m) cap) (w.drew.alloc (.cells ((xs ++ news).toArray ++ zs) e)) := by
   intro cap hc1 hc2 zs hzs hzw
   have hb : Below w.heap.size w (w.drew.alloc (.cells ((xs ++ news).toArray ++ zs) e)) := (Below.refl w.heap.size w).drew.alloc (Nat.le_refl _) _
   have hk := kw_below hb
   have hB : Blk (w.drew.alloc (.cells ((xs ++ news).toArray ++ zs) e)) w.heap.size e ((xs ++ news).toArray ++ zs) := heap_alloc_new w.drew _
   refine ⟨⟨⟨hlen, .inr ⟨w.heap.size, 0, cap, _, by rw [hql], hbase, hB, by rw [hql]; exact hc1, hc2, ?_, ?_⟩⟩, ?_, wda⟩, hk, ⟨rfl, rfl, rfl, by simp, fun k hk _ => Below.heap_alloc w.drew _ k hk⟩, fun g hg => .inr ?_⟩
   ·rw [Array.size_append, hzs, List.size_toArray, hlen, hql, ← Nat.add_mul]
    have : xs.length + m + (cap - (xs.length + m)) = cap := by omega
    rw [this]; omega
   ·rw [List.drop_zero, Array.toList_append, Nat.mul_one, List.take_append_of_le_length (Nat.le_refl _), List.take_of_length_le (Nat.le_refl _)]
   ·intro g o n hg
    have hg : w.heap.size = g := by simpa [Value.ownBlock] using hg
    subst hg
    refine blk_noWord hB (fun u hu => ?_) o n
    rw [Array.toList_append, List.mem_append] at hu
    rcases hu with hu | hu
    ·simp only [List.mem_append] at hu
     rcases hu with hu | hu
     ·exact (hxs u hu).1
     ·exact h1w u hu
    ·exact hzw u hu
   ·have hg : w.heap.size = g := by simpa [Value.ownBlock] using hg
    omega
  have zsz : ∀ k, (Builtin.zeroCells z.cells k).size = k * 1 := fun k => by rw [size_zeroCells, hz1]
  rcases Nat.eq_zero_or_pos m with hm0 | hm0
  ·have hnews : news = [] := List.eq_nil_of_length_eq_zero (by have := hs.1; omega)
   subst hm0 hnews
   have hf := run_firstCells_some (P := P) w i.size 0 ad 0 c [] (by simp) (by simp)
   have hrun : (Builtin.append_ #[t, t] ty #[v, .slice (some ad) 0 c]).run P w = .ok v w := by
    rcases hrow.2 with ⟨rfl, h0⟩ | ⟨g, off, cap, cur, rfl, hbg, hg, hnc, hcm, hcs, htake⟩
    ·simp [Builtin.append_, run_underlying ht, sizeOf, typeInfo, hi, Builtin.lenOf, hf]
    ·simp [Builtin.append_, run_underlying ht, sizeOf, typeInfo, hi, Builtin.lenOf, hf, hnc, storeCells]
   exact ⟨_, _, hrun, by rw [List.append_nil]; exact hr, Kw.refl _, ⟨rfl, rfl, rfl, Nat.le_refl _, fun _ _ _ => rfl⟩, fun g h => .inl h⟩
  rcases hrow.2 with ⟨rfl, h0⟩ | ⟨g, off, cap, cur, rfl, hbg, hg, hnc, hcm, hcs, htake⟩
  ·have hx : xs = [] := List.eq_nil_of_length_eq_zero (by have := hrow.1; omega)
   subst hx
   have hrun := run_append_nil (P := P) w t ty e i z ht hi hz ad m c news (by rw [hsize]; exact hs.1) hcells hm0 (by simp only [maxLen, List.length_nil] at h63; omega) (by rw [hby]; simp only [List.length_nil, Nat.zero_add] at hbytes; omega)
   have hge := grownCap_ge w m 0 e
   have hcm := grownCap_le_maxLen w m 0 e (by simpa using h63)
   refine ⟨_, _, hrun, ?_⟩
   have := fresh (grownCap w m 0 e) (by simpa using hge) hcm (Builtin.zeroCells z.cells (grownCap w m 0 e - m)) (by rw [zsz]; simp) (hzw _)
   simpa using this
  ·by_cases hroom : xs.length + m ≤ cap
   ·have hle : (xs.length + m) * 1 ≤ cap * 1 := Nat.mul_le_mul_right _ hroom
    rw [Nat.add_mul] at hle
    have hln := hs.1
    have hfit : off + xs.length * i.size + news.length ≤ cur.size := by rw [hsize]; omega
    have hrun := run_append_room_off (P := P) w t ty e i ht hi g off xs.length cap cur hg ad m c news (by rw [hsize]; exact hs.1) hcells h1 hroom hfit
    rw [hsize] at hrun
    have hcw := noWord_of hg (fun o n => hnw g o n (by simp [Value.ownBlock]))
    have hB : Blk (w.setRow g (cur.toList.take (off + xs.length * 1) ++ news ++ cur.toList.drop (off + xs.length * 1 + news.length)).toArray) g e (cur.toList.take (off + xs.length * 1) ++ news ++ cur.toList.drop (off + xs.length * 1 + news.length)).toArray := setRow_heap w g cur _ e _ hg
    have hk : Kw w (w.setRow g (cur.toList.take (off + xs.length * 1) ++ news ++ cur.toList.drop (off + xs.length * 1 + news.length)).toArray) := by
     refine ⟨by simp [World.setRow], fun p n e => ?_⟩
     have hpb : p.block ≠ g := by
      intro hpg
      have hpl := World.cell?_of_block (w := w) (w' := w) (a := p) rfl
      cases p with
      | mk pb po ps =>
       simp only at hpg
       subst hpg
       cases ps with
       | none => exact hnw pb po n (by simp [Value.ownBlock]) e
       | some s =>
        unfold Blk at hg
        simp [World.cell?, hg] at e
     rw [World.cell?_of_block (a := p) (setRow_other w g p.block _ hpb)]
     exact e
    refine ⟨_, _, hrun, ⟨⟨⟨hlen, .inr ⟨g, off, cap, _, by rw [hql], hbg, hB, by rw [hql]; exact hroom, hcm, ?_, ?_⟩⟩, ?_, wda⟩, hk, ?_, fun g' hg' => .inl (by simpa [Value.ownBlock] using hg')⟩⟩
    ·simp only [List.size_toArray, List.length_append, List.length_take, List.length_drop, Array.length_toList]
     omega
    ·simp only
     rw [hql, Nat.add_mul, ← hln]
     exact room_list (m := news.length) htake hrow.1 rfl (by simp only [Array.length_toList]; omega)
    ·intro g' o n hg'
     have hg' : g = g' := by simpa [Value.ownBlock] using hg'
     subst hg'
     refine blk_noWord hB (fun u hu => ?_) o n
     simp only [List.mem_append] at hu
     rcases hu with (hu | hu) | hu
     ·exact hcw u (List.mem_of_mem_take hu)
     ·exact h1w u hu
     ·exact hcw u (List.mem_of_mem_drop hu)
    ·exact ⟨rfl, rfl, rfl, by simp [World.setRow], fun k _ hk => setRow_other w g k _ (fun e => hk (by simp [Value.ownBlock, e]))⟩
   ·have holds : ∀ j u, xs[j]? = some u → w.cell? ((⟨g, off, none⟩ : Addr).add j) = some u := by
     intro j u hu
     rw [Addr.add_lit, hg.cell]
     rw [← htake, List.getElem?_take] at hu
     split at hu
     ·simpa using hu
     ·cases hu
    have hrun := run_append_grow (P := P) w t ty e i z ht hi hz ⟨g, off, none⟩ xs.length cap xs (by rw [hsize]; exact hrow.1) holds ad m c news (by rw [hsize]; exact hs.1) hcells (by omega) (by simp only [maxLen] at h63; omega) (growslice_fits (by omega) (by rw [hby]; exact hbytes))
    have hge := grownCap_ge w (xs.length + m) cap e
    have hcm2 := grownCap_le_maxLen w (xs.length + m) cap e h63
    refine ⟨_, _, hrun, ?_⟩
    have := fresh (grownCap w (xs.length + m) cap e) hge hcm2 (Builtin.zeroCells z.cells (grownCap w (xs.length + m) cap e - (xs.length + m))) (zsz _) (hzw _)
    simpa using this
end Go.Proofs.YtcgfdfdcbamceaaGreatDoor
