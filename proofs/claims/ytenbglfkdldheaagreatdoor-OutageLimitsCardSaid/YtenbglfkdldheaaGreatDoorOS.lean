/- (large.Rat).Sign, large.Dot. -/
import Derived.Test.YtenbglfkdldheaaGreatDoorOQ
import Derived.Test.YtenbglfkdldheaaGreatDoorOR
set_option maxRecDepth 100000
set_option maxHeartbeats 4000000
namespace Go.Proofs.YtenbglfkdldheaaGreatDoor
open Go.RowKit
theorem gU (v : Value) (q : Rat) (w : World) (h : Rt w v q) : Calls Tryz.prog 154 #[v] w fun e w' => e = .returned (I q.num.sign) ∧ Below w.heap.size w w' := by
 obtain ⟨A, l, c, B, m, d, rfl, hn, -⟩ := h.form
 obtain ⟨hv, hb⟩ := iM w (.bool (decide (q.num < 0))) (.slice A l c) (.bool false) (.slice B m d)
 have HC := aH (qO _ _ _ (hn.ext hb))
 have HB := aH hb
 have v0 := hv.c0
 have v1 := hv.c1
 clear hb hn hv h
 generalize decide (q.num < 0) = nb at *
 unfold aJ at *
 go_enter Tryz.func154, Tryz.ntmps154
 go_wp2_with fail
 refine HC.out.mono ?_
 rintro e w1 ⟨rfl, hb⟩
 have HB1 := aH (HB.out.trans (hb.mono HB.out.size))
 clear hb HC HB v0 v1
 go_wp2
 go_ret
 exact ⟨rfl, HB1.out⟩
theorem dP {q : Rat} : q.num.sign = 0 ↔ q = 0 := by rw [Int.sign_eq_zero_iff_zero, Rat.num_eq_zero]
theorem aBz {q : Rat} : (q.num.sign != 0) = decide (q ≠ 0) := by
 by_cases h : q = 0
 ·rw [decide_eq_false (fun k => k h), dP.2 h]; rfl
 ·rw [decide_eq_true h]; exact bne_iff_ne.2 (fun k => h (dP.1 k))
theorem C4.below {w w' : World} {b o : Nat} {x0 x1 x2 x3 : Value} (h : C4 w b o x0 x1 x2 x3) (hb : Below w.heap.size w w') : C4 w' b o x0 x1 x2 x3 := by
 have hl := World.block_lt_of_cell? w ⟨b, o, none⟩ h.c0
 exact ⟨(hb.cell (p := ⟨b, o, none⟩) hl).trans h.c0, (hb.cell (p := ⟨b, o + 1, none⟩) hl).trans h.c1, (hb.cell (p := ⟨b, o + 2, none⟩) hl).trans h.c2, (hb.cell (p := ⟨b, o + 3, none⟩) hl).trans h.c3⟩
theorem C4.drew {w : World} {b o : Nat} {x0 x1 x2 x3 : Value} (h : C4 w b o x0 x1 x2 x3) : C4 w.drew b o x0 x1 x2 x3 := ⟨h.c0, h.c1, h.c2, h.c3⟩
def Vq (w : World) (g : Nat) (q : Rat) : Prop := ∃ nb A l c B m d, Vr w g (.bool nb) (.slice A l c) (.bool false) (.slice B m d) ∧ Rt w (.agg #[.bool nb, .slice A l c, .bool false, .slice B m d]) q
theorem Vq.below {w w' : World} {g : Nat} {q : Rat} (h : Vq w g q) (hb : Below w.heap.size w w') : Vq w' g q := by
 obtain ⟨nb, A, l, c, B, m, d, h1, h2⟩ := h
 exact ⟨nb, A, l, c, B, m, d, h1.below hb, h2.ext hb⟩
theorem Rt.bools {w : World} {v : Value} {q : Rat} (h : Rt w v q) : ∃ nb A l c B m d, v = .agg #[.bool nb, .slice A l c, .bool false, .slice B m d] := by
 obtain ⟨A, l, c, B, m, d, e, -, -⟩ := h.form
 exact ⟨_, A, l, c, B, m, d, e⟩
def jQ (a b : List Rat) (i : Nat) : Rat := a.getD i 0 * b.getD i 0
structure DotFit (N : Nat) (a b : List Rat) : Prop where
 fa : ∀ i, i < a.length → FitR N (a.getD i 0)
 fb : ∀ i, i < a.length → FitR N (b.getD i 0)
 sum : ∀ k, k ≤ a.length → FitR N (sm k (jQ a b))
theorem iZ {N : Nat} {x y : Rat} (hx : FitR N x) (hy : FitR N y) : FitR (N + N) (x * y) := by
 have h := rN x y
 have h1 := lF (x.num * y.num) ((x.den : Int) * (y.den : Int))
 rw [h] at h1
 have f1 := hx.1.mul hy.1
 have f2 := hx.2.mul hy.2
 unfold FitR Fits at *
 have hd : (1 : Int) ≤ ((x.den : Int) * (y.den : Int)).natAbs := by
  have := rP (mH x) (mH y)
  omega
 exact ⟨by omega, by omega⟩
theorem aMc (a b : List Rat) (n : Nat) (A B : Option Addr) (ca nb cb : Nat) (w : World) (ha : RV w A n a) (hb : RV w B nb b) (hnb : n ≤ nb) (hn : n ≤ 1000000) {N : Nat} (hN : N ≤ 40000000) (hf : DotFit N a b) :
  Calls Tryz.prog 124 #[.slice A n ca, .slice B nb cb] w (RetRt w (aIf a b)) := by
 have hN2 : N + N ≤ 100000000 := by omega
 have hla := ha.len
 have hlb := hb.len
 obtain ⟨vr, hb0⟩ := iM w (.bool false) (.slice none 0 0) (.bool false) (.slice none 0 0)
 have VR0 := aH vr
 have HB0 := aH hb0
 have HF := aH hf
 have HA := aH ha
 have HBB := aH hb
 have HLA := aH hla
 have HLB := aH hlb
 clear vr hb0 hf ha hb
 have HW := aH (fP 0 (w.alloc (.cells #[.bool false, .slice none 0 0, .bool false, .slice none 0 0] aJ)) (by decide) (by decide))
 unfold aJ at *
 go_enter Tryz.func124, Tryz.ntmps124
 go_wp2_with fail
 refine HW.out.mono ?_
 rintro e w1 ⟨v, rfl, hv, hb⟩
 obtain ⟨nb0, A0, l0, c0, B0, m0, d0, rfl⟩ := hv.bools
 obtain ⟨vs1, hb1⟩ := iM w1 (.bool nb0) (.slice A0 l0 c0) (.bool false) (.slice B0 m0 d0)
 unfold aJ at vs1 hb1
 have HB1 := aH ((HB0.out.trans (hb.mono HB0.out.size)).trans (hb1.mono (HB0.out.trans (hb.mono HB0.out.size)).size))
 have VR1 := aH ((VR0.out.below hb).below hb1)
 have HS1 := aH (show Vq _ w1.heap.size (sm 0 (jQ a b)) from ⟨_, _, _, _, _, _, _, vs1, hv.ext hb1⟩)
 have hR : w.heap.size < w1.heap.size := (VR0.out.below hb).lt
 clear hv hb vs1 hb1 HW HB0 VR0
 generalize hS : w1.heap.size = sB at *
 go_wp2
 go_loopg [10] (n - 0) (fun r v wr => ∃ k : Nat, r = n - k ∧ v = I k ∧ k ≤ n ∧ Hid (Vq wr sB (sm k (jQ a b))) ∧ Hid (Vr wr w.heap.size (.bool false) (.slice none 0 0) (.bool false) (.slice none 0 0)) ∧ Hid (Below w.heap.size w wr))
 case atStart => exact ⟨0, rfl, rfl, by omega, HS1, VR1, HB1⟩
 case round =>
  clear HS1 VR1 HB1
  obtain ⟨k, rfl, rfl, hk, HS, VR, HB⟩ := hrel
  obtain ⟨wa, rfl⟩ := wE wr
  by_cases hlt : k < n
  ·obtain ⟨x, hx⟩ : ∃ x, a[k]? = some x := ⟨_, gE (by omega)⟩
   obtain ⟨y, hy⟩ : ∃ y, b[k]? = some y := ⟨_, gE (by omega)⟩
   obtain ⟨b1, o1, xb, xn, xnl, xnc, xd, xdl, xdc, rfl, _, hCx, hrx⟩ := (HA.out.below HB.out).form hlt x hx
   obtain ⟨b2, o2, yb, yn, ynl, ync, yd, ydl, ydc, rfl, _, hCy, hry⟩ := (HBB.out.below HB.out).form (show k < nb by omega) y hy
   have hlt2 : k < nb := by omega
   have HX := aH (show a.getD k 0 = x by rw [gD, hx]; rfl)
   have HY := aH (show b.getD k 0 = y by rw [gD, hy]; rfl)
   have HCX := aH hCx
   have HCY := aH hCy
   have HRX := aH hrx
   have HRY := aH hry
   clear hx hy hCx hCy hrx hry hla hlb
   have x0 := HCX.out.c0
   have x1 := HCX.out.c1
   have x2 := HCX.out.c2
   have x3 := HCX.out.c3
   have HSX := aH (gU _ x wa HRX.out)
   go_wp2_with fail
   refine HSX.out.mono ?_
   rintro e w2 ⟨rfl, hb⟩
   have HB2 := aH (HB.out.trans (hb.mono HB.out.size))
   have VR2 := aH (VR.out.below hb)
   have HS2 := aH (HS.out.below hb)
   have HCX2 := aH (HCX.out.below hb)
   have HCY2 := aH (HCY.out.below hb)
   have HRX2 := aH (HRX.out.ext hb)
   have HRY2 := aH (HRY.out.ext hb)
   clear hb HB VR HS HCX HCY HRX HRY HSX x0 x1 x2 x3
   by_cases hx0 : x = 0
   ·have ts := dP.2 hx0
    have HN := aH (show sm (k + 1) (jQ a b) = sm k (jQ a b) by rw [sm, jQ, HX.out, hx0]; grind)
    have HS3 := aH (show Vq w2 sB (sm (k + 1) (jQ a b)) by rw [HN.out]; exact HS2.out)
    rw [ts]
    clear hx0 ts HN
    go_wp2
    go_roundg (n - (k + 1))
    case measure => omega
    case rel => exact ⟨k + 1, rfl, by go_num, by omega, HS3, VR2, HB2⟩
   ·have ts : (x.num.sign != 0) = true := by rw [aBz]; exact decide_eq_true hx0
    clear hx0
    generalize x.num.sign = sx at *
    have y0 := HCY2.out.c0
    have y1 := HCY2.out.c1
    have y2 := HCY2.out.c2
    have y3 := HCY2.out.c3
    have HSY := aH (gU _ y w2 HRY2.out)
    go_wp2_with fail
    refine HSY.out.mono ?_
    rintro e w3 ⟨rfl, hb⟩
    have HB3 := aH (HB2.out.trans (hb.mono HB2.out.size))
    have VR3 := aH (VR2.out.below hb)
    have HS3 := aH (HS2.out.below hb)
    have HCX3 := aH (HCX2.out.below hb)
    have HCY3 := aH (HCY2.out.below hb)
    have HRX3 := aH (HRX2.out.ext hb)
    have HRY3 := aH (HRY2.out.ext hb)
    clear hb HB2 VR2 HS2 HCX2 HCY2 HRX2 HRY2 HSY y0 y1 y2 y3
    by_cases hy0 : y = 0
    ·have tt := dP.2 hy0
     have HN := aH (show sm (k + 1) (jQ a b) = sm k (jQ a b) by rw [sm, jQ, HY.out, hy0]; grind)
     have HS4 := aH (show Vq w3 sB (sm (k + 1) (jQ a b)) by rw [HN.out]; exact HS3.out)
     rw [tt]
     clear hy0 tt HN
     go_wp2
     go_roundg (n - (k + 1))
     case measure => omega
     case rel => exact ⟨k + 1, rfl, by go_num, by omega, HS4, VR3, HB3⟩
    ·have tt : (y.num.sign != 0) = true := by rw [aBz]; exact decide_eq_true hy0
     clear hy0
     generalize y.num.sign = sy at *
     have HFX := aH (show FitR N x by rw [← HX.out]; exact HF.out.fa k (by rw [HLA.out]; exact hlt))
     have HFY := aH (show FitR N y by rw [← HY.out]; exact HF.out.fb k (by rw [HLA.out]; exact hlt))
     have HFS := aH (HF.out.sum k (by rw [HLA.out]; exact hk))
     have HN := aH (show sm (k + 1) (jQ a b) = sm k (jQ a b) + x * y by rw [sm, jQ, HX.out, HY.out])
     obtain ⟨tb, An, ln, cn, Ad, ld, cd, vs, hs⟩ := HS3.out
     have VS := aH vs.drew
     have HSQ := aH hs.drew
     have VRd := aH VR3.out.drew
     have HBd := aH HB3.out.drew
     have HCXd := aH HCX3.out.drew
     have HCYd := aH HCY3.out.drew
     have HRXd := aH HRX3.out.drew
     have HRYd := aH HRY3.out.drew
     clear vs hs HS3 HB3 VR3 HCX3 HCY3 HRX3 HRY3
     go_upto_region 6 with (fail)
     refine aI (fun w' => w'.cell? ⟨sB, 0, none⟩ = some (.bool tb) ∧ w'.cell? ⟨sB, 1, none⟩ = some (.slice An ln cn) ∧ w'.cell? ⟨sB, 2, none⟩ = some (.bool false) ∧ w'.cell? ⟨sB, 3, none⟩ = some (.slice Ad ld cd) ∧ w'.cell? ⟨b1, o1 + k * 4, none⟩ = some (.bool xb) ∧ w'.cell? ⟨b1, o1 + k * 4 + 1, none⟩ = some (.slice xn xnl xnc) ∧ w'.cell? ⟨b1, o1 + k * 4 + 2, none⟩ = some (.bool false) ∧ w'.cell? ⟨b1, o1 + k * 4 + 3, none⟩ = some (.slice xd xdl xdc) ∧ w'.cell? ⟨b2, o2 + k * 4, none⟩ = some (.bool yb) ∧ w'.cell? ⟨b2, o2 + k * 4 + 1, none⟩ = some (.slice yn ynl ync) ∧ w'.cell? ⟨b2, o2 + k * 4 + 2, none⟩ = some (.bool false) ∧ w'.cell? ⟨b2, o2 + k * 4 + 3, none⟩ = some (.slice yd ydl ydc)) 11 (by kernel_rfl) ?_
     refine tkS ⟨VS.out.c0, VS.out.c1, VS.out.c2, VS.out.c3, HCXd.out.c0, HCXd.out.c1, HCXd.out.c2, HCXd.out.c3, HCYd.out.c0, HCYd.out.c1, HCYd.out.c2, HCYd.out.c3⟩ fun hSS => ?_
     refine aZ 0 (.agg #[.bool tb, .slice An ln cn, .bool false, .slice Ad ld cd]) rfl hSS ?_
     refine aZ 1 (.slice (some ⟨b1, o1, none⟩) n ca) rfl hSS ?_
     refine aZ 2 (I k) rfl hSS ?_
     refine aZ 3 (.pointer (some ⟨b1, o1 + k * 4, none⟩)) rfl hSS ?_
     refine aZ 4 (.agg #[.bool xb, .slice xn xnl xnc, .bool false, .slice xd xdl xdc]) rfl hSS ?_
     refine aZ 5 (.slice (some ⟨b2, o2, none⟩) nb cb) rfl hSS ?_
     refine aZ 6 (I k) rfl hSS ?_
     refine aZ 7 (.pointer (some ⟨b2, o2 + k * 4, none⟩)) rfl hSS ?_
     refine aZ 8 (.agg #[.bool yb, .slice yn ynl ync, .bool false, .slice yd ydl ydc]) rfl hSS ?_
     refine on1 9 fun K hK => ?_
     go_simp
     go_at_call 109
     refine (nI _ _ x y _ HRXd.out HRYd.out (N := N) (by omega) HFX.out HFY.out).mono ?_
     rintro e w4 ⟨v4, rfl, hv, hb⟩
     obtain ⟨pb, pn, pnl, pnc, pd, pdl, pdc, rfl⟩ := hv.bools
     have HB4 := aH (HBd.out.trans (hb.mono HBd.out.size))
     have VR4 := aH (VRd.out.below hb)
     have VS4 := aH (VS.out.below hb)
     have HSQ4 := aH (HSQ.out.ext hb)
     have HCX4 := aH (HCXd.out.below hb)
     have HCY4 := aH (HCYd.out.below hb)
     have HV4 := aH hv
     clear hb hv
     refine hK.out _ _ (fun _ => ⟨VS4.out.c0, VS4.out.c1, VS4.out.c2, VS4.out.c3, HCX4.out.c0, HCX4.out.c1, HCX4.out.c2, HCX4.out.c3, HCY4.out.c0, HCY4.out.c1, HCY4.out.c2, HCY4.out.c3⟩) ?_
     clear hK K
     clear HBd VRd VS HSQ HCXd HCYd
     refine on1 10 fun K hK => ?_
     go_simp
     go_at_call 99
     refine (iB _ _ (sm k (jQ a b)) (x * y) _ HSQ4.out HV4.out (N := N + N) hN2 (HFS.out.mono (Nat.le_add_right N N)) (iZ HFX.out HFY.out)).mono ?_
     rintro e w5 ⟨v5, rfl, hv, hb⟩
     obtain ⟨qb, qn, qnl, qnc, qd, qdl, qdc, rfl⟩ := hv.bools
     have HB5 := aH (HB4.out.trans (hb.mono HB4.out.size))
     have VR5 := aH (VR4.out.below hb)
     have VS5 := aH (VS4.out.below hb)
     have HCX5 := aH (HCX4.out.below hb)
     have HCY5 := aH (HCY4.out.below hb)
     have HV5 := aH hv
     clear hb hv
     refine hK.out _ _ (fun _ => ⟨VS5.out.c0, VS5.out.c1, VS5.out.c2, VS5.out.c3, HCX5.out.c0, HCX5.out.c1, HCX5.out.c2, HCX5.out.c3, HCY5.out.c0, HCY5.out.c1, HCY5.out.c2, HCY5.out.c3⟩) ?_
     clear hK K
     clear HB4 VR4 VS4 HSQ4 HCX4 HCY4 HV4
     have HZ := aH (VS5.out.set (.bool qb) (.slice qn qnl qnc) (.bool false) (.slice qd qdl qdc))
     have HQ := aH (HV5.out.set4 VS5.out (.bool qb) (.slice qn qnl qnc) (.bool false) (.slice qd qdl qdc))
     have VR6 := aH (VR5.out.far (g' := sB) (by omega) (.bool qb) (.slice qn qnl qnc) (.bool false) (.slice qd qdl qdc))
     have HB6 := aH (rO HB5.out (g := sB) (by omega) (.bool qb) (.slice qn qnl qnc) (.bool false) (.slice qd qdl qdc))
     have HS6 := aH (show Vq _ sB (sm (k + 1) (jQ a b)) from ⟨_, _, _, _, _, _, _, HZ.out, by rw [HN.out]; exact HQ.out⟩)
     unfold set4 at HS6 VR6 HB6
     have r0 := VS5.out.c0
     have q0 := VS5.out.f0
     have r1 := VS5.out.c1
     have q1 := VS5.out.f1
     have r2 := VS5.out.c2
     have q2 := VS5.out.f2
     have r3 := VS5.out.c3
     have q3 := VS5.out.f3
     clear HZ HQ HV5 HCX5 HCY5 VR5 VS5 HB5
     refine on1 11 fun K hK => ?_
     go_simp
     refine hK.out _ _ (fun h => absurd h (by decide)) ?_
     clear hK K
     clear r0 r1 r2 r3 q0 q1 q2 q3
     refine aE (by kernel_rfl) ?_ _
     go_wp2
     go_roundg (n - (k + 1))
     case measure => omega
     case rel => exact ⟨k + 1, rfl, by go_num, by omega, HS6, VR6, HB6⟩
  ·have hkn : k = n := by omega
   subst hkn
   obtain ⟨tb, An, ln, cn, Ad, ld, cd, vs, hs⟩ := HS.out
   have hD : sm k (jQ a b) = aIf a b := by rw [aIf, HLA.out]; rfl
   rw [hD] at hs
   have HR := aH (bN (g := w.heap.size) HB.out lR VR.out hs)
   have HZ := aH (VR.out.set (.bool tb) (.slice An ln cn) (.bool false) (.slice Ad ld cd))
   have s0 := vs.c0
   have s1 := vs.c1
   have s2 := vs.c2
   have s3 := vs.c3
   have r0 := VR.out.c0
   have r1 := VR.out.c1
   have r2 := VR.out.c2
   have r3 := VR.out.c3
   have q0 := VR.out.f0
   have q1 := VR.out.f1
   have q2 := VR.out.f2
   have q3 := VR.out.f3
   unfold set4 at HR HZ
   clear vs hs HS VR HB hD
   go_wp2
   have z0 := HZ.out.c0
   have z1 := HZ.out.c1
   have z2 := HZ.out.c2
   have z3 := HZ.out.c3
   generalize (((wa.setCell ⟨w.heap.size, 0, none⟩ (.bool tb)).setCell ⟨w.heap.size, 1, none⟩ (.slice An ln cn)).setCell ⟨w.heap.size, 2, none⟩ (.bool false)).setCell ⟨w.heap.size, 3, none⟩ (.slice Ad ld cd) = W at *
   exact bodyPost_ret (v := .agg #[.bool tb, .slice An ln cn, .bool false, .slice Ad ld cd]) (by simp [results, Tryz.results124, go_sem, z0, z1, z2, z3]) rfl HR.out
end Go.Proofs.YtenbglfkdldheaaGreatDoor
