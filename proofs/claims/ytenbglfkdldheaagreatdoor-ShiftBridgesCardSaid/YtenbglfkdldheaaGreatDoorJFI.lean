/- flow: Grow. Power flows: what the walks ask of a network's model. -/
import Derived.Test.YtenbglfkdldheaaGreatDoorJFE
set_option maxRecDepth 100000
set_option maxHeartbeats 16000000
namespace Go.Proofs.YtenbglfkdldheaaGreatDoor
open Go.RowKit
def gr0 (u v nb : Nat) : List Rat := ((List.replicate nb 0).set u ((List.replicate nb 0).getD u 0 + 1)).set v (((List.replicate nb 0).set u ((List.replicate nb 0).getD u 0 + 1)).getD v 0 - 1)
def aJj (frm tu : List Int) (B th : List Rat) (i : Nat) : Rat := B.getD i 0 * (th.getD (frm.getD i 0).toNat 0 - th.getD (tu.getD i 0).toNat 0)
def grK (frm tu : List Int) (B th : List Rat) (k : Nat) : List Rat := (List.range k).map (aJj frm tu B th)
theorem aFg (frm tu : List Int) (B th : List Rat) (k : Nat) : grK frm tu B th (k + 1) = grK frm tu B th k ++ [aJj frm tu B th k] := by simp [grK, List.range_succ]
theorem aAc (frm tu : List Int) (B th : List Rat) (k : Nat) : (grK frm tu B th k).length = k := by simp [grK]
theorem sX (nb : Nat) : FitL 1 (List.replicate nb 0) := fun i => by
 rw [gD, List.getElem?_replicate]
 split <;> exact fO
theorem kG : FitR 1 ((1 : Int) : Rat) := zX (z := 1) (by omega) (by omega) (by omega)
theorem aFh (base g : Nat) (rs : Nat → Value) (is : Nat → List Int) (qs : Nat → Value) (ts : Nat → List Rat) (iv : Value) (inv : MQ) (vs : List Value) (nb nf ne x y : Nat) (w : World) (h : MS w base g rs is qs ts iv) (hL : LM w base iv vs inv)
  (hnb : (is 1).length = nb) (hb : nb ≤ 1000) (hnf : (is 4).length = nf) (hf4 : nf ≤ 1000) (hin : Rect inv nf nf) (hfr : ∀ x ∈ is 4, 0 ≤ x ∧ x < nb) {N : Nat} (hN : N ≤ 10000000)
  (h2 : (is 2).length = ne) (h3 : (is 3).length = ne) (hc0 : (ts 0).length = ne) (hne : ne ≤ 1000) (hu2 : ∀ x ∈ is 2, 0 ≤ x ∧ x < nb) (hu3 : ∀ x ∈ is 3, 0 ≤ x ∧ x < nb) (hB : FitL 2 (ts 0)) (hx : x < nb) (hy : y < nb)
  (hf : ∀ k, k < nf → DotFit N (inv.getD k []) (cJ (is 4) (gr0 x y nb))) (hfl : FitL N (thQ nb (is 4) inv (gr0 x y nb))) :
  Calls Tryz.prog 63 #[.pointer (some ⟨g, 0, none⟩), I x, I y] w (zB w (grK (is 2) (is 3) (ts 0) (thQ nb (is 4) inv (gr0 x y nb)) ne)) := by
 have HS := aH h
 have HL := aH hL
 have HF := aH hf
 have HFL := aH hfl
 have HIN := aH hin
 have HFR := aH hfr
 have HFB := aH hB
 have HU2 := aH hu2
 have HU3 := aH hu3
 have N2 := aH h2
 have N3 := aH h3
 have N0 := aH hc0
 have NB := aH hnb
 have NF := aH hnf
 have HC := aH (buses_fw base g rs is qs ts iv w h (by omega))
 rw [hnb] at HC
 clear h hL hf hfl hin hfr hB hu2 hu3 h2 h3 hc0 hnb hnf
 go_enter Tryz.func63, Tryz.ntmps63
 go_wp2_with fail
 refine HC.out.mono ?_
 rintro e w1 ⟨rfl, rfl⟩
 clear HC
 have HZ := aH (jB nb w1 (by omega))
 go_wp2_with fail
 refine HZ.out.mono ?_
 rintro e w2 ⟨v7, rfl, hr7, hb7⟩
 clear HZ
 obtain ⟨A7, c7, rfl⟩ := hr7.val
 rw [List.length_replicate] at hr7 ⊢
 obtain ⟨b7, o7, c8, _, _, _, _, _, _, _, e7, _, hb8, _⟩ := hr7.el (by simp) hx
 obtain ⟨e7, e8⟩ := slI e7
 subst e7 e8
 have HB8 := aH hb8
 have HR := aH hr7
 have HB := aH hb7
 have HLN := aH (List.length_replicate (n := nb) (a := (0 : Rat)))
 have HFK := aH (sX nb)
 clear hr7 hb7 hb8
 generalize hM0 : List.replicate nb (0 : Rat) = M at *
 have HM0 := aH hM0
 clear hM0
 go_upto_region 2 with (fail)
 skip
 have hb := aW w2
 replace HR := aH (HR.out.call hb)
 replace HB := bT HB hb
 clear hb
 obtain ⟨b6, o6, n5, F1, f1, g1, F2, f2, g2, e7, _, hC6, hrt⟩ := HR.out.rv.form hx (M.getD x 0) (by rw [gD, gE (by rw [HLN.out]; exact hx)]; rfl)
 obtain ⟨e7, e8⟩ := adI e7
 subst e7 e8
 obtain ⟨_, hfb⟩ := HR.out.blk (g := b7) rfl
 have HEL := aH (show El w2.drew b7 (o7 + x * 4) (.bool n5) (.slice F1 f1 g1) (.bool false) (.slice F2 f2 g2) from ⟨hC6.c0, hC6.c1, hC6.c2, hC6.c3, hfb.frozen _, hfb.frozen _, hfb.frozen _, hfb.frozen _⟩)
 have HRE := aH (show Rt w2.drew _ _ from hrt)
 clear hC6 hrt hfb
 refine aF (fun w' => w'.cell? ⟨b7, o7 + x * 4, none⟩ = some (.bool n5) ∧ w'.cell? ⟨b7, o7 + x * 4 + 1, none⟩ = some (.slice F1 f1 g1) ∧ w'.cell? ⟨b7, o7 + x * 4 + 2, none⟩ = some (.bool false) ∧ w'.cell? ⟨b7, o7 + x * 4 + 3, none⟩ = some (.slice F2 f2 g2)) 9 (by kernel_rfl) ?_
 generalize w2.drew = X1 at *
 refine tkS ⟨HEL.out.c0, HEL.out.c1, HEL.out.c2, HEL.out.c3⟩ fun hSS => ?_
 refine aZ 0 (.slice (some ⟨b7, o7, none⟩) nb c7) rfl hSS ?_
 refine aZ 1 (I x) rfl hSS ?_
 refine aZ 2 (.slice (some ⟨b7, o7, none⟩) nb c7) rfl hSS ?_
 refine aZ 3 (I x) rfl hSS ?_
 refine aZ 4 (.pointer (some ⟨b7, o7 + x * 4, none⟩)) rfl hSS ?_
 refine aZ 5 (.agg #[.bool n5, .slice F1 f1 g1, .bool false, .slice F2 f2 g2]) rfl hSS ?_
 refine on1 6 fun K hK => ?_
 go_simp
 go_at_call 64
 refine (fM 1 X1 (by decide) (by decide)).mono ?_
 rintro e U1 ⟨v1, rfl, hv1, hb⟩
 have HV1 := aH hv1
 replace HEL := aH (HEL.out.below hb)
 replace HRE := aH (HRE.out.ext hb)
 replace HR := aH (HR.out.call hb)
 replace HB := bT HB hb
 clear hb hv1
 refine hK.out _ _ (fun _ => ⟨HEL.out.c0, HEL.out.c1, HEL.out.c2, HEL.out.c3⟩) ?_
 clear hK K
 refine on1 7 fun K hK => ?_
 go_simp
 go_at_call 99
 refine (iW _ _ _ _ U1 HRE.out HV1.out (N := 20) (by decide) ((HFK.out x).mono (by decide)) (kG.mono (by decide))).mono ?_
 rintro e Y1 ⟨vv, rfl, hvv, hb⟩
 replace HEL := aH (HEL.out.below hb)
 replace HR := aH (HR.out.call hb)
 replace HB := bT HB hb
 clear HRE HV1 hb
 refine hK.out _ _ (fun _ => ⟨HEL.out.c0, HEL.out.c1, HEL.out.c2, HEL.out.c3⟩) ?_
 clear hK K
 refine aZ 8 (.pointer (some ⟨b7, o7 + x * 4, none⟩)) rfl ⟨HEL.out.c0, HEL.out.c1, HEL.out.c2, HEL.out.c3⟩ ?_
 obtain ⟨tb, T1, t1, w1_, T2, t2, w2_, rfl⟩ := hvv.bools
 obtain ⟨hput, hkw, _⟩ := HR.out.putEl (k := x) hx hvv
 have HR2 := aH (show RRow (put4 Y1 b7 (o7 + x * 4) (.bool tb) (.slice T1 t1 w1_) (.bool false) (.slice T2 t2 w2_)) w1.heap.size (.slice (some ⟨b7, o7, none⟩) nb c7) (M.set x (M.getD x 0 + ((1 : Int) : Rat))) from hput)
 have HB2 := aH (cG (o := o7 + x * 4) HB.out HB8.out (.bool tb) (.slice T1 t1 w1_) (.bool false) (.slice T2 t2 w2_))
 have HFK2 := aH (show FitL 4 (M.set x (M.getD x 0 + ((1 : Int) : Rat))) from (HFK.out.mono (by omega)).set x ((fW (HFK.out x) kG).mono (by omega)))
 have HLN2 := aH (show (M.set x (M.getD x 0 + ((1 : Int) : Rat))).length = nb by rw [List.length_set]; exact HLN.out)
 have z0 := HEL.out.c0
 have y0 := HEL.out.f0
 have z1 := HEL.out.c1
 have y1 := HEL.out.f1
 have z2 := HEL.out.c2
 have y2 := HEL.out.f2
 have z3 := HEL.out.c3
 have y3 := HEL.out.f3
 clear HR HB HFK HLN hput hkw hvv HEL
 refine on1 9 fun K hK => ?_
 go_simp
 clear z0 z1 z2 z3 y0 y1 y2 y3
 rw [jQ]
 generalize (put4 Y1 b7 (o7 + x * 4) (.bool tb) (.slice T1 t1 w1_) (.bool false) (.slice T2 t2 w2_)) = Z1 at *
 generalize hM : (M.set x (M.getD x 0 + ((1 : Int) : Rat))) = M1 at *
 have HM1 := aH hM
 clear hM
 refine hK.out _ _ (fun h => absurd h (by decide)) ?_
 clear hK K
 refine aE (by kernel_rfl) ?_ _
 have HR := HR2
 have HB := HB2
 have HFK := HFK2
 have HLN := HLN2
 clear HR2 HB2 HFK2 HLN2
 go_upto_region 3 with (fail)
 have hb := aW Z1
 replace HR := aH (HR.out.call hb)
 replace HB := bT HB hb
 clear hb
 obtain ⟨b6, o6, n5, F1, f1, g1, F2, f2, g2, e7, _, hC6, hrt⟩ := HR.out.rv.form hy (M1.getD y 0) (by rw [gD, gE (by rw [HLN.out]; exact hy)]; rfl)
 obtain ⟨e7, e8⟩ := adI e7
 subst e7 e8
 obtain ⟨_, hfb⟩ := HR.out.blk (g := b7) rfl
 have HEL := aH (show El Z1.drew b7 (o7 + y * 4) (.bool n5) (.slice F1 f1 g1) (.bool false) (.slice F2 f2 g2) from ⟨hC6.c0, hC6.c1, hC6.c2, hC6.c3, hfb.frozen _, hfb.frozen _, hfb.frozen _, hfb.frozen _⟩)
 have HRE := aH (show Rt Z1.drew _ _ from hrt)
 clear hC6 hrt hfb
 refine aF (fun w' => w'.cell? ⟨b7, o7 + y * 4, none⟩ = some (.bool n5) ∧ w'.cell? ⟨b7, o7 + y * 4 + 1, none⟩ = some (.slice F1 f1 g1) ∧ w'.cell? ⟨b7, o7 + y * 4 + 2, none⟩ = some (.bool false) ∧ w'.cell? ⟨b7, o7 + y * 4 + 3, none⟩ = some (.slice F2 f2 g2)) 9 (by kernel_rfl) ?_
 generalize Z1.drew = X2 at *
 refine tkS ⟨HEL.out.c0, HEL.out.c1, HEL.out.c2, HEL.out.c3⟩ fun hSS => ?_
 refine aZ 0 (.slice (some ⟨b7, o7, none⟩) nb c7) rfl hSS ?_
 refine aZ 1 (I y) rfl hSS ?_
 refine aZ 2 (.slice (some ⟨b7, o7, none⟩) nb c7) rfl hSS ?_
 refine aZ 3 (I y) rfl hSS ?_
 refine aZ 4 (.pointer (some ⟨b7, o7 + y * 4, none⟩)) rfl hSS ?_
 refine aZ 5 (.agg #[.bool n5, .slice F1 f1 g1, .bool false, .slice F2 f2 g2]) rfl hSS ?_
 refine on1 6 fun K hK => ?_
 go_simp
 go_at_call 64
 refine (fM 1 X2 (by decide) (by decide)).mono ?_
 rintro e U2 ⟨v1, rfl, hv1, hb⟩
 have HV1 := aH hv1
 replace HEL := aH (HEL.out.below hb)
 replace HRE := aH (HRE.out.ext hb)
 replace HR := aH (HR.out.call hb)
 replace HB := bT HB hb
 clear hb hv1
 refine hK.out _ _ (fun _ => ⟨HEL.out.c0, HEL.out.c1, HEL.out.c2, HEL.out.c3⟩) ?_
 clear hK K
 refine on1 7 fun K hK => ?_
 go_simp
 go_at_call 111
 refine (kN _ _ _ _ U2 HRE.out HV1.out (N := 20) (by decide) ((HFK.out y).mono (by decide)) (kG.mono (by decide))).mono ?_
 rintro e Y2 ⟨vv, rfl, hvv, hb⟩
 replace HEL := aH (HEL.out.below hb)
 replace HR := aH (HR.out.call hb)
 replace HB := bT HB hb
 clear HRE HV1 hb
 refine hK.out _ _ (fun _ => ⟨HEL.out.c0, HEL.out.c1, HEL.out.c2, HEL.out.c3⟩) ?_
 clear hK K
 refine aZ 8 (.pointer (some ⟨b7, o7 + y * 4, none⟩)) rfl ⟨HEL.out.c0, HEL.out.c1, HEL.out.c2, HEL.out.c3⟩ ?_
 obtain ⟨tb, T1, t1, w1_, T2, t2, w2_, rfl⟩ := hvv.bools
 obtain ⟨hput, hkw, _⟩ := HR.out.putEl (k := y) hy hvv
 have HR2 := aH (show RRow (put4 Y2 b7 (o7 + y * 4) (.bool tb) (.slice T1 t1 w1_) (.bool false) (.slice T2 t2 w2_)) w1.heap.size (.slice (some ⟨b7, o7, none⟩) nb c7) (M1.set y (M1.getD y 0 - ((1 : Int) : Rat))) from hput)
 have HB2 := aH (cG (o := o7 + y * 4) HB.out HB8.out (.bool tb) (.slice T1 t1 w1_) (.bool false) (.slice T2 t2 w2_))
 have HFK2 := aH (show FitL 8 (M1.set y (M1.getD y 0 - ((1 : Int) : Rat))) from (HFK.out.mono (by omega)).set y ((gV (HFK.out y) kG).mono (by omega)))
 have HLN2 := aH (show (M1.set y (M1.getD y 0 - ((1 : Int) : Rat))).length = nb by rw [List.length_set]; exact HLN.out)
 have z0 := HEL.out.c0
 have y0 := HEL.out.f0
 have z1 := HEL.out.c1
 have y1 := HEL.out.f1
 have z2 := HEL.out.c2
 have y2 := HEL.out.f2
 have z3 := HEL.out.c3
 have y3 := HEL.out.f3
 clear HR HB HFK HLN hput hkw hvv HEL
 refine on1 9 fun K hK => ?_
 go_simp
 clear z0 z1 z2 z3 y0 y1 y2 y3
 rw [jQ]
 generalize (put4 Y2 b7 (o7 + y * 4) (.bool tb) (.slice T1 t1 w1_) (.bool false) (.slice T2 t2 w2_)) = Z2 at *
 generalize hM : (M1.set y (M1.getD y 0 - ((1 : Int) : Rat))) = M2 at *
 have HM2 := aH hM
 clear hM
 refine hK.out _ _ (fun h => absurd h (by decide)) ?_
 clear hK K
 refine aE (by kernel_rfl) ?_ _
 have HR := HR2
 have HB := HB2
 have HFK := HFK2
 have HLN := HLN2
 clear HR2 HB2 HFK2 HLN2
 have HGR := aH (show M2 = gr0 x y nb by rw [gr0, HM0.out, ← oW, HM1.out, HM2.out])
 rw [HGR.out] at HR
 clear HM0 HM1 HM2 HGR HFK HLN
 have HC := aH (aJh base g rs is qs ts iv inv vs (gr0 x y nb) (some ⟨b7, o7, none⟩) c7 nb nf Z2 (HS.out.call HB.out) (HL.out.call HB.out) HR.out.rv NB.out hb NF.out hf4 HIN.out HFR.out (by omega) HF.out)
 clear HR
 go_wp2_with fail
 refine HC.out.mono ?_
 rintro e W8 ⟨v8, rfl, hr8, hb8⟩
 clear HC
 obtain ⟨A, c, rfl⟩ := hr8.val
 have htl : (thQ nb (is 4) inv (gr0 x y nb)).length = nb := pJ _ _ _ _ _
 rw [htl] at hr8 ⊢
 have HRV := aH hr8.rv
 have HRL := aH htl
 replace HB := bT HB hb8
 clear hr8 hb8 htl
 generalize thQ nb (is 4) inv (gr0 x y nb) = th at *
 obtain ⟨Aq, cq, eq1⟩ := HS.out.qval (j := 0) (by decide)
 rw [N0.out] at eq1
 have HEQ := aH eq1
 have cc : W8.cell? ⟨g, 4, none⟩ = some (.slice Aq ne cq) := by rw [← eq1]; exact (HS.out.call HB.out).cellQ (j := 0) (by decide)
 clear eq1
 have HB0 := aH HB.out
 have HR := aH (show RRow W8 w1.heap.size (.slice none 0 0) (grK (is 2) (is 3) (ts 0) th 0) from RRow.nil _ _)
 have HBT := aH (Below.refl W8.heap.size W8)
 have hw8 := HB.out.size
 have HR := aH (show RRow W8 W8.heap.size (.slice none 0 0) (grK (is 2) (is 3) (ts 0) th 0) from RRow.nil _ _)
 go_wp2
 clear cc
 go_loopg [9, 40] (ne - 0) (fun q o v wr => ∃ k : Nat, ∃ vo : Value, o = vo ∧ q = ne - k ∧ v = I k ∧ k ≤ ne ∧ Hid (RRow wr W8.heap.size vo (grK (is 2) (is 3) (ts 0) th k)) ∧ Hid (Below W8.heap.size W8 wr))
 case atStart => exact ⟨0, _, rfl, rfl, rfl, by omega, HR, HBT⟩
 case round =>
  clear HR HB HBT
  obtain ⟨k, vo, hvo, rfl, rfl, hk, HR, HB⟩ := hrel
  replace hvo := hvo.symm
  subst hvo
  obtain ⟨wa, rfl⟩ := wE wr
  by_cases hlt : k < ne
  ·have hS := HS.out.call (HB0.out.trans (HB.out.mono hw8))
   obtain ⟨p, hp⟩ : ∃ p, (ts 0)[k]? = some p := ⟨_, gE (by rw [N0.out]; exact hlt)⟩
   have hpg : (ts 0).getD k 0 = p := by rw [gD, hp]; rfl
   have HPF := aH (show FitR 2 p from hpg ▸ HFB.out k)
   obtain ⟨bp, op, kp, m0, P1, a1, i1, P2, a2, i2, ep0, _, hCp, hrtp⟩ := hS.ratAt (j := 0) (by decide) hp
   rw [N0.out] at ep0
   have HEP := aH ep0
   obtain ⟨u0, u1⟩ := HU2.out _ (bK (l := is 2) (k := k) (by rw [N2.out]; exact hlt))
   obtain ⟨v0, v1⟩ := HU3.out _ (bK (l := is 3) (k := k) (by rw [N3.out]; exact hlt))
   obtain ⟨u, hu⟩ : ∃ u : Nat, (is 2).getD k 0 = u := Int.eq_ofNat_of_zero_le u0
   obtain ⟨v, hv⟩ : ∃ v : Nat, (is 3).getD k 0 = v := Int.eq_ofNat_of_zero_le v0
   rw [hu] at u0 u1
   rw [hv] at v0 v1
   have hun : u < nb := by omega
   have hvn : v < nb := by omega
   have HX := aH (show grK (is 2) (is 3) (ts 0) th (k + 1) = (grK (is 2) (is 3) (ts 0) th k) ++ [p * (th.getD u 0 - th.getD v 0)] by rw [aFg, aJj, hu, hv, hpg]; rfl)
   obtain ⟨b2, o2, k2, e2, _, h2c⟩ := hS.intAt (j := 2) (by decide) (k := k) (by rw [N2.out]; exact hlt)
   obtain ⟨b3, o3, k3, e3, _, h3c⟩ := hS.intAt (j := 3) (by decide) (k := k) (by rw [N3.out]; exact hlt)
   rw [N2.out] at e2
   rw [N3.out] at e3
   rw [hu] at h2c
   rw [hv] at h3c
   have HE2 := aH e2
   have HE3 := aH e3
   have HC2 := aH h2c
   have HC3 := aH h3c
   have hrv := HRV.out.below HB.out
   have hrl := HRL.out
   obtain ⟨bt, ot, tn, R1, f1, g1, R2, f2, g2, et, _, hCu, hrtu⟩ := hrv.form hun (th.getD u 0) (by rw [gD, gE (by omega)]; rfl)
   subst et
   obtain ⟨bs, os, sn, S1, s1, t1, S2, s2, t2, es, _, hCv, hrtv⟩ := hrv.form hvn (th.getD v 0) (by rw [gD, gE (by omega)]; rfl)
   obtain ⟨es, es2⟩ := adI es
   subst es es2
   have HFU := aH (HFL.out u)
   have HFV := aH (HFL.out v)
   generalize th.getD u 0 = tu_ at *
   generalize th.getD v 0 = tv_ at *
   have HLQ := aH (aAc (is 2) (is 3) (ts 0) th k)
   generalize (grK (is 2) (is 3) (ts 0) th k) = L at *
   have HCP := aH hCp
   have HCU := aH hCu
   have HCV := aH hCv
   have HRP := aH hrtp
   have HRU := aH hrtu
   have HRW := aH hrtv
   clear hp hpg hCp hrtp hCu hrtu hCv hrtv e2 e3 ep0 h2c h3c hS u0 u1 v0 v1 hu hv hrv hrl
   go_upto_region 9 with (fail)
   have hb := aW wa
   replace HC2 := aH (aB HC2.out hb)
   replace HC3 := aH (aB HC3.out hb)
   replace HCP := aH (HCP.out.below hb)
   replace HCU := aH (HCU.out.below hb)
   replace HCV := aH (HCV.out.below hb)
   replace HRP := aH (HRP.out.ext hb)
   replace HRU := aH (HRU.out.ext hb)
   replace HRW := aH (HRW.out.ext hb)
   replace HR := aH (HR.out.call hb)
   replace HB := bT HB hb
   clear hb
   have CM2 := aH (show wa.drew.cell? ⟨g, 2, none⟩ = some (.slice (some ⟨b2, o2, none⟩) ne k2) by rw [← HE2.out]; exact (HS.out.call (HB0.out.trans (HB.out.mono hw8))).cellI (j := 2) (by decide))
   have CM3 := aH (show wa.drew.cell? ⟨g, 3, none⟩ = some (.slice (some ⟨b3, o3, none⟩) ne k3) by rw [← HE3.out]; exact (HS.out.call (HB0.out.trans (HB.out.mono hw8))).cellI (j := 3) (by decide))
   have CM4 := aH (show wa.drew.cell? ⟨g, 4, none⟩ = some (.slice (some ⟨bp, op, none⟩) ne kp) by rw [← HEP.out]; exact (HS.out.call (HB0.out.trans (HB.out.mono hw8))).cellQ (j := 0) (by decide))
   clear HE2 HE3 HEP
   refine aF (fun w' => w'.cell? ⟨g, 2, none⟩ = some (.slice (some ⟨b2, o2, none⟩) ne k2) ∧ w'.cell? ⟨b2, o2 + k, none⟩ = some (I u) ∧ w'.cell? ⟨g, 3, none⟩ = some (.slice (some ⟨b3, o3, none⟩) ne k3) ∧ w'.cell? ⟨b3, o3 + k, none⟩ = some (I v) ∧ w'.cell? ⟨g, 4, none⟩ = some (.slice (some ⟨bp, op, none⟩) ne kp) ∧ w'.cell? ⟨bp, op + k * 4, none⟩ = some (.bool m0) ∧ w'.cell? ⟨bp, op + k * 4 + 1, none⟩ = some (.slice P1 a1 i1) ∧ w'.cell? ⟨bp, op + k * 4 + 2, none⟩ = some (.bool false) ∧ w'.cell? ⟨bp, op + k * 4 + 3, none⟩ = some (.slice P2 a2 i2) ∧ w'.cell? ⟨bt, ot + u * 4, none⟩ = some (.bool tn) ∧ w'.cell? ⟨bt, ot + u * 4 + 1, none⟩ = some (.slice R1 f1 g1) ∧ w'.cell? ⟨bt, ot + u * 4 + 2, none⟩ = some (.bool false) ∧ w'.cell? ⟨bt, ot + u * 4 + 3, none⟩ = some (.slice R2 f2 g2) ∧ w'.cell? ⟨bt, ot + v * 4, none⟩ = some (.bool sn) ∧ w'.cell? ⟨bt, ot + v * 4 + 1, none⟩ = some (.slice S1 s1 t1) ∧ w'.cell? ⟨bt, ot + v * 4 + 2, none⟩ = some (.bool false) ∧ w'.cell? ⟨bt, ot + v * 4 + 3, none⟩ = some (.slice S2 s2 t2)) 31 (by kernel_rfl) ?_
   generalize wa.drew = X at *
   refine tkS ⟨CM2.out, HC2.out, CM3.out, HC3.out, CM4.out, HCP.out.c0, HCP.out.c1, HCP.out.c2, HCP.out.c3, HCU.out.c0, HCU.out.c1, HCU.out.c2, HCU.out.c3, HCV.out.c0, HCV.out.c1, HCV.out.c2, HCV.out.c3⟩ fun hSS => ?_
   refine aZ 0 vo rfl hSS ?_
   refine aZ 1 (.pointer (some ⟨g, 0, none⟩)) rfl hSS ?_
   refine aZ 2 (.pointer (some ⟨g, 0, none⟩)) rfl hSS ?_
   refine aZ 3 (.pointer (some ⟨g, 4, none⟩)) rfl hSS ?_
   refine aZ 4 (.slice (some ⟨bp, op, none⟩) ne kp) rfl hSS ?_
   refine aZ 5 (I k) rfl hSS ?_
   refine aZ 6 (.pointer (some ⟨bp, op + k * 4, none⟩)) rfl hSS ?_
   refine aZ 7 (.agg #[.bool m0, .slice P1 a1 i1, .bool false, .slice P2 a2 i2]) rfl hSS ?_
   refine tkP 8 (.slice (some ⟨bt, ot, none⟩) nb c) rfl (Or.inl ⟨by rfl, ?_⟩) hSS ?_
   ·intro w _
    go_simp
   refine tkP 9 (.pointer (some ⟨g, 0, none⟩)) rfl (Or.inl ⟨by rfl, ?_⟩) hSS ?_
   ·intro w _
    go_simp
   refine tkP 10 (.pointer (some ⟨g, 0, none⟩)) rfl (Or.inl ⟨by rfl, ?_⟩) hSS ?_
   ·intro w _
    go_simp
   refine tkP 11 (.pointer (some ⟨g, 2, none⟩)) rfl (Or.inl ⟨by rfl, ?_⟩) hSS ?_
   ·intro w _
    go_simp
   refine aZ 12 (.slice (some ⟨b2, o2, none⟩) ne k2) rfl hSS ?_
   refine tkP 13 (I k) rfl (Or.inl ⟨by rfl, ?_⟩) hSS ?_
   ·intro w _
    go_simp
   refine aZ 14 (.pointer (some ⟨b2, o2 + k, none⟩)) rfl hSS ?_
   refine aZ 15 (I u) rfl hSS ?_
   refine aZ 16 (.pointer (some ⟨bt, ot + u * 4, none⟩)) rfl hSS ?_
   refine aZ 17 (.agg #[.bool tn, .slice R1 f1 g1, .bool false, .slice R2 f2 g2]) rfl hSS ?_
   refine tkP 18 (.slice (some ⟨bt, ot, none⟩) nb c) rfl (Or.inl ⟨by rfl, ?_⟩) hSS ?_
   ·intro w _
    go_simp
   refine tkP 19 (.pointer (some ⟨g, 0, none⟩)) rfl (Or.inl ⟨by rfl, ?_⟩) hSS ?_
   ·intro w _
    go_simp
   refine tkP 20 (.pointer (some ⟨g, 0, none⟩)) rfl (Or.inl ⟨by rfl, ?_⟩) hSS ?_
   ·intro w _
    go_simp
   refine tkP 21 (.pointer (some ⟨g, 3, none⟩)) rfl (Or.inl ⟨by rfl, ?_⟩) hSS ?_
   ·intro w _
    go_simp
   refine aZ 22 (.slice (some ⟨b3, o3, none⟩) ne k3) rfl hSS ?_
   refine tkP 23 (I k) rfl (Or.inl ⟨by rfl, ?_⟩) hSS ?_
   ·intro w _
    go_simp
   refine aZ 24 (.pointer (some ⟨b3, o3 + k, none⟩)) rfl hSS ?_
   refine aZ 25 (I v) rfl hSS ?_
   refine aZ 26 (.pointer (some ⟨bt, ot + v * 4, none⟩)) rfl hSS ?_
   refine aZ 27 (.agg #[.bool sn, .slice S1 s1 t1, .bool false, .slice S2 s2 t2]) rfl hSS ?_
   refine on1 28 fun K hK => ?_
   go_simp
   go_at_call 111
   refine (kN _ _ _ _ X HRU.out HRW.out (N := N) (by omega) HFU.out HFV.out).mono ?_
   rintro e V1 ⟨y1, rfl, hvv, hb⟩
   have HY1 := aH hvv
   clear hvv
   replace HC2 := aH (aB HC2.out hb)
   replace HC3 := aH (aB HC3.out hb)
   replace HCP := aH (HCP.out.below hb)
   replace HCU := aH (HCU.out.below hb)
   replace HCV := aH (HCV.out.below hb)
   replace HRP := aH (HRP.out.ext hb)
   replace HRU := aH (HRU.out.ext hb)
   replace HRW := aH (HRW.out.ext hb)
   replace HR := aH (HR.out.call hb)
   replace HB := bT HB hb
   replace CM2 := aH (aB CM2.out hb)
   replace CM3 := aH (aB CM3.out hb)
   replace CM4 := aH (aB CM4.out hb)
   clear hb
   clear HRU HRW
   refine hK.out _ _ (fun _ => ⟨CM2.out, HC2.out, CM3.out, HC3.out, CM4.out, HCP.out.c0, HCP.out.c1, HCP.out.c2, HCP.out.c3, HCU.out.c0, HCU.out.c1, HCU.out.c2, HCU.out.c3, HCV.out.c0, HCV.out.c1, HCV.out.c2, HCV.out.c3⟩) ?_
   clear hK K
   have HF1 := aH (gV HFU.out HFV.out)
   refine on1 29 fun K hK => ?_
   go_simp
   go_at_call 109
   refine (nG _ _ _ _ V1 HRP.out HY1.out (N := (N + N + 3)) (by omega) (HPF.out.mono (by omega)) (HF1.out.mono (by omega))).mono ?_
   rintro e V2 ⟨y2, rfl, hvv, hb⟩
   have HY2 := aH hvv
   clear hvv
   replace HC2 := aH (aB HC2.out hb)
   replace HC3 := aH (aB HC3.out hb)
   replace HCP := aH (HCP.out.below hb)
   replace HCU := aH (HCU.out.below hb)
   replace HCV := aH (HCV.out.below hb)
   replace HRP := aH (HRP.out.ext hb)
   replace HR := aH (HR.out.call hb)
   replace HB := bT HB hb
   replace CM2 := aH (aB CM2.out hb)
   replace CM3 := aH (aB CM3.out hb)
   replace CM4 := aH (aB CM4.out hb)
   replace HY1 := aH (HY1.out.ext hb)
   clear hb
   clear HRP HY1
   refine hK.out _ _ (fun _ => ⟨CM2.out, HC2.out, CM3.out, HC3.out, CM4.out, HCP.out.c0, HCP.out.c1, HCP.out.c2, HCP.out.c3, HCU.out.c0, HCU.out.c1, HCU.out.c2, HCU.out.c3, HCV.out.c0, HCV.out.c1, HCV.out.c2, HCV.out.c3⟩) ?_
   clear hK K
   obtain ⟨tb, T1, q1, z1, T2, q2, z2, rfl⟩ := HY2.out.bools
   refine on1 30 fun K hK => ?_
   go_simp
   have hb := aM V2 (Obj.cells #[.bool tb, .slice T1 q1 z1, .bool false, .slice T2 q2 z2] 122)
   have HZ := aH (Blk.new V2 122 #[.bool tb, .slice T1 q1 z1, .bool false, .slice T2 q2 z2])
   replace HC2 := aH (aB HC2.out hb)
   replace HC3 := aH (aB HC3.out hb)
   replace HCP := aH (HCP.out.below hb)
   replace HCU := aH (HCU.out.below hb)
   replace HCV := aH (HCV.out.below hb)
   replace HR := aH (HR.out.call hb)
   replace HB := bT HB hb
   replace CM2 := aH (aB CM2.out hb)
   replace CM3 := aH (aB CM3.out hb)
   replace CM4 := aH (aB CM4.out hb)
   replace HY2 := aH (HY2.out.ext hb)
   clear hb
   refine hK.out _ _ (fun _ => ⟨CM2.out, HC2.out, CM3.out, HC3.out, CM4.out, HCP.out.c0, HCP.out.c1, HCP.out.c2, HCP.out.c3, HCU.out.c0, HCU.out.c1, HCU.out.c2, HCU.out.c3, HCV.out.c0, HCV.out.c1, HCV.out.c2, HCV.out.c3⟩) ?_
   clear hK K
   generalize V2.heap.size = gz at *
   generalize V2.alloc (Obj.cells #[.bool tb, .slice T1 q1 z1, .bool false, .slice T2 q2 z2] 122) = V4 at *
   refine on1 31 fun K hK => ?_
   refine oJ (by rfl) _ _ (by rfl) W8.heap.size vo L (by kernel_rfl) HR.out gz (by kernel_rfl) HZ.out HY2.out (by rw [HLQ.out]; omega) HB.out.size ?_
   intro v' Z hap
   have HRN := aH hap.row
   have HBN := aH (HB.out.trans (hap.below HR.out HB.out.size))
   rw [← HX.out] at HRN
   clear hap
   refine hK.out _ _ (fun h => absurd h (by decide)) ?_
   clear hK K
   refine on1 32 fun K hK => ?_
   go_simp
   refine hK.out _ _ (fun h => absurd h (by decide)) ?_
   clear hK K
   refine aE (by kernel_rfl) ?_ _
   clear HX HR HB HC2 HC3 HCP HCU HCV CM2 CM3 CM4 HY2 HFU HFV HF1 HPF HLQ HZ
   go_wp2
   go_roundg (ne - (k + 1))
   case measure => omega
   case rel => exact ⟨k + 1, _, rfl, rfl, by go_num, by omega, HRN, HBN⟩
  ·have hkn : k = ne := by omega
   subst hkn
   have HEND := aH (show zB w1 (grK (is 2) (is 3) (ts 0) th k) (.returned vo) wa from ⟨_, rfl, HR.out.less hw8, HB0.out.trans (HB.out.mono hw8)⟩)
   obtain ⟨A9, l9, c9, rfl⟩ := gP HR.out.val
   clear HR HB
   go_wp2
   go_ret
   exact HEND.out
def nfN (n : NetD) : Nat := (aI n).length
def nbN (n : NetD) : Nat := (aA n).length
def lT (n : NetD) : MQ := sF (fwM n) (nfN n)
theorem aFi {n : NetD} (h : VNet n) : nfN n ≤ 24 := by
 have hf := gO (aA n) (aA n).length
 have hl := iM h
 unfold nfN aI
 omega
theorem qN (n : NetD) : Rect (lT n) (nfN n) (nfN n) := aIi (iD n)
theorem uG {n : NetD} : ∀ x ∈ aI n, 0 ≤ x ∧ x < nbN n := fun x hx => by
 obtain ⟨j, h1, h2, _⟩ := iS.1 hx
 unfold nbN
 omega
theorem aFj {N : Nat} {free : List Int} {r : List Rat} (h : FitL N r) (h1 : 1 ≤ N) (i : Nat) : FitR N ((cJ free r).getD i 0) := by
 unfold cJ
 rw [gD, List.getElem?_map]
 cases free[i]? with
 | none => exact fO.mono h1
 | some f => exact h _
theorem aFk {n : NetD} (h : VNet n) {r : List Rat} (hr : FitL 4000 r) {k : Nat} (hk : k < nfN n) : DotFit 200000 ((lT n).getD k []) (cJ (aI n) r) := by
 have hl : ((lT n).getD k []).length = nfN n := (qN n).rowlen hk
 have hn := aFi h
 have ha : ∀ i, FitR 4000 (((lT n).getD k []).getD i 0) := fun i => aFe h k i hk
 have hb : ∀ i, FitR 4000 ((cJ (aI n) r).getD i 0) := aFj hr (by omega)
 refine ⟨fun i _ => (ha i).mono (by omega), fun i _ => (hb i).mono (by omega), fun j hj => ?_⟩
 have h1 : FitR (j * (8000 + 1) + 1) (sm j (jT ((lT n).getD k []) (cJ (aI n) r))) := xL (N := 8000) j fun i _ => (show FitR 8000 (jT ((lT n).getD k []) (cJ (aI n) r) i) from (rO (ha i) (hb i)).mono (by omega))
 have h2 : j ≤ 24 := by omega
 exact h1.mono (by omega)
theorem aFl {n : NetD} (h : VNet n) {r : List Rat} (hr : FitL 4000 r) : ∀ k, k ≤ nfN n → FitL 200000 (thK (nbN n) (aI n) (lT n) (cJ (aI n) r) k)
 | 0, _ => (sX _).mono (by omega)
 | k + 1, hk => (aFl h hr k (by omega)).set _ ((aFk h hr (show k < nfN n by omega)).sum _ lR)
theorem aJk {n : NetD} (h : VNet n) {r : List Rat} (hr : FitL 4000 r) : FitL 200000 (thQ (nbN n) (aI n) (lT n) r) := aFl h hr _ lR
theorem aFm {n : NetD} (h : VNet n) : FitL 2 (bLQ n) := zZ h
theorem aMe {n : NetD} (h : VNet n) : ∀ x ∈ bU n, 0 ≤ x ∧ x < nbN n := fun x hx => by
 obtain ⟨b, hb, rfl⟩ := List.mem_map.1 hx
 have := iR h (h.br b hb).1
 unfold nbN
 omega
theorem aMf {n : NetD} (h : VNet n) : ∀ x ∈ toL n, 0 ≤ x ∧ x < nbN n := fun x hx => by
 obtain ⟨b, hb, rfl⟩ := List.mem_map.1 hx
 have := iR h (h.br b hb).2.1
 unfold nbN
 omega
theorem yG {n : NetD} (h : VNet n) : ∀ x ∈ aC n, 0 ≤ x ∧ x < nbN n := fun x hx => by
 obtain ⟨i, hi, e⟩ := List.getElem_of_mem hx
 rw [bS h] at hi
 have := aGb h hi
 unfold at_ at this
 rw [Int.toNat_natCast, gD, gE (by rw [bS h]; exact hi), Option.getD_some, e] at this
 unfold nbN
 omega
theorem fH {n : NetD} {base g : Nat} {w w' : World} (hm : MF w base g n) (hb : Below w.heap.size w w') : MF w' base g n := by
 obtain ⟨rs, qs, v, vs, hS, hL⟩ := hm
 exact ⟨rs, qs, v, vs, hS.call hb, hL.call hb⟩
end Go.Proofs.YtenbglfkdldheaaGreatDoor
