/- flow: Flows. flow: Sums. -/
import Derived.Test.YtenbglfkdldheaaGreatDoorOFE
set_option maxRecDepth 100000
set_option maxHeartbeats 16000000
namespace Go.Proofs.YtenbglfkdldheaaGreatDoor
open Go.RowKit
def aKy (frm tu : List Int) (B C th : List Rat) (i : Nat) : Rat := B.getD i 0 * (th.getD (frm.getD i 0).toNat 0 - th.getD (tu.getD i 0).toNat 0) + C.getD i 0
def flK (frm tu : List Int) (B C th : List Rat) (k : Nat) : List Rat := (List.range k).map (aKy frm tu B C th)
theorem aGj (frm tu : List Int) (B C th : List Rat) (k : Nat) : flK frm tu B C th (k + 1) = flK frm tu B C th k ++ [aKy frm tu B C th k] := by simp [flK, List.range_succ]
theorem aBj (frm tu : List Int) (B C th : List Rat) (k : Nat) : (flK frm tu B C th k).length = k := by simp [flK]
theorem aDe (base g : Nat) (rs : Nat → Value) (is : Nat → List Int) (qs : Nat → Value) (ts : Nat → List Rat) (iv : Value) (th : List Rat) (A : Option Addr) (c nb ne : Nat) (w : World) (h : MS w base g rs is qs ts iv)
  (hr : RV w A nb th) (h2 : (is 2).length = ne) (h3 : (is 3).length = ne) (hc0 : (ts 0).length = ne) (hc1 : (ts 1).length = ne) (hne : ne ≤ 1000) (hu2 : ∀ x ∈ is 2, 0 ≤ x ∧ x < nb) (hu3 : ∀ x ∈ is 3, 0 ≤ x ∧ x < nb) (hB : FitL 2 (ts 0)) (hC : FitL 2 (ts 1)) {N : Nat} (hN : N ≤ 10000000) (hf : FitL N th) :
  Calls Tryz.prog 91 #[.pointer (some ⟨g, 0, none⟩), .slice A nb c] w (nM w (flK (is 2) (is 3) (ts 0) (ts 1) th ne)) := by
 have HS := aH h
 have HRV := aH hr
 have HF := aH hf
 have HFB := aH hB
 have HFC := aH hC
 have HU2 := aH hu2
 have HU3 := aH hu3
 have HRL := aH hr.len
 have N2 := aH h2
 have N3 := aH h3
 have N0 := aH hc0
 have N1 := aH hc1
 clear h hr hf hB hC hu2 hu3 h2 h3 hc0 hc1
 obtain ⟨Aq, cq, eq1⟩ := HS.out.qval (j := 1) (by decide)
 rw [N1.out] at eq1
 have HEQ := aH eq1
 have cc : w.cell? ⟨g, 5, none⟩ = some (.slice Aq ne cq) := by rw [← eq1]; exact HS.out.cellQ (j := 1) (by decide)
 clear eq1
 have HR := aH (show RRow w w.heap.size (.slice none 0 0) (flK (is 2) (is 3) (ts 0) (ts 1) th 0) from RRow.nil _ _)
 have HB := aH (Below.refl w.heap.size w)
 go_enter Tryz.func91, Tryz.ntmps91
 go_wp2
 clear cc
 go_loopg [5, 13] (ne - 0) (fun q o v wr => ∃ k : Nat, ∃ vo : Value, o = vo ∧ q = ne - k ∧ v = I k ∧ k ≤ ne ∧ Hid (RRow wr w.heap.size vo (flK (is 2) (is 3) (ts 0) (ts 1) th k)) ∧ Hid (Below w.heap.size w wr))
 case atStart => exact ⟨0, _, rfl, rfl, rfl, by omega, HR, HB⟩
 case round =>
  clear HR HB
  obtain ⟨k, vo, hvo, rfl, rfl, hk, HR, HB⟩ := hrel
  replace hvo := hvo.symm
  subst hvo
  obtain ⟨wa, rfl⟩ := wE wr
  by_cases hlt : k < ne
  ·have hS := HS.out.call HB.out
   obtain ⟨q, hq⟩ : ∃ q, (ts 1)[k]? = some q := ⟨_, gE (by rw [N1.out]; exact hlt)⟩
   have hqg : (ts 1).getD k 0 = q := by rw [gD, hq]; rfl
   have HQF := aH (show FitR 2 q from hqg ▸ HFC.out k)
   obtain ⟨bq, oq, kq, n0, Q1, l1, j1, Q2, l2, j2, eq0, _, hCq, hrtq⟩ := hS.ratAt (j := 1) (by decide) hq
   have eq9 := slI (HEQ.out.symm.trans eq0)
   obtain ⟨eq9, eq8⟩ := eq9
   subst eq9
   clear eq0 eq8
   obtain ⟨p, hp⟩ : ∃ p, (ts 0)[k]? = some p := ⟨_, gE (by rw [N0.out]; exact hlt)⟩
   have hpg : (ts 0).getD k 0 = p := by rw [gD, hp]; rfl
   have HPF := aH (show FitR 2 p from hpg ▸ HFB.out k)
   obtain ⟨bp, op, kp, m0, P1, a1, i1, P2, a2, i2, ep0, _, hCp, hrtp⟩ := hS.ratAt (j := 0) (by decide) hp
   rw [N0.out] at ep0
   have HEP := aH ep0
   obtain ⟨u0, u1⟩ := HU2.out _ (bY (l := is 2) (k := k) (by rw [N2.out]; exact hlt))
   obtain ⟨v0, v1⟩ := HU3.out _ (bY (l := is 3) (k := k) (by rw [N3.out]; exact hlt))
   obtain ⟨u, hu⟩ : ∃ u : Nat, (is 2).getD k 0 = u := Int.eq_ofNat_of_zero_le u0
   obtain ⟨v, hv⟩ : ∃ v : Nat, (is 3).getD k 0 = v := Int.eq_ofNat_of_zero_le v0
   rw [hu] at u0 u1
   rw [hv] at v0 v1
   have hun : u < nb := by omega
   have hvn : v < nb := by omega
   have HX := aH (show flK (is 2) (is 3) (ts 0) (ts 1) th (k + 1) = (flK (is 2) (is 3) (ts 0) (ts 1) th k) ++ [p * (th.getD u 0 - th.getD v 0) + q] by rw [aGj, aKy, hu, hv, hqg, hpg]; rfl)
   obtain ⟨b2, o2, k2, e2, _, h2c⟩ := hS.intAt (j := 2) (by decide) (k := k) (by rw [N2.out]; exact hlt)
   obtain ⟨b3, o3, k3, e3, _, h3c⟩ := hS.intAt (j := 3) (by decide) (k := k) (by rw [N3.out]; exact hlt)
   rw [N2.out] at e2
   rw [N3.out] at e3
   rw [hu] at h2c
   rw [hv] at h3c
   have HE2 := aH e2
   have HE3 := aH e3
   have HC2 := aH h2c
   have HC3 := aH h3c
   have hrv := HRV.out.below HB.out
   have hrl := HRL.out
   obtain ⟨bt, ot, tn, R1, f1, g1, R2, f2, g2, et, _, hCu, hrtu⟩ := hrv.form hun (th.getD u 0) (by rw [gD, gE (by omega)]; rfl)
   subst et
   obtain ⟨bs, os, sn, S1, s1, t1, S2, s2, t2, es, _, hCv, hrtv⟩ := hrv.form hvn (th.getD v 0) (by rw [gD, gE (by omega)]; rfl)
   obtain ⟨es, es2⟩ := adI es
   subst es es2
   have HFU := aH (HF.out u)
   have HFV := aH (HF.out v)
   generalize th.getD u 0 = tu_ at *
   generalize th.getD v 0 = tv_ at *
   have HLQ := aH (aBj (is 2) (is 3) (ts 0) (ts 1) th k)
   generalize (flK (is 2) (is 3) (ts 0) (ts 1) th k) = L at *
   have x0 := hCq.c0
   have x1 := hCq.c1
   have x2 := hCq.c2
   have x3 := hCq.c3
   have HCP := aH hCp
   have HCU := aH hCu
   have HCV := aH hCv
   have HRB := aH hrtq
   have HRP := aH hrtp
   have HRU := aH hrtu
   have HRW := aH hrtv
   clear hq hqg hp hpg hCq hrtq hCp hrtp hCu hrtu hCv hrtv e2 e3 ep0 h2c h3c hS u0 u1 v0 v1 hu hv hrv hrl
   go_upto_region 5 with (fail)
   clear x0 x1 x2 x3
   have hb := aD wa (Obj.cells #[.bool n0, .slice Q1 l1 j1, .bool false, .slice Q2 l2 j2] 122)
   have HBX := aH (Blk.new wa 122 #[.bool n0, .slice Q1 l1 j1, .bool false, .slice Q2 l2 j2])
   replace HC2 := aH (aA HC2.out hb)
   replace HC3 := aH (aA HC3.out hb)
   replace HCP := aH (HCP.out.below hb)
   replace HCU := aH (HCU.out.below hb)
   replace HCV := aH (HCV.out.below hb)
   replace HRB := aH (HRB.out.ext hb)
   replace HRP := aH (HRP.out.ext hb)
   replace HRU := aH (HRU.out.ext hb)
   replace HRW := aH (HRW.out.ext hb)
   replace HR := aH (HR.out.call hb)
   replace HB := bT HB hb
   clear hb
   generalize wa.alloc (Obj.cells #[.bool n0, .slice Q1 l1 j1, .bool false, .slice Q2 l2 j2] 122) = W1 at *
   generalize wa.heap.size = gx at *
   have hb := aY W1
   replace HC2 := aH (aA HC2.out hb)
   replace HC3 := aH (aA HC3.out hb)
   replace HCP := aH (HCP.out.below hb)
   replace HCU := aH (HCU.out.below hb)
   replace HCV := aH (HCV.out.below hb)
   replace HRB := aH (HRB.out.ext hb)
   replace HRP := aH (HRP.out.ext hb)
   replace HRU := aH (HRU.out.ext hb)
   replace HRW := aH (HRW.out.ext hb)
   replace HR := aH (HR.out.call hb)
   replace HB := bT HB hb
   replace HBX := bL HBX hb
   clear hb
   have CM2 := aH (show W1.drew.cell? ⟨g, 2, none⟩ = some (.slice (some ⟨b2, o2, none⟩) ne k2) by rw [← HE2.out]; exact (HS.out.call HB.out).cellI (j := 2) (by decide))
   have CM3 := aH (show W1.drew.cell? ⟨g, 3, none⟩ = some (.slice (some ⟨b3, o3, none⟩) ne k3) by rw [← HE3.out]; exact (HS.out.call HB.out).cellI (j := 3) (by decide))
   have CM4 := aH (show W1.drew.cell? ⟨g, 4, none⟩ = some (.slice (some ⟨bp, op, none⟩) ne kp) by rw [← HEP.out]; exact (HS.out.call HB.out).cellQ (j := 0) (by decide))
   clear HE2 HE3 HEP
   refine aI (fun w' => w'.cell? ⟨g, 2, none⟩ = some (.slice (some ⟨b2, o2, none⟩) ne k2) ∧ w'.cell? ⟨b2, o2 + k, none⟩ = some (I u) ∧ w'.cell? ⟨g, 3, none⟩ = some (.slice (some ⟨b3, o3, none⟩) ne k3) ∧ w'.cell? ⟨b3, o3 + k, none⟩ = some (I v) ∧ w'.cell? ⟨g, 4, none⟩ = some (.slice (some ⟨bp, op, none⟩) ne kp) ∧ w'.cell? ⟨bp, op + k * 4, none⟩ = some (.bool m0) ∧ w'.cell? ⟨bp, op + k * 4 + 1, none⟩ = some (.slice P1 a1 i1) ∧ w'.cell? ⟨bp, op + k * 4 + 2, none⟩ = some (.bool false) ∧ w'.cell? ⟨bp, op + k * 4 + 3, none⟩ = some (.slice P2 a2 i2) ∧ w'.cell? ⟨bt, ot + u * 4, none⟩ = some (.bool tn) ∧ w'.cell? ⟨bt, ot + u * 4 + 1, none⟩ = some (.slice R1 f1 g1) ∧ w'.cell? ⟨bt, ot + u * 4 + 2, none⟩ = some (.bool false) ∧ w'.cell? ⟨bt, ot + u * 4 + 3, none⟩ = some (.slice R2 f2 g2) ∧ w'.cell? ⟨bt, ot + v * 4, none⟩ = some (.bool sn) ∧ w'.cell? ⟨bt, ot + v * 4 + 1, none⟩ = some (.slice S1 s1 t1) ∧ w'.cell? ⟨bt, ot + v * 4 + 2, none⟩ = some (.bool false) ∧ w'.cell? ⟨bt, ot + v * 4 + 3, none⟩ = some (.slice S2 s2 t2) ∧ w'.cell? ⟨gx, 0, none⟩ = some (.bool n0) ∧ w'.cell? ⟨gx, 1, none⟩ = some (.slice Q1 l1 j1) ∧ w'.cell? ⟨gx, 2, none⟩ = some (.bool false) ∧ w'.cell? ⟨gx, 3, none⟩ = some (.slice Q2 l2 j2)) 33 (by kernel_rfl) ?_
   generalize W1.drew = X at *
   refine tkS ⟨CM2.out, HC2.out, CM3.out, HC3.out, CM4.out, HCP.out.c0, HCP.out.c1, HCP.out.c2, HCP.out.c3, HCU.out.c0, HCU.out.c1, HCU.out.c2, HCU.out.c3, HCV.out.c0, HCV.out.c1, HCV.out.c2, HCV.out.c3, HBX.out.cell 0, HBX.out.cell 1, HBX.out.cell 2, HBX.out.cell 3⟩ fun hSS => ?_
   refine aZ 0 vo rfl hSS ?_
   refine aZ 1 (.pointer (some ⟨g, 0, none⟩)) rfl hSS ?_
   refine aZ 2 (.pointer (some ⟨g, 0, none⟩)) rfl hSS ?_
   refine aZ 3 (.pointer (some ⟨g, 4, none⟩)) rfl hSS ?_
   refine aZ 4 (.slice (some ⟨bp, op, none⟩) ne kp) rfl hSS ?_
   refine aZ 5 (I k) rfl hSS ?_
   refine aZ 6 (.pointer (some ⟨bp, op + k * 4, none⟩)) rfl hSS ?_
   refine aZ 7 (.agg #[.bool m0, .slice P1 a1 i1, .bool false, .slice P2 a2 i2]) rfl hSS ?_
   refine tkP 8 (.slice (some ⟨bt, ot, none⟩) nb c) rfl (Or.inl ⟨by rfl, ?_⟩) hSS ?_
   ·intro w _
    go_simp
   refine tkP 9 (.pointer (some ⟨g, 0, none⟩)) rfl (Or.inl ⟨by rfl, ?_⟩) hSS ?_
   ·intro w _
    go_simp
   refine tkP 10 (.pointer (some ⟨g, 0, none⟩)) rfl (Or.inl ⟨by rfl, ?_⟩) hSS ?_
   ·intro w _
    go_simp
   refine tkP 11 (.pointer (some ⟨g, 2, none⟩)) rfl (Or.inl ⟨by rfl, ?_⟩) hSS ?_
   ·intro w _
    go_simp
   refine aZ 12 (.slice (some ⟨b2, o2, none⟩) ne k2) rfl hSS ?_
   refine tkP 13 (I k) rfl (Or.inl ⟨by rfl, ?_⟩) hSS ?_
   ·intro w _
    go_simp
   refine aZ 14 (.pointer (some ⟨b2, o2 + k, none⟩)) rfl hSS ?_
   refine aZ 15 (I u) rfl hSS ?_
   refine aZ 16 (.pointer (some ⟨bt, ot + u * 4, none⟩)) rfl hSS ?_
   refine aZ 17 (.agg #[.bool tn, .slice R1 f1 g1, .bool false, .slice R2 f2 g2]) rfl hSS ?_
   refine tkP 18 (.slice (some ⟨bt, ot, none⟩) nb c) rfl (Or.inl ⟨by rfl, ?_⟩) hSS ?_
   ·intro w _
    go_simp
   refine tkP 19 (.pointer (some ⟨g, 0, none⟩)) rfl (Or.inl ⟨by rfl, ?_⟩) hSS ?_
   ·intro w _
    go_simp
   refine tkP 20 (.pointer (some ⟨g, 0, none⟩)) rfl (Or.inl ⟨by rfl, ?_⟩) hSS ?_
   ·intro w _
    go_simp
   refine tkP 21 (.pointer (some ⟨g, 3, none⟩)) rfl (Or.inl ⟨by rfl, ?_⟩) hSS ?_
   ·intro w _
    go_simp
   refine aZ 22 (.slice (some ⟨b3, o3, none⟩) ne k3) rfl hSS ?_
   refine tkP 23 (I k) rfl (Or.inl ⟨by rfl, ?_⟩) hSS ?_
   ·intro w _
    go_simp
   refine aZ 24 (.pointer (some ⟨b3, o3 + k, none⟩)) rfl hSS ?_
   refine aZ 25 (I v) rfl hSS ?_
   refine aZ 26 (.pointer (some ⟨bt, ot + v * 4, none⟩)) rfl hSS ?_
   refine aZ 27 (.agg #[.bool sn, .slice S1 s1 t1, .bool false, .slice S2 s2 t2]) rfl hSS ?_
   refine aZ 30 (.agg #[.bool n0, .slice Q1 l1 j1, .bool false, .slice Q2 l2 j2]) rfl hSS ?_
   refine on1 28 fun K hK => ?_
   go_simp
   go_at_call 111
   refine (kN _ _ _ _ X HRU.out HRW.out (N := N) (by omega) HFU.out HFV.out).mono ?_
   rintro e Y1 ⟨y1, rfl, hvv, hb⟩
   have HY1 := aH hvv
   clear hvv
   replace HC2 := aH (aA HC2.out hb)
   replace HC3 := aH (aA HC3.out hb)
   replace HCP := aH (HCP.out.below hb)
   replace HCU := aH (HCU.out.below hb)
   replace HCV := aH (HCV.out.below hb)
   replace HRB := aH (HRB.out.ext hb)
   replace HRP := aH (HRP.out.ext hb)
   replace HRU := aH (HRU.out.ext hb)
   replace HRW := aH (HRW.out.ext hb)
   replace HR := aH (HR.out.call hb)
   replace HB := bT HB hb
   replace CM2 := aH (aA CM2.out hb)
   replace CM3 := aH (aA CM3.out hb)
   replace CM4 := aH (aA CM4.out hb)
   replace HBX := bL HBX hb
   clear hb
   clear HRU HRW
   refine hK.out _ _ (fun _ => ⟨CM2.out, HC2.out, CM3.out, HC3.out, CM4.out, HCP.out.c0, HCP.out.c1, HCP.out.c2, HCP.out.c3, HCU.out.c0, HCU.out.c1, HCU.out.c2, HCU.out.c3, HCV.out.c0, HCV.out.c1, HCV.out.c2, HCV.out.c3, HBX.out.cell 0, HBX.out.cell 1, HBX.out.cell 2, HBX.out.cell 3⟩) ?_
   clear hK K
   have HF1 := aH (gX HFU.out HFV.out)
   refine on1 29 fun K hK => ?_
   go_simp
   go_at_call 109
   refine (nI _ _ _ _ Y1 HRP.out HY1.out (N := (N + N + 3)) (by omega) (HPF.out.mono (by omega)) (HF1.out.mono (by omega))).mono ?_
   rintro e Y2 ⟨y2, rfl, hvv, hb⟩
   have HY2 := aH hvv
   clear hvv
   replace HC2 := aH (aA HC2.out hb)
   replace HC3 := aH (aA HC3.out hb)
   replace HCP := aH (HCP.out.below hb)
   replace HCU := aH (HCU.out.below hb)
   replace HCV := aH (HCV.out.below hb)
   replace HRB := aH (HRB.out.ext hb)
   replace HRP := aH (HRP.out.ext hb)
   replace HR := aH (HR.out.call hb)
   replace HB := bT HB hb
   replace CM2 := aH (aA CM2.out hb)
   replace CM3 := aH (aA CM3.out hb)
   replace CM4 := aH (aA CM4.out hb)
   replace HBX := bL HBX hb
   replace HY1 := aH (HY1.out.ext hb)
   clear hb
   clear HRP HY1
   refine hK.out _ _ (fun _ => ⟨CM2.out, HC2.out, CM3.out, HC3.out, CM4.out, HCP.out.c0, HCP.out.c1, HCP.out.c2, HCP.out.c3, HCU.out.c0, HCU.out.c1, HCU.out.c2, HCU.out.c3, HCV.out.c0, HCV.out.c1, HCV.out.c2, HCV.out.c3, HBX.out.cell 0, HBX.out.cell 1, HBX.out.cell 2, HBX.out.cell 3⟩) ?_
   clear hK K
   have HF2 := aH (iZ (N := N + N + 3) (HPF.out.mono (by omega)) (HF1.out.mono (by omega)))
   refine on1 31 fun K hK => ?_
   go_simp
   go_at_call 99
   refine (iB _ _ _ _ Y2 HY2.out HRB.out (N := (N + N + 3 + (N + N + 3))) (by omega) HF2.out (HQF.out.mono (by omega))).mono ?_
   rintro e Y3 ⟨y3, rfl, hvv, hb⟩
   have HY3 := aH hvv
   clear hvv
   replace HC2 := aH (aA HC2.out hb)
   replace HC3 := aH (aA HC3.out hb)
   replace HCP := aH (HCP.out.below hb)
   replace HCU := aH (HCU.out.below hb)
   replace HCV := aH (HCV.out.below hb)
   replace HRB := aH (HRB.out.ext hb)
   replace HR := aH (HR.out.call hb)
   replace HB := bT HB hb
   replace CM2 := aH (aA CM2.out hb)
   replace CM3 := aH (aA CM3.out hb)
   replace CM4 := aH (aA CM4.out hb)
   replace HBX := bL HBX hb
   replace HY2 := aH (HY2.out.ext hb)
   clear hb
   clear HY2 HRB
   refine hK.out _ _ (fun _ => ⟨CM2.out, HC2.out, CM3.out, HC3.out, CM4.out, HCP.out.c0, HCP.out.c1, HCP.out.c2, HCP.out.c3, HCU.out.c0, HCU.out.c1, HCU.out.c2, HCU.out.c3, HCV.out.c0, HCV.out.c1, HCV.out.c2, HCV.out.c3, HBX.out.cell 0, HBX.out.cell 1, HBX.out.cell 2, HBX.out.cell 3⟩) ?_
   clear hK K
   obtain ⟨tb, T1, w1, z1, T2, w2, z2, rfl⟩ := HY3.out.bools
   refine on1 32 fun K hK => ?_
   go_simp
   have hb := aD Y3 (Obj.cells #[.bool tb, .slice T1 w1 z1, .bool false, .slice T2 w2 z2] 122)
   have HZ := aH (Blk.new Y3 122 #[.bool tb, .slice T1 w1 z1, .bool false, .slice T2 w2 z2])
   replace HC2 := aH (aA HC2.out hb)
   replace HC3 := aH (aA HC3.out hb)
   replace HCP := aH (HCP.out.below hb)
   replace HCU := aH (HCU.out.below hb)
   replace HCV := aH (HCV.out.below hb)
   replace HR := aH (HR.out.call hb)
   replace HB := bT HB hb
   replace CM2 := aH (aA CM2.out hb)
   replace CM3 := aH (aA CM3.out hb)
   replace CM4 := aH (aA CM4.out hb)
   replace HBX := bL HBX hb
   replace HY3 := aH (HY3.out.ext hb)
   clear hb
   refine hK.out _ _ (fun _ => ⟨CM2.out, HC2.out, CM3.out, HC3.out, CM4.out, HCP.out.c0, HCP.out.c1, HCP.out.c2, HCP.out.c3, HCU.out.c0, HCU.out.c1, HCU.out.c2, HCU.out.c3, HCV.out.c0, HCV.out.c1, HCV.out.c2, HCV.out.c3, HBX.out.cell 0, HBX.out.cell 1, HBX.out.cell 2, HBX.out.cell 3⟩) ?_
   clear hK K
   generalize Y3.heap.size = gz at *
   generalize Y3.alloc (Obj.cells #[.bool tb, .slice T1 w1 z1, .bool false, .slice T2 w2 z2] 122) = Y4 at *
   refine on1 33 fun K hK => ?_
   refine oY (by rfl) _ _ (by rfl) w.heap.size vo L (by kernel_rfl) HR.out gz (by kernel_rfl) HZ.out HY3.out (by rw [HLQ.out]; omega) HB.out.size ?_
   intro v' Z hap
   have HRN := aH hap.row
   have HBN := aH (HB.out.trans (hap.below HR.out HB.out.size))
   rw [← HX.out] at HRN
   clear hap
   refine hK.out _ _ (fun h => absurd h (by decide)) ?_
   clear hK K
   refine on1 34 fun K hK => ?_
   go_simp
   refine hK.out _ _ (fun h => absurd h (by decide)) ?_
   clear hK K
   refine aE (by kernel_rfl) ?_ _
   clear HX HR HB HC2 HC3 HCP HCU HCV CM2 CM3 CM4 HBX HY3 HFU HFV HF1 HF2 HQF HPF HLQ HZ
   go_wp2
   go_roundg (ne - (k + 1))
   case measure => omega
   case rel => exact ⟨k + 1, _, rfl, rfl, by go_num, by omega, HRN, HBN⟩
  ·have hkn : k = ne := by omega
   subst hkn
   have HEND := aH (show nM w (flK (is 2) (is 3) (ts 0) (ts 1) th k) (.returned vo) wa from ⟨_, rfl, HR.out, HB.out⟩)
   obtain ⟨A9, l9, c9, rfl⟩ := dO HR.out.val
   clear HR HB
   go_wp2
   go_ret
   exact HEND.out
def smI (bus inj : List Int) (nb : Nat) : Nat → List Int
 | 0 => List.replicate nb 0
 | k + 1 => (smI bus inj nb k).set (bus.getD k 0).toNat ((smI bus inj nb k).getD (bus.getD k 0).toNat 0 + inj.getD k 0)
theorem pZ (bus inj : List Int) (nb : Nat) : ∀ k, (smI bus inj nb k).length = nb
 | 0 => by simp [smI]
 | k + 1 => by rw [smI, List.length_set]; exact pZ bus inj nb k
theorem aDf (l : List Int) (u i : Nat) (x : Int) : (l.set u x).getD i 0 = if u = i ∧ i < l.length then x else l.getD i 0 := by
 by_cases e : u = i
 ·subst e
  by_cases h : u < l.length
  ·rw [if_pos ⟨rfl, h⟩, gD, List.getElem?_set_self h]; rfl
  ·rw [if_neg (fun k => h k.2), gD, List.getElem?_eq_none (by rw [List.length_set]; omega), gD, List.getElem?_eq_none (by omega)]
 ·rw [if_neg (fun k => e k.1), gD, List.getElem?_set_ne e, ← gD]
theorem iT {bus inj : List Int} {nb : Nat} (h : ∀ i, -100000 ≤ inj.getD i 0 ∧ inj.getD i 0 ≤ 100000) : ∀ (k i : Nat), -(100000 * (k : Int)) ≤ (smI bus inj nb k).getD i 0 ∧ (smI bus inj nb k).getD i 0 ≤ 100000 * (k : Int)
 | 0, i => by
  have : (smI bus inj nb 0).getD i 0 = 0 := by
   rw [smI, gD, List.getElem?_replicate]
   split <;> rfl
  omega
 | k + 1, i => by
  have h1 := iT (bus := bus) (nb := nb) h k i
  have h2 := iT (bus := bus) (nb := nb) h k (bus.getD k 0).toNat
  have h3 := h k
  rw [smI, aDf]
  split <;> omega
def smQ (bus inj : List Int) (nb n : Nat) : List Rat := (smI bus inj nb n).map fun (z : Int) => (z : Rat)
theorem aGk {l : List Int} {i : Nat} (h : i < l.length) : ((l.map I).toArray)[i]? = some (I (l.getD i 0)) := by
 rw [gD, gE h]
 simp [h]
theorem tM {w : World} {g : Nat} {l : List Int} (h : Blk w g iO (l.map I).toArray) {i : Nat} (hi : i < l.length) : w.cell? ⟨g, i, none⟩ = some (I (l.getD i 0)) := by
 rw [h.cell]
 exact aGk hi
theorem aGl {w : World} {g : Nat} {l : List Int} (h : Blk w g iO (l.map I).toArray) (i : Nat) (x : Int) : Blk (w.setCell ⟨g, i, none⟩ (I x)) g iO ((l.set i x).map I).toArray := by
 have := h.set_ i (I x)
 rw [List.setIfInBounds_toArray, ← List.map_set] at this
 exact this
theorem aGm (base g : Nat) (rs : Nat → Value) (is : Nat → List Int) (qs : Nat → Value) (ts : Nat → List Rat) (iv : Value) (inj : List Int) (A : Option Addr) (c nb n : Nat) (w : World) (h : MS w base g rs is qs ts iv)
  (hj : Reads w w.heap.size 1 A n (inj.map I)) (h0 : (is 0).length = n) (hnb : (is 1).length = nb) (hb : nb ≤ 1000) (hn : n ≤ 1000) (hu : ∀ x ∈ is 0, 0 ≤ x ∧ x < nb) (hi : ∀ i, -100000 ≤ inj.getD i 0 ∧ inj.getD i 0 ≤ 100000) :
  Calls Tryz.prog 90 #[.pointer (some ⟨g, 0, none⟩), .slice A n c] w (nM w (smQ (is 0) inj nb n)) := by
 have HS := aH h
 have HJ := aH hj
 have HU := aH hu
 have HI := aH hi
 have N0 := aH h0
 have HC := aH (buses_fw base g rs is qs ts iv w h (by omega))
 rw [hnb] at HC
 have hmk := aHq nb (by omega)
 clear h hj hu hi h0 hnb
 go_enter Tryz.func90, Tryz.ntmps90
 go_wp2_with fail
 refine HC.out.mono ?_
 rintro e w1 ⟨rfl, rfl⟩
 clear HC
 skip
 go_upto_region 2 with (fail)
 clear hmk
 have HG := aH (show Blk (w1.alloc (.cells (Array.replicate nb (I 0)) iO)) w1.heap.size iO ((smI (is 0) inj nb 0).map I).toArray by
  have := Blk.new w1 iO (Array.replicate nb (I 0))
  rw [smI, List.map_replicate]
  simpa using this)
 have HB := aH (aD w1 (.cells (Array.replicate nb (I 0)) iO))
 have hgs : w1.heap.size ≤ w1.heap.size := Nat.le_refl _
 unfold iO at *
 go_wp2
 go_loopg [16] (n - 0) (fun q v wr => ∃ k : Nat, q = n - k ∧ v = I k ∧ k ≤ n ∧ Hid (Blk wr w1.heap.size 3 ((smI (is 0) inj nb k).map I).toArray) ∧ Hid (Below w1.heap.size w1 wr))
 case atStart => exact ⟨0, rfl, rfl, by omega, HG, HB⟩
 case round =>
  clear HG HB
  obtain ⟨k, rfl, rfl, hk, HG, HB⟩ := hrel
  obtain ⟨wa, rfl⟩ := wE wr
  by_cases hlt : k < n
  ·obtain ⟨bj, oj, rfl, _, cj⟩ := (HJ.out.below HB.out).int_at hlt
   obtain ⟨b0, o0, k0, e0, _, c0⟩ := (HS.out.call HB.out).intAt (j := 0) (by decide) (k := k) (by rw [N0.out]; exact hlt)
   rw [N0.out] at e0
   have d0 : wa.cell? ⟨g, 0, none⟩ = some (.slice (some ⟨b0, o0, none⟩) n k0) := by rw [← e0]; exact (HS.out.call HB.out).cellI (j := 0) (by decide)
   clear e0
   obtain ⟨u0, u1⟩ := HU.out _ (bY (l := is 0) (k := k) (by rw [N0.out]; exact hlt))
   obtain ⟨u, hu⟩ : ∃ u : Nat, (is 0).getD k 0 = u := Int.eq_ofNat_of_zero_le u0
   rw [hu] at u1 c0
   have hun : u < nb := by omega
   have HX := aH (show smI (is 0) inj nb (k + 1) = (smI (is 0) inj nb k).set u ((smI (is 0) inj nb k).getD u 0 + inj.getD k 0) by rw [smI, hu, Int.toNat_natCast])
   have hbd := iT (bus := is 0) (nb := nb) HI.out k u
   have hbi := HI.out k
   have hln := pZ (is 0) inj nb k
   have cs := tM HG.out (i := u) (by omega)
   have fs := HG.out.frozen u
   have HGN := aH (aGl HG.out u ((smI (is 0) inj nb k).getD u 0 + inj.getD k 0))
   rw [← HX.out] at HGN
   have HBN := aH (HB.out.setCell (p := ⟨w1.heap.size, u, none⟩) lR (I ((smI (is 0) inj nb k).getD u 0 + inj.getD k 0)))
   clear HX HG HB hln hu u0 u1
   generalize (smI (is 0) inj nb k).getD u 0 = x at *
   generalize inj.getD k 0 = y at *
   obtain ⟨x0, x1⟩ := hbd
   obtain ⟨y0, y1⟩ := hbi
   have hs0 : -100100000 ≤ x + y := by omega
   have hs1 : x + y ≤ 100100000 := by omega
   go_wp2
   go_roundg (n - (k + 1))
   case measure => omega
   case rel => exact ⟨k + 1, rfl, by go_num, by omega, HGN, HBN⟩
  ·have hkn : k = n := by omega
   subst hkn
   have hln := pZ (is 0) inj nb k
   generalize hL : smI (is 0) inj nb k = L at *
   have HR := aH (show RRow wa w1.heap.size (.slice none 0 0) ((L.take 0).map fun (z : Int) => (z : Rat)) from RRow.nil _ _)
   have HLB := aH (show ∀ i, -100000000 ≤ L.getD i 0 ∧ L.getD i 0 ≤ 100000000 from fun i => by have := iT (bus := is 0) (nb := nb) HI.out k i; rw [hL] at this; omega)
   have HEL := aH hL
   clear hL
   have hgl := HG.out.lt
   have HB0 := aH (Below.refl wa.heap.size wa)
   go_wp2
   go_loopg [8, 38] (nb - 0) (fun q o v wr => ∃ j : Nat, ∃ vo : Value, o = vo ∧ q = nb - j ∧ v = I j ∧ j ≤ nb ∧ Hid (RRow wr wa.heap.size vo ((L.take j).map fun (z : Int) => (z : Rat))) ∧ Hid (Below wa.heap.size wa wr))
   case atStart => exact ⟨0, _, rfl, rfl, rfl, by omega, aH (RRow.nil _ _), HB0⟩
   case round =>
    clear HR HB0
    obtain ⟨j, vo, hvo, rfl, rfl, hj, HR, HB2⟩ := hrel
    replace hvo := hvo.symm
    subst hvo
    obtain ⟨wb, rfl⟩ := wE wr
    by_cases hlt : j < nb
    ·obtain ⟨z, hz⟩ : ∃ z, L[j]? = some z := ⟨_, gE (by omega)⟩
     have cj : wb.cell? ⟨w1.heap.size, j, none⟩ = some (I z) := by
      have h := tM (HG.out.below HB2.out hgl) (i := j) (by omega)
      rw [gD, hz] at h
      exact h
     have hzb := HLB.out j
     rw [gD, hz] at hzb
     obtain ⟨hz0, hz1⟩ := hzb
     simp only [Option.getD_some] at hz0 hz1
     have HX := aH (show ((L.take (j + 1)).map fun (z : Int) => (z : Rat)) = ((L.take j).map fun (z : Int) => (z : Rat)) ++ [(z : Rat)] by rw [List.take_add_one, hz]; simp)
     have HLQ := aH (show ((L.take j).map fun (z : Int) => (z : Rat)).length ≤ 1000000 by rw [List.length_map, List.length_take]; omega)
     generalize ((L.take j).map fun (z : Int) => (z : Rat)) = Q at *
     have HC := aH (fP z wb (by omega) (by omega))
     clear hz
     go_wp2_with fail
     refine HC.out.mono ?_
     rintro e Y3 ⟨v3, rfl, hv, hb⟩
     clear HC
     obtain ⟨tb, T1, w2, z1, T2, w3, z2, rfl⟩ := hv.bools
     have hb2 := aD Y3 (Obj.cells #[.bool tb, .slice T1 w2 z1, .bool false, .slice T2 w3 z2] aJ)
     have HZ := aH (Blk.new Y3 aJ #[.bool tb, .slice T1 w2 z1, .bool false, .slice T2 w3 z2])
     have HV := aH (hv.ext hb2)
     replace HR := aH ((HR.out.call hb).call hb2)
     replace HB2 := aH ((HB2.out.trans (hb.mono HB2.out.size)).trans (hb2.mono (Nat.le_trans HB2.out.size hb.size)))
     clear hb hb2 hv
     unfold aJ at *
     go_wp2_with (at_builtin; refine kW rfl _ _ rfl wa.heap.size vo Q rfl HR.out Y3.heap.size rfl HZ.out HV.out HLQ.out HB2.out.size ?_)
     intro v' Z hap
     have HRN := aH hap.row
     have HBN := aH (HB2.out.trans (hap.below HR.out HB2.out.size))
     rw [← HX.out] at HRN
     clear hap HR HB2 HZ HV HX HLQ cj
     go_wp2
     go_roundg (nb - (j + 1))
     case measure => omega
     case rel => exact ⟨j + 1, _, rfl, rfl, by go_num, by omega, HRN, HBN⟩
    ·have hjn : j = nb := by omega
     subst hjn
     have HEND := aH (show nM w1 (smQ (is 0) inj j k) (.returned vo) wb from ⟨_, rfl, by
      have h := HR.out.less HB.out.size
      rw [List.take_of_length_le (by omega)] at h
      unfold smQ
      rw [HEL.out]
      exact h, HB.out.trans (HB2.out.mono HB.out.size)⟩)
     obtain ⟨A9, l9, c9, rfl⟩ := dO HR.out.val
     clear HR HB2
     go_wp2
     go_ret
     exact HEND.out
end Go.Proofs.YtenbglfkdldheaaGreatDoor
