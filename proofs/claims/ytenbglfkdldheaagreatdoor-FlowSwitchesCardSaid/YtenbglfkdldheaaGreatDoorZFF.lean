/- flow: Angles. -/
import Derived.Test.YtenbglfkdldheaaGreatDoorZFE
set_option maxRecDepth 100000
set_option maxHeartbeats 16000000
namespace Go.Proofs.YtenbglfkdldheaaGreatDoor
open Go.RowKit
def FitL (N : Nat) (l : List Rat) : Prop := ∀ i, FitR N (l.getD i 0)
theorem FitL.mono {N M : Nat} {l : List Rat} (h : FitL N l) (hm : N ≤ M) : FitL M l := fun i => (h i).mono hm
theorem FitL.set {N : Nat} {l : List Rat} (h : FitL N l) (j : Nat) {x : Rat} (hx : FitR N x) : FitL N (l.set j x) := fun i => by
 by_cases e : i < l.length
 ·by_cases e2 : j = i
  ·subst e2
   rw [gD, List.getElem?_set_self e]
   exact hx
  ·rw [gD, List.getElem?_set_ne e2, ← gD]
   exact h i
 ·rw [gD, List.getElem?_eq_none (by rw [List.length_set]; omega)]
  have := h i
  rw [gD, List.getElem?_eq_none (by omega)] at this
  exact this
def shQ (u v : Nat) (c : Rat) (l : List Rat) : List Rat := (l.set u (l.getD u 0 - c)).set v ((l.set u (l.getD u 0 - c)).getD v 0 + c)
def shK (frm tu : List Int) (C : List Rat) (P : List Rat) : Nat → List Rat
 | 0 => P
 | k + 1 => shQ (frm.getD k 0).toNat (tu.getD k 0).toNat (C.getD k 0) (shK frm tu C P k)
theorem shQ_len (u v : Nat) (c : Rat) (l : List Rat) : (shQ u v c l).length = l.length := by simp [shQ]
theorem shK_len (frm tu : List Int) (C P : List Rat) : ∀ k, (shK frm tu C P k).length = P.length
 | 0 => rfl
 | k + 1 => by rw [shK, shQ_len]; exact shK_len frm tu C P k
theorem shQ_fit {N : Nat} {l : List Rat} (h : FitL N l) (u v : Nat) {c : Rat} (hc : FitR 2 c) : FitL (N + 6) (shQ u v c l) := by
 have h1 : FitL (N + 3) (l.set u (l.getD u 0 - c)) := (h.mono (by omega)).set u (fitR_sbI (h u) hc)
 exact (h1.mono (by omega)).set v ((fitR_add (h1 v) hc).mono (by omega))
theorem shK_fit {N : Nat} {frm tu : List Int} {C P : List Rat} (hC : FitL 2 C) (hP : FitL N P) : ∀ k, FitL (N + 6 * k) (shK frm tu C P k)
 | 0 => hP
 | k + 1 => (shQ_fit (shK_fit hC hP k) _ _ (hC k)).mono (by omega)
theorem angles_any (base g : Nat) (rs : Nat → Value) (is : Nat → List Int) (qs : Nat → Value) (ts : Nat → List Rat) (iv : Value) (inv : MQ) (vs : List Value) (r : List Rat) (A : Option Addr) (c nb nf ne : Nat) (w : World) (h : MS w base g rs is qs ts iv) (hL : LM w base iv vs inv)
  (hr : RV w A nb r) (hnb : (is 1).length = nb) (hb : nb ≤ 1000) (hnf : (is 4).length = nf) (hf4 : nf ≤ 1000) (hin : Rect inv nf nf) (hfr : ∀ x ∈ is 4, 0 ≤ x ∧ x < nb) {N : Nat} (hN : N ≤ 40000000)
  (h2 : (is 2).length = ne) (h3 : (is 3).length = ne) (hc1 : (ts 1).length = ne) (hne : ne ≤ 1000) (hu2 : ∀ x ∈ is 2, 0 ≤ x ∧ x < nb) (hu3 : ∀ x ∈ is 3, 0 ≤ x ∧ x < nb) (hC : FitL 2 (ts 1)) (hP : FitL 1000 r)
  (hf : ∀ k, k < nf → DotFit N (inv.getD k []) (pickQ (is 4) (shK (is 2) (is 3) (ts 1) r ne))) :
  Calls Tryz.prog 89 #[.pointer (some ⟨g, 0, none⟩), .slice A nb c] w (RetV w (thQ nb (is 4) inv (shK (is 2) (is 3) (ts 1) r ne))) := by
 have HS := aH h
 have HL := aH hL
 have HRV := aH hr
 have HF := aH hf
 have HIN := aH hin
 have HFR := aH hfr
 have HFC := aH hC
 have HFP := aH hP
 have HU2 := aH hu2
 have HU3 := aH hu3
 have hrl := hr.len
 have HC := aH (cloneR_any r nb A c w hr hb)
 have N2 := aH h2
 have N3 := aH h3
 have N1 := aH hc1
 have NB := aH hnb
 have NF := aH hnf
 clear h hL hr hf hin hfr hC hP hu2 hu3 h2 h3 hc1 hnb hnf
 go_enter Tryz.func89, Tryz.ntmps89
 go_wp2_with fail
 refine HC.out.mono ?_
 rintro e w1 ⟨v5, rfl, hr5, hb⟩
 clear HC
 obtain ⟨A5, c5, rfl⟩ := hr5.val
 rw [hrl] at hr5 ⊢
 have HR := aH (show RRow w1 w.heap.size (.slice A5 nb c5) (shK (is 2) (is 3) (ts 1) r 0) from hr5)
 have HB := aH hb
 clear hr5
 obtain ⟨Aq, cq, eq1⟩ := HS.out.qval (j := 1) (by decide)
 rw [N1.out] at eq1
 have HEQ := aH eq1
 have cc : w1.cell? ⟨g, 5, none⟩ = some (.slice Aq ne cq) := by rw [← eq1]; exact (HS.out.call hb).cellQ (j := 1) (by decide)
 clear eq1 hb
 go_wp2
 clear cc
 go_loopg [15] (ne - 0) (fun q v wr => ∃ k : Nat, q = ne - k ∧ v = I k ∧ k ≤ ne ∧ Hid (RRow wr w.heap.size (.slice A5 nb c5) (shK (is 2) (is 3) (ts 1) r k)) ∧ Hid (Below w.heap.size w wr))
 case atStart => exact ⟨0, rfl, rfl, by omega, HR, HB⟩
 case round =>
  clear HR HB
  obtain ⟨k, rfl, rfl, hk, HR, HB⟩ := hrel
  obtain ⟨wa, rfl⟩ := wE wr
  by_cases hlt : k < ne
  ·have hS := HS.out.call HB.out
   obtain ⟨q, hq⟩ : ∃ q, (ts 1)[k]? = some q := ⟨_, gE (by rw [N1.out]; exact hlt)⟩
   have hqg : (ts 1).getD k 0 = q := by rw [gD, hq]; rfl
   have HQF := aH (show FitR 2 q from hqg ▸ HFC.out k)
   obtain ⟨bq, oq, kq, n0, Q1, l1, j1, Q2, l2, j2, eq0, _, hCq, hrtq⟩ := hS.ratAt (j := 1) (by decide) hq
   have eq9 := HEQ.out.symm.trans eq0
   replace eq9 := slI eq9
   obtain ⟨eq9, eq8⟩ := eq9
   subst eq9
   clear eq0 eq8
   have HX := aH (show shK (is 2) (is 3) (ts 1) r (k + 1) = shQ ((is 2).getD k 0).toNat ((is 3).getD k 0).toNat q (shK (is 2) (is 3) (ts 1) r k) by rw [shK, hqg])
   have HFK := aH ((shK_fit (frm := is 2) (tu := is 3) HFC.out HFP.out k).mono (show 1000 + 6 * k ≤ 10000 by omega))
   have HLN := aH ((shK_len (is 2) (is 3) (ts 1) r k).trans hrl)
   obtain ⟨u0, u1⟩ := HU2.out _ (getD_mem (l := is 2) (k := k) (by rw [N2.out]; exact hlt))
   obtain ⟨v0, v1⟩ := HU3.out _ (getD_mem (l := is 3) (k := k) (by rw [N3.out]; exact hlt))
   obtain ⟨u, hu⟩ : ∃ u : Nat, (is 2).getD k 0 = u := Int.eq_ofNat_of_zero_le u0
   obtain ⟨v, hv⟩ : ∃ v : Nat, (is 3).getD k 0 = v := Int.eq_ofNat_of_zero_le v0
   rw [hu, hv, Int.toNat_natCast, Int.toNat_natCast] at HX
   rw [hu] at u0 u1
   rw [hv] at v0 v1
   have hun : u < nb := by omega
   have hvn : v < nb := by omega
   obtain ⟨b2, o2, k2, e2, _, h2c⟩ := hS.intAt (j := 2) (by decide) (k := k) (by rw [N2.out]; exact hlt)
   obtain ⟨b3, o3, k3, e3, _, h3c⟩ := hS.intAt (j := 3) (by decide) (k := k) (by rw [N3.out]; exact hlt)
   rw [N2.out] at e2
   rw [N3.out] at e3
   rw [hu] at h2c
   rw [hv] at h3c
   have HV3 := aH hv
   have HE2 := aH e2
   have HE3 := aH e3
   have HC2 := aH h2c
   have HC3 := aH h3c
   generalize shK (is 2) (is 3) (ts 1) r k = M at *
   obtain ⟨b5, o5, c6, _, _, _, _, _, _, _, e5, _, hb5, _⟩ := HR.out.el HLN.out hun
   replace e5 := slI e5
   obtain ⟨e5, e6⟩ := e5
   subst e5 e6
   have HB5 := aH hb5
   clear hb5
   have x0 := hCq.c0
   have x1 := hCq.c1
   have x2 := hCq.c2
   have x3 := hCq.c3
   have HRB := aH hrtq
   clear hq hqg hCq hrtq e2 e3 h2c h3c hS u0 u1 v0 v1 hu hv
   go_upto_region 5 with (fail)
   clear x0 x1 x2 x3
   have hb := below_new wa (Obj.cells #[.bool n0, .slice Q1 l1 j1, .bool false, .slice Q2 l2 j2] 122)
   have HBX := aH (Blk.new wa 122 #[.bool n0, .slice Q1 l1 j1, .bool false, .slice Q2 l2 j2])
   have HNX := aH (show b5 < wa.heap.size from (HR.out.lt (g := b5) rfl).2)
   replace HR := aH (HR.out.call hb)
   replace HB := bT HB hb
   replace HRB := aH (HRB.out.ext hb)
   replace HC2 := aH (cell_below HC2.out hb)
   replace HC3 := aH (cell_below HC3.out hb)
   clear hb
   generalize wa.alloc (Obj.cells #[.bool n0, .slice Q1 l1 j1, .bool false, .slice Q2 l2 j2] 122) = W1 at *
   generalize wa.heap.size = gx at *
   skip
   have hb := below_draw W1
   replace HBX := bL HBX hb
   replace HR := aH (HR.out.call hb)
   replace HB := bT HB hb
   replace HRB := aH (HRB.out.ext hb)
   replace HC2 := aH (cell_below HC2.out hb)
   replace HC3 := aH (cell_below HC3.out hb)
   clear hb
   have CM := aH (show W1.drew.cell? ⟨g, 2, none⟩ = some (.slice (some ⟨b2, o2, none⟩) ne k2) by rw [← HE2.out]; exact (HS.out.call HB.out).cellI (j := 2) (by decide))
   obtain ⟨b6, o6, n5, F1, f1, g1, F2, f2, g2, e7, _, hC6, hrt⟩ := HR.out.rv.form hun (M.getD u 0) (by rw [gD, gE (by rw [HLN.out]; exact hun)]; rfl)
   replace e7 := adI e7
   obtain ⟨e7, e8⟩ := e7
   subst e7 e8
   obtain ⟨_, hfb⟩ := HR.out.blk (g := b5) rfl
   have HEL := aH (show El W1.drew b5 (o5 + u * 4) (.bool n5) (.slice F1 f1 g1) (.bool false) (.slice F2 f2 g2) from ⟨hC6.c0, hC6.c1, hC6.c2, hC6.c3, hfb.frozen _, hfb.frozen _, hfb.frozen _, hfb.frozen _⟩)
   have HRE := aH (show Rt W1.drew _ _ from hrt)
   clear hC6 hrt hfb
   refine wp_region_c (fun w' => w'.cell? ⟨g, 2, none⟩ = some (.slice (some ⟨b2, o2, none⟩) ne k2) ∧ w'.cell? ⟨b2, o2 + k, none⟩ = some (I u) ∧ w'.cell? ⟨b5, o5 + u * 4, none⟩ = some (.bool n5) ∧ w'.cell? ⟨b5, o5 + u * 4 + 1, none⟩ = some (.slice F1 f1 g1) ∧ w'.cell? ⟨b5, o5 + u * 4 + 2, none⟩ = some (.bool false) ∧ w'.cell? ⟨b5, o5 + u * 4 + 3, none⟩ = some (.slice F2 f2 g2) ∧ w'.cell? ⟨gx, 0, none⟩ = some (.bool n0) ∧ w'.cell? ⟨gx, 1, none⟩ = some (.slice Q1 l1 j1) ∧ w'.cell? ⟨gx, 2, none⟩ = some (.bool false) ∧ w'.cell? ⟨gx, 3, none⟩ = some (.slice Q2 l2 j2)) 21 (by kernel_rfl) ?_
   generalize W1.drew = X1 at *
   skip
   refine tkS ⟨CM.out, HC2.out, HEL.out.c0, HEL.out.c1, HEL.out.c2, HEL.out.c3, HBX.out.cell 0, HBX.out.cell 1, HBX.out.cell 2, HBX.out.cell 3⟩ fun hSS => ?_
   refine aZ 0 (.slice (some ⟨b5, o5, none⟩) nb c5) rfl hSS ?_
   refine aZ 1 (.pointer (some ⟨g, 0, none⟩)) rfl hSS ?_
   refine aZ 2 (.pointer (some ⟨g, 0, none⟩)) rfl hSS ?_
   refine aZ 3 (.pointer (some ⟨g, 2, none⟩)) rfl hSS ?_
   refine aZ 4 (.slice (some ⟨b2, o2, none⟩) ne k2) rfl hSS ?_
   refine aZ 5 (I k) rfl hSS ?_
   refine aZ 6 (.pointer (some ⟨b2, o2 + k, none⟩)) rfl hSS ?_
   refine aZ 7 (I u) rfl hSS ?_
   refine aZ 8 (.slice (some ⟨b5, o5, none⟩) nb c5) rfl hSS ?_
   refine aZ 9 (.pointer (some ⟨g, 0, none⟩)) rfl hSS ?_
   refine aZ 10 (.pointer (some ⟨g, 0, none⟩)) rfl hSS ?_
   refine aZ 11 (.pointer (some ⟨g, 2, none⟩)) rfl hSS ?_
   refine aZ 12 (.slice (some ⟨b2, o2, none⟩) ne k2) rfl hSS ?_
   refine aZ 13 (I k) rfl hSS ?_
   refine aZ 14 (.pointer (some ⟨b2, o2 + k, none⟩)) rfl hSS ?_
   refine aZ 15 (I u) rfl hSS ?_
   refine aZ 16 (.pointer (some ⟨b5, o5 + u * 4, none⟩)) rfl hSS ?_
   refine aZ 17 (.agg #[.bool n5, .slice F1 f1 g1, .bool false, .slice F2 f2 g2]) rfl hSS ?_
   refine aZ 18 (.agg #[.bool n0, .slice Q1 l1 j1, .bool false, .slice Q2 l2 j2]) rfl hSS ?_
   refine on1 19 fun K hK => ?_
   go_simp
   go_at_call 111
   refine (rsub_any _ _ _ _ X1 HRE.out HRB.out (N := 20000) (by decide) ((HFK.out u).mono (by decide)) (HQF.out.mono (by decide))).mono ?_
   rintro e Y1 ⟨vv, rfl, hvv, hb⟩
   replace HBX := bL HBX hb
   replace CM := aH (cell_below CM.out hb)
   replace HEL := aH (HEL.out.below hb)
   replace HR := aH (HR.out.call hb)
   replace HB := bT HB hb
   replace HRB := aH (HRB.out.ext hb)
   replace HC2 := aH (cell_below HC2.out hb)
   replace HC3 := aH (cell_below HC3.out hb)
   clear HRE hb
   refine hK.out _ _ (fun _ => ⟨CM.out, HC2.out, HEL.out.c0, HEL.out.c1, HEL.out.c2, HEL.out.c3, HBX.out.cell 0, HBX.out.cell 1, HBX.out.cell 2, HBX.out.cell 3⟩) ?_
   clear hK K
   refine aZ 20 (.pointer (some ⟨b5, o5 + u * 4, none⟩)) rfl ⟨CM.out, HC2.out, HEL.out.c0, HEL.out.c1, HEL.out.c2, HEL.out.c3, HBX.out.cell 0, HBX.out.cell 1, HBX.out.cell 2, HBX.out.cell 3⟩ ?_
   obtain ⟨tb, T1, t1, w1, T2, t2, w2, rfl⟩ := hvv.bools
   have hr9 := HR.out
   obtain ⟨hput, hkw, _⟩ := hr9.putEl (k := u) hun hvv
   have HR2 := aH (show RRow (put4 Y1 b5 (o5 + u * 4) (.bool tb) (.slice T1 t1 w1) (.bool false) (.slice T2 t2 w2)) w.heap.size (.slice (some ⟨b5, o5, none⟩) nb c5) (M.set u (M.getD u 0 - q)) from hput)
   have HB2 := aH (put4_below (o := o5 + u * 4) HB.out HB5.out (.bool tb) (.slice T1 t1 w1) (.bool false) (.slice T2 t2 w2))
   have hnq : gx ≠ b5 := fun e => Nat.lt_irrefl _ (e ▸ HNX.out)
   have HBX2 := aH (show Blk (put4 Y1 b5 (o5 + u * 4) (.bool tb) (.slice T1 t1 w1) (.bool false) (.slice T2 t2 w2)) gx 122 #[.bool n0, .slice Q1 l1 j1, .bool false, .slice Q2 l2 j2] from (put4_other Y1 _ _ _ _ _ hnq).trans HBX.out)
   have HRB2 := aH (HRB.out.kw hkw)
   have HFK2 := aH (show FitL 10003 (M.set u (M.getD u 0 - q)) from (HFK.out.mono (by omega)).set u ((fitR_sbI (HFK.out u) HQF.out).mono (by omega)))
   have HLN2 := aH (show (M.set u (M.getD u 0 - q)).length = nb by rw [List.length_set]; exact HLN.out)
   have z0 := HEL.out.c0
   have y0 := HEL.out.f0
   have z1 := HEL.out.c1
   have y1 := HEL.out.f1
   have z2 := HEL.out.c2
   have y2 := HEL.out.f2
   have z3 := HEL.out.c3
   have y3 := HEL.out.f3
   skip
   clear HR HB HBX HRB HFK HLN hput hkw hvv hnq HEL hr9 CM
   refine on1 21 fun K hK => ?_
   go_simp
   clear z0 z1 z2 z3 y0 y1 y2 y3
   rw [put4_eq]
   have hC3 : (put4 Y1 b5 (o5 + u * 4) (.bool tb) (.slice T1 t1 w1) (.bool false) (.slice T2 t2 w2)).cell? ⟨b3, o3 + k, none⟩ = some (I v) := by
    obtain ⟨b9, o9, k9, e9, _, h9⟩ := (HS.out.call HB2.out).intAt (j := 3) (by decide) (k := k) (by rw [N3.out]; exact hlt)
    have e8 := HE3.out.symm.trans e9
    obtain ⟨e8, e7⟩ := adI (slI e8).1
    subst e8 e7
    rw [HV3.out] at h9
    exact h9
   replace HC3 := aH hC3
   clear hC3
   clear HC2
   generalize (put4 Y1 b5 (o5 + u * 4) (.bool tb) (.slice T1 t1 w1) (.bool false) (.slice T2 t2 w2)) = Z1 at *
   generalize hM : (M.set u (M.getD u 0 - q)) = M2 at *
   have HM1 := aH hM
   clear hM
   refine hK.out _ _ (fun h => absurd h (by decide)) ?_
   clear hK K
   refine wpAnyC_done (by kernel_rfl) ?_ _
   have HR := HR2
   have HB := HB2
   have HBX := HBX2
   have HRB := HRB2
   have HFK := HFK2
   have HLN := HLN2
   clear HR2 HB2 HBX2 HRB2 HFK2 HLN2
   go_upto_region 6 with (fail)
   have hb := below_draw Z1
   replace HBX := bL HBX hb
   replace HR := aH (HR.out.call hb)
   replace HB := bT HB hb
   replace HRB := aH (HRB.out.ext hb)
   skip
   replace HC3 := aH (cell_below HC3.out hb)
   clear hb
   have CM := aH (show Z1.drew.cell? ⟨g, 3, none⟩ = some (.slice (some ⟨b3, o3, none⟩) ne k3) by rw [← HE3.out]; exact (HS.out.call HB.out).cellI (j := 3) (by decide))
   obtain ⟨b6, o6, n5, F1, f1, g1, F2, f2, g2, e7, _, hC6, hrt⟩ := HR.out.rv.form hvn (M2.getD v 0) (by rw [gD, gE (by rw [HLN.out]; exact hvn)]; rfl)
   replace e7 := adI e7
   obtain ⟨e7, e8⟩ := e7
   subst e7 e8
   obtain ⟨_, hfb⟩ := HR.out.blk (g := b5) rfl
   have HEL := aH (show El Z1.drew b5 (o5 + v * 4) (.bool n5) (.slice F1 f1 g1) (.bool false) (.slice F2 f2 g2) from ⟨hC6.c0, hC6.c1, hC6.c2, hC6.c3, hfb.frozen _, hfb.frozen _, hfb.frozen _, hfb.frozen _⟩)
   have HRE := aH (show Rt Z1.drew _ _ from hrt)
   clear hC6 hrt hfb
   refine wp_region_c (fun w' => w'.cell? ⟨g, 3, none⟩ = some (.slice (some ⟨b3, o3, none⟩) ne k3) ∧ w'.cell? ⟨b3, o3 + k, none⟩ = some (I v) ∧ w'.cell? ⟨b5, o5 + v * 4, none⟩ = some (.bool n5) ∧ w'.cell? ⟨b5, o5 + v * 4 + 1, none⟩ = some (.slice F1 f1 g1) ∧ w'.cell? ⟨b5, o5 + v * 4 + 2, none⟩ = some (.bool false) ∧ w'.cell? ⟨b5, o5 + v * 4 + 3, none⟩ = some (.slice F2 f2 g2) ∧ w'.cell? ⟨gx, 0, none⟩ = some (.bool n0) ∧ w'.cell? ⟨gx, 1, none⟩ = some (.slice Q1 l1 j1) ∧ w'.cell? ⟨gx, 2, none⟩ = some (.bool false) ∧ w'.cell? ⟨gx, 3, none⟩ = some (.slice Q2 l2 j2)) 21 (by kernel_rfl) ?_
   generalize Z1.drew = X2 at *
   skip
   refine tkS ⟨CM.out, HC3.out, HEL.out.c0, HEL.out.c1, HEL.out.c2, HEL.out.c3, HBX.out.cell 0, HBX.out.cell 1, HBX.out.cell 2, HBX.out.cell 3⟩ fun hSS => ?_
   refine aZ 0 (.slice (some ⟨b5, o5, none⟩) nb c5) rfl hSS ?_
   refine aZ 1 (.pointer (some ⟨g, 0, none⟩)) rfl hSS ?_
   refine aZ 2 (.pointer (some ⟨g, 0, none⟩)) rfl hSS ?_
   refine aZ 3 (.pointer (some ⟨g, 3, none⟩)) rfl hSS ?_
   refine aZ 4 (.slice (some ⟨b3, o3, none⟩) ne k3) rfl hSS ?_
   refine aZ 5 (I k) rfl hSS ?_
   refine aZ 6 (.pointer (some ⟨b3, o3 + k, none⟩)) rfl hSS ?_
   refine aZ 7 (I v) rfl hSS ?_
   refine aZ 8 (.slice (some ⟨b5, o5, none⟩) nb c5) rfl hSS ?_
   refine aZ 9 (.pointer (some ⟨g, 0, none⟩)) rfl hSS ?_
   refine aZ 10 (.pointer (some ⟨g, 0, none⟩)) rfl hSS ?_
   refine aZ 11 (.pointer (some ⟨g, 3, none⟩)) rfl hSS ?_
   refine aZ 12 (.slice (some ⟨b3, o3, none⟩) ne k3) rfl hSS ?_
   refine aZ 13 (I k) rfl hSS ?_
   refine aZ 14 (.pointer (some ⟨b3, o3 + k, none⟩)) rfl hSS ?_
   refine aZ 15 (I v) rfl hSS ?_
   refine aZ 16 (.pointer (some ⟨b5, o5 + v * 4, none⟩)) rfl hSS ?_
   refine aZ 17 (.agg #[.bool n5, .slice F1 f1 g1, .bool false, .slice F2 f2 g2]) rfl hSS ?_
   refine aZ 18 (.agg #[.bool n0, .slice Q1 l1 j1, .bool false, .slice Q2 l2 j2]) rfl hSS ?_
   refine on1 19 fun K hK => ?_
   go_simp
   go_at_call 99
   refine (radd_any _ _ _ _ X2 HRE.out HRB.out (N := 20000) (by decide) ((HFK.out v).mono (by decide)) (HQF.out.mono (by decide))).mono ?_
   rintro e Y2 ⟨vv, rfl, hvv, hb⟩
   replace HBX := bL HBX hb
   replace CM := aH (cell_below CM.out hb)
   replace HEL := aH (HEL.out.below hb)
   replace HR := aH (HR.out.call hb)
   replace HB := bT HB hb
   replace HRB := aH (HRB.out.ext hb)
   skip
   replace HC3 := aH (cell_below HC3.out hb)
   clear HRE hb
   refine hK.out _ _ (fun _ => ⟨CM.out, HC3.out, HEL.out.c0, HEL.out.c1, HEL.out.c2, HEL.out.c3, HBX.out.cell 0, HBX.out.cell 1, HBX.out.cell 2, HBX.out.cell 3⟩) ?_
   clear hK K
   refine aZ 20 (.pointer (some ⟨b5, o5 + v * 4, none⟩)) rfl ⟨CM.out, HC3.out, HEL.out.c0, HEL.out.c1, HEL.out.c2, HEL.out.c3, HBX.out.cell 0, HBX.out.cell 1, HBX.out.cell 2, HBX.out.cell 3⟩ ?_
   obtain ⟨tb, T1, t1, w1, T2, t2, w2, rfl⟩ := hvv.bools
   have hr9 := HR.out
   obtain ⟨hput, hkw, _⟩ := hr9.putEl (k := v) hvn hvv
   have HR2 := aH (show RRow (put4 Y2 b5 (o5 + v * 4) (.bool tb) (.slice T1 t1 w1) (.bool false) (.slice T2 t2 w2)) w.heap.size (.slice (some ⟨b5, o5, none⟩) nb c5) (M2.set v (M2.getD v 0 + q)) from hput)
   have HB2 := aH (put4_below (o := o5 + v * 4) HB.out HB5.out (.bool tb) (.slice T1 t1 w1) (.bool false) (.slice T2 t2 w2))
   have hnq : gx ≠ b5 := fun e => Nat.lt_irrefl _ (e ▸ HNX.out)
   have HBX2 := aH (show Blk (put4 Y2 b5 (o5 + v * 4) (.bool tb) (.slice T1 t1 w1) (.bool false) (.slice T2 t2 w2)) gx 122 #[.bool n0, .slice Q1 l1 j1, .bool false, .slice Q2 l2 j2] from (put4_other Y2 _ _ _ _ _ hnq).trans HBX.out)
   have HRB2 := aH (HRB.out.kw hkw)
   have HFK2 := aH (show FitL 10006 (M2.set v (M2.getD v 0 + q)) from (HFK.out.mono (by omega)).set v ((fitR_add (HFK.out v) HQF.out).mono (by omega)))
   have HLN2 := aH (show (M2.set v (M2.getD v 0 + q)).length = nb by rw [List.length_set]; exact HLN.out)
   have z0 := HEL.out.c0
   have y0 := HEL.out.f0
   have z1 := HEL.out.c1
   have y1 := HEL.out.f1
   have z2 := HEL.out.c2
   have y2 := HEL.out.f2
   have z3 := HEL.out.c3
   have y3 := HEL.out.f3
   skip
   clear HR HB HBX HRB HFK HLN hput hkw hvv hnq HEL hr9 CM
   refine on1 21 fun K hK => ?_
   go_simp
   clear z0 z1 z2 z3 y0 y1 y2 y3
   rw [put4_eq]
   clear HC3
   generalize (put4 Y2 b5 (o5 + v * 4) (.bool tb) (.slice T1 t1 w1) (.bool false) (.slice T2 t2 w2)) = Z2 at *
   generalize hM : (M2.set v (M2.getD v 0 + q)) = M3 at *
   have HM2 := aH hM
   clear hM
   refine hK.out _ _ (fun h => absurd h (by decide)) ?_
   clear hK K
   refine wpAnyC_done (by kernel_rfl) ?_ _
   have HR := HR2
   have HB := HB2
   have HBX := HBX2
   have HRB := HRB2
   have HFK := HFK2
   have HLN := HLN2
   clear HR2 HB2 HBX2 HRB2 HFK2 HLN2
   have HRN := aH (show RRow Z2 w.heap.size (.slice (some ⟨b5, o5, none⟩) nb c5) (shK (is 2) (is 3) (ts 1) r (k + 1)) by
    rw [HX.out, shQ, HM1.out, HM2.out]
    exact HR.out)
   clear HR HBX HRB HFK HLN HX HM1 HM2 HNX HB5 HQF HE2 HE3 HV3
   go_wp2
   go_roundg (ne - (k + 1))
   case measure => omega
   case rel => exact ⟨k + 1, rfl, by go_num, by omega, HRN, HB⟩
  ·have hkn : k = ne := by omega
   subst hkn
   have HC := aH (ang_any base g rs is qs ts iv inv vs (shK (is 2) (is 3) (ts 1) r k) A5 c5 nb nf wa (HS.out.call HB.out) (HL.out.call HB.out) HR.out.rv NB.out hb NF.out hf4 HIN.out HFR.out hN HF.out)
   clear HR
   go_wp2_with fail
   refine HC.out.mono ?_
   rintro e W9 ⟨v9, rfl, hr9, hb9⟩
   clear HC
   have HEND := aH (show RetV w (thQ nb (is 4) inv (shK (is 2) (is 3) (ts 1) r k)) (.returned v9) W9 from ⟨_, rfl, hr9.less HB.out.size, HB.out.trans (hb9.mono HB.out.size)⟩)
   obtain ⟨A9, l9, c9, rfl⟩ := len_slice hr9.val
   clear hr9 hb9 HB
   go_wp2
   go_ret
   exact HEND.out
end Go.Proofs.YtenbglfkdldheaaGreatDoor
