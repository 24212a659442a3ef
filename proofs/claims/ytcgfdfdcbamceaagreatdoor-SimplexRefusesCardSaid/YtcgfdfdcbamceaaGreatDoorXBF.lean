/- (*simplex.table).rows0, (*simplex.table).aim. -/
import Derived.Test.YtcgfdfdcbamceaaGreatDoorXBC
import Derived.Test.YtcgfdfdcbamceaaGreatDoorXBE
import Derived.Test.YtcgfdfdcbamceaaGreatDoorXAV
namespace Go.Proofs.YtcgfdfdcbamceaaGreatDoor
open Go.RowKit
def negK (c : List Rat) (n k : Nat) : List Rat := (List.range n).map fun j => if j < k then - c.getD j 0 else 0
theorem negK_len (c : List Rat) (n k : Nat) : (negK c n k).length = n := by rw [negK, List.length_map, List.length_range]
theorem negK_at (c : List Rat) {n j : Nat} (k : Nat) (hj : j < n) : (negK c n k).getD j 0 = if j < k then - c.getD j 0 else 0 := by
 rw [negK, List.getD_eq_getElem?_getD, List.getElem?_map, List.getElem?_range hj]
 rfl
theorem negK_zero (c : List Rat) (n : Nat) : negK c n 0 = List.replicate n 0 := by
 refine list_ext_getD (by rw [negK_len, List.length_replicate]) fun j => ?_
 rw [getD_rep]
 by_cases hj : j < n
 ·rw [negK_at c 0 hj, if_neg (by omega)]
 ·exact getD_ge _ _ _ (by rw [negK_len]; omega)
theorem negK_step (c : List Rat) {n k : Nat} (_hk : k < n) : (negK c n k).set k (- c.getD k 0) = negK c n (k + 1) := by
 refine list_ext_getD (by rw [List.length_set, negK_len, negK_len]) fun j => ?_
 by_cases hj : j < n
 ·rw [getD_set, negK_at c _ hj, negK_at c _ hj, negK_len]
  by_cases e : k = j
  ·subst e
   rw [if_pos ⟨rfl, hj⟩, if_pos (by omega)]
  ·rw [if_neg (fun h => e h.1)]
   by_cases h : j < k
   ·rw [if_pos h, if_pos (by omega)]
   ·rw [if_neg h, if_neg (by omega)]
 ·rw [getD_ge _ _ _ (by rw [List.length_set, negK_len]; omega), getD_ge _ _ _ (by rw [negK_len]; omega)]
theorem negK_all (c : List Rat) {n k : Nat} (hk : c.length ≤ k) : negK c n k = negPad c n := by
 refine list_ext_getD (by rw [negK_len, negPad_len]) fun j => ?_
 by_cases hj : j < n
 ·rw [negK_at c _ hj, negPad_at c hj]
  by_cases h : j < k
  ·rw [if_pos h]
  ·rw [if_neg h, getD_ge _ _ _ (by omega)]
   decide
 ·rw [getD_ge _ _ _ (by rw [negK_len]; omega), getD_ge _ _ _ (by rw [negPad_len]; omega)]
theorem fitR_ngZ {N : Nat} {x : Rat} (h : FitR N x) : FitR N (-x) := ⟨by have := h.1; unfold Fits at *; rw [Rat.neg_num, Int.natAbs_neg]; exact this, by have := h.2; unfold Fits at *; rw [Rat.neg_den]; exact this⟩
set_option maxRecDepth 100000 in
set_option maxHeartbeats 16000000 in
theorem rows0_any (base g cv cb m V W : Nat) (A Ab : Option Addr) (vs : List Value) (tv : Value) (t : TabQ) (Ac : Option Addr) (nc kc : Nat) (w : World) (h : TB0 w base g A cv vs tv Ab cb m V W t) (h0 : m = 0 → V = t.cols + 1) (hm : m ≤ 900) (hV : V ≤ 901) :
  Calls Tryz.prog 87 #[.pointer (some ⟨g, 0, none⟩), .slice Ac nc kc] w fun e w' => (∃ B k, e = .returned (.slice B V k)) ∧ Below w.heap.size w w' := by
 have HB0 := Lib.hid (Below.refl w.heap.size w)
 have q0 := h.blk.cell 0
 have q3 := h.blk.cell 3
 change _ = some (Value.slice A m cv) at q0
 change _ = some (I t.cols) at q3
 by_cases hm0 : m = 0
 ·have hvc := h0 hm0
  subst hm0
  have hc1 : t.cols + 1 ≤ 901 := by omega
  generalize hk : t.cols = kc0 at *
  have hk9 : kc0 ≤ 900 := by omega
  have HC := Lib.hid (zeros_any (kc0 + 1) w (by omega))
  have HVC := Lib.hid hvc
  clear hvc h h0
  go_enter Tryz.func87, Tryz.ntmps87
  go_wp2_with fail
  refine HC.out.mono ?_
  rintro e w5 ⟨v, rfl, hr, hb⟩
  obtain ⟨B, k, rfl⟩ := hr.val
  rw [List.length_replicate, ← HVC.out]
  have HBB := Lib.hid hb
  clear HC hr hb q0 q3
  go_wp2
  go_ret
  exact ⟨⟨_, _, rfl⟩, HBB.out⟩
 ·have hlen := h.len
  obtain ⟨gv, ov, cap, B, c, e, hb, hlt, hu, hcl, hf, hr⟩ := h.lm.at_ (i := 0) (by omega)
  have hrl : (t.rows.getD 0 []).length = V := by rw [List.getD_eq_getElem?_getD, List.getElem?_eq_getElem (by omega), h.hv]; exact h.row _ (List.getElem_mem _)
  rw [hrl] at hcl
  obtain rfl := sl_addr e
  clear e hlen
  rw [Nat.add_zero] at hcl
  have hmp : 0 < m := by omega
  have tm1 : decide (0 < m) = true := decide_eq_true hmp
  have tm2 : decide (m > 0) = true := decide_eq_true hmp
  clear h h0 hu hr hf hrl
  go_enter Tryz.func87, Tryz.ntmps87
  go_wp2
  go_ret
  exact ⟨⟨_, _, rfl⟩, HB0.out⟩
set_option maxRecDepth 100000 in
set_option maxHeartbeats 40000000 in
theorem aim_any (base g cv cb m V W : Nat) (A Ab : Option Addr) (vs : List Value) (tv : Value) (t : TabQ) (c : List Rat) (Ac : Option Addr) (nc kc : Nat) (w : World) (h : TB0 w base g A cv vs tv Ab cb m V W t) (h0 : m = 0 → V = t.cols + 1) (hm : m ≤ 900) (hV : V ≤ 901) (hc : RRow w base (.slice Ac nc kc) c) (hnc : nc ≤ V) (htv : noWord tv)
  (hbs : ∀ i, i < m → basF t i < V) (f1 : ∀ k, FitR 700000 (c.getD k 0)) (f2 : ∀ i k, i < m → FitR 700000 (ent t.rows i k)) (f3 : ∀ i k, i ≤ m → FitR 700000 ((aimN t (negPad c V) i).getD k 0)) (hbase : base ≤ w.heap.size) (hg : base ≤ g) :
  Calls Tryz.prog 63 #[.pointer (some ⟨g, 0, none⟩), .slice Ac nc kc] w fun e w' => e = .returned (.tuple #[]) ∧ (∃ bt ot ct, TBx w' base g A cv vs bt ot ct Ab cb m V W (aimQ t c)) ∧ Below base w w' := by
 have hcl : c.length = nc := hc.rv.len
 have hr0 : row0L t = V := by
  rw [row0L]
  split
  ·rename_i e
   rw [h0 (by rw [← h.len]; exact e)]
  ·rename_i e
   rw [List.getD_eq_getElem?_getD, List.getElem?_eq_getElem (by omega), h.hv]
   exact h.row _ (List.getElem_mem _)
 have HAQ := Lib.hid (show aimQ t c = { t with tgt := aimN t (negPad c V) m } by rw [aimQ, hr0, h.len])
 have HBS := Lib.hid hbs
 have HF1 := Lib.hid f1
 have HF2 := Lib.hid f2
 have HF3 := Lib.hid f3
 have HBA := Lib.hid hbase
 have HGB := Lib.hid hg
 have HTV := Lib.hid htv
 have HCL := Lib.hid hcl
 have HVV := Lib.hid h.hv
 have HLEN := Lib.hid h.len
 have HRW := Lib.hid h.row
 clear hr0 hbs f1 f2 f3 htv hcl
 have HB := Lib.hid (Below.refl base w)
 have HT := Lib.hid h
 have HCR := Lib.hid hc
 have hgl := h.blk.lt
 have HC := Lib.hid (rows0_any base g cv cb m V W A Ab vs tv t Ac nc kc w h h0 hm hV)
 clear h h0 hc
 go_enter Tryz.func63, Tryz.ntmps63
 go_wp2_with fail
 refine HC.out.mono ?_
 rintro e w1 ⟨⟨B0, k0, rfl⟩, hb⟩
 clear HC
 have HW1 := Lib.hid hb.size
 replace HB := Lib.hid (HB.out.trans (hb.mono (Nat.le_trans HBA.out HB.out.size)))
 replace HT := Lib.hid (HT.out.call hb)
 replace HCR := Lib.hid (HCR.out.call hb)
 clear hb
 have HC := Lib.hid (zeros_any V w1 (by omega))
 go_wp2_with fail
 refine HC.out.mono ?_
 rintro e w2 ⟨v, rfl, hr, hb⟩
 clear HC
 replace HB := Lib.hid (HB.out.trans (hb.mono (Nat.le_trans HBA.out HB.out.size)))
 have HC1 := HCR
 have hnew := HT.out.lm.newer (u := v) (fun g hg => (hr.lt hg).1)
 replace HT := Lib.hid (HT.out.call hb)
 replace HCR := Lib.hid (HCR.out.call hb)
 have hvp : 0 < V := by have := HVV.out; omega
 obtain ⟨b9, o9, k9, _, _, _, _, _, _, _, rfl, _⟩ := hr.el (n := V) (k := 0) (by rw [List.length_replicate]) hvp
 have hrb : w1.heap.size ≤ b9 := (hr.lt (g := b9) rfl).1
 have hrr := hr.less (base' := base) (Nat.le_trans HBA.out HW1.out)
 have hn : ∀ (i : Nat) (u : Value), vs[i]? = some u → u.ownBlock ≠ some b9 := fun i u hu => hnew i u b9 hu rfl
 have HNE := Lib.hid (show ∀ x, (Value.slice Ac nc kc).ownBlock = some x → x ≠ b9 from fun x hx => by have := (HC1.out.lt hx).2; omega)
 have q1 := HT.out.blk.cell 1
 change _ = some tv at q1
 have y1 := HT.out.blk.frozen 1
 obtain ⟨hT, hk1, hb1⟩ := HT.out.tgtSet hrr hn HTV.out HGB.out
 have hCR := HCR.out.far1 (i := 1) (u := .slice (some ⟨b9, o9, none⟩) V k9) HT.out.blk hk1 (by decide)
 have HTN := Lib.hid hT
 have HCN := Lib.hid hCR
 have HBN := Lib.hid (HB.out.trans hb1)
 clear hr hb hnew hrr hn hT hk1 hb1 hCR HT HCR HB HC1
 go_upto_region 1 with (fail)
 clear q1 y1
 generalize w2.setCell ⟨g, 1, none⟩ (.slice (some ⟨b9, o9, none⟩) V k9) = w3 at *
 have HT := Lib.hid (show TBx w3 base g A cv vs b9 o9 k9 Ab cb m V W { t with tgt := negK c V 0 } by rw [negK_zero]; exact HTN.out)
 clear HTN
 go_wp2
 go_loopg [19] (nc - 0) (fun mm v wr => ∃ k : Nat, mm = nc - k ∧ v = I k ∧ k ≤ nc ∧ Hid (TBx wr base g A cv vs b9 o9 k9 Ab cb m V W { t with tgt := negK c V k }) ∧ Hid (RRow wr base (.slice Ac nc kc) c) ∧ Hid (Below base w wr))
 case atStart => exact ⟨0, rfl, rfl, by omega, HT, HCN, HBN⟩
 case round =>
  clear HT HCN HBN
  obtain ⟨k, rfl, rfl, hk, HT, HCR, HB⟩ := hrel
  obtain ⟨wa, rfl⟩ : ∃ wa : World, wa = wr := ⟨_, rfl⟩
  by_cases hkl : k < nc
  ·have hkv : k < V := by omega
   obtain ⟨bc, oc, nb, B1, l1, c1, B2, l2, c2, hAc, hbl, hC, hrt⟩ := HCR.out.rv.form hkl (c.getD k 0) (by rw [List.getD_eq_getElem?_getD, List.getElem?_eq_getElem (by rw [HCL.out]; exact hkl)]; rfl)
   subst hAc
   have CE := Lib.hid hC
   have RX := Lib.hid hrt
   obtain ⟨mb, X1, x1, y1, X2, x2, y2, hE, _⟩ := HT.out.tgtEl hkv
   have EL := Lib.hid hE
   have G1 := Lib.hid (show wa.cell? ⟨g, 1, none⟩ = some (.slice (some ⟨b9, o9, none⟩) V k9) from HT.out.blk.cell 1)
   have HXX := Lib.hid (negK_step c hkv)
   clear hC hrt hE hbl
   generalize hx : c.getD k 0 = x at *
   clear hx
   go_upto_region 4 with (fail)
   have hd := below_draw wa
   replace HB := Lib.hid (HB.out.trans (hd.mono (Nat.le_trans HBA.out HB.out.size)))
   replace HT := Lib.hid (HT.out.call hd)
   replace HCR := Lib.hid (HCR.out.call hd)
   replace CE := Lib.hid (CE.out.below hd)
   replace RX := Lib.hid (RX.out.ext hd)
   replace EL := Lib.hid (EL.out.below hd)
   replace G1 := Lib.hid (cell_below G1.out hd)
   clear hd
   refine wp_region_c (fun w' => w'.cell? ⟨g, 1, none⟩ = some (.slice (some ⟨b9, o9, none⟩) V k9) ∧ w'.cell? ⟨bc, oc + k * 4, none⟩ = some (.bool nb) ∧ w'.cell? ⟨bc, oc + k * 4 + 1, none⟩ = some (.slice B1 l1 c1) ∧ w'.cell? ⟨bc, oc + k * 4 + 2, none⟩ = some (.bool false) ∧ w'.cell? ⟨bc, oc + k * 4 + 3, none⟩ = some (.slice B2 l2 c2)) 11 (by kernel_rfl) ?_
   generalize wa.drew = wb at *
   refine tkS ⟨G1.out, CE.out.c0, CE.out.c1, CE.out.c2, CE.out.c3⟩ fun hSS => ?_
   refine tq 0 (.pointer (some ⟨g, 0, none⟩)) rfl ?_ hSS ?_
   ·rintro w ⟨s0, s1, s2, s3, s4⟩
    go_simp
   try simp only [Act.put, putA]
   refine tq 1 (.pointer (some ⟨g, 0, none⟩)) rfl ?_ hSS ?_
   ·rintro w ⟨s0, s1, s2, s3, s4⟩
    go_simp
   try simp only [Act.put]
   refine tq 2 (.pointer (some ⟨g, 1, none⟩)) rfl ?_ hSS ?_
   ·rintro w ⟨s0, s1, s2, s3, s4⟩
    go_simp
   try simp only [Act.put]
   refine tq 3 (.slice (some ⟨b9, o9, none⟩) V k9) rfl ?_ hSS ?_
   ·rintro w ⟨s0, s1, s2, s3, s4⟩
    go_simp
   try simp only [Act.put]
   refine tq 4 (I k) rfl ?_ hSS ?_
   ·rintro w ⟨s0, s1, s2, s3, s4⟩
    go_simp
   try simp only [Act.put]
   refine tq 5 (.slice (some ⟨bc, oc, none⟩) nc kc) rfl ?_ hSS ?_
   ·rintro w ⟨s0, s1, s2, s3, s4⟩
    go_simp
   try simp only [Act.put]
   refine tq 6 (I k) rfl ?_ hSS ?_
   ·rintro w ⟨s0, s1, s2, s3, s4⟩
    go_simp
   try simp only [Act.put]
   refine tq 7 (.pointer (some ⟨bc, oc + k * 4, none⟩)) rfl ?_ hSS ?_
   ·rintro w ⟨s0, s1, s2, s3, s4⟩
    go_simp
   try simp only [Act.put]
   refine tq 8 (.agg #[.bool nb, .slice B1 l1 c1, .bool false, .slice B2 l2 c2]) rfl ?_ hSS ?_
   ·rintro w ⟨s0, s1, s2, s3, s4⟩
    go_simp
   try simp only [Act.put]
   refine on1 9 fun K hK => ?_
   go_simp
   go_at_call 56
   refine (rneg_any _ x _ RX.out).mono ?_
   rintro e w6 ⟨v6, rfl, hv, hb⟩
   replace HB := Lib.hid (HB.out.trans (hb.mono (Nat.le_trans HBA.out HB.out.size)))
   replace HT := Lib.hid (HT.out.call hb)
   replace HCR := Lib.hid (HCR.out.call hb)
   replace CE := Lib.hid (CE.out.below hb)
   replace RX := Lib.hid (RX.out.ext hb)
   replace EL := Lib.hid (EL.out.below hb)
   replace G1 := Lib.hid (cell_below G1.out hb)
   clear hb
   refine hK.out _ _ (fun _ => ⟨G1.out, CE.out.c0, CE.out.c1, CE.out.c2, CE.out.c3⟩) ?_
   clear hK K
   try simp only [Act.put, putA, putZ, putC]
   refine tq 10 (.pointer (some ⟨b9, o9 + k * 4, none⟩)) rfl ?_ ⟨G1.out, CE.out.c0, CE.out.c1, CE.out.c2, CE.out.c3⟩ ?_
   ·rintro w ⟨s0, s1, s2, s3, s4⟩
    go_simp
   try simp only [Act.put, putA]
   obtain ⟨tb, T1, t1, u3, T2, t2, u4, rfl⟩ := hv.bools
   obtain ⟨hp, hkw2, hbb⟩ := HT.out.tgtPut hkv hv
   have hF := Far.put4 (cs := #[]) hbb (o9 + k * 4) hkw2
   have hp2 := hp
   have HCN := Lib.hid (hF.row HCR.out (fun e => HNE.out b9 e rfl))
   have HBN := Lib.hid (HB.out.trans hF.below)
   clear hF hkw2 hbb hv
   replace hp2 : TBx _ base g A cv vs b9 o9 k9 Ab cb m V W { t with tgt := (negK c V k).set k (-x) } := hp2
   rw [HXX.out] at hp2
   have HTN := Lib.hid hp2
   clear hp hp2
   unfold put4 at HTN HCN HBN
   have z0 := EL.out.c0
   have y0 := EL.out.f0
   have z1 := EL.out.c1
   have y1 := EL.out.f1
   have z2 := EL.out.c2
   have y2 := EL.out.f2
   have z3 := EL.out.c3
   have y3 := EL.out.f3
   clear HT HCR CE RX EL G1
   clear HXX HB
   refine on1 11 fun K hK => ?_
   go_simp
   refine hK.out _ _ (fun h => absurd h (by decide)) ?_
   clear hK K z0 z1 z2 z3 y0 y1 y2 y3
   refine wpAnyC_done (by kernel_rfl) ?_ _
   go_wp2
   go_roundg (nc - (k + 1))
   case measure => omega
   case rel => exact ⟨k + 1, rfl, by go_num, by omega, HTN, HCN, HBN⟩
  ·obtain rfl : k = nc := by omega
   have HT0 := Lib.hid (show TBx wa base g A cv vs b9 o9 k9 Ab cb m V W { t with tgt := aimN t (negPad c V) 0 } by rw [aimN, ← negK_all c (Nat.le_of_eq HCL.out)]; exact HT.out)
   clear HT HCR HNE
   have q2 : wa.cell? ⟨g, 2, none⟩ = some (.slice Ab m cb) := HT0.out.blk.cell 2
   go_wp2
   clear q2
   go_loopg [39] (m - 0) (fun mm v wr => ∃ i : Nat, mm = m - i ∧ v = I i ∧ i ≤ m ∧ Hid (TBx wr base g A cv vs b9 o9 k9 Ab cb m V W { t with tgt := aimN t (negPad c V) i }) ∧ Hid (Below base w wr))
   case atStart => exact ⟨0, rfl, rfl, by omega, HT0, HB⟩
   case round =>
    clear HT0 HB
    obtain ⟨i, rfl, rfl, hi, HT, HB⟩ := hrel
    obtain ⟨wa, rfl⟩ : ∃ wa : World, wa = wr := ⟨_, rfl⟩
    by_cases hil : i < m
    ·have hbv := HBS.out i hil
     have HTL := Lib.hid (show (aimN t (negPad c V) i).length = V from HT.out.tg.rv.len)
     have HFT := Lib.hid (HF3.out i)
     have HAN := Lib.hid (show aimN t (negPad c V) (i + 1) = clearQ (t.rows.getD i []) (basF t i) (aimN t (negPad c V) i) from rfl)
     generalize hTi : aimN t (negPad c V) i = T at *
     have HFR := Lib.hid (fun k => HF2.out i k hil)
     have hrl : (t.rows.getD i []).length = V := by rw [List.getD_eq_getElem?_getD, List.getElem?_eq_getElem (by rw [HLEN.out]; exact hil), HVV.out]; exact HRW.out _ (List.getElem_mem _)
     have hll : T.length = (t.rows.getD i []).length := by rw [hrl, HTL.out]
     have HCE := Lib.hid (clearQ_elP hll (basF t i))
     have HCZ := Lib.hid (fun h => clearQ_none (c := basF t i) hll h)
     rw [HTL.out] at HCE
     have HRL := Lib.hid hrl
     clear hll hrl
     obtain ⟨b8, o8, hAb, _, _, hc8, _⟩ := HT.out.basAt hil 0
     subst hAb
     change _ = some (I (basF t i : Nat)) at hc8
     obtain ⟨mb, X1, x1, y1, X2, x2, y2, hE, hrt⟩ := HT.out.tgtEl hbv
     change Rt wa _ (T.getD (basF t i) 0) at hrt
     have e0 := hE.c0
     have e1 := hE.c1
     have e2 := hE.c2
     have e3 := hE.c3
     have q1 : wa.cell? ⟨g, 1, none⟩ = some (.slice (some ⟨b9, o9, none⟩) V k9) := HT.out.blk.cell 1
     generalize hf : T.getD (basF t i) 0 = f at *
     have HFF := Lib.hid (show FitR 700000 f by rw [← hf]; exact HFT.out _ (by omega))
     generalize basF t i = bi at *
     obtain ⟨hvf, hb⟩ := boxes1 wa (.bool mb) (.slice X1 x1 y1) (.bool false) (.slice X2 x2 y2)
     have HVF := Lib.hid (show Vq _ wa.heap.size f from ⟨_, _, _, _, _, _, _, hvf, hrt.ext hb⟩)
     have HVX := Lib.hid hvf
     have HRX := Lib.hid (hrt.ext hb)
     have HBL := Lib.hid (show b9 < wa.heap.size from (HT.out.tg.lt (g := b9) rfl).2)
     replace HB := Lib.hid (HB.out.trans (hb.mono (Nat.le_trans HBA.out HB.out.size)))
     replace HT := Lib.hid (HT.out.call hb)
     clear hvf hrt hE hb hf
     unfold ratT at *
     go_upto_region 10 with (fail)
     clear e0 e1 e2 e3 q1 hc8
     generalize wa.alloc (.cells #[.bool mb, .slice X1 x1 y1, .bool false, .slice X2 x2 y2] 71) = wb at *
     generalize wa.heap.size = gf at *
     have p0 := HVX.out.c0
     have p1 := HVX.out.c1
     have p2 := HVX.out.c2
     have p3 := HVX.out.c3
     have HC := Lib.hid (rsign_any _ _ wb HRX.out)
     go_wp2_with fail
     refine HC.out.mono ?_
     rintro e wc ⟨rfl, hb⟩
     clear HC p0 p1 p2 p3 HRX HVX
     replace HB := Lib.hid (HB.out.trans (hb.mono (Nat.le_trans HBA.out HB.out.size)))
     replace HT := Lib.hid (HT.out.call hb)
     replace HVF := Lib.hid (HVF.out.below hb)
     clear hb
     by_cases hz : f = 0
     ·have tz : (f.num.sign == 0) = true := by rw [sign_zero.2 hz]; rfl
      have HTN := Lib.hid (show TBx wc base g A cv vs b9 o9 k9 (some ⟨b8, o8, none⟩) cb m V W { t with tgt := aimN t (negPad c V) (i + 1) } by rw [HAN.out, HCZ.out hz]; exact HT.out)
      generalize f.num.sign = sg at *
      clear hz HT
      go_wp2
      go_roundg (m - (i + 1))
      case measure => omega
      case rel => exact ⟨i + 1, rfl, by go_num, by omega, HTN, HB⟩
     ·have tz : (f.num.sign == 0) = false := beq_eq_false_iff_ne.2 fun e => hz (sign_zero.1 e)
      generalize f.num.sign = sg at *
      clear hz HCZ
      have HT0 := Lib.hid (show TBx wc base g A cv vs b9 o9 k9 (some ⟨b8, o8, none⟩) cb m V W { t with tgt := elP 0 0 f (t.rows.getD i []) T } by rw [elP_start]; exact HT.out)
      clear HT
      have q1 : wc.cell? ⟨g, 1, none⟩ = some (.slice (some ⟨b9, o9, none⟩) V k9) := HT0.out.blk.cell 1
      go_wp2
      clear q1
      generalize hro : t.rows.getD i [] = ro at *
      have HRO := Lib.hid hro
      clear hro
      go_loopg [59] (V - 0) (fun mm v wr => ∃ k : Nat, mm = V - k ∧ v = I k ∧ k ≤ V ∧ Hid (TBx wr base g A cv vs b9 o9 k9 (some ⟨b8, o8, none⟩) cb m V W { t with tgt := elP 0 k f ro T }) ∧ Hid (Vq wr gf f) ∧ Hid (Below base w wr))
      case atStart => exact ⟨0, rfl, rfl, by omega, HT0, HVF, HB⟩
      case round =>
       clear HT0 HVF HB
       obtain ⟨k, rfl, rfl, hk, HT, HVF, HB⟩ := hrel
       obtain ⟨wd, rfl⟩ : ∃ wd : World, wd = wr := ⟨_, rfl⟩
       by_cases hkv : k < V
       ·have hkw : k ≤ W := by have := HVV.out; omega
        have HXX := Lib.hid (show (elP 0 k f ro T).set k (T.getD k 0 - f * ro.getD k 0) = elP 0 (k + 1) f ro T from elP_set f ro T (Nat.zero_le _) (by rw [HTL.out]; exact hkv))
        obtain ⟨mb2, X3, x3, y3, X5, x5, y5, hE, hrt⟩ := HT.out.tgtEl hkv
        change Rt wd _ ((elP 0 k f ro T).getD k 0) at hrt
        rw [elP_at 0 k f ro T k (Nat.le_refl _)] at hrt
        obtain ⟨gv, ov, b7, o7, k7, hA, hu, hcl, _⟩ := HT.out.row hil
        subst hA
        obtain ⟨nb, B1, l1, c1, B2, l2, c2, hE2, hrt2⟩ := HT.out.el hil hkw hu
        change Rt wd _ ((t.rows.getD i []).getD k 0) at hrt2
        rw [HRO.out] at hrt2
        have EL := Lib.hid hE
        have RX := Lib.hid hrt
        have ER := Lib.hid hE2
        have RR := Lib.hid hrt2
        have CR := Lib.hid hcl
        have G1 := Lib.hid (show wd.cell? ⟨g, 1, none⟩ = some (.slice (some ⟨b9, o9, none⟩) V k9) from HT.out.blk.cell 1)
        have G0 := Lib.hid (show wd.cell? ⟨g, 0, none⟩ = some (.slice (some ⟨gv, ov, none⟩) m cv) from HT.out.blk.cell 0)
        have HX1 := Lib.hid (show FitR 700000 (T.getD k 0) from HFT.out k (by omega))
        have HX2 := Lib.hid (HFR.out k)
        clear hE hrt hE2 hrt2 hcl hu
        skip
        have HX2 := Lib.hid (show FitR 700000 (ro.getD k 0) by have := HF2.out i k hil; unfold ent at this; rw [HRO.out] at this; exact this)
        generalize hxa : T.getD k 0 = xa at *
        generalize hxb : ro.getD k 0 = xb at *
        clear hxa hxb
        go_upto_region 14 with (fail)
        have hd := below_draw wd
        replace HB := Lib.hid (HB.out.trans (hd.mono (Nat.le_trans HBA.out HB.out.size)))
        replace HT := Lib.hid (HT.out.call hd)
        replace HVF := Lib.hid (HVF.out.below hd)
        replace EL := Lib.hid (EL.out.below hd)
        replace RX := Lib.hid (RX.out.ext hd)
        replace ER := Lib.hid (ER.out.below hd)
        replace RR := Lib.hid (RR.out.ext hd)
        replace CR := Lib.hid (cell_below CR.out hd)
        replace G1 := Lib.hid (cell_below G1.out hd)
        replace G0 := Lib.hid (cell_below G0.out hd)
        clear hd
        obtain ⟨fb, P1_, p1, q1, P2_, p2, q2, hvf, hfs⟩ := HVF.out
        have VF := Lib.hid hvf
        have RF := Lib.hid hfs
        clear hvf hfs
        refine wp_region_c (fun w' => w'.cell? ⟨g, 1, none⟩ = some (.slice (some ⟨b9, o9, none⟩) V k9) ∧ w'.cell? ⟨g, 0, none⟩ = some (.slice (some ⟨gv, ov, none⟩) m cv) ∧ w'.cell? ⟨gv, ov + i, none⟩ = some (.slice (some ⟨b7, o7, none⟩) V k7) ∧ w'.cell? ⟨b9, o9 + k * 4, none⟩ = some (.bool mb2) ∧ w'.cell? ⟨b9, o9 + k * 4 + 1, none⟩ = some (.slice X3 x3 y3) ∧ w'.cell? ⟨b9, o9 + k * 4 + 2, none⟩ = some (.bool false) ∧ w'.cell? ⟨b9, o9 + k * 4 + 3, none⟩ = some (.slice X5 x5 y5) ∧ w'.cell? ⟨b7, o7 + k * 4, none⟩ = some (.bool nb) ∧ w'.cell? ⟨b7, o7 + k * 4 + 1, none⟩ = some (.slice B1 l1 c1) ∧ w'.cell? ⟨b7, o7 + k * 4 + 2, none⟩ = some (.bool false) ∧ w'.cell? ⟨b7, o7 + k * 4 + 3, none⟩ = some (.slice B2 l2 c2) ∧ w'.cell? ⟨gf, 0, none⟩ = some (.bool fb) ∧ w'.cell? ⟨gf, 1, none⟩ = some (.slice P1_ p1 q1) ∧ w'.cell? ⟨gf, 2, none⟩ = some (.bool false) ∧ w'.cell? ⟨gf, 3, none⟩ = some (.slice P2_ p2 q2)) 26 (by kernel_rfl) ?_
        generalize wd.drew = we at *
        refine tkS ⟨G1.out, G0.out, CR.out, EL.out.c0, EL.out.c1, EL.out.c2, EL.out.c3, ER.out.c0, ER.out.c1, ER.out.c2, ER.out.c3, VF.out.c0, VF.out.c1, VF.out.c2, VF.out.c3⟩ fun hSS => ?_
        refine tq 0 (.pointer (some ⟨g, 0, none⟩)) rfl ?_ hSS ?_
        ·rintro w ⟨s0, s1, s2, s3, s4, s5, s6, s7, s8, s9, s10, s11, s12, s13, s14⟩
         go_simp
        try simp only [Act.put, putA]
        refine tq 1 (.pointer (some ⟨g, 0, none⟩)) rfl ?_ hSS ?_
        ·rintro w ⟨s0, s1, s2, s3, s4, s5, s6, s7, s8, s9, s10, s11, s12, s13, s14⟩
         go_simp
        try simp only [Act.put]
        refine tq 2 (.pointer (some ⟨g, 1, none⟩)) rfl ?_ hSS ?_
        ·rintro w ⟨s0, s1, s2, s3, s4, s5, s6, s7, s8, s9, s10, s11, s12, s13, s14⟩
         go_simp
        try simp only [Act.put]
        refine tq 3 (.slice (some ⟨b9, o9, none⟩) V k9) rfl ?_ hSS ?_
        ·rintro w ⟨s0, s1, s2, s3, s4, s5, s6, s7, s8, s9, s10, s11, s12, s13, s14⟩
         go_simp
        try simp only [Act.put]
        refine tq 4 (I k) rfl ?_ hSS ?_
        ·rintro w ⟨s0, s1, s2, s3, s4, s5, s6, s7, s8, s9, s10, s11, s12, s13, s14⟩
         go_simp
        try simp only [Act.put]
        refine tq 5 (.pointer (some ⟨g, 0, none⟩)) rfl ?_ hSS ?_
        ·rintro w ⟨s0, s1, s2, s3, s4, s5, s6, s7, s8, s9, s10, s11, s12, s13, s14⟩
         go_simp
        try simp only [Act.put]
        refine tq 6 (.pointer (some ⟨g, 0, none⟩)) rfl ?_ hSS ?_
        ·rintro w ⟨s0, s1, s2, s3, s4, s5, s6, s7, s8, s9, s10, s11, s12, s13, s14⟩
         go_simp
        try simp only [Act.put]
        refine tq 7 (.pointer (some ⟨g, 1, none⟩)) rfl ?_ hSS ?_
        ·rintro w ⟨s0, s1, s2, s3, s4, s5, s6, s7, s8, s9, s10, s11, s12, s13, s14⟩
         go_simp
        try simp only [Act.put]
        refine tq 8 (.slice (some ⟨b9, o9, none⟩) V k9) rfl ?_ hSS ?_
        ·rintro w ⟨s0, s1, s2, s3, s4, s5, s6, s7, s8, s9, s10, s11, s12, s13, s14⟩
         go_simp
        try simp only [Act.put]
        refine tq 9 (I k) rfl ?_ hSS ?_
        ·rintro w ⟨s0, s1, s2, s3, s4, s5, s6, s7, s8, s9, s10, s11, s12, s13, s14⟩
         go_simp
        try simp only [Act.put]
        refine tq 10 (.pointer (some ⟨b9, o9 + k * 4, none⟩)) rfl ?_ hSS ?_
        ·rintro w ⟨s0, s1, s2, s3, s4, s5, s6, s7, s8, s9, s10, s11, s12, s13, s14⟩
         go_simp
        try simp only [Act.put]
        refine tq 11 (.agg #[.bool mb2, .slice X3 x3 y3, .bool false, .slice X5 x5 y5]) rfl ?_ hSS ?_
        ·rintro w ⟨s0, s1, s2, s3, s4, s5, s6, s7, s8, s9, s10, s11, s12, s13, s14⟩
         go_simp
        try simp only [Act.put]
        refine tq 12 (.agg #[.bool fb, .slice P1_ p1 q1, .bool false, .slice P2_ p2 q2]) rfl ?_ hSS ?_
        ·rintro w ⟨s0, s1, s2, s3, s4, s5, s6, s7, s8, s9, s10, s11, s12, s13, s14⟩
         go_simp
        try simp only [Act.put]
        refine tq 13 (.pointer (some ⟨g, 0, none⟩)) rfl ?_ hSS ?_
        ·rintro w ⟨s0, s1, s2, s3, s4, s5, s6, s7, s8, s9, s10, s11, s12, s13, s14⟩
         go_simp
        try simp only [Act.put]
        refine tq 14 (.pointer (some ⟨g, 0, none⟩)) rfl ?_ hSS ?_
        ·rintro w ⟨s0, s1, s2, s3, s4, s5, s6, s7, s8, s9, s10, s11, s12, s13, s14⟩
         go_simp
        try simp only [Act.put]
        refine tq 15 (.pointer (some ⟨g, 0, none⟩)) rfl ?_ hSS ?_
        ·rintro w ⟨s0, s1, s2, s3, s4, s5, s6, s7, s8, s9, s10, s11, s12, s13, s14⟩
         go_simp
        try simp only [Act.put]
        refine tq 16 (.slice (some ⟨gv, ov, none⟩) m cv) rfl ?_ hSS ?_
        ·rintro w ⟨s0, s1, s2, s3, s4, s5, s6, s7, s8, s9, s10, s11, s12, s13, s14⟩
         go_simp
        try simp only [Act.put]
        refine tq 17 (I i) rfl ?_ hSS ?_
        ·rintro w ⟨s0, s1, s2, s3, s4, s5, s6, s7, s8, s9, s10, s11, s12, s13, s14⟩
         go_simp
        try simp only [Act.put]
        refine tq 18 (.pointer (some ⟨gv, ov + i, none⟩)) rfl ?_ hSS ?_
        ·rintro w ⟨s0, s1, s2, s3, s4, s5, s6, s7, s8, s9, s10, s11, s12, s13, s14⟩
         go_simp
        try simp only [Act.put]
        refine tq 19 (.slice (some ⟨b7, o7, none⟩) V k7) rfl ?_ hSS ?_
        ·rintro w ⟨s0, s1, s2, s3, s4, s5, s6, s7, s8, s9, s10, s11, s12, s13, s14⟩
         go_simp
        try simp only [Act.put]
        refine tq 20 (I k) rfl ?_ hSS ?_
        ·rintro w ⟨s0, s1, s2, s3, s4, s5, s6, s7, s8, s9, s10, s11, s12, s13, s14⟩
         go_simp
        try simp only [Act.put]
        refine tq 21 (.pointer (some ⟨b7, o7 + k * 4, none⟩)) rfl ?_ hSS ?_
        ·rintro w ⟨s0, s1, s2, s3, s4, s5, s6, s7, s8, s9, s10, s11, s12, s13, s14⟩
         go_simp
        try simp only [Act.put]
        refine tq 22 (.agg #[.bool nb, .slice B1 l1 c1, .bool false, .slice B2 l2 c2]) rfl ?_ hSS ?_
        ·rintro w ⟨s0, s1, s2, s3, s4, s5, s6, s7, s8, s9, s10, s11, s12, s13, s14⟩
         go_simp
        try simp only [Act.put]
        refine on1 23 fun K hK => ?_
        go_simp
        go_at_call 54
        refine (rmul_any _ _ f xb _ RF.out RR.out (N := 700000) (by decide) HFF.out HX2.out).mono ?_
        rintro e w7 ⟨v7, rfl, hv, hb⟩
        replace HB := Lib.hid (HB.out.trans (hb.mono (Nat.le_trans HBA.out HB.out.size)))
        replace HT := Lib.hid (HT.out.call hb)
        replace HVF := Lib.hid (HVF.out.below hb)
        replace EL := Lib.hid (EL.out.below hb)
        replace RX := Lib.hid (RX.out.ext hb)
        replace ER := Lib.hid (ER.out.below hb)
        replace RR := Lib.hid (RR.out.ext hb)
        replace CR := Lib.hid (cell_below CR.out hb)
        replace G1 := Lib.hid (cell_below G1.out hb)
        replace G0 := Lib.hid (cell_below G0.out hb)
        replace VF := Lib.hid (VF.out.below hb)
        replace RF := Lib.hid (RF.out.ext hb)
        clear hb
        refine hK.out _ _ (fun _ => ⟨G1.out, G0.out, CR.out, EL.out.c0, EL.out.c1, EL.out.c2, EL.out.c3, ER.out.c0, ER.out.c1, ER.out.c2, ER.out.c3, VF.out.c0, VF.out.c1, VF.out.c2, VF.out.c3⟩) ?_
        clear hK K
        try simp only [Act.put, putA, putZ, putC]
        have RM7 := Lib.hid (hv)
        clear hv
        refine on1 24 fun K hK => ?_
        go_simp
        go_at_call 88
        refine (rsub_any _ _ xa (f * xb) _ RX.out RM7.out (N := 1400000) (Nat.le_of_ble_eq_true rfl) (HX1.out.mono (Nat.le_of_ble_eq_true rfl)) ((fitR_mul HFF.out HX2.out).mono (Nat.le_of_ble_eq_true rfl))).mono ?_
        rintro e w8 ⟨v8, rfl, hv, hb⟩
        replace HB := Lib.hid (HB.out.trans (hb.mono (Nat.le_trans HBA.out HB.out.size)))
        replace HT := Lib.hid (HT.out.call hb)
        replace HVF := Lib.hid (HVF.out.below hb)
        replace EL := Lib.hid (EL.out.below hb)
        replace RX := Lib.hid (RX.out.ext hb)
        replace ER := Lib.hid (ER.out.below hb)
        replace RR := Lib.hid (RR.out.ext hb)
        replace CR := Lib.hid (cell_below CR.out hb)
        replace G1 := Lib.hid (cell_below G1.out hb)
        replace G0 := Lib.hid (cell_below G0.out hb)
        replace VF := Lib.hid (VF.out.below hb)
        replace RF := Lib.hid (RF.out.ext hb)
        replace RM7 := Lib.hid (RM7.out.ext hb)
        clear hb
        refine hK.out _ _ (fun _ => ⟨G1.out, G0.out, CR.out, EL.out.c0, EL.out.c1, EL.out.c2, EL.out.c3, ER.out.c0, ER.out.c1, ER.out.c2, ER.out.c3, VF.out.c0, VF.out.c1, VF.out.c2, VF.out.c3⟩) ?_
        clear hK K
        try simp only [Act.put, putA, putZ, putC]
        refine tq 25 (.pointer (some ⟨b9, o9 + k * 4, none⟩)) rfl ?_ ⟨G1.out, G0.out, CR.out, EL.out.c0, EL.out.c1, EL.out.c2, EL.out.c3, ER.out.c0, ER.out.c1, ER.out.c2, ER.out.c3, VF.out.c0, VF.out.c1, VF.out.c2, VF.out.c3⟩ ?_
        ·rintro w ⟨s0, s1, s2, s3, s4, s5, s6, s7, s8, s9, s10, s11, s12, s13, s14⟩
         go_simp
        try simp only [Act.put, putA]
        obtain ⟨tb, T1, t1, u3, T2, t2, u4, rfl⟩ := hv.bools
        obtain ⟨hp, hkw2, hbb⟩ := HT.out.tgtPut hkv hv
        replace hp : TBx _ base g (some ⟨gv, ov, none⟩) cv vs b9 o9 k9 (some ⟨b8, o8, none⟩) cb m V W { t with tgt := (elP 0 k f ro T).set k (xa - f * xb) } := hp
        rw [HXX.out] at hp
        have hF := Far.put4 (cs := #[]) hbb (o9 + k * 4) hkw2
        have HTN := Lib.hid hp
        have HVN := Lib.hid (HVF.out.put4 hkw2 (by have := HBL.out; omega))
        have HBN := Lib.hid (HB.out.trans hF.below)
        clear hp hkw2 hbb hF hv
        unfold put4 at HTN HVN HBN
        have z0 := EL.out.c0
        have y0 := EL.out.f0
        have z1 := EL.out.c1
        have y1 := EL.out.f1
        have z2 := EL.out.c2
        have y2 := EL.out.f2
        have z3 := EL.out.c3
        have y3 := EL.out.f3
        clear HT HVF EL RX ER RR CR G1 G0 VF RF RM7
        clear HXX HX1 HX2 HB
        refine on1 26 fun K hK => ?_
        go_simp
        refine hK.out _ _ (fun h => absurd h (by decide)) ?_
        clear hK K z0 z1 z2 z3 y0 y1 y2 y3
        refine wpAnyC_done (by kernel_rfl) ?_ _
        go_wp2
        go_roundg (V - (k + 1))
        case measure => omega
        case rel => exact ⟨k + 1, rfl, by go_num, by omega, HTN, HVN, HBN⟩
       ·obtain rfl : k = V := by omega
        have HTN := Lib.hid (show TBx wd base g A cv vs b9 o9 k9 (some ⟨b8, o8, none⟩) cb m k W { t with tgt := aimN t (negPad c k) (i + 1) } by rw [HAN.out, HCE.out]; exact HT.out)
        clear HT HVF
        go_wp2
        go_roundg (m - (i + 1))
        case measure => omega
        case rel => exact ⟨i + 1, rfl, by go_num, by omega, HTN, HB⟩
    ·obtain rfl : i = m := by omega
     go_wp2
     exact bodyPost_end (v := .tuple #[]) (by simp [results, go_sem]) rfl ⟨rfl, ⟨_, _, _, by rw [HAQ.out]; exact HT.out⟩, HB.out⟩
end Go.Proofs.YtcgfdfdcbamceaaGreatDoor
