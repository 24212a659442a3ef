/- (*simplex.table).pivot: a row is cleared. -/
import Derived.Test.YtcgfdfdcbamceaaGreatDoorXBC
namespace Go.Proofs.YtcgfdfdcbamceaaGreatDoor
open Go.RowKit
set_option maxRecDepth 100000 in
set_option maxHeartbeats 40000000 in
theorem clear_any (base gb gt gr g gv ov cv m r c W b o k b2 o2 k2 : Nat) (row pr : List Rat) (w : World) (h1 : w.cell? ⟨gb, 0, none⟩ = some (I c)) (h2 : w.cell? ⟨gt, 0, none⟩ = some (.pointer (some ⟨g, 0, none⟩))) (h3 : w.cell? ⟨gr, 0, none⟩ = some (I r))
  (h4 : w.cell? ⟨g, 0, none⟩ = some (.slice (some ⟨gv, ov, none⟩) m cv)) (h5 : w.cell? ⟨gv, ov + r, none⟩ = some (.slice (some ⟨b2, o2, none⟩) W k2)) (_n1 : gb ≠ b) (n2 : gt ≠ b) (n3 : gr ≠ b) (n4 : g ≠ b) (n5 : gv ≠ b) (n6 : b2 ≠ b) (hr : r < m) (_hm : m ≤ 1000) (hc : c < W) (hW : W ≤ 1000)
  (hrow : RRow w base (.slice (some ⟨b, o, none⟩) W k) row) (hpr : RRow w base (.slice (some ⟨b2, o2, none⟩) W k2) pr) (f1 : ∀ i, FitR 700000 (row.getD i 0)) (f2 : ∀ i, FitR 700000 (pr.getD i 0)) (hbase : base ≤ w.heap.size) :
  Calls Tryz.prog 108 #[.slice (some ⟨b, o, none⟩) W k, .pointer (some ⟨gb, 0, none⟩), .pointer (some ⟨gt, 0, none⟩), .pointer (some ⟨gr, 0, none⟩)] w fun e w' => e = .returned (.tuple #[]) ∧ RRow w' base (.slice (some ⟨b, o, none⟩) W k) (clearQ pr c row) ∧ Far base b w w' := by
 have hl1 : row.length = W := hrow.rv.len
 have hl2 : pr.length = W := hpr.rv.len
 have hll : row.length = pr.length := by omega
 have HF1 := Lib.hid f1
 have HF2 := Lib.hid f2
 have HCZ := Lib.hid (fun h => clearQ_none (c := c) hll h)
 have HCE := Lib.hid (clearQ_elP hll c)
 rw [hl1] at HCE
 have HL1 := Lib.hid hl1
 have HL2 := Lib.hid hl2
 clear f1 f2 hll hl2
 obtain ⟨b9, o9, nb, B1, l1, c1, B2, l2, c2, e9, hbl, hC, hrt⟩ := hrow.rv.form hc (row.getD c 0) (by rw [List.getD_eq_getElem?_getD, List.getElem?_eq_getElem (by rw [hl1]; exact hc)]; rfl)
 injection e9 with e9
 injection e9 with e9 e8 _
 subst e9 e8
 clear hl1
 generalize hx0 : row.getD c 0 = x0 at *
 have HX0 := Lib.hid (show FitR 700000 x0 by rw [← hx0]; exact HF1.out c)
 clear hx0
 obtain ⟨hvf, hb⟩ := boxes1 w (.bool nb) (.slice B1 l1 c1) (.bool false) (.slice B2 l2 c2)
 have HVF := Lib.hid (show Vq _ w.heap.size x0 from ⟨_, _, _, _, _, _, _, hvf, hrt.ext hb⟩)
 have HFA := Lib.hid (Far.call (b := b) hb hbase)
 have HRW := Lib.hid (hrow.call hb)
 have HRX := Lib.hid (hrt.ext hb)
 have e0 := hC.c0
 have e1 := hC.c1
 have e2 := hC.c2
 have e3 := hC.c3
 have HPR := Lib.hid hpr
 have HVX := Lib.hid hvf
 have H2 := Lib.hid h2
 have H3 := Lib.hid h3
 have H4 := Lib.hid h4
 have H5 := Lib.hid h5
 have HBA := Lib.hid hbase
 clear hrow hpr hrt hC hvf hb h2 h3 h4 h5 hbase
 unfold ratT at *
 go_enter Tryz.func108, Tryz.ntmps108
 go_upto_region 1 with (fail)
 clear h1 e0 e1 e2 e3
 have hgf : b < w.heap.size := hbl
 have HGF := Lib.hid hgf
 clear hgf hbl
 generalize w.alloc (.cells #[.bool nb, .slice B1 l1 c1, .bool false, .slice B2 l2 c2] 71) = W1 at *
 generalize hgfe : w.heap.size = gf at *
 have HC := Lib.hid (rsign_any _ _ W1 HRX.out)
 have q0 := HVX.out.c0
 have q1 := HVX.out.c1
 have q2 := HVX.out.c2
 have q3 := HVX.out.c3
 go_wp2_with fail
 refine HC.out.mono ?_
 rintro e w5 ⟨rfl, hb⟩
 clear HC q0 q1 q2 q3 HRX HVX
 replace HFA := Lib.hid (HFA.out.then_ hb (by rw [hgfe]; exact HBA.out))
 replace HRW := Lib.hid (HRW.out.call hb)
 replace HVF := Lib.hid (HVF.out.below hb)
 clear hb
 by_cases hz : x0 = 0
 ·have tz : (x0.num.sign == 0) = true := by rw [sign_zero.2 hz]; rfl
  have HE := Lib.hid (show RRow w5 base (.slice (some ⟨b, o, none⟩) W k) (clearQ pr c row) by rw [HCZ.out hz]; exact HRW.out)
  generalize x0.num.sign = sg at *
  go_wp2
  exact bodyPost_ret (v := .tuple #[]) (by simp [results, go_sem]) rfl ⟨rfl, HE.out, HFA.out⟩
 ·have tz : (x0.num.sign == 0) = false := beq_eq_false_iff_ne.2 fun e => hz (sign_zero.1 e)
  generalize x0.num.sign = sg at *
  clear hz HCZ
  have HP := Lib.hid (show RRow w5 base (.slice (some ⟨b, o, none⟩) W k) (elP 0 0 x0 pr row) by rw [elP_start]; exact HRW.out)
  clear HRW
  go_wp2
  go_loopg [16] (W - 0) (fun mm v wr => ∃ j : Nat, mm = W - j ∧ v = I j ∧ j ≤ W ∧ Hid (RRow wr base (.slice (some ⟨b, o, none⟩) W k) (elP 0 j x0 pr row)) ∧ Hid (Vq wr gf x0) ∧ Hid (Far base b w wr))
  case atStart => exact ⟨0, rfl, rfl, by omega, HP, HVF, HFA⟩
  case round =>
   clear HP HVF HFA
   obtain ⟨j, rfl, rfl, hj, HP, HVF, HFA⟩ := hrel
   obtain ⟨wb, rfl⟩ : ∃ wb : World, wb = wr := ⟨_, rfl⟩
   by_cases hjl : j < W
   ·have hpl : (elP 0 j x0 pr row).length = W := by rw [elP_len, HL1.out]
    have HXX := Lib.hid (show (elP 0 j x0 pr row).set j (row.getD j 0 - x0 * pr.getD j 0) = elP 0 (j + 1) x0 pr row from elP_set x0 pr row (Nat.zero_le _) (by rw [HL1.out]; exact hjl))
    have HSK := Lib.hid (show pr.getD j 0 = 0 → elP 0 (j + 1) x0 pr row = elP 0 j x0 pr row from fun h => elP_skip x0 pr row h)
    obtain ⟨b8, o8, nb1, X1, x1, y1, X2, x2, y2, e8, hbl, hC, hrt⟩ := HP.out.rv.form hjl ((elP 0 j x0 pr row).getD j 0) (by rw [List.getD_eq_getElem?_getD, List.getElem?_eq_getElem (by rw [hpl]; exact hjl)]; rfl)
    injection e8 with e8
    injection e8 with e8 e7 _
    subst e8 e7
    rw [elP_at 0 j x0 pr row j (Nat.le_refl _)] at hrt
    obtain ⟨b8, o8, nb2, Y1, u1, v1, Y2, u2, v2, e8, hbl2, hC2, hrt2⟩ := (HFA.out.row HPR.out (by intro e; exact n6 (by simpa [Value.ownBlock] using e))).rv.form hjl (pr.getD j 0) (by rw [List.getD_eq_getElem?_getD, List.getElem?_eq_getElem (by rw [HL2.out]; exact hjl)]; rfl)
    injection e8 with e8
    injection e8 with e8 e7 _
    subst e8 e7
    have hfz : ∃ cur, Blk wb b ratT cur := HP.out.blk rfl
    obtain ⟨cur, hcur⟩ := hfz
    have EL := Lib.hid (show El wb b (o + j * 4) _ _ _ _ from ⟨hC.c0, hC.c1, hC.c2, hC.c3, hcur.frozen _, hcur.frozen _, hcur.frozen _, hcur.frozen _⟩)
    have RX := Lib.hid hrt
    have ER := Lib.hid hC2
    have RR := Lib.hid hrt2
    have HFXJ := Lib.hid (HF1.out j)
    have HFPJ := Lib.hid (HF2.out j)
    have C2 := Lib.hid (HFA.out.cell H2.out n2)
    have C3 := Lib.hid (HFA.out.cell H3.out n3)
    have C4_ := Lib.hid (HFA.out.cell H4.out n4)
    have C5 := Lib.hid (HFA.out.cell H5.out n5)
    clear hC hrt hC2 hrt2 hcur hbl hbl2 hpl
    generalize hxj : row.getD j 0 = xj at *
    generalize hpj : pr.getD j 0 = pj at *
    clear hxj hpj
    go_upto_region 5 with (fail)
    have hd := below_draw wb
    replace HFA := Lib.hid (HFA.out.then_ hd (by rw [hgfe]; exact HBA.out))
    replace EL := Lib.hid (EL.out.below hd)
    replace RX := Lib.hid (RX.out.ext hd)
    replace ER := Lib.hid (ER.out.below hd)
    replace RR := Lib.hid (RR.out.ext hd)
    replace C2 := Lib.hid (cell_below C2.out hd)
    replace C3 := Lib.hid (cell_below C3.out hd)
    replace C4_ := Lib.hid (cell_below C4_.out hd)
    replace C5 := Lib.hid (cell_below C5.out hd)
    replace HP := Lib.hid (HP.out.call hd)
    replace HVF := Lib.hid (HVF.out.below hd)
    clear hd
    refine wp_region_c (fun w' => w'.cell? ⟨gt, 0, none⟩ = some (.pointer (some ⟨g, 0, none⟩)) ∧ w'.cell? ⟨gr, 0, none⟩ = some (I r) ∧ w'.cell? ⟨g, 0, none⟩ = some (.slice (some ⟨gv, ov, none⟩) m cv) ∧ w'.cell? ⟨gv, ov + r, none⟩ = some (.slice (some ⟨b2, o2, none⟩) W k2) ∧ w'.cell? ⟨b2, o2 + j * 4, none⟩ = some (.bool nb2) ∧ w'.cell? ⟨b2, o2 + j * 4 + 1, none⟩ = some (.slice Y1 u1 v1) ∧ w'.cell? ⟨b2, o2 + j * 4 + 2, none⟩ = some (.bool false) ∧ w'.cell? ⟨b2, o2 + j * 4 + 3, none⟩ = some (.slice Y2 u2 v2)) 10 (by kernel_rfl) ?_
    generalize wb.drew = W2 at *
    refine tkS ⟨C2.out, C3.out, C4_.out, C5.out, ER.out.c0, ER.out.c1, ER.out.c2, ER.out.c3⟩ fun hSS => ?_
    refine tq 0 (.pointer (some ⟨g, 0, none⟩)) rfl ?_ hSS ?_
    ·rintro w ⟨s0, s1, s2, s3, s4, s5, s6, s7⟩
     go_simp
    try simp only [Act.put, putA]
    refine tq 1 (.pointer (some ⟨g, 0, none⟩)) rfl ?_ hSS ?_
    ·rintro w ⟨s0, s1, s2, s3, s4, s5, s6, s7⟩
     go_simp
    try simp only [Act.put]
    refine tq 2 (.pointer (some ⟨g, 0, none⟩)) rfl ?_ hSS ?_
    ·rintro w ⟨s0, s1, s2, s3, s4, s5, s6, s7⟩
     go_simp
    try simp only [Act.put]
    refine tq 3 (.slice (some ⟨gv, ov, none⟩) m cv) rfl ?_ hSS ?_
    ·rintro w ⟨s0, s1, s2, s3, s4, s5, s6, s7⟩
     go_simp
    try simp only [Act.put]
    refine tq 4 (I r) rfl ?_ hSS ?_
    ·rintro w ⟨s0, s1, s2, s3, s4, s5, s6, s7⟩
     go_simp
    try simp only [Act.put]
    refine tq 5 (.pointer (some ⟨gv, ov + r, none⟩)) rfl ?_ hSS ?_
    ·rintro w ⟨s0, s1, s2, s3, s4, s5, s6, s7⟩
     go_simp
    try simp only [Act.put]
    refine tq 6 (.slice (some ⟨b2, o2, none⟩) W k2) rfl ?_ hSS ?_
    ·rintro w ⟨s0, s1, s2, s3, s4, s5, s6, s7⟩
     go_simp
    try simp only [Act.put]
    refine tq 7 (I j) rfl ?_ hSS ?_
    ·rintro w ⟨s0, s1, s2, s3, s4, s5, s6, s7⟩
     go_simp
    try simp only [Act.put]
    refine tq 8 (.pointer (some ⟨b2, o2 + j * 4, none⟩)) rfl ?_ hSS ?_
    ·rintro w ⟨s0, s1, s2, s3, s4, s5, s6, s7⟩
     go_simp
    try simp only [Act.put]
    refine tq 9 (.agg #[.bool nb2, .slice Y1 u1 v1, .bool false, .slice Y2 u2 v2]) rfl ?_ hSS ?_
    ·rintro w ⟨s0, s1, s2, s3, s4, s5, s6, s7⟩
     go_simp
    try simp only [Act.put]
    refine on1 10 fun K hK => ?_
    go_simp
    go_at_call 61
    refine (rsign_any _ _ _ RR.out).mono ?_
    rintro e w6 ⟨rfl, hb⟩
    replace HFA := Lib.hid (HFA.out.then_ hb (by rw [hgfe]; exact HBA.out))
    replace EL := Lib.hid (EL.out.below hb)
    replace RX := Lib.hid (RX.out.ext hb)
    replace ER := Lib.hid (ER.out.below hb)
    replace RR := Lib.hid (RR.out.ext hb)
    replace C2 := Lib.hid (cell_below C2.out hb)
    replace C3 := Lib.hid (cell_below C3.out hb)
    replace C4_ := Lib.hid (cell_below C4_.out hb)
    replace C5 := Lib.hid (cell_below C5.out hb)
    replace HP := Lib.hid (HP.out.call hb)
    replace HVF := Lib.hid (HVF.out.below hb)
    clear hb
    refine hK.out _ _ (fun _ => ⟨C2.out, C3.out, C4_.out, C5.out, ER.out.c0, ER.out.c1, ER.out.c2, ER.out.c3⟩) ?_
    clear hK K
    try simp only [Act.put, putA, putZ, putC]
    refine on1 11 fun K hK => ?_
    go_simp
    refine hK.out _ _ (fun h => absurd h (by decide)) ?_
    clear hK K
    try simp only [Act.put, putA, putZ, putC]
    refine wpAnyC_done (by kernel_rfl) ?_ _
    by_cases hz : pj = 0
    ·have tz2 : (pj.num.sign != 0) = false := by rw [sign_zero.2 hz]; rfl
     have HPN := Lib.hid (show RRow w6 base (.slice (some ⟨b, o, none⟩) W k) (elP 0 (j + 1) x0 pr row) by rw [HSK.out hz]; exact HP.out)
     generalize pj.num.sign = sg2 at *
     clear hz EL RX ER RR C2 C3 C4_ C5 HP HSK HXX
     go_wp2
     go_roundg (W - (j + 1))
     case measure => omega
     case rel => exact ⟨j + 1, rfl, by go_num, by omega, HPN, HVF, HFA⟩
    ·have tz2 : (pj.num.sign != 0) = true := bne_iff_ne.2 fun e => hz (sign_zero.1 e)
     generalize pj.num.sign = sg2 at *
     clear hz HSK
     go_upto_region 6 with (fail)
     have hd := below_draw w6
     replace HFA := Lib.hid (HFA.out.then_ hd (by rw [hgfe]; exact HBA.out))
     replace EL := Lib.hid (EL.out.below hd)
     replace RX := Lib.hid (RX.out.ext hd)
     replace ER := Lib.hid (ER.out.below hd)
     replace RR := Lib.hid (RR.out.ext hd)
     replace C2 := Lib.hid (cell_below C2.out hd)
     replace C3 := Lib.hid (cell_below C3.out hd)
     replace C4_ := Lib.hid (cell_below C4_.out hd)
     replace C5 := Lib.hid (cell_below C5.out hd)
     replace HP := Lib.hid (HP.out.call hd)
     replace HVF := Lib.hid (HVF.out.below hd)
     clear hd
     obtain ⟨fb, P1, p1, q1, P2, p2, q2, hvf, hfs⟩ := HVF.out
     have VF := Lib.hid hvf
     have RF := Lib.hid hfs
     clear hvf hfs
     refine wp_region_c (fun w' => w'.cell? ⟨gt, 0, none⟩ = some (.pointer (some ⟨g, 0, none⟩)) ∧ w'.cell? ⟨gr, 0, none⟩ = some (I r) ∧ w'.cell? ⟨g, 0, none⟩ = some (.slice (some ⟨gv, ov, none⟩) m cv) ∧ w'.cell? ⟨gv, ov + r, none⟩ = some (.slice (some ⟨b2, o2, none⟩) W k2) ∧ w'.cell? ⟨b2, o2 + j * 4, none⟩ = some (.bool nb2) ∧ w'.cell? ⟨b2, o2 + j * 4 + 1, none⟩ = some (.slice Y1 u1 v1) ∧ w'.cell? ⟨b2, o2 + j * 4 + 2, none⟩ = some (.bool false) ∧ w'.cell? ⟨b2, o2 + j * 4 + 3, none⟩ = some (.slice Y2 u2 v2) ∧ w'.cell? ⟨b, o + j * 4, none⟩ = some (.bool nb1) ∧ w'.cell? ⟨b, o + j * 4 + 1, none⟩ = some (.slice X1 x1 y1) ∧ w'.cell? ⟨b, o + j * 4 + 2, none⟩ = some (.bool false) ∧ w'.cell? ⟨b, o + j * 4 + 3, none⟩ = some (.slice X2 x2 y2) ∧ w'.cell? ⟨gf, 0, none⟩ = some (.bool fb) ∧ w'.cell? ⟨gf, 1, none⟩ = some (.slice P1 p1 q1) ∧ w'.cell? ⟨gf, 2, none⟩ = some (.bool false) ∧ w'.cell? ⟨gf, 3, none⟩ = some (.slice P2 p2 q2)) 20 (by kernel_rfl) ?_
     generalize w6.drew = W3 at *
     refine tkS ⟨C2.out, C3.out, C4_.out, C5.out, ER.out.c0, ER.out.c1, ER.out.c2, ER.out.c3, EL.out.c0, EL.out.c1, EL.out.c2, EL.out.c3, VF.out.c0, VF.out.c1, VF.out.c2, VF.out.c3⟩ fun hSS => ?_
     refine tq 0 (.slice (some ⟨b, o, none⟩) W k) rfl ?_ hSS ?_
     ·rintro w ⟨s0, s1, s2, s3, s4, s5, s6, s7, s8, s9, s10, s11, s12, s13, s14, s15⟩
      go_simp
     try simp only [Act.put, putA]
     refine tq 1 (I j) rfl ?_ hSS ?_
     ·rintro w ⟨s0, s1, s2, s3, s4, s5, s6, s7, s8, s9, s10, s11, s12, s13, s14, s15⟩
      go_simp
     try simp only [Act.put]
     refine tq 2 (.slice (some ⟨b, o, none⟩) W k) rfl ?_ hSS ?_
     ·rintro w ⟨s0, s1, s2, s3, s4, s5, s6, s7, s8, s9, s10, s11, s12, s13, s14, s15⟩
      go_simp
     try simp only [Act.put]
     refine tq 3 (I j) rfl ?_ hSS ?_
     ·rintro w ⟨s0, s1, s2, s3, s4, s5, s6, s7, s8, s9, s10, s11, s12, s13, s14, s15⟩
      go_simp
     try simp only [Act.put]
     refine tq 4 (.pointer (some ⟨b, o + j * 4, none⟩)) rfl ?_ hSS ?_
     ·rintro w ⟨s0, s1, s2, s3, s4, s5, s6, s7, s8, s9, s10, s11, s12, s13, s14, s15⟩
      go_simp
     try simp only [Act.put]
     refine tq 5 (.agg #[.bool nb1, .slice X1 x1 y1, .bool false, .slice X2 x2 y2]) rfl ?_ hSS ?_
     ·rintro w ⟨s0, s1, s2, s3, s4, s5, s6, s7, s8, s9, s10, s11, s12, s13, s14, s15⟩
      go_simp
     try simp only [Act.put]
     refine tq 6 (.agg #[.bool fb, .slice P1 p1 q1, .bool false, .slice P2 p2 q2]) rfl ?_ hSS ?_
     ·rintro w ⟨s0, s1, s2, s3, s4, s5, s6, s7, s8, s9, s10, s11, s12, s13, s14, s15⟩
      go_simp
     try simp only [Act.put]
     refine tq 7 (.pointer (some ⟨g, 0, none⟩)) rfl ?_ hSS ?_
     ·rintro w ⟨s0, s1, s2, s3, s4, s5, s6, s7, s8, s9, s10, s11, s12, s13, s14, s15⟩
      go_simp
     try simp only [Act.put]
     refine tq 8 (.pointer (some ⟨g, 0, none⟩)) rfl ?_ hSS ?_
     ·rintro w ⟨s0, s1, s2, s3, s4, s5, s6, s7, s8, s9, s10, s11, s12, s13, s14, s15⟩
      go_simp
     try simp only [Act.put]
     refine tq 9 (.pointer (some ⟨g, 0, none⟩)) rfl ?_ hSS ?_
     ·rintro w ⟨s0, s1, s2, s3, s4, s5, s6, s7, s8, s9, s10, s11, s12, s13, s14, s15⟩
      go_simp
     try simp only [Act.put]
     refine tq 10 (.slice (some ⟨gv, ov, none⟩) m cv) rfl ?_ hSS ?_
     ·rintro w ⟨s0, s1, s2, s3, s4, s5, s6, s7, s8, s9, s10, s11, s12, s13, s14, s15⟩
      go_simp
     try simp only [Act.put]
     refine tq 11 (I r) rfl ?_ hSS ?_
     ·rintro w ⟨s0, s1, s2, s3, s4, s5, s6, s7, s8, s9, s10, s11, s12, s13, s14, s15⟩
      go_simp
     try simp only [Act.put]
     refine tq 12 (.pointer (some ⟨gv, ov + r, none⟩)) rfl ?_ hSS ?_
     ·rintro w ⟨s0, s1, s2, s3, s4, s5, s6, s7, s8, s9, s10, s11, s12, s13, s14, s15⟩
      go_simp
     try simp only [Act.put]
     refine tq 13 (.slice (some ⟨b2, o2, none⟩) W k2) rfl ?_ hSS ?_
     ·rintro w ⟨s0, s1, s2, s3, s4, s5, s6, s7, s8, s9, s10, s11, s12, s13, s14, s15⟩
      go_simp
     try simp only [Act.put]
     refine tq 14 (I j) rfl ?_ hSS ?_
     ·rintro w ⟨s0, s1, s2, s3, s4, s5, s6, s7, s8, s9, s10, s11, s12, s13, s14, s15⟩
      go_simp
     try simp only [Act.put]
     refine tq 15 (.pointer (some ⟨b2, o2 + j * 4, none⟩)) rfl ?_ hSS ?_
     ·rintro w ⟨s0, s1, s2, s3, s4, s5, s6, s7, s8, s9, s10, s11, s12, s13, s14, s15⟩
      go_simp
     try simp only [Act.put]
     refine tq 16 (.agg #[.bool nb2, .slice Y1 u1 v1, .bool false, .slice Y2 u2 v2]) rfl ?_ hSS ?_
     ·rintro w ⟨s0, s1, s2, s3, s4, s5, s6, s7, s8, s9, s10, s11, s12, s13, s14, s15⟩
      go_simp
     try simp only [Act.put]
     refine on1 17 fun K hK => ?_
     go_simp
     go_at_call 54
     refine (rmul_any _ _ x0 pj _ RF.out RR.out (N := 700000) (by decide) HX0.out HFPJ.out).mono ?_
     rintro e w7 ⟨v7, rfl, hv, hb⟩
     replace HFA := Lib.hid (HFA.out.then_ hb (by rw [hgfe]; exact HBA.out))
     replace EL := Lib.hid (EL.out.below hb)
     replace RX := Lib.hid (RX.out.ext hb)
     replace ER := Lib.hid (ER.out.below hb)
     replace RR := Lib.hid (RR.out.ext hb)
     replace C2 := Lib.hid (cell_below C2.out hb)
     replace C3 := Lib.hid (cell_below C3.out hb)
     replace C4_ := Lib.hid (cell_below C4_.out hb)
     replace C5 := Lib.hid (cell_below C5.out hb)
     replace HP := Lib.hid (HP.out.call hb)
     replace HVF := Lib.hid (HVF.out.below hb)
     replace VF := Lib.hid (VF.out.below hb)
     replace RF := Lib.hid (RF.out.ext hb)
     clear hb
     refine hK.out _ _ (fun _ => ⟨C2.out, C3.out, C4_.out, C5.out, ER.out.c0, ER.out.c1, ER.out.c2, ER.out.c3, EL.out.c0, EL.out.c1, EL.out.c2, EL.out.c3, VF.out.c0, VF.out.c1, VF.out.c2, VF.out.c3⟩) ?_
     clear hK K
     try simp only [Act.put, putA, putZ, putC]
     have RM7 := Lib.hid (hv)
     clear hv
     refine on1 18 fun K hK => ?_
     go_simp
     go_at_call 88
     refine (rsub_any _ _ xj (x0 * pj) _ RX.out RM7.out (N := 1400000) (Nat.le_of_ble_eq_true rfl) (HFXJ.out.mono (Nat.le_of_ble_eq_true rfl)) ((fitR_mul HX0.out HFPJ.out).mono (Nat.le_of_ble_eq_true rfl))).mono ?_
     rintro e w8 ⟨v8, rfl, hv, hb⟩
     replace HFA := Lib.hid (HFA.out.then_ hb (by rw [hgfe]; exact HBA.out))
     replace EL := Lib.hid (EL.out.below hb)
     replace RX := Lib.hid (RX.out.ext hb)
     replace ER := Lib.hid (ER.out.below hb)
     replace RR := Lib.hid (RR.out.ext hb)
     replace C2 := Lib.hid (cell_below C2.out hb)
     replace C3 := Lib.hid (cell_below C3.out hb)
     replace C4_ := Lib.hid (cell_below C4_.out hb)
     replace C5 := Lib.hid (cell_below C5.out hb)
     replace HP := Lib.hid (HP.out.call hb)
     replace HVF := Lib.hid (HVF.out.below hb)
     replace VF := Lib.hid (VF.out.below hb)
     replace RF := Lib.hid (RF.out.ext hb)
     replace RM7 := Lib.hid (RM7.out.ext hb)
     clear hb
     refine hK.out _ _ (fun _ => ⟨C2.out, C3.out, C4_.out, C5.out, ER.out.c0, ER.out.c1, ER.out.c2, ER.out.c3, EL.out.c0, EL.out.c1, EL.out.c2, EL.out.c3, VF.out.c0, VF.out.c1, VF.out.c2, VF.out.c3⟩) ?_
     clear hK K
     try simp only [Act.put, putA, putZ, putC]
     refine tq 19 (.pointer (some ⟨b, o + j * 4, none⟩)) rfl ?_ ⟨C2.out, C3.out, C4_.out, C5.out, ER.out.c0, ER.out.c1, ER.out.c2, ER.out.c3, EL.out.c0, EL.out.c1, EL.out.c2, EL.out.c3, VF.out.c0, VF.out.c1, VF.out.c2, VF.out.c3⟩ ?_
     ·rintro w ⟨s0, s1, s2, s3, s4, s5, s6, s7, s8, s9, s10, s11, s12, s13, s14, s15⟩
      go_simp
     try simp only [Act.put, putA]
     obtain ⟨tb, T1, t1, u3, T2, t2, u4, rfl⟩ := hv.bools
     obtain ⟨hp, hkw2, hbb⟩ := HP.out.putEl hjl hv
     rw [HXX.out] at hp
     have HPN := Lib.hid hp
     have HFN := Lib.hid (HFA.out.trans (Far.put4 (cs := #[]) hbb _ hkw2))
     have HVN := Lib.hid (HVF.out.put4 hkw2 (by have := HGF.out; omega))
     clear hp hkw2 hbb
     unfold put4 at HPN HFN HVN
     have z0 := EL.out.c0
     have y0 := EL.out.f0
     have z1 := EL.out.c1
     have y1 := EL.out.f1
     have z2 := EL.out.c2
     have y2 := EL.out.f2
     have z3 := EL.out.c3
     have y3 := EL.out.f3
     clear EL RX ER RR C2 C3 C4_ C5 HP HVF VF RF RM7
     clear hv HXX HFXJ HFPJ HFA
     refine on1 20 fun K hK => ?_
     go_simp
     refine hK.out _ _ (fun h => absurd h (by decide)) ?_
     clear hK K z0 z1 z2 z3 y0 y1 y2 y3
     refine wpAnyC_done (by kernel_rfl) ?_ _
     go_wp2
     go_roundg (W - (j + 1))
     case measure => omega
     case rel => exact ⟨j + 1, rfl, by go_num, by omega, HPN, HVN, HFN⟩
   ·obtain rfl : j = W := by omega
    have HE := Lib.hid (show RRow wb base (.slice (some ⟨b, o, none⟩) j k) (clearQ pr c row) by rw [HCE.out]; exact HP.out)
    go_wp2
    exact bodyPost_end (v := .tuple #[]) (by simp [results, go_sem]) rfl ⟨rfl, HE.out, HFA.out⟩
end Go.Proofs.YtcgfdfdcbamceaaGreatDoor
