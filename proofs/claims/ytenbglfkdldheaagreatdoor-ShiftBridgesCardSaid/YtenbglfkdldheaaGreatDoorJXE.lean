/- shift.Factors. shift.Line. -/
import Derived.Test.YtenbglfkdldheaaGreatDoorJXD
set_option maxRecDepth 100000
set_option maxHeartbeats 16000000
namespace Go.Proofs.YtenbglfkdldheaaGreatDoor
open Go.RowKit
theorem xU (n : NetD) (v : NetV) (w : World) (hN : Net w n v) (htab : Tab w) : Calls Tryz.prog 51 #[v.val n] w (RetMT w (zN n)) := by
 have hz := aM w (Obj.cells (v.parts n) 29)
 have HN := aH (hN.below hz)
 have HG := aH (Blk.new w 29 (v.parts n))
 have HB := aH hz
 have HTB := aH htab
 clear hz hN htab
 obtain ⟨na, nc, sa, sc, bra, brc, ga, gc, la, lc, ta, tc⟩ := v
 unfold NetV.val NetV.parts at *
 simp only at HG HB HN ⊢
 go_enter Tryz.func51, Tryz.ntmps51
 go_upto_region 1 with (fail)
 generalize w.alloc (Obj.cells #[.slice na n.nodes.length nc, .slice sa n.switches.length sc, .slice bra n.branches.length brc, .slice ga n.gens.length gc, .slice la n.loads.length lc, .slice ta n.stores.length tc] 29) = w0 at *
 have x0 := HG.out.cell 0
 have x1 := HG.out.cell 1
 have x2 := HG.out.cell 2
 have x3 := HG.out.cell 3
 have x4 := HG.out.cell 4
 have x5 := HG.out.cell 5
 have HC := aH (gI n _ w0 HN.out)
 unfold NetV.val NetV.parts at HC
 simp only at HC
 go_wp2_with fail
 refine HC.out.mono ?_
 rintro e w1 ⟨rfl, hb⟩
 clear HC
 clear x0 x1 x2 x3 x4 x5
 have hbs := HB.out.size
 replace HB := aH (HB.out.trans (hb.mono hbs))
 clear hbs
 replace HN := aH (HN.out.below hb)
 replace HG := bL HG hb
 clear hb
 by_cases hc : aV n = 0
 ·have HV := aH (sE hc)
  have HC0 := aH hc
  rw [hc]
  clear hc
  have x0 := HG.out.cell 0
  have x1 := HG.out.cell 1
  have x2 := HG.out.cell 2
  have x3 := HG.out.cell 3
  have x4 := HG.out.cell 4
  have x5 := HG.out.cell 5
  have HC := aH (nE n _ w1 HN.out.net HV.out)
  unfold NetV.val NetV.parts at HC
  simp only at HC
  go_wp2_with fail
  refine HC.out.mono ?_
  rintro e w2 ⟨base, g, rfl, hbs, hMF, hb⟩
  clear HC
  clear x0 x1 x2 x3 x4 x5
  have HM := aH hMF
  clear hMF hbs HN
  have hbs := HB.out.size
  replace HB := aH (HB.out.trans (hb.mono hbs))
  clear hbs
  replace HG := bL HG hb
  clear hb
  have hbl := HV.out.hb
  obtain ⟨br, hbr⟩ : ∃ q, q = n.branches.length := ⟨_, rfl⟩
  have hbr2 := hbr.symm
  have x2 := HG.out.cell 2
  change w2.cell? ⟨w.heap.size, 2, none⟩ = some (.slice bra n.branches.length brc) at x2
  rw [hbr2] at x2 hbl
  have hmk := nH br (by omega)
  unfold bM at hmk
  have HP := aH (show ∃ vs, LM (w2.alloc (.cells (Array.replicate br (Value.slice none 0 0)) bM)) w2.heap.size (.slice (some ⟨w2.heap.size, 0, none⟩) br br) vs (cA (List.replicate br (List.replicate (nbN n) 0)) [] 0 br) from ⟨_, by rw [jS]; exact LM.start w2 br (by unfold maxLen; omega)⟩)
  have HB1 := aH (aM w2 (.cells (Array.replicate br (Value.slice none 0 0)) bM))
  have HBR := aH hbr2
  clear hbr hbr2 HG
  go_wp2
  clear hmk x2
  go_loopg [26] (br - 0) (fun q v wr => ∃ i : Nat, q = br - i ∧ v = I i ∧ i ≤ br ∧ Hid (∃ vs, LM wr w2.heap.size (.slice (some ⟨w2.heap.size, 0, none⟩) br br) vs (cA (List.replicate br (List.replicate (nbN n) 0)) [] i br)) ∧ Hid (Below w2.heap.size w2 wr))
  case atStart => exact ⟨0, rfl, rfl, by omega, HP, HB1⟩
  case round =>
   clear HP HB1
   obtain ⟨i, rfl, rfl, hi, HP, HB1⟩ := hrel
   obtain ⟨wa, rfl⟩ := wE wr
   by_cases hlt : i < br
   ·have HC := aH (aFo HV.out (fH HM.out HB1.out))
    go_wp2_with fail
    refine HC.out.mono ?_
    rintro e wz ⟨rfl, rfl⟩
    clear HC
    have hnb : nbN n ≤ 1000 := by have := iM HV.out; unfold nbN; omega
    obtain ⟨wa, rfl⟩ : ∃ z : World, z = wz := ⟨_, rfl⟩
    have HC := aH (jB (nbN n) wa (by omega))
    go_wp2_with fail
    refine HC.out.mono ?_
    rintro e wz ⟨v, rfl, hv, hb⟩
    clear HC
    obtain ⟨vs, hLM⟩ := HP.out
    have hzl : (List.replicate br (List.replicate (nbN n) (0 : Rat))).length = br := by simp
    have hfl := lM (k := i) ([] : List Rat) hzl hi
    have h1 := hLM.call hb
    have hap := hLM.newer (u := v) (fun g hg => (hv.lt hg).1)
    obtain ⟨g3, o3, cap, B3, c3, e3, -, -, -, hcell, hfz, -⟩ := h1.at_ (i := i) (by rw [hfl]; exact hlt)
    obtain ⟨rfl, rfl⟩ := kT e3
    clear e3
    have h2 := h1.put (i := i) hfl hlt (hv.less HB1.out.size) (fun j u' g' _ => hap j u' g')
    rw [lN _ hzl hlt (by simp [hlt]), Nat.zero_add] at h2
    rw [Nat.zero_add] at hcell hfz
    have HN := aH (show ∃ vs, LM (wz.setCell ⟨w2.heap.size, i, none⟩ v) w2.heap.size (.slice (some ⟨w2.heap.size, 0, none⟩) br br) vs (cA (List.replicate br (List.replicate (nbN n) 0)) [] (i + 1) br) from ⟨_, h2.1⟩)
    have HB2 := aH ((HB1.out.trans (hb.mono HB1.out.size)).setCell (p := ⟨w2.heap.size, i, none⟩) lR v)
    obtain ⟨Av, cv, rfl⟩ := hv.val
    generalize (List.replicate (nbN n) (0 : Rat)).length = lx at *
    generalize ((cA (List.replicate br (List.replicate (nbN n) (0 : Rat))) [] i br).getD i []).length = ln at *
    clear h1 h2 hap hLM HP HB1 hb hv hfl hzl hnb
    go_wp2
    go_roundg (br - (i + 1))
    case measure => omega
    case rel => exact ⟨i + 1, rfl, by go_num, by omega, HN, HB2⟩
   ·have hib : i = br := by omega
    subst hib
    rw [lL _ (by simp)] at HP
    have HP0 : Hid (∃ vs, LM wa w2.heap.size (.slice (some ⟨w2.heap.size, 0, none⟩) i i) vs (lC n 0)) := by rw [lC, HBR.out]; exact HP
    clear HP
    have hMS := fH HM.out HB1.out
    obtain ⟨rs, qs, iv, vs0, hS, _⟩ := HM.out
    have HS := aH hS
    clear hS hMS
    obtain ⟨A4, k4, e4, hr4⟩ := HS.out.ints (j := 4) (by decide)
    change rs 4 = .slice A4 (aI n).length k4 at e4
    have c4 : w2.cell? ⟨g, 6, none⟩ = some (.slice A4 (aI n).length k4) := by rw [← e4]; exact HS.out.cellI (j := 4) (by decide)
    have hnf := aFi HV.out
    unfold nfN at hnf
    have HR4 := aH hr4
    clear e4 hr4
    have c4 := aB c4 HB1.out
    obtain ⟨nf, hnfe⟩ : ∃ q, q = (aI n).length := ⟨_, rfl⟩
    rw [← hnfe] at c4 hnf
    have HNF := aH hnfe
    clear hnfe
    go_wp2
    clear c4
    go_loopg [41] (nf - 0) (fun q v wr => ∃ j : Nat, q = nf - j ∧ v = I j ∧ j ≤ nf ∧ Hid (∃ vs, LM wr w2.heap.size (.slice (some ⟨w2.heap.size, 0, none⟩) i i) vs (lC n j)) ∧ Hid (Below w2.heap.size w2 wr))
    case atStart => exact ⟨0, rfl, rfl, by omega, HP0, HB1⟩
    case round =>
     clear HP0 HB1
     obtain ⟨j, rfl, rfl, hj, HP, HB1⟩ := hrel
     obtain ⟨wb, rfl⟩ := wE wr
     by_cases hlt : j < nf
     ·obtain ⟨b4, o4, rfl, _, h4⟩ := (HR4.out.below HB1.out).int_at (k := j) (by show j < (aI n).length; rw [← HNF.out]; exact hlt)
      change _ = some (I ((aI n).getD j 0)) at h4
      obtain ⟨hj0, hj1⟩ := uG (n := n) _ (bK (l := aI n) (k := j) (by rw [← HNF.out]; exact hlt))
      have HX := aH (show lC n (j + 1) = rW (lC n j) ((aI n).getD j 0).toNat (grN n ((aI n).getD j 0).toNat (vH n ((aI n).getD j 0).toNat)) n.branches.length from rfl)
      obtain ⟨b, hbb⟩ : ∃ b : Nat, (aI n).getD j 0 = b := Int.eq_ofNat_of_zero_le hj0
      rw [hbb] at hj0 hj1 h4 HX
      rw [Int.toNat_natCast, HBR.out] at HX
      clear hbb
      have hbn : b < nbN n := by omega
      go_upto_region 14 with (fail)
      have HSB := aH (HS.out.call HB1.out)
      obtain ⟨b1, o1, k1, e1, _, c1⟩ := HSB.out.intAt (j := 1) (by decide) (k := b) hbn
      change rs 1 = .slice (some ⟨b1, o1, none⟩) (nbN n) k1 at e1
      have d1 : wb.cell? ⟨g, 1, none⟩ = some (.slice (some ⟨b1, o1, none⟩) (nbN n) k1) := by rw [← e1]; exact HSB.out.cellI (j := 1) (by decide)
      change _ = some (I ((aA n).getD b 0)) at c1
      obtain ⟨A1, n1, hr1⟩ : ∃ A1 n1, Hid (A1 = (some ⟨b1, o1, none⟩ : Option Addr)) ∧ Hid (n1 = nbN n) := ⟨_, _, aH rfl, aH rfl⟩
      clear hr1
      obtain ⟨A1, k9, e9, hr9⟩ := HSB.out.ints (j := 1) (by decide)
      have e8 := aLg (e1.symm.trans e9)
      subst e8
      change Reads wb wb.heap.size 1 (some ⟨b1, o1, none⟩) (nbN n) ((aA n).map I) at hr9
      clear e1 e9
      have hnb : nbN n ≤ 1000 := by have := iM HV.out; unfold nbN; omega
      have hfi := aIo (zs := aA n) (x := (aA n).getD b 0) (bK hbn)
      obtain ⟨f, hf⟩ : ∃ f : Nat, Lib.idxOf (aA n) ((aA n).getD b 0) = f := Int.eq_ofNat_of_zero_le hfi.1
      have HFN := aH (show vH n b = f by rw [vH, hf, Int.toNat_natCast])
      have hfn : f < nbN n := by have := hfi.2.1; unfold nbN; omega
      generalize (aA n).getD b 0 = vb at *
      have HF0 := aH hf
      clear hf
      have hd := aW wb
      replace HB1 := bT HB1 hd
      have HR9 := aH ((hr9.below hd).more hd.size)
      have HD1 := aH (aB d1 hd)
      have HCB := aH (aB c1 hd)
      clear hfi hr9 d1 c1 HSB
      obtain ⟨vs, hLM⟩ := HP.out
      have HL := aH (hLM.call hd)
      clear hLM HP hd
      refine aF (fun w' => w'.cell? ⟨g, 1, none⟩ = some (.slice (some ⟨b1, o1, none⟩) (nbN n) k1) ∧ w'.cell? ⟨b1, o1 + b, none⟩ = some (I vb)) 14 (by kernel_rfl) ?_
      generalize wb.drew = wc at *
      refine aZ 0 (.pointer (some ⟨g, 0, none⟩)) rfl ⟨HD1.out, HCB.out⟩ ?_
      refine aZ 1 (.pointer (some ⟨g, 0, none⟩)) rfl ⟨HD1.out, HCB.out⟩ ?_
      refine aZ 2 (.pointer (some ⟨g, 0, none⟩)) rfl ⟨HD1.out, HCB.out⟩ ?_
      refine aZ 3 (.pointer (some ⟨g, 1, none⟩)) rfl ⟨HD1.out, HCB.out⟩ ?_
      refine aZ 4 (.slice (some ⟨b1, o1, none⟩) (nbN n) k1) rfl ⟨HD1.out, HCB.out⟩ ?_
      refine aZ 5 (.pointer (some ⟨g, 0, none⟩)) rfl ⟨HD1.out, HCB.out⟩ ?_
      refine aZ 6 (.pointer (some ⟨g, 0, none⟩)) rfl ⟨HD1.out, HCB.out⟩ ?_
      refine aZ 7 (.pointer (some ⟨g, 0, none⟩)) rfl ⟨HD1.out, HCB.out⟩ ?_
      refine aZ 8 (.pointer (some ⟨g, 1, none⟩)) rfl ⟨HD1.out, HCB.out⟩ ?_
      refine aZ 9 (.slice (some ⟨b1, o1, none⟩) (nbN n) k1) rfl ⟨HD1.out, HCB.out⟩ ?_
      refine aZ 10 (I b) rfl ⟨HD1.out, HCB.out⟩ ?_
      refine aZ 11 (.pointer (some ⟨b1, o1 + b, none⟩)) rfl ⟨HD1.out, HCB.out⟩ ?_
      refine aZ 12 (I vb) rfl ⟨HD1.out, HCB.out⟩ ?_
      refine on1 13 fun K hK => ?_
      go_simp
      go_at_call 65
      refine (vQ (aA n) (nbN n) _ k1 _ wc _ HR9.out (by omega)).mono ?_
      rintro e w' ⟨rfl, rfl⟩
      refine hK.out _ _ (fun _ => ⟨HD1.out, HCB.out⟩) ?_
      clear hK K
      refine on1 14 fun K hK => ?_
      go_simp
      refine hK.out _ _ (fun h => absurd h (by decide)) ?_
      clear hK K
      refine aE (by kernel_rfl) ?_ _
      rw [HF0.out]
      clear HF0 HD1 HCB HR9
      have HC := aH (vG HV.out (fH HM.out HB1.out) (u := b) (v := f) hbn hfn)
      go_wp2_with fail
      refine HC.out.mono ?_
      rintro e wz ⟨v5, rfl, hr5, hb⟩
      clear HC
      have hap := HL.out.newer (u := v5) (fun g hg => (hr5.lt hg).1)
      have HAP := aH hap
      replace HL := aH (HL.out.call hb)
      replace HB1 := bT HB1 hb
      have hgl := lQ n b f
      rw [HBR.out] at hgl
      rw [HFN.out] at HX
      clear hap hb HFN
      generalize w'.heap.size = wk at *
      obtain ⟨gr, hgr⟩ : ∃ q, q = grN n b f := ⟨_, rfl⟩
      rw [← hgr] at hr5 hgl HX
      clear hgr
      have HR5 := aH hr5
      obtain ⟨A5, c5, rfl⟩ := hr5.val
      rw [hgl] at HR5 ⊢
      have HGL := aH hgl
      clear hr5 hgl
      have HP := aH (show LM wz _ _ vs (rW (lC n j) b gr 0) from HL.out)
      clear HL
      have HRC := aH (fun q => oK (oL n j) b gr q)
      go_wp2
      go_loopg [64] (i - 0) (fun q v wr => ∃ k : Nat, q = i - k ∧ v = I k ∧ k ≤ i ∧ Hid (LM wr w2.heap.size (.slice (some ⟨w2.heap.size, 0, none⟩) i i) vs (rW (lC n j) b gr k)) ∧ Hid (RRow wr wk (.slice A5 i c5) gr) ∧ Hid (Below w2.heap.size w2 wr))
      case atStart => exact ⟨0, rfl, rfl, by omega, HP, HR5, HB1⟩
      case round =>
       clear HP HR5 HB1
       obtain ⟨k, rfl, rfl, hk, HP, HR5, HB1⟩ := hrel
       obtain ⟨wd, rfl⟩ := wE wr
       by_cases hkl : k < i
       ·obtain ⟨q, hq⟩ : ∃ q, gr[k]? = some q := ⟨_, gE (by rw [HGL.out]; exact hkl)⟩
        obtain ⟨b2, o2, nb, B1, l1, c1, B2, l2, c2, rfl, _, hC, hrt⟩ := HR5.out.rv.form hkl q hq
        have HQ := aH (show gr.getD k 0 = q by rw [gD, hq]; rfl)
        have hb1 := aM wd (.cells #[.bool nb, .slice B1 l1 c1, .bool false, .slice B2 l2 c2] aG)
        have hb2 := aW (wd.alloc (.cells #[.bool nb, .slice B1 l1 c1, .bool false, .slice B2 l2 c2] aG))
        have HBox := aH ((gY wd (.bool nb) (.slice B1 l1 c1) (.bool false) (.slice B2 l2 c2)).1.below hb2)
        have HRT := aH ((hrt.ext hb1).ext hb2)
        have HB2 := aH ((HB1.out.trans (hb1.mono HB1.out.size)).trans (hb2.mono (HB1.out.trans (hb1.mono HB1.out.size)).size))
        have HR6 := aH ((HR5.out.call hb1).call hb2)
        have HL1 := aH ((HP.out.call hb1).call hb2)
        have hRC := HRC.out k
        rw [HBR.out] at hRC
        have hrl := hRC.rowlen hkl
        obtain ⟨b5, o5, c9, nb5, X1, y1, z1, X2, y2, z2, hu, hcell, hC5, hrt5, hfz5, hg5, hg6, hb5, hb6, hne5⟩ := HL1.out.elem hRC.len hkl (k := b) (by rw [hrl]; exact hbn)
        rw [hrl, Nat.zero_add] at hcell
        rw [hrl] at hu
        have q0 := hC.c0
        have q1 := hC.c1
        have q2 := hC.c2
        have q3 := hC.c3
        have HC0 := aH hcell
        have HC5 := aH hC5
        have HFZ := aH hfz5
        have HU := aH hu
        have HRC2 := aH hRC.len
        clear hcell hC5 hfz5 hu hRC hrl hrt5 hC hrt hq hb1 hb2 HP HB1 HR5
        unfold aG at *
        go_upto_region 18 with (fail)
        clear q0 q1 q2 q3
        generalize hbx : wd.heap.size = bx at *
        refine aF (fun w' => w'.cell? ⟨w2.heap.size, k, none⟩ = some (.slice (some ⟨b5, o5, none⟩) (nbN n) c9) ∧ w'.cell? ⟨bx, 0, none⟩ = some (.bool nb) ∧ w'.cell? ⟨bx, 1, none⟩ = some (.slice B1 l1 c1) ∧ w'.cell? ⟨bx, 2, none⟩ = some (.bool false) ∧ w'.cell? ⟨bx, 3, none⟩ = some (.slice B2 l2 c2)) 7 (by kernel_rfl) ?_
        generalize (wd.alloc (Obj.cells #[Value.bool nb, Value.slice B1 l1 c1, Value.bool false, Value.slice B2 l2 c2] 122)).drew = WX at *
        refine tkS ⟨HC0.out, HBox.out.c0, HBox.out.c1, HBox.out.c2, HBox.out.c3⟩ fun hSS => ?_
        refine aZ 0 (.slice (some ⟨w2.heap.size, 0, none⟩) i i) rfl hSS ?_
        refine aZ 1 (I k) rfl hSS ?_
        refine aZ 2 (.pointer (some ⟨w2.heap.size, k, none⟩)) rfl hSS ?_
        refine aZ 3 (.slice (some ⟨b5, o5, none⟩) (nbN n) c9) rfl hSS ?_
        refine aZ 4 (I b) rfl hSS ?_
        refine aZ 5 (.agg #[.bool nb, .slice B1 l1 c1, .bool false, .slice B2 l2 c2]) rfl hSS ?_
        refine on1 6 fun K hK => ?_
        go_simp
        refine hK.out _ _ (fun _ => ⟨HC0.out, HBox.out.c0, HBox.out.c1, HBox.out.c2, HBox.out.c3⟩) ?_
        clear hK K
        obtain ⟨hput, hkw⟩ := HL1.out.putEl HRC2.out hkl HU.out hbn HRT.out
        have hX : (rW (lC n j) b gr k).set k (((rW (lC n j) b gr k).getD k []).set b q) = rW (lC n j) b gr (k + 1) := by rw [rW, HQ.out]
        rw [hX] at hput
        have HPN := aH hput
        have HRN := aH (show RRow (put4 WX b5 (o5 + b * 4) (.bool nb) (.slice B1 l1 c1) (.bool false) (.slice B2 l2 c2)) wk _ gr from HR6.out.keep hkw fun g9 hg9 => cX WX _ _ _ _ _ fun e => HAP.out k _ g9 HU.out hg9 (by rw [e]; rfl))
        have HBN := aH (cG (o := o5 + b * 4) HB2.out hb5 (.bool nb) (.slice B1 l1 c1) (.bool false) (.slice B2 l2 c2))
        unfold put4 at HPN HRN HBN
        have z0 := HC5.out.c0
        have y0 := HFZ.out (o5 + b * 4)
        have z1 := HC5.out.c1
        have y1 := HFZ.out (o5 + b * 4 + 1)
        have z2 := HC5.out.c2
        have y2 := HFZ.out (o5 + b * 4 + 2)
        have z3 := HC5.out.c3
        have y3 := HFZ.out (o5 + b * 4 + 3)
        clear hput hkw hX HBox HRT HB2 HR6 HL1 HC0 HC5 HFZ HU HRC2 HQ
        refine on1 7 fun K hK => ?_
        go_simp
        refine hK.out _ _ (fun h => absurd h (by decide)) ?_
        clear hK K
        clear z0 z1 z2 z3 y0 y1 y2 y3
        refine aE (by kernel_rfl) ?_ _
        go_wp2
        go_roundg (i - (k + 1))
        case measure => omega
        case rel => exact ⟨k + 1, rfl, by go_num, by omega, HPN, HRN, HBN⟩
       ·have hki : k = i := by omega
        subst hki
        have HN := aH (show ∃ vs, LM wd w2.heap.size (.slice (some ⟨w2.heap.size, 0, none⟩) k k) vs (lC n (j + 1)) from ⟨vs, by rw [HX.out]; exact HP.out⟩)
        clear HP HR5 HX HRC HAP HGL
        go_wp2
        go_roundg (nf - (j + 1))
        case measure => omega
        case rel => exact ⟨j + 1, rfl, by go_num, by omega, HN, HB1⟩
     ·have hjn : j = nf := by omega
      subst hjn
      obtain ⟨vs, hLM⟩ := HP.out
      have hE : lC n j = aDy n := by rw [aDy, nfN, HNF.out]
      rw [hE] at hLM
      have hrect := oL n j
      rw [hE, HBR.out] at hrect
      have hnb : nbN n ≤ 1000 := by have := iM HV.out; unfold nbN; omega
      have HTW := aH (bZ (bZ HTB.out HB.out) HB1.out)
      have hwz := HB.out.size
      replace HB := aH (HB.out.trans (HB1.out.mono hwz))
      have hHC := aDw (aDy n) i _ i wb hLM.rm (by omega) (fun r hr => by rw [hrect.row r hr]; omega) HTW.out
      have HC := aH hHC
      clear hHC hrect hE HP HTW
      have HQ := aH (show zN n = txM (aDy n) by rw [zN, if_neg (fun c => c HC0.out)])
      clear hLM
      go_wp2_with fail
      refine HC.out.mono ?_
      rintro e wz ⟨A, m0, c0, mm, rfl, h1, h2, h3, hb⟩
      clear HC
      have HEND := aH (show RetMT w (zN n) (.returned (.tuple #[.slice A m0 c0, I (txM (aDy n)).2])) wz from ⟨A, m0, c0, mm, by rw [HQ.out], h1, by rw [HQ.out]; exact h2, h3, HB.out.trans (hb.mono HB.out.size)⟩)
      clear h1 h2 h3 hb
      go_wp2
      go_ret2
      exact HEND.out
 ·have tc0 : (aV n != 0) = true := bne_iff_ne.2 hc
  have HZ := aH (show zN n = ([], aV n) by rw [zN, if_pos hc])
  go_wp2
  go_ret2
  exact RetMT.none_ HZ.out HB.out
theorem aIq {n : NetD} (h : VNet n) : NetBy n := by
 have h1 := h.hn
 have h2 := h.hw
 have h3 := h.hb
 have h4 := h.hg
 have h5 := h.hl
 have h6 := h.hs
 exact ⟨by omega, by omega, by omega, by omega, by omega, by omega⟩
def lnQ (n : NetD) (k : Nat) : List Rat := (grN (dO n k) ((bU n).getD k 0).toNat ((toL n).getD k 0).toNat).take k ++ ((-1 : Int) : Rat) :: (grN (dO n k) ((bU n).getD k 0).toNat ((toL n).getD k 0).toNat).drop k
def iJ (n : NetD) (k : Int) : List Rat × Int :=
 if aV n ≠ 0 then ([], aV n) else if k < 0 ∨ (n.branches.length : Int) ≤ k then ([], 4)
 else if at_ (aA (dO n k.toNat)) ((bU n).getD k.toNat 0) ≠ at_ (aA (dO n k.toNat)) ((toL n).getD k.toNat 0) then ([], 15)
 else if (lnQ n k.toNat).all cU = true then (lnQ n k.toNat, 0) else ([], 2)
theorem pU {n : NetD} {k : Nat} (hk : k < n.branches.length) : (dO n k).branches.length + 1 = n.branches.length := by
 show (n.branches.eraseIdx k).length + 1 = _
 rw [List.length_eraseIdx_of_lt hk]
 omega
theorem aBo {n : NetD} {k : Nat} (hk : k < n.branches.length) : (lnQ n k).length = n.branches.length := by
 have := pU hk
 rw [lnQ, List.length_append, List.length_cons, List.length_take, List.length_drop, lQ]
 omega
theorem vI {n : NetD} {k : Nat} (h : VNet (dO n k)) {x : Int} (hx : x ∈ aC n) : 0 ≤ x ∧ x < nbN (dO n k) := yG h x hx
theorem aBp {n : NetD} (h : VNet n) {k : Nat} (hk : k < n.branches.length) : (bU n).getD k 0 ∈ aC n ∧ (toL n).getD k 0 ∈ aC n := by
 have hm : ∀ x ∈ n.nodes, aR n x ∈ aC n := fun x hx => by
  have := eK hx
  rw [aR, at_]
  exact bK (by rw [bS h]; omega)
 obtain ⟨h1, h2, -, -⟩ := h.br _ (List.getElem_mem hk)
 constructor
 ·simpa [bU, gD, hk] using hm _ h1
 ·simpa [toL, gD, hk] using hm _ h2
theorem xV (n : NetD) (v : NetV) (k : Int) (w : World) (hN : Net w n v) (htab : Tab w) : Calls Tryz.prog 20 #[v.val n, I k] w (tS w (iJ n k)) := by
 have hz := aM w (Obj.cells (v.parts n) 29)
 have HN := aH (hN.below hz)
 have HG := aH (Blk.new w 29 (v.parts n))
 have HB := aH hz
 have HTB := aH htab
 clear hz hN htab
 obtain ⟨na, nc, sa, sc, bra, brc, ga, gc, la, lc, ta, tc⟩ := v
 unfold NetV.val NetV.parts at *
 simp only at HG HB HN ⊢
 go_enter Tryz.func20, Tryz.ntmps20
 go_upto_region 1 with (fail)
 generalize w.alloc (Obj.cells #[.slice na n.nodes.length nc, .slice sa n.switches.length sc, .slice bra n.branches.length brc, .slice ga n.gens.length gc, .slice la n.loads.length lc, .slice ta n.stores.length tc] 29) = w0 at *
 have x0 := HG.out.cell 0
 have x1 := HG.out.cell 1
 have x2 := HG.out.cell 2
 have x3 := HG.out.cell 3
 have x4 := HG.out.cell 4
 have x5 := HG.out.cell 5
 have HC := aH (gI n _ w0 HN.out)
 unfold NetV.val NetV.parts at HC
 simp only at HC
 go_wp2_with fail
 refine HC.out.mono ?_
 rintro e w1 ⟨rfl, hb⟩
 clear HC
 clear x0 x1 x2 x3 x4 x5
 have hbs := HB.out.size
 replace HB := aH (HB.out.trans (hb.mono hbs))
 clear hbs
 replace HN := aH (HN.out.below hb)
 replace HG := bL HG hb
 clear hb
 by_cases hc : aV n = 0
 ·have HV := aH (sE hc)
  have HC0 := aH hc
  rw [hc]
  clear hc
  have x2 := HG.out.cell 2
  by_cases hk0 : k < 0
  ·have t0 : decide (k < 0) = true := decide_eq_true hk0
   have HZ := aH (show iJ n k = ([], 4) by rw [iJ, if_neg (fun c => c HC0.out), if_pos (.inl hk0)])
   go_wp2
   go_ret2
   exact eS HZ.out (by decide) HB.out
  ·have t0 : decide (k < 0) = false := decide_eq_false hk0
   by_cases hkl : (n.branches.length : Int) ≤ k
   ·have t1 : decide ((n.branches.length : Int) ≤ k) = true := decide_eq_true hkl
    have HZ := aH (show iJ n k = ([], 4) by rw [iJ, if_neg (fun c => c HC0.out), if_pos (.inr hkl)])
    go_wp2
    go_ret2
    exact eS HZ.out (by decide) HB.out
   ·have t1 : decide ((n.branches.length : Int) ≤ k) = false := decide_eq_false hkl
    obtain ⟨k, rfl⟩ : ∃ j : Nat, k = j := Int.eq_ofNat_of_zero_le (by omega)
    have hk : k < n.branches.length := by omega
    go_upto_region 6 with (fail)
    clear x2 t0 t1 hk0
    have hbl := HV.out.hb
    have HV2 := aH (sE (oM HC0.out k))
    have hb := aW w1
    have hbs := HB.out.size
    replace HB := aH (HB.out.trans (hb.mono hbs))
    clear hbs
    replace HN := aH (HN.out.below hb)
    replace HG := bL HG hb
    clear hb
    refine aF (fun w' => w'.cell? ⟨w.heap.size, 0, none⟩ = some (.slice na n.nodes.length nc) ∧ w'.cell? ⟨w.heap.size, 1, none⟩ = some (.slice sa n.switches.length sc) ∧ w'.cell? ⟨w.heap.size, 2, none⟩ = some (.slice bra n.branches.length brc) ∧ w'.cell? ⟨w.heap.size, 3, none⟩ = some (.slice ga n.gens.length gc) ∧ w'.cell? ⟨w.heap.size, 4, none⟩ = some (.slice la n.loads.length lc) ∧ w'.cell? ⟨w.heap.size, 5, none⟩ = some (.slice ta n.stores.length tc)) 7 (by kernel_rfl) ?_
    generalize w1.drew = w2 at *
    refine tkS ⟨(HG.out.cell 0), (HG.out.cell 1), (HG.out.cell 2), (HG.out.cell 3), (HG.out.cell 4), (HG.out.cell 5)⟩ fun hSS => ?_
    refine aZ 0 (.agg #[.slice na n.nodes.length nc, .slice sa n.switches.length sc, .slice bra n.branches.length brc, .slice ga n.gens.length gc, .slice la n.loads.length lc, .slice ta n.stores.length tc]) rfl hSS ?_
    refine aZ 2 (.agg #[.slice na n.nodes.length nc, .slice sa n.switches.length sc, .slice bra n.branches.length brc, .slice ga n.gens.length gc, .slice la n.loads.length lc, .slice ta n.stores.length tc]) rfl hSS ?_
    refine aZ 3 (I k) rfl hSS ?_
    have HC := aH (nE n _ w2 HN.out.net HV.out)
    unfold NetV.val NetV.parts at HC
    simp only at HC
    refine on1 1 fun K hK => ?_
    go_simp
    go_at_call 59
    refine HC.out.mono ?_
    rintro e w3 ⟨base1, g1, rfl, hbs, hM1, hb⟩
    clear HC
    have hbs := HB.out.size
    replace HB := aH (HB.out.trans (hb.mono hbs))
    clear hbs
    replace HN := aH (HN.out.below hb)
    replace HG := bL HG hb
    clear hb
    have HM1 := aH hM1
    clear hM1 hbs
    refine hK.out _ _ (fun _ => ⟨(HG.out.cell 0), (HG.out.cell 1), (HG.out.cell 2), (HG.out.cell 3), (HG.out.cell 4), (HG.out.cell 5)⟩) ?_
    clear hK K
    have HC := aH (aIp n _ k w3 HN.out.net (aIq HV.out) hk (by omega))
    unfold NetV.val NetV.parts at HC
    simp only at HC
    refine on1 4 fun K hK => ?_
    go_simp
    go_at_call 60
    refine HC.out.mono ?_
    rintro e w4 ⟨v2, rfl, hN2, hb⟩
    clear HC
    replace HM1 := aH (fH HM1.out hb)
    have hbs := HB.out.size
    replace HB := aH (HB.out.trans (hb.mono hbs))
    clear hbs
    replace HN := aH (HN.out.below hb)
    replace HG := bL HG hb
    clear hb
    have HN2 := aH hN2
    clear hN2
    refine hK.out _ _ (fun _ => ⟨(HG.out.cell 0), (HG.out.cell 1), (HG.out.cell 2), (HG.out.cell 3), (HG.out.cell 4), (HG.out.cell 5)⟩) ?_
    clear hK K
    have HC := aH (nE (dO n k) v2 w4 HN2.out HV2.out)
    refine on1 5 fun K hK => ?_
    go_simp
    go_at_call 59
    refine HC.out.mono ?_
    rintro e w5 ⟨base2, g2, rfl, hbs, hM2, hb⟩
    clear HC
    replace HM1 := aH (fH HM1.out hb)
    have hbs := HB.out.size
    replace HB := aH (HB.out.trans (hb.mono hbs))
    clear hbs
    replace HN := aH (HN.out.below hb)
    replace HG := bL HG hb
    clear hb
    have HM2 := aH hM2
    clear hM2 hbs HN2
    refine hK.out _ _ (fun _ => ⟨(HG.out.cell 0), (HG.out.cell 1), (HG.out.cell 2), (HG.out.cell 3), (HG.out.cell 4), (HG.out.cell 5)⟩) ?_
    clear hK K
    refine on1 6 fun K hK => ?_
    go_simp
    refine hK.out _ _ (fun _ => ⟨(HG.out.cell 0), (HG.out.cell 1), (HG.out.cell 2), (HG.out.cell 3), (HG.out.cell 4), (HG.out.cell 5)⟩) ?_
    clear hK K
    refine on1 7 fun K hK => ?_
    go_simp
    refine hK.out _ _ (fun h => absurd h (by decide)) ?_
    clear hK K
    refine aE (by kernel_rfl) ?_ _
    clear HN
    go_upto_region 7 with (fail)
    obtain ⟨rs, qs, iv, vs, hS, _⟩ := HM1.out
    have HS := aH hS
    clear hS
    obtain ⟨b0, o0, k0, e0, _, ca⟩ := HS.out.intAt (j := 2) (by decide) (k := k) (by rw [show (isO (aC n) (aA n) (bU n) (toL n) (aI n) 2).length = n.branches.length by simp [isO, bU]]; exact hk)
    obtain ⟨b1, o1, k1, e1, _, cb⟩ := HS.out.intAt (j := 3) (by decide) (k := k) (by rw [show (isO (aC n) (aA n) (bU n) (toL n) (aI n) 3).length = n.branches.length by simp [isO, toL]]; exact hk)
    rw [show (isO (aC n) (aA n) (bU n) (toL n) (aI n) 2).length = n.branches.length by simp [isO, bU]] at e0
    rw [show (isO (aC n) (aA n) (bU n) (toL n) (aI n) 3).length = n.branches.length by simp [isO, toL]] at e1
    have d0 : w5.cell? ⟨g1, 2, none⟩ = some (.slice (some ⟨b0, o0, none⟩) n.branches.length k0) := by rw [← e0]; exact HS.out.cellI (j := 2) (by decide)
    have d1 : w5.cell? ⟨g1, 3, none⟩ = some (.slice (some ⟨b1, o1, none⟩) n.branches.length k1) := by rw [← e1]; exact HS.out.cellI (j := 3) (by decide)
    change _ = some (I ((bU n).getD k 0)) at ca
    change _ = some (I ((toL n).getD k 0)) at cb
    have hmm := aBp HV.out hk
    have hba := vI HV2.out hmm.1
    have hbb := vI HV2.out hmm.2
    clear e0 e1 hmm HS
    obtain ⟨u, hu⟩ : ∃ u : Nat, (bU n).getD k 0 = u := Int.eq_ofNat_of_zero_le hba.1
    obtain ⟨x, hx⟩ : ∃ x : Nat, (toL n).getD k 0 = x := Int.eq_ofNat_of_zero_le hbb.1
    rw [hu] at ca hba
    rw [hx] at cb hbb
    have hki : (k : Int) < (n.branches.length : Int) := by omega
    go_quiet (fail)
    go_upto_region 8 with (fail)
    have hb := eP w5 nq
    replace HM1 := aH (fH HM1.out hb)
    replace HM2 := aH (fH HM2.out hb)
    have hbs := HB.out.size
    replace HB := aH (HB.out.trans (hb.mono hbs))
    clear hbs
    replace HG := bL HG hb
    clear hb
    clear ca cb d0 d1
    generalize w5.drewN nq = w9 at *
    obtain ⟨rs, qs, iv, vs, hS, _⟩ := HM2.out
    have HS := aH hS
    clear hS
    obtain ⟨b0, o0, k0, e0, _, ca⟩ := HS.out.intAt (j := 1) (by decide) (k := u) (by show u < (aA (dO n k)).length; have := hba.2; unfold nbN at this; omega)
    obtain ⟨b1, o1, k1, e1, _, cb⟩ := HS.out.intAt (j := 1) (by decide) (k := x) (by show x < (aA (dO n k)).length; have := hbb.2; unfold nbN at this; omega)
    have e2 := e0.symm.trans e1
    injection e2 with e2
    injection e2 with e2
    injection e2 with e2 e3 _
    subst e2 e3
    have d0 : w9.cell? ⟨g2, 1, none⟩ = some (.slice (some ⟨b0, o0, none⟩) (nbN (dO n k)) k0) := by
     refine Eq.trans (HS.out.cellI (j := 1) (by decide)) ?_
     rw [e0]
     rfl
    change _ = some (I ((aA (dO n k)).getD u 0)) at ca
    change _ = some (I ((aA (dO n k)).getD x 0)) at cb
    have hul : (u : Int) < (nbN (dO n k) : Int) := hba.2
    have hxl : (x : Int) < (nbN (dO n k) : Int) := hbb.2
    clear HS e0 e1 hba hbb
    have hia2 : at_ (aA (dO n k)) ((bU n).getD k 0) = (aA (dO n k)).getD u 0 := by rw [hu, at_, Int.toNat_natCast]
    have hib2 : at_ (aA (dO n k)) ((toL n).getD k 0) = (aA (dO n k)).getD x 0 := by rw [hx, at_, Int.toNat_natCast]
    generalize (aA (dO n k)).getD u 0 = iu at *
    generalize (aA (dO n k)).getD x 0 = ix at *
    by_cases hi : iu = ix
    ·have te : (iu != ix) = false := by rw [hi]; simp
     have HQ := aH (show iJ n k = if (lnQ n k).all cU = true then (lnQ n k, 0) else ([], 2) by
     rw [iJ, if_neg (fun c => c HC0.out), if_neg (by omega), Int.toNat_natCast, if_neg (fun c => c (by rw [hia2, hib2, hi]))])
     have HLN := aH (show lnQ n k = (grN (dO n k) u x).take k ++ ((-1 : Int) : Rat) :: (grN (dO n k) u x).drop k by rw [lnQ, hu, hx, Int.toNat_natCast, Int.toNat_natCast])
     clear hi hia2 hib2 hu hx
     go_quiet (fail)
     go_upto_region 10 with (fail)
     have hb := eP w9 nq
     replace HM1 := aH (fH HM1.out hb)
     replace HM2 := aH (fH HM2.out hb)
     have hbs := HB.out.size
     replace HB := aH (HB.out.trans (hb.mono hbs))
     clear hbs
     replace HG := bL HG hb
     clear hb
     clear te ca cb d0
     generalize w9.drewN nq = wb at *
     clear HG HM1
     have hwbb := HB.out.size
     have HC := aH (vG HV2.out HM2.out (u := u) (v := x) (by omega) (by omega))
     go_wp2_with fail
     refine HC.out.mono ?_
     rintro e w6 ⟨v5, rfl, hr5, hb⟩
     clear HC
     have hwb := hb.size
     clear HM2
     have hbs := HB.out.size
     replace HB := aH (HB.out.trans (hb.mono hbs))
     clear hbs
     clear hb
     have HR5 := aH hr5
     clear hr5
     have HC := aH (fM (-1) w6 (by decide) (by decide))
     go_wp2_with fail
     refine HC.out.mono ?_
     rintro e w7 ⟨v6, rfl, hv6, hb⟩
     clear HC
     have hw6 := hb.size
     have hbs := HB.out.size
     replace HB := aH (HB.out.trans (hb.mono hbs))
     clear hbs
     replace HR5 := aH (HR5.out.call hb)
     clear hb
     obtain ⟨nb, A6, l6, c6, B6, m6, d6, rfl⟩ := hv6.bools
     have HV6 := aH hv6
     clear hv6
     have hne : v5.ownBlock ≠ some w7.heap.size := fun e => by
      have := (HR5.out.lt e).2
      omega
     have HNE := aH hne
     clear hne
     have hb := aM w7 (.cells #[.bool nb, .slice A6 l6 c6, .bool false, .slice B6 m6 d6] 122)
     have hx := Blk.new w7 122 #[.bool nb, .slice A6 l6 c6, .bool false, .slice B6 m6 d6]
     have hbs := HB.out.size
     replace HB := aH (HB.out.trans (hb.mono hbs))
     clear hbs
     replace HR5 := aH (HR5.out.call hb)
     replace HV6 := aH (HV6.out.ext hb)
     clear hb
     have HX := aH hx
     clear hx
     have hsz : w7.heap.size < (w7.alloc (.cells #[.bool nb, .slice A6 l6 c6, .bool false, .slice B6 m6 d6] 122)).heap.size := by simp
     have HC := aH (zP wb.heap.size v5 (grN (dO n k) u x) k w7.heap.size _ _ _ _ _ (w7.alloc (.cells #[.bool nb, .slice A6 l6 c6, .bool false, .slice B6 m6 d6] 122)) HR5.out (by rw [lQ]; have := pU hk; omega) HX.out HV6.out HNE.out (by rw [lQ]; have := pU hk; omega) (by omega))
     unfold aG at HC
     go_wp2_with fail
     refine HC.out.mono ?_
     rintro e w8 ⟨v7, rfl, hr7, hb⟩
     clear HC
     replace HB := aH (HB.out.trans (hb.mono hwbb))
     clear hb
     rw [← HLN.out] at hr7
     obtain ⟨A7, c7, rfl⟩ := hr7.val
     have hll := aBo hk
     clear HLN
     generalize lnQ n k = LQ at *
     have hlb : LQ.length ≤ 1000 := by omega
     clear hll
     have HC := aH (kV LQ LQ.length A7 c7 w8 hr7.rv (by omega) (bZ HTB.out HB.out))
     go_wp2_with fail
     refine HC.out.mono ?_
     rintro e w8 ⟨v8, rfl, h1, h2, hb⟩
     clear HC
     have HR := aH (tT ⟨v8, rfl, h1, h2, hb⟩ HB.out)
     rw [← HQ.out] at HR
     clear h1 h2 hb hr7 HQ
     go_wp2
     go_ret2
     exact HR.out
    ·have te : (iu != ix) = true := bne_iff_ne.2 hi
     have HZ := aH (show iJ n k = ([], 15) by rw [iJ, if_neg (fun c => c HC0.out), if_neg (by omega), Int.toNat_natCast, if_pos (by rw [hia2, hib2]; exact hi)])
     clear hia2 hib2 hi
     go_quiet (fail)
     have hb := eP w9 nq
     replace HM1 := aH (fH HM1.out hb)
     replace HM2 := aH (fH HM2.out hb)
     have hbs := HB.out.size
     replace HB := aH (HB.out.trans (hb.mono hbs))
     clear hbs
     replace HG := bL HG hb
     clear hb
     go_wp2
     go_ret2
     exact eS HZ.out (by decide) HB.out
 ·have tc0 : (aV n != 0) = true := bne_iff_ne.2 hc
  have HZ := aH (show iJ n k = ([], aV n) by rw [iJ, if_pos hc])
  go_wp2
  go_ret2
  exact eS HZ.out (hc) HB.out
end Go.Proofs.YtenbglfkdldheaaGreatDoor
