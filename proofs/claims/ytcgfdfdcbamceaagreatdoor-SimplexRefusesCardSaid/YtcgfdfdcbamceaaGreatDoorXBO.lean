/- simplex.start. -/
import Derived.Test.YtcgfdfdcbamceaaGreatDoorXBN
import Derived.Test.YtcgfdfdcbamceaaGreatDoorXBK
namespace Go.Proofs.YtcgfdfdcbamceaaGreatDoor
open Go.RowKit
theorem NApd.sl {w w' : World} {base : Nat} {e : TypeId} {v v' : Value} {xs : List Value} (h : NApd w base e v xs v' w') : ∃ A l c, v' = .slice A l c := by
 obtain ⟨A, c, e⟩ := h.row.val
 exact ⟨A, _, c, e⟩
theorem TB0.off {w w' : World} {base g cv cb m V W b : Nat} {A Ab : Option Addr} {vs : List Value} {tv : Value} {t : TabQ} (h : TB0 w base g A cv vs tv Ab cb m V W t) (F : Far base b w w') {cur : Array Value} (hB : Blk w b ratT cur) (hne : ∀ (i : Nat) (u : Value), vs[i]? = some u → u.ownBlock ≠ some b) : TB0 w' base g A cv vs tv Ab cb m V W t := by
 refine ⟨F.blk_ h.blk (TBx.ne_ty hB h.blk (by decide)), F.lm0 h.lm hB hne, F.nrow h.ba fun e => ?_, h.len, h.row, h.bas, h.hv⟩
 obtain ⟨_, _, cs, hC⟩ := h.ba.blk e
 exact TBx.ne_ty hB hC (by decide) rfl
theorem fit_goal0 (k j : Nat) : FitR 700000 ((goal0 k).getD j 0) := by
 rw [goal0_at]
 split
 ·exact FitR.mono (n := 1) ⟨by unfold Fits; decide, by unfold Fits; decide⟩ (Nat.le_of_ble_eq_true rfl)
 ·exact FitR.mono (n := 1) ⟨by unfold Fits; decide, by unfold Fits; decide⟩ (Nat.le_of_ble_eq_true rfl)
theorem neg_iff {q : Rat} {b : Bool} (h : decide (q < 0) = b) : decide (q.num.sign < 0) = b := by rw [neg_sign]; exact h
set_option maxRecDepth 100000 in
set_option maxHeartbeats 40000000 in
theorem start_any (a : List (List Rat)) (b : List Rat) (m n V : Nat) (A : Option Addr) (ca : Nat) (Ab : Option Addr) (cb : Nat) (w0 : World) (hm : RM w0 A m a) (hr : ∀ r ∈ a, r.length = n) (hb : RV w0 Ab m b) (hm9 : m ≤ 400) (hn9 : n ≤ 400) (hV : V = n + m + 2)
  (fb : ∀ i, FitR 700000 (b.getD i 0)) (f2 : ∀ i k, i < m → FitR 700000 (ent (rows0Q a b) i k)) (f3 : ∀ i k, i ≤ m → FitR 700000 ((aimN ⟨rows0Q a b, [], base0Q m n, n + m + 1⟩ (negPad (goal0 (n + m)) V) i).getD k 0))
  (fp : ∀ r, r < m → ent (rows0Q a b) r (n + m) ≠ 0) (f4 : ∀ i k, i ≤ m → FitR 700000 (tabF (aimQ ⟨rows0Q a b, [], base0Q m n, n + m + 1⟩ (goal0 (n + m))) i k)) (f5 : ∀ i k, i ≤ m → FitR 700000 (tabF (startQ a b n) i k)) (hlt : ∀ i, i < m → (base0Q m n).getD i 0 < V) :
  Calls Tryz.prog 59 #[.slice A m ca, .slice Ab m cb, I n] w0 fun e w' => ∃ g A' cv vs bt ot ct Ab' cb', e = .returned (.pointer (some ⟨g, 0, none⟩)) ∧ w0.heap.size ≤ g ∧ TBx w' w0.heap.size g A' cv vs bt ot ct Ab' cb' m V (n + m + 1) (startQ a b n) ∧ Below w0.heap.size w0 w' := by
 have hal := hm.len
 have hbl := hb.len
 have HM := Lib.hid hm
 have HRL := Lib.hid hr
 have HBV := Lib.hid hb
 have HAL := Lib.hid hal
 have HBL := Lib.hid hbl
 have HFB := Lib.hid fb
 have HF2 := Lib.hid f2
 have HF3 := Lib.hid f3
 have HF4 := Lib.hid f4
 have HF5 := Lib.hid f5
 have HFP := Lib.hid fp
 have HLT := Lib.hid hlt
 have HVV := Lib.hid hV
 have hv1 : V ≤ 802 := by omega
 clear hm hr hb fb f2 f3 f4 f5 fp hlt hal hbl hV
 have HS := Lib.hid (SB.start w0 (n + m + 1))
 have HB := Lib.hid (below_new w0 (.cells #[.slice none 0 0, .slice none 0 0, .slice none 0 0, I ((n + m + 1 : Nat) : Int)] tabT))
 have HAI := Lib.hid app_int
 unfold tabT at HB HS
 rw [show ((n + m + 1 : Nat) : Int) = (n : Int) + m + 1 by omega] at HB HS
 have HW := Lib.hid (show worstN b 0 = none from rfl)
 go_enter Tryz.func59, Tryz.ntmps59
 go_upto_region 3 with (fail)
 generalize w0.alloc (.cells #[.slice none 0 0, .slice none 0 0, .slice none 0 0, I ((n : Int) + m + 1)] 112) = ws at *
 go_wp2
 go_loopg [9, 23] (m - 0) (fun mm wv iv wr => ∃ i : Nat, mm = m - i ∧ wv = I (optI (worstN b i)) ∧ iv = I i ∧ i ≤ m ∧ Hid (∃ v0 vs v2, SB wr w0.heap.size w0.heap.size v0 vs v2 ((rows0Q a b).take i) ((base0Q m n).take i) (n + m + 1)) ∧ Hid (Below w0.heap.size w0 wr))
 case atStart => exact ⟨0, rfl, rfl, rfl, by omega, Lib.hid ⟨_, _, _, HS.out⟩, HB⟩
 case round =>
  clear HS HB
  obtain ⟨i, rfl, rfl, rfl, hi, HS, HB⟩ := hrel
  obtain ⟨v0, vs, v2, hs⟩ := HS.out
  obtain ⟨wa, rfl⟩ : ∃ wa : World, wa = wr := ⟨_, rfl⟩
  replace HS := Lib.hid hs
  clear hs
  by_cases hil : i < m
  ·obtain ⟨x, hx⟩ : ∃ x, a[i]? = some x := ⟨_, List.getElem?_eq_getElem (by rw [HAL.out]; exact hil)⟩
   obtain ⟨ba, oa, B, d, rfl, _, hc, hrx⟩ := (HM.out.below HB.out).at_ hil x hx
   have hxl : x.length = n := HRL.out x (List.mem_of_getElem? hx)
   rw [hxl] at hc hrx
   have HXL := Lib.hid hxl
   have HRX := Lib.hid hrx
   have HTK := Lib.hid (rows0_take (b := b) hx)
   have HTB := Lib.hid (base0_take n hil)
   rw [HAL.out] at HTK
   clear hx hrx hxl
   have HS0 := HS
   go_wp2_with (at_builtin; refine wpList_appN rfl _ _ rfl wa.heap.size (.slice none 0 0) [] rfl (RRow.nil _ _) B n d rfl HRX.out (by rw [List.length_nil]; omega) (Nat.le_refl _) ?_)
   intro v3 W3 hap
   have hb := hap.below (RRow.nil wa wa.heap.size) (Nat.le_refl _)
   have HR3 := Lib.hid hap.row
   have HBW := Lib.hid hb
   have HZ := Lib.hid (zeros_any (m + 2) W3 (by omega))
   clear hap hb hc HRX
   go_wp2_with fail
   refine HZ.out.mono ?_
   rintro e W4 ⟨v4, rfl, hr4, hb⟩
   obtain ⟨A4, c4, rfl⟩ := hr4.val
   rw [List.length_replicate] at hr4 ⊢
   replace HR3 := Lib.hid (HR3.out.call hb)
   replace HBW := Lib.hid (HBW.out.trans (hb.mono HBW.out.size))
   have HR4 := Lib.hid hr4.rv
   clear HZ hr4 hb
   go_wp2_with (at_builtin; refine wpList_appN rfl _ _ rfl wa.heap.size v3 x rfl HR3.out A4 (m + 2) c4 rfl HR4.out (by rw [HXL.out]; omega) HBW.out.size ?_)
   intro v5 W5 hap
   have hb := hap.below HR3.out HBW.out.size
   have HR := Lib.hid hap.row
   replace HBW := Lib.hid (HBW.out.trans hb)
   replace HS := Lib.hid (HS.out.call HBW.out)
   have hle := HB.out.size
   replace HB := Lib.hid (HB.out.trans (HBW.out.mono HB.out.size))
   have HNW := Lib.hid (show ∀ (j : Nat) (u' : Value) (y : Nat), vs[j]? = some u' → v5.ownBlock = some y → u'.ownBlock ≠ some y from HS0.out.lm.newer (u := v5) (fun y hy => (HR.out.lt hy).1))
   clear hap hb HR3 HR4 HS0 HBW
   have hlx : (x ++ List.replicate (m + 2) (0 : Rat)).length = V := by rw [List.length_append, HXL.out, List.length_replicate, HVV.out]; omega
   have hvi : n + i < V := by have := HVV.out; omega
   have hvm : n + m < V := by have := HVV.out; omega
   have hvk : n + m + 1 < V := by have := HVV.out; omega
   obtain ⟨b5, o5, c5, nb, B1, l1, c1, B2, l2, c2, rfl, hE, hb5, hb5l⟩ := HR.out.el (k := n + i) hlx hvi
   have hbb5 : w0.heap.size ≤ b5 := Nat.le_trans hle hb5
   replace HNW := Lib.hid (show ∀ (j : Nat) (u' : Value), vs[j]? = some u' → u'.ownBlock ≠ some b5 from fun j u' h => HNW.out j u' b5 h rfl)
   replace HR := Lib.hid (HR.out.less hle)
   have HHB := Lib.hid hbb5
   clear hb5 hle hbb5 hb5l
   clear hE
   have HC := Lib.hid (rwhole_any (1) W5 (by decide) (by decide))
   go_wp2_with fail
   refine HC.out.mono ?_
   rintro e W6 ⟨u5, rfl, hv, hb⟩
   clear HC
   rw [rat_one_int] at hv
   replace HR := Lib.hid (HR.out.call hb)
   replace HS := Lib.hid (HS.out.call hb)
   replace HB := Lib.hid (HB.out.trans (hb.mono HB.out.size))
   clear hb
   obtain ⟨tb, T1, t1, u3, T2, t2, u4, rfl⟩ := hv.bools
   have EL := Lib.hid (show ∃ nb B1 l1 c1 B2 l2 c2, El W6 b5 (o5 + (n + i) * 4) (.bool nb) (.slice B1 l1 c1) (.bool false) (.slice B2 l2 c2) from by obtain ⟨b6, o6, c6, nb, B1, l1, c1, B2, l2, c2, e6, hE, _, _⟩ := HR.out.el (k := n + i) hlx hvi; injection e6 with e6 _ _; injection e6 with e6; injection e6 with e7 e8 _; subst e7 e8; exact ⟨nb, B1, l1, c1, B2, l2, c2, hE⟩)
   obtain ⟨nb, B1, l1, c1, B2, l2, c2, hE⟩ := EL.out
   replace EL := Lib.hid hE
   clear hE
   obtain ⟨hp, hkw2, hbb⟩ := HR.out.putEl (k := n + i) hvi hv
   have hF := Far.put4 (cs := #[]) HHB.out (o5 + (n + i) * 4) hkw2
   obtain ⟨cur, hBk⟩ := HR.out.blk (g := b5) rfl
   have HSN := Lib.hid (HS.out.off hF hBk HNW.out)
   have HRN := Lib.hid hp
   have HBN := Lib.hid (HB.out.trans hF.below)
   clear hp hkw2 hbb hBk HR HS HB
   unfold put4 at HSN HRN HBN
   have z0 := EL.out.c0
   have y0 := EL.out.f0
   have z1 := EL.out.c1
   have y1 := EL.out.f1
   have z2 := EL.out.c2
   have y2 := EL.out.f2
   have z3 := EL.out.c3
   have y3 := EL.out.f3
   clear EL
   go_upto_region 9 with (fail)
   clear z0 z1 z2 z3 y0 y1 y2 y3
   generalize (((W6.setCell ⟨b5, o5 + (n + i) * 4, none⟩ (.bool tb)).setCell ⟨b5, o5 + (n + i) * 4 + 1, none⟩ (.slice T1 t1 u3)).setCell ⟨b5, o5 + (n + i) * 4 + 2, none⟩ (.bool false)).setCell ⟨b5, o5 + (n + i) * 4 + 3, none⟩ (.slice T2 t2 u4) = W7 at *
   have HR := HRN
   have HS := HSN
   have HB := HBN
   clear HRN HSN HBN
   skip
   have HC := Lib.hid (rwhole_any (-1) W7 (by decide) (by decide))
   go_wp2_with fail
   refine HC.out.mono ?_
   rintro e W8 ⟨u5, rfl, hv, hb⟩
   clear HC
   rw [rat_m1_int] at hv
   replace HR := Lib.hid (HR.out.call hb)
   replace HS := Lib.hid (HS.out.call hb)
   replace HB := Lib.hid (HB.out.trans (hb.mono HB.out.size))
   clear hb
   obtain ⟨tb, T1, t1, u3, T2, t2, u4, rfl⟩ := hv.bools
   have EL := Lib.hid (show ∃ nb B1 l1 c1 B2 l2 c2, El W8 b5 (o5 + (n + m) * 4) (.bool nb) (.slice B1 l1 c1) (.bool false) (.slice B2 l2 c2) from by obtain ⟨b6, o6, c6, nb, B1, l1, c1, B2, l2, c2, e6, hE, _, _⟩ := HR.out.el (k := n + m) (show ((x ++ List.replicate (m + 2) (0 : Rat)).set (n + i) 1).length = V by rw [List.length_set]; exact hlx) hvm; injection e6 with e6 _ _; injection e6 with e6; injection e6 with e7 e8 _; subst e7 e8; exact ⟨nb, B1, l1, c1, B2, l2, c2, hE⟩)
   obtain ⟨nb, B1, l1, c1, B2, l2, c2, hE⟩ := EL.out
   replace EL := Lib.hid hE
   clear hE
   obtain ⟨hp, hkw2, hbb⟩ := HR.out.putEl (k := n + m) hvm hv
   have hF := Far.put4 (cs := #[]) HHB.out (o5 + (n + m) * 4) hkw2
   obtain ⟨cur, hBk⟩ := HR.out.blk (g := b5) rfl
   have HSN := Lib.hid (HS.out.off hF hBk HNW.out)
   have HRN := Lib.hid hp
   have HBN := Lib.hid (HB.out.trans hF.below)
   clear hp hkw2 hbb hBk HR HS HB
   unfold put4 at HSN HRN HBN
   have z0 := EL.out.c0
   have y0 := EL.out.f0
   have z1 := EL.out.c1
   have y1 := EL.out.f1
   have z2 := EL.out.c2
   have y2 := EL.out.f2
   have z3 := EL.out.c3
   have y3 := EL.out.f3
   clear EL
   go_upto_region 10 with (fail)
   clear z0 z1 z2 z3 y0 y1 y2 y3
   generalize (((W8.setCell ⟨b5, o5 + (n + m) * 4, none⟩ (.bool tb)).setCell ⟨b5, o5 + (n + m) * 4 + 1, none⟩ (.slice T1 t1 u3)).setCell ⟨b5, o5 + (n + m) * 4 + 2, none⟩ (.bool false)).setCell ⟨b5, o5 + (n + m) * 4 + 3, none⟩ (.slice T2 t2 u4) = W9 at *
   have HR := HRN
   have HS := HSN
   have HB := HBN
   clear HRN HSN HBN
   skip
   obtain ⟨bq, oq, nb, X1, x1, y1, X2, x2, y2, hAb, hbl, hC, hrt⟩ := (HBV.out.below HB.out).form hil (b.getD i 0) (by rw [List.getD_eq_getElem?_getD, List.getElem?_eq_getElem (by rw [HBL.out]; exact hil)]; rfl)
   subst hAb
   have p0 := hC.c0
   have p1 := hC.c1
   have p2 := hC.c2
   have p3 := hC.c3
   have EL := Lib.hid (show ∃ nb B1 l1 c1 B2 l2 c2, El W9 b5 (o5 + (n + m + 1) * 4) (.bool nb) (.slice B1 l1 c1) (.bool false) (.slice B2 l2 c2) from by obtain ⟨b6, o6, c6, nb, B1, l1, c1, B2, l2, c2, e6, hE, _, _⟩ := HR.out.el (k := n + m + 1) (show (((x ++ List.replicate (m + 2) (0 : Rat)).set (n + i) 1).set (n + m) (-1)).length = V by rw [List.length_set, List.length_set]; exact hlx) hvk; injection e6 with e6 _ _; injection e6 with e6; injection e6 with e7 e8 _; subst e7 e8; exact ⟨nb, B1, l1, c1, B2, l2, c2, hE⟩)
   obtain ⟨nb3, B13, l13, c13, B23, l23, c23, hE⟩ := EL.out
   replace EL := Lib.hid hE
   clear hE
   obtain ⟨hp, hkw2, hbb⟩ := HR.out.putEl (k := n + m + 1) hvk hrt
   have hF := Far.put4 (cs := #[]) HHB.out (o5 + (n + m + 1) * 4) hkw2
   obtain ⟨cur, hBk⟩ := HR.out.blk (g := b5) rfl
   have HSN := Lib.hid (HS.out.off hF hBk HNW.out)
   have HRN := Lib.hid hp
   have HBN := Lib.hid (HB.out.trans hF.below)
   clear hp hkw2 hbb hBk HR HS HB
   unfold put4 at HSN HRN HBN
   have z0 := EL.out.c0
   have y0 := EL.out.f0
   have z1 := EL.out.c1
   have y1 := EL.out.f1
   have z2 := EL.out.c2
   have y2 := EL.out.f2
   have z3 := EL.out.c3
   have y3 := EL.out.f3
   clear EL
   go_upto_region 11 with (fail)
   clear z0 z1 z2 z3 y0 y1 y2 y3
   generalize (((W9.setCell ⟨b5, o5 + (n + m + 1) * 4, none⟩ (.bool nb)).setCell ⟨b5, o5 + (n + m + 1) * 4 + 1, none⟩ (.slice X1 x1 y1)).setCell ⟨b5, o5 + (n + m + 1) * 4 + 2, none⟩ (.bool false)).setCell ⟨b5, o5 + (n + m + 1) * 4 + 3, none⟩ (.slice X2 x2 y2) = W10 at *
   have HR := HRN
   have HS := HSN
   have HB := HBN
   clear HRN HSN HBN
   clear p0 p1 p2 p3 hC hrt hbl
   have HQ := Lib.hid (show RRow W10 w0.heap.size (.slice (some ⟨b5, o5, none⟩) V c5) (startRow x m i (b.getD i 0)) by have h := HR.out; rw [startRow, HXL.out]; exact h)
   clear HR hlx hvi hvm hvk HXL
   have q9 := HS.out.blk.cell 0
   have hz := below_new W10 (.cells #[.slice (some ⟨b5, o5, none⟩) V c5] rowT)
   have HBK := Lib.hid (Blk.new W10 rowT #[.slice (some ⟨b5, o5, none⟩) V c5])
   replace HQ := Lib.hid (HQ.out.call hz)
   replace HS := Lib.hid (HS.out.call hz)
   replace HB := Lib.hid (HB.out.trans (hz.mono HB.out.size))
   clear hz
   have q0 := HS.out.blk.cell 0
   have hvl : vs.length ≤ 1000000 := by rw [HS.out.lm.len, List.length_take]; omega
   skip
   skip
   go_wp2_with (at_builtin; refine wpList_appRow rfl _ _ rfl w0.heap.size v0 vs rfl HS.out.nr W10.heap.size rfl HBK.out hvl HB.out.size ?_)
   intro v7 W11 hap
   obtain ⟨A7, l7, c7, rfl⟩ := hap.sl
   obtain ⟨z0, z1, hs, hb⟩ := HS.out.row1 HQ.out (fun j u y h1 h2 h3 => HNW.out j u h1 (by rw [h3, ← h2]; rfl)) hap HB.out.size (Nat.le_refl _)
   have HSN := Lib.hid hs
   have HBN := Lib.hid (HB.out.trans hb)
   rw [← HTK.out] at HSN
   clear hap hs hb HS HB HQ HBK q0 q9 hvl HTK HNW HHB
   go_upto_region 12 with (fail)
   clear z0 z1
   generalize W11.setCell ⟨w0.heap.size, 0, none⟩ (.slice A7 l7 c7) = W12 at *
   have q9 := HSN.out.blk.cell 2
   have hz := below_new W12 (.cells #[I ((n + i : Nat) : Int)] intT)
   have HX := Lib.hid (one_reads W12 intT (I ((n + i : Nat) : Int)))
   have HS := Lib.hid (HSN.out.call hz)
   have HB := Lib.hid (HBN.out.trans (hz.mono HBN.out.size))
   clear hz HSN HBN
   have q2 := HS.out.blk.cell 2
   have hvl : (ints ((base0Q m n).take i)).length + 1 ≤ 1000000 := by rw [ints_len, List.length_take]; omega
   go_wp2_with (at_builtin; refine wpList_appG rfl _ _ HAI.out rfl w0.heap.size v2 _ rfl HS.out.ba (some ⟨W12.heap.size, 0, none⟩) 1 1 rfl [I ((n + i : Nat) : Int)] HX.out (fun u hu => by rw [List.mem_singleton.1 hu]; exact ⟨noWord_int _, rfl⟩) hvl HB.out.size ?_)
   intro v8 W13 hap
   obtain ⟨A8, l8, c8, rfl⟩ := hap.sl
   obtain ⟨z0, z1, hs, hb⟩ := HS.out.bas1 hap HB.out.size (Nat.le_refl _)
   have HSN := Lib.hid hs
   have HBN := Lib.hid (HB.out.trans hb)
   rw [← HTB.out] at HSN
   clear hap hs hb HS HB HX q2 q9 hvl HTB
   go_upto_region 13 with (fail)
   clear z0 z1
   generalize W13.setCell ⟨w0.heap.size, 2, none⟩ (.slice A8 l8 c8) = W14 at *
   have HS := Lib.hid (show ∃ v0 vs v2, SB W14 w0.heap.size w0.heap.size v0 vs v2 ((rows0Q a b).take (i + 1)) ((base0Q m n).take (i + 1)) (n + m + 1) from ⟨_, _, _, HSN.out⟩)
   have HB := HBN
   clear HSN HBN
   have hd := below_draw W14
   replace HB := Lib.hid (HB.out.trans (hd.mono HB.out.size))
   have HSD := Lib.hid (show ∃ v0 vs v2, SB W14.drew w0.heap.size w0.heap.size v0 vs v2 ((rows0Q a b).take (i + 1)) ((base0Q m n).take (i + 1)) (n + m + 1) from by obtain ⟨v0, vs, v2, h⟩ := HS.out; exact ⟨v0, vs, v2, h.call hd⟩)
   clear HS hd
   have HWS := Lib.hid (show worstN b (i + 1) = if b.getD i 0 < 0 ∧ (∀ w, worstN b i = some w → b.getD i 0 < b.getD w 0) then some i else worstN b i from rfl)
   obtain ⟨bq2, oq2, nb, X1, x1, y1, X2, x2, y2, hAb, hbl, hC, hrt⟩ := (HBV.out.below HB.out).form hil (b.getD i 0) (by rw [List.getD_eq_getElem?_getD, List.getElem?_eq_getElem (by rw [HBL.out]; exact hil)]; rfl)
   injection hAb with hAb
   injection hAb with e7 e8 _
   subst e7 e8
   have CE := Lib.hid hC
   have RX := Lib.hid hrt
   clear hC hrt hbl
   by_cases hneg : b.getD i 0 < 0
   ·have tn : decide ((b.getD i 0).num.sign < 0) = true := neg_iff (decide_eq_true hneg)
    cases hwo : worstN b i with
    | none =>
     rw [show I (optI none) = I (-1) from rfl]
     refine wp_region_c (fun w' => w'.cell? ⟨bq, oq + i * 4, none⟩ = some (.bool nb) ∧ w'.cell? ⟨bq, oq + i * 4 + 1, none⟩ = some (.slice X1 x1 y1) ∧ w'.cell? ⟨bq, oq + i * 4 + 2, none⟩ = some (.bool false) ∧ w'.cell? ⟨bq, oq + i * 4 + 3, none⟩ = some (.slice X2 x2 y2)) 21 (by kernel_rfl) ?_
     generalize W14.drew = wb at *
     refine tkS ⟨CE.out.c0, CE.out.c1, CE.out.c2, CE.out.c3⟩ fun hSS => ?_
     refine tq 0 (.slice (some ⟨bq, oq, none⟩) m cb) rfl ?_ hSS ?_
     ·rintro w ⟨s0, s1, s2, s3⟩
      go_simp
     try simp only [Act.put, putA]
     refine tq 1 (I i) rfl ?_ hSS ?_
     ·rintro w ⟨s0, s1, s2, s3⟩
      go_simp
     try simp only [Act.put]
     refine tq 2 (.pointer (some ⟨bq, oq + i * 4, none⟩)) rfl ?_ hSS ?_
     ·rintro w ⟨s0, s1, s2, s3⟩
      go_simp
     try simp only [Act.put]
     refine tq 3 (.agg #[.bool nb, .slice X1 x1 y1, .bool false, .slice X2 x2 y2]) rfl ?_ hSS ?_
     ·rintro w ⟨s0, s1, s2, s3⟩
      go_simp
     try simp only [Act.put]
     refine on1 4 fun K hK => ?_
     go_simp
     go_at_call 61
     refine (rsign_any _ _ _ RX.out).mono ?_
     rintro e wc ⟨rfl, hb⟩
     replace HB := Lib.hid (HB.out.trans (hb.mono HB.out.size))
     replace HSD := Lib.hid (show ∃ v0 vs v2, SB _ w0.heap.size w0.heap.size v0 vs v2 ((rows0Q a b).take (i + 1)) ((base0Q m n).take (i + 1)) (n + m + 1) from by obtain ⟨v0, vs, v2, h⟩ := HSD.out; exact ⟨v0, vs, v2, h.call hb⟩)
     replace CE := Lib.hid (CE.out.below hb)
     replace RX := Lib.hid (RX.out.ext hb)
     clear hb
     refine hK.out _ _ (fun _ => ⟨CE.out.c0, CE.out.c1, CE.out.c2, CE.out.c3⟩) ?_
     clear hK K
     try simp only [Act.put, putA, putZ, putC]
     generalize (b.getD i 0).num.sign = sg at *
     refine tkS ⟨CE.out.c0, CE.out.c1, CE.out.c2, CE.out.c3⟩ fun hSS => ?_
     refine tq 5 (.bool (decide (sg < 0))) rfl ?_ hSS ?_
     ·rintro w ⟨s0, s1, s2, s3⟩
      go_simp
     try simp only [Act.put, putA]
     refine tq 6 (.bool (decide (sg < 0))) rfl ?_ hSS ?_
     ·rintro w ⟨s0, s1, s2, s3⟩
      go_simp
     try simp only [Act.put]
     rw [tn]
     refine tkS ⟨CE.out.c0, CE.out.c1, CE.out.c2, CE.out.c3⟩ fun hSS => ?_
     refine tq 7 (I (-1)) rfl ?_ hSS ?_
     ·rintro w ⟨s0, s1, s2, s3⟩
      go_simp
     try simp only [Act.put]
     refine tq 8 (.bool true) rfl ?_ hSS ?_
     ·rintro w ⟨s0, s1, s2, s3⟩
      go_simp
     try simp only [Act.put]
     refine tq 9 (.bool true) rfl ?_ hSS ?_
     ·rintro w ⟨s0, s1, s2, s3⟩
      go_simp
     try simp only [Act.put]
     refine tk8 10 undef rfl (Or.inr ⟨by kernel_rfl, rfl⟩) hSS ?_
     try simp only [Act.put]
     refine tk8 11 undef rfl (Or.inr ⟨by kernel_rfl, rfl⟩) hSS ?_
     try simp only [Act.put]
     refine tk8 12 undef rfl (Or.inr ⟨by kernel_rfl, rfl⟩) hSS ?_
     try simp only [Act.put]
     refine tk8 13 undef rfl (Or.inr ⟨by kernel_rfl, rfl⟩) hSS ?_
     try simp only [Act.put]
     refine tk8 14 undef rfl (Or.inr ⟨by kernel_rfl, rfl⟩) hSS ?_
     try simp only [Act.put]
     refine tk8 15 undef rfl (Or.inr ⟨by kernel_rfl, rfl⟩) hSS ?_
     try simp only [Act.put]
     refine tk8 16 undef rfl (Or.inr ⟨by kernel_rfl, rfl⟩) hSS ?_
     try simp only [Act.put]
     refine tk8 17 undef rfl (Or.inr ⟨by kernel_rfl, rfl⟩) hSS ?_
     try simp only [Act.put]
     refine on1 18 fun K hK => ?_
     go_simp
     refine hK.out _ _ (fun _ => ⟨CE.out.c0, CE.out.c1, CE.out.c2, CE.out.c3⟩) ?_
     clear hK K
     try simp only [Act.put, putA, putZ, putC]
     refine tkS ⟨CE.out.c0, CE.out.c1, CE.out.c2, CE.out.c3⟩ fun hSS => ?_
     refine tk8 19 undef rfl (Or.inr ⟨by kernel_rfl, rfl⟩) hSS ?_
     try simp only [Act.put, putA]
     refine tq 20 (.bool true) rfl ?_ hSS ?_
     ·rintro w ⟨s0, s1, s2, s3⟩
      go_simp
     try simp only [Act.put]
     refine on1 21 fun K hK => ?_
     go_simp
     refine hK.out _ _ (fun h => absurd h (by decide)) ?_
     clear hK K
     try simp only [Act.put, putA, putZ, putC]
     refine wpAnyC_done (by kernel_rfl) ?_ _
     have HWN := Lib.hid (show worstN b (i + 1) = some i by rw [HWS.out, if_pos ⟨hneg, fun w hw => by rw [hwo] at hw; cases hw⟩])
     clear HWS CE RX
     clear tn hneg hwo
     go_wp2
     go_roundg (m - (i + 1))
     case measure => omega
     case rel => exact ⟨i + 1, rfl, by rw [HWN.out]; rfl, by go_num, by omega, HSD, HB⟩
    | some r =>
     have hrm : r < m := by have := (worst_some _ _ hwo).1; omega
     rw [show I (optI (some r)) = I r from rfl]
     obtain ⟨bq2, oq2, mb, Z1, a1, d1, Z2, a2, d2, hAb, hbl, hC, hrt⟩ := (HBV.out.below HB.out).form hrm (b.getD r 0) (by rw [List.getD_eq_getElem?_getD, List.getElem?_eq_getElem (by rw [HBL.out]; exact hrm)]; rfl)
     injection hAb with hAb
     injection hAb with e7 e8 _
     subst e7 e8
     have CR := Lib.hid hC
     have RR := Lib.hid hrt
     clear hC hrt hbl
     have hrn : ¬ ((r : Int) < 0) := by omega
     refine wp_region_c (fun w' => w'.cell? ⟨bq, oq + i * 4, none⟩ = some (.bool nb) ∧ w'.cell? ⟨bq, oq + i * 4 + 1, none⟩ = some (.slice X1 x1 y1) ∧ w'.cell? ⟨bq, oq + i * 4 + 2, none⟩ = some (.bool false) ∧ w'.cell? ⟨bq, oq + i * 4 + 3, none⟩ = some (.slice X2 x2 y2) ∧ w'.cell? ⟨bq, oq + r * 4, none⟩ = some (.bool mb) ∧ w'.cell? ⟨bq, oq + r * 4 + 1, none⟩ = some (.slice Z1 a1 d1) ∧ w'.cell? ⟨bq, oq + r * 4 + 2, none⟩ = some (.bool false) ∧ w'.cell? ⟨bq, oq + r * 4 + 3, none⟩ = some (.slice Z2 a2 d2)) 21 (by kernel_rfl) ?_
     generalize W14.drew = wb at *
     refine tkS ⟨CE.out.c0, CE.out.c1, CE.out.c2, CE.out.c3, CR.out.c0, CR.out.c1, CR.out.c2, CR.out.c3⟩ fun hSS => ?_
     refine tq 0 (.slice (some ⟨bq, oq, none⟩) m cb) rfl ?_ hSS ?_
     ·rintro w ⟨s0, s1, s2, s3, s4, s5, s6, s7⟩
      go_simp
     try simp only [Act.put, putA]
     refine tq 1 (I i) rfl ?_ hSS ?_
     ·rintro w ⟨s0, s1, s2, s3, s4, s5, s6, s7⟩
      go_simp
     try simp only [Act.put]
     refine tq 2 (.pointer (some ⟨bq, oq + i * 4, none⟩)) rfl ?_ hSS ?_
     ·rintro w ⟨s0, s1, s2, s3, s4, s5, s6, s7⟩
      go_simp
     try simp only [Act.put]
     refine tq 3 (.agg #[.bool nb, .slice X1 x1 y1, .bool false, .slice X2 x2 y2]) rfl ?_ hSS ?_
     ·rintro w ⟨s0, s1, s2, s3, s4, s5, s6, s7⟩
      go_simp
     try simp only [Act.put]
     refine on1 4 fun K hK => ?_
     go_simp
     go_at_call 61
     refine (rsign_any _ _ _ RX.out).mono ?_
     rintro e wc ⟨rfl, hb⟩
     replace HB := Lib.hid (HB.out.trans (hb.mono HB.out.size))
     replace HSD := Lib.hid (show ∃ v0 vs v2, SB _ w0.heap.size w0.heap.size v0 vs v2 ((rows0Q a b).take (i + 1)) ((base0Q m n).take (i + 1)) (n + m + 1) from by obtain ⟨v0, vs, v2, h⟩ := HSD.out; exact ⟨v0, vs, v2, h.call hb⟩)
     replace CE := Lib.hid (CE.out.below hb)
     replace RX := Lib.hid (RX.out.ext hb)
     replace CR := Lib.hid (CR.out.below hb)
     replace RR := Lib.hid (RR.out.ext hb)
     clear hb
     refine hK.out _ _ (fun _ => ⟨CE.out.c0, CE.out.c1, CE.out.c2, CE.out.c3, CR.out.c0, CR.out.c1, CR.out.c2, CR.out.c3⟩) ?_
     clear hK K
     try simp only [Act.put, putA, putZ, putC]
     generalize (b.getD i 0).num.sign = sg at *
     refine tkS ⟨CE.out.c0, CE.out.c1, CE.out.c2, CE.out.c3, CR.out.c0, CR.out.c1, CR.out.c2, CR.out.c3⟩ fun hSS => ?_
     refine tq 5 (.bool (decide (sg < 0))) rfl ?_ hSS ?_
     ·rintro w ⟨s0, s1, s2, s3, s4, s5, s6, s7⟩
      go_simp
     try simp only [Act.put, putA]
     refine tq 6 (.bool (decide (sg < 0))) rfl ?_ hSS ?_
     ·rintro w ⟨s0, s1, s2, s3, s4, s5, s6, s7⟩
      go_simp
     try simp only [Act.put]
     rw [tn]
     refine tkS ⟨CE.out.c0, CE.out.c1, CE.out.c2, CE.out.c3, CR.out.c0, CR.out.c1, CR.out.c2, CR.out.c3⟩ fun hSS => ?_
     refine tq 7 (I r) rfl ?_ hSS ?_
     ·rintro w ⟨s0, s1, s2, s3, s4, s5, s6, s7⟩
      go_simp
     try simp only [Act.put]
     refine tq 8 (.bool (decide ((r : Int) < 0))) rfl ?_ hSS ?_
     ·rintro w ⟨s0, s1, s2, s3, s4, s5, s6, s7⟩
      go_simp
     try simp only [Act.put]
     refine tq 9 (.bool (decide ((r : Int) < 0))) rfl ?_ hSS ?_
     ·rintro w ⟨s0, s1, s2, s3, s4, s5, s6, s7⟩
      go_simp
     try simp only [Act.put]
     rw [decide_eq_false hrn]
     refine tkS ⟨CE.out.c0, CE.out.c1, CE.out.c2, CE.out.c3, CR.out.c0, CR.out.c1, CR.out.c2, CR.out.c3⟩ fun hSS => ?_
     refine tq 10 (.slice (some ⟨bq, oq, none⟩) m cb) rfl ?_ hSS ?_
     ·rintro w ⟨s0, s1, s2, s3, s4, s5, s6, s7⟩
      go_simp
     try simp only [Act.put]
     refine tq 11 (I i) rfl ?_ hSS ?_
     ·rintro w ⟨s0, s1, s2, s3, s4, s5, s6, s7⟩
      go_simp
     try simp only [Act.put]
     refine tq 12 (.pointer (some ⟨bq, oq + i * 4, none⟩)) rfl ?_ hSS ?_
     ·rintro w ⟨s0, s1, s2, s3, s4, s5, s6, s7⟩
      go_simp
     try simp only [Act.put]
     refine tq 13 (.agg #[.bool nb, .slice X1 x1 y1, .bool false, .slice X2 x2 y2]) rfl ?_ hSS ?_
     ·rintro w ⟨s0, s1, s2, s3, s4, s5, s6, s7⟩
      go_simp
     try simp only [Act.put]
     refine tq 14 (.slice (some ⟨bq, oq, none⟩) m cb) rfl ?_ hSS ?_
     ·rintro w ⟨s0, s1, s2, s3, s4, s5, s6, s7⟩
      go_simp
     try simp only [Act.put]
     refine tq 15 (I r) rfl ?_ hSS ?_
     ·rintro w ⟨s0, s1, s2, s3, s4, s5, s6, s7⟩
      go_simp
     try simp only [Act.put]
     refine tq 16 (.pointer (some ⟨bq, oq + r * 4, none⟩)) rfl ?_ hSS ?_
     ·rintro w ⟨s0, s1, s2, s3, s4, s5, s6, s7⟩
      go_simp
     try simp only [Act.put]
     refine tq 17 (.agg #[.bool mb, .slice Z1 a1 d1, .bool false, .slice Z2 a2 d2]) rfl ?_ hSS ?_
     ·rintro w ⟨s0, s1, s2, s3, s4, s5, s6, s7⟩
      go_simp
     try simp only [Act.put]
     refine wpAnyC_oneW (i := 18) (by kernel_rfl) rfl (by kernel_rfl) (fun K hK => ?_)
     go_simp
     go_at_call 49
     refine (rcmp_any _ _ (b.getD i 0) (b.getD r 0) _ RX.out RR.out (N := 700000) (Nat.le_of_ble_eq_true rfl) (HFB.out i) (HFB.out r)).mono ?_
     rintro e wd ⟨rfl, hb⟩
     replace HB := Lib.hid (HB.out.trans (hb.mono HB.out.size))
     replace HSD := Lib.hid (show ∃ v0 vs v2, SB _ w0.heap.size w0.heap.size v0 vs v2 ((rows0Q a b).take (i + 1)) ((base0Q m n).take (i + 1)) (n + m + 1) from by obtain ⟨v0, vs, v2, h⟩ := HSD.out; exact ⟨v0, vs, v2, h.call hb⟩)
     replace CE := Lib.hid (CE.out.below hb)
     replace RX := Lib.hid (RX.out.ext hb)
     replace CR := Lib.hid (CR.out.below hb)
     replace RR := Lib.hid (RR.out.ext hb)
     clear hb
     refine hK.out _ _ (fun _ => ⟨CE.out.c0, CE.out.c1, CE.out.c2, CE.out.c3, CR.out.c0, CR.out.c1, CR.out.c2, CR.out.c3⟩) ?_
     clear hK K
     try simp only [Act.put, putA, putZ, putC]
     rw [show ((b.getD i 0).num * ((b.getD r 0).den : Int) - (b.getD r 0).num * ((b.getD i 0).den : Int)).sign = cmpQ (b.getD i 0) (b.getD r 0) from rfl]
     have HCM := Lib.hid (show decide (cmpQ (b.getD i 0) (b.getD r 0) < 0) = decide (b.getD i 0 < b.getD r 0) by rcases cmpQ_cases (b.getD i 0) (b.getD r 0) with h | h | h <;> rw [h] <;> simp only [← cmpQ_lt, h] <;> decide)
     generalize cmpQ (b.getD i 0) (b.getD r 0) = cq at *
     refine tkS ⟨CE.out.c0, CE.out.c1, CE.out.c2, CE.out.c3, CR.out.c0, CR.out.c1, CR.out.c2, CR.out.c3⟩ fun hSS => ?_
     refine tq 19 (.bool (decide (cq < 0))) rfl ?_ hSS ?_
     ·rintro w ⟨s0, s1, s2, s3, s4, s5, s6, s7⟩
      go_simp
     try simp only [Act.put, putA]
     refine tq 20 (.bool (decide (cq < 0))) rfl ?_ hSS ?_
     ·rintro w ⟨s0, s1, s2, s3, s4, s5, s6, s7⟩
      go_simp
     try simp only [Act.put]
     refine on1 21 fun K hK => ?_
     go_simp
     refine hK.out _ _ (fun h => absurd h (by decide)) ?_
     clear hK K
     try simp only [Act.put, putA, putZ, putC]
     refine wpAnyC_done (by kernel_rfl) ?_ _
     by_cases hlr : b.getD i 0 < b.getD r 0
     ·rw [decide_eq_true hlr] at HCM
      rw [HCM.out]
      have HWN := Lib.hid (show worstN b (i + 1) = some i by rw [HWS.out, if_pos ⟨hneg, fun w hw => by rw [hwo] at hw; injection hw with hw; rw [← hw]; exact hlr⟩])
      clear HWS CE RX
      clear tn hneg hwo hlr CR RR
      go_wp2
      go_roundg (m - (i + 1))
      case measure => omega
      case rel => exact ⟨i + 1, rfl, by rw [HWN.out]; rfl, by go_num, by omega, HSD, HB⟩
     ·rw [decide_eq_false hlr] at HCM
      rw [HCM.out]
      have HWN := Lib.hid (show worstN b (i + 1) = some r by rw [HWS.out, if_neg (fun k => hlr (k.2 r hwo))]; exact hwo)
      clear HWS CE RX
      clear tn hneg hwo hlr CR RR
      go_wp2
      go_roundg (m - (i + 1))
      case measure => omega
      case rel => exact ⟨i + 1, rfl, by rw [HWN.out]; rfl, by go_num, by omega, HSD, HB⟩
   ·have tn : decide ((b.getD i 0).num.sign < 0) = false := neg_iff (decide_eq_false hneg)
    refine wp_region_c (fun w' => w'.cell? ⟨bq, oq + i * 4, none⟩ = some (.bool nb) ∧ w'.cell? ⟨bq, oq + i * 4 + 1, none⟩ = some (.slice X1 x1 y1) ∧ w'.cell? ⟨bq, oq + i * 4 + 2, none⟩ = some (.bool false) ∧ w'.cell? ⟨bq, oq + i * 4 + 3, none⟩ = some (.slice X2 x2 y2)) 21 (by kernel_rfl) ?_
    generalize W14.drew = wb at *
    refine tkS ⟨CE.out.c0, CE.out.c1, CE.out.c2, CE.out.c3⟩ fun hSS => ?_
    refine tq 0 (.slice (some ⟨bq, oq, none⟩) m cb) rfl ?_ hSS ?_
    ·rintro w ⟨s0, s1, s2, s3⟩
     go_simp
    try simp only [Act.put, putA]
    refine tq 1 (I i) rfl ?_ hSS ?_
    ·rintro w ⟨s0, s1, s2, s3⟩
     go_simp
    try simp only [Act.put]
    refine tq 2 (.pointer (some ⟨bq, oq + i * 4, none⟩)) rfl ?_ hSS ?_
    ·rintro w ⟨s0, s1, s2, s3⟩
     go_simp
    try simp only [Act.put]
    refine tq 3 (.agg #[.bool nb, .slice X1 x1 y1, .bool false, .slice X2 x2 y2]) rfl ?_ hSS ?_
    ·rintro w ⟨s0, s1, s2, s3⟩
     go_simp
    try simp only [Act.put]
    refine on1 4 fun K hK => ?_
    go_simp
    go_at_call 61
    refine (rsign_any _ _ _ RX.out).mono ?_
    rintro e wc ⟨rfl, hb⟩
    replace HB := Lib.hid (HB.out.trans (hb.mono HB.out.size))
    replace HSD := Lib.hid (show ∃ v0 vs v2, SB _ w0.heap.size w0.heap.size v0 vs v2 ((rows0Q a b).take (i + 1)) ((base0Q m n).take (i + 1)) (n + m + 1) from by obtain ⟨v0, vs, v2, h⟩ := HSD.out; exact ⟨v0, vs, v2, h.call hb⟩)
    replace CE := Lib.hid (CE.out.below hb)
    replace RX := Lib.hid (RX.out.ext hb)
    clear hb
    refine hK.out _ _ (fun _ => ⟨CE.out.c0, CE.out.c1, CE.out.c2, CE.out.c3⟩) ?_
    clear hK K
    try simp only [Act.put, putA, putZ, putC]
    generalize (b.getD i 0).num.sign = sg at *
    refine tkS ⟨CE.out.c0, CE.out.c1, CE.out.c2, CE.out.c3⟩ fun hSS => ?_
    refine tq 5 (.bool (decide (sg < 0))) rfl ?_ hSS ?_
    ·rintro w ⟨s0, s1, s2, s3⟩
     go_simp
    try simp only [Act.put, putA]
    refine tq 6 (.bool (decide (sg < 0))) rfl ?_ hSS ?_
    ·rintro w ⟨s0, s1, s2, s3⟩
     go_simp
    try simp only [Act.put]
    rw [tn]
    refine tkS ⟨CE.out.c0, CE.out.c1, CE.out.c2, CE.out.c3⟩ fun hSS => ?_
    refine tk8 7 undef rfl (Or.inr ⟨by kernel_rfl, rfl⟩) hSS ?_
    try simp only [Act.put]
    refine tk8 8 undef rfl (Or.inr ⟨by kernel_rfl, rfl⟩) hSS ?_
    try simp only [Act.put]
    refine tk8 9 undef rfl (Or.inr ⟨by kernel_rfl, rfl⟩) hSS ?_
    try simp only [Act.put]
    refine tk8 10 undef rfl (Or.inr ⟨by kernel_rfl, rfl⟩) hSS ?_
    try simp only [Act.put]
    refine tk8 11 undef rfl (Or.inr ⟨by kernel_rfl, rfl⟩) hSS ?_
    try simp only [Act.put]
    refine tk8 12 undef rfl (Or.inr ⟨by kernel_rfl, rfl⟩) hSS ?_
    try simp only [Act.put]
    refine tk8 13 undef rfl (Or.inr ⟨by kernel_rfl, rfl⟩) hSS ?_
    try simp only [Act.put]
    refine tk8 14 undef rfl (Or.inr ⟨by kernel_rfl, rfl⟩) hSS ?_
    try simp only [Act.put]
    refine tk8 15 undef rfl (Or.inr ⟨by kernel_rfl, rfl⟩) hSS ?_
    try simp only [Act.put]
    refine tk8 16 undef rfl (Or.inr ⟨by kernel_rfl, rfl⟩) hSS ?_
    try simp only [Act.put]
    refine tk8 17 undef rfl (Or.inr ⟨by kernel_rfl, rfl⟩) hSS ?_
    try simp only [Act.put]
    refine on1 18 fun K hK => ?_
    go_simp
    refine hK.out _ _ (fun _ => ⟨CE.out.c0, CE.out.c1, CE.out.c2, CE.out.c3⟩) ?_
    clear hK K
    try simp only [Act.put, putA, putZ, putC]
    refine tkS ⟨CE.out.c0, CE.out.c1, CE.out.c2, CE.out.c3⟩ fun hSS => ?_
    refine tk8 19 undef rfl (Or.inr ⟨by kernel_rfl, rfl⟩) hSS ?_
    try simp only [Act.put, putA]
    refine tk8 20 undef rfl (Or.inr ⟨by kernel_rfl, rfl⟩) hSS ?_
    try simp only [Act.put]
    refine on1 21 fun K hK => ?_
    go_simp
    refine hK.out _ _ (fun h => absurd h (by decide)) ?_
    clear hK K
    try simp only [Act.put, putA, putZ, putC]
    refine wpAnyC_done (by kernel_rfl) ?_ _
    have HWN := Lib.hid (show worstN b (i + 1) = worstN b i by rw [HWS.out, if_neg (fun k => hneg k.1)])
    clear HWS CE RX
    clear tn hneg
    go_wp2
    go_roundg (m - (i + 1))
    case measure => omega
    case rel => exact ⟨i + 1, rfl, by rw [HWN.out], by go_num, by omega, HSD, HB⟩
  ·obtain rfl : i = m := by omega
   have HS2 := HS
   rw [List.take_of_length_le (by rw [rows0Q, List.length_mapIdx, HAL.out]; exact Nat.le_refl _), List.take_of_length_le (by rw [base0Q, List.length_map, List.length_range]; exact Nat.le_refl _)] at HS2
   obtain ⟨A1, cv, Ab1, cb1, rfl, rfl, h0⟩ := HS2.out.tb0 (m := i) (V := V) (W := n + i + 1) (by rw [rows0Q, List.length_mapIdx]; exact HAL.out) (by rw [base0Q, List.length_map, List.length_range]) (by have := HVV.out; omega) (fun r hr => by obtain ⟨j, hj, rfl⟩ := List.mem_mapIdx.1 hr; rw [startRow_len, HRL.out _ (List.getElem_mem hj), HAL.out])
   have HT := Lib.hid h0
   clear h0 HS HS2
   have HBW := Lib.hid HB.out.size
   have HC := Lib.hid (zeros_any (n + i + 1) wa (by omega))
   have hvm : n + i < n + i + 1 := by omega
   go_wp2_with fail
   refine HC.out.mono ?_
   rintro e wb ⟨vc, rfl, hrc, hb⟩
   clear HC
   have HNC := Lib.hid (HT.out.lm.newer (u := vc) (fun y hy => (hrc.lt hy).1))
   replace HT := Lib.hid (HT.out.call hb)
   replace HB := Lib.hid (HB.out.trans (hb.mono HB.out.size))
   have HR := Lib.hid (hrc.less HBW.out)
   clear hrc hb
   obtain ⟨b5, o5, c5, nb, B1, l1, c1, B2, l2, c2, rfl, _, hb5, _⟩ := HR.out.el (k := n + i) (n := n + i + 1) (by rw [List.length_replicate]) hvm
   have HHB := Lib.hid hb5
   clear hb5
   have HC := Lib.hid (rwhole_any (-1) wb (by decide) (by decide))
   go_wp2_with fail
   refine HC.out.mono ?_
   rintro e wc ⟨u5, rfl, hv, hb⟩
   clear HC
   rw [rat_m1_int] at hv
   replace HT := Lib.hid (HT.out.call hb)
   replace HR := Lib.hid (HR.out.call hb)
   replace HB := Lib.hid (HB.out.trans (hb.mono HB.out.size))
   clear hb
   obtain ⟨tb, T1, t1, u3, T2, t2, u4, rfl⟩ := hv.bools
   obtain ⟨b6, o6, c6, nb, B1, l1, c1, B2, l2, c2, e6, hE, _, _⟩ := HR.out.el (k := n + i) (n := n + i + 1) (by rw [List.length_replicate]) hvm
   injection e6 with e6 _ e9
   injection e6 with e6
   injection e6 with e7 e8 _
   subst e7 e8 e9
   have EL := Lib.hid hE
   clear hE
   obtain ⟨hp, hkw2, hbb⟩ := HR.out.putEl (k := n + i) hvm hv
   have hF := Far.put4 (cs := #[]) HHB.out (o5 + (n + i) * 4) hkw2
   obtain ⟨cur, hBk⟩ := HR.out.blk (g := b5) rfl
   have HTN := Lib.hid (HT.out.off hF hBk (fun j u h => HNC.out j u b5 h rfl))
   have HRN := Lib.hid (show RRow _ w0.heap.size (.slice (some ⟨b5, o5, none⟩) (n + i + 1) c5) (goal0 (n + i)) from hp)
   have HBN := Lib.hid (HB.out.trans hF.below)
   clear hp hkw2 hbb hBk HR HT HB hF hv HNC HHB
   unfold put4 at HTN HRN HBN
   have z0 := EL.out.c0
   have y0 := EL.out.f0
   have z1 := EL.out.c1
   have y1 := EL.out.f1
   have z2 := EL.out.c2
   have y2 := EL.out.f2
   have z3 := EL.out.c3
   have y3 := EL.out.f3
   clear EL
   go_upto_region 18 with (fail)
   clear z0 z1 z2 z3 y0 y1 y2 y3
   generalize (((wc.setCell ⟨b5, o5 + (n + i) * 4, none⟩ (.bool tb)).setCell ⟨b5, o5 + (n + i) * 4 + 1, none⟩ (.slice T1 t1 u3)).setCell ⟨b5, o5 + (n + i) * 4 + 2, none⟩ (.bool false)).setCell ⟨b5, o5 + (n + i) * 4 + 3, none⟩ (.slice T2 t2 u4) = wd at *
   have HC := Lib.hid (aim_any w0.heap.size w0.heap.size cv cb1 i V (n + i + 1) A1 Ab1 vs (.slice none 0 0) ⟨rows0Q a b, [], base0Q i n, n + i + 1⟩ (goal0 (n + i)) (some ⟨b5, o5, none⟩) (n + i + 1) c5 wd HTN.out (fun _ => by show V = n + i + 1 + 1; have := HVV.out; omega) (by omega) (by omega) HRN.out (by have := HVV.out; omega) (noWord_slice _ _ _) HLT.out (fit_goal0 (n + i)) HF2.out HF3.out HBN.out.size (Nat.le_refl _))
   go_wp2_with fail
   refine HC.out.mono ?_
   rintro e we ⟨rfl, ⟨bt, ot, ct, hT⟩, hb⟩
   clear HC HTN HRN
   have HT := Lib.hid hT
   have HB := Lib.hid (HBN.out.trans hb)
   clear hT hb HBN
   have HSQ := Lib.hid (show startQ a b n = match worstN b i with | none => aimQ ⟨rows0Q a b, [], base0Q i n, n + i + 1⟩ (goal0 (n + i)) | some w => pivQ (aimQ ⟨rows0Q a b, [], base0Q i n, n + i + 1⟩ (goal0 (n + i))) w (n + i) by rw [← HAL.out]; rfl)
   cases hwo : worstN b i with
   | none =>
    rw [hwo] at HSQ
    have HTF := Lib.hid (show TBx we w0.heap.size w0.heap.size A1 cv vs bt ot ct Ab1 cb1 i V (n + i + 1) (startQ a b n) by rw [HSQ.out]; exact HT.out)
    clear HT HSQ hwo HF2 HF3 HF4 HF5 HFP
    rw [show I (optI none) = I (-1) from rfl]
    go_wp2
    go_ret
    exact ⟨_, _, _, _, _, _, _, _, _, rfl, Nat.le_refl _, HTF.out, HB.out⟩
   | some r =>
    have hri := (worst_some _ _ hwo).1
    rw [hwo] at HSQ
    rw [HSQ.out] at HF5
    rw [show I (optI (some r)) = I r from rfl]
    have hr0 : (r : Int) ≥ 0 := by omega
    have hrt : decide ((r : Int) ≥ 0) = true := decide_eq_true hr0
    clear hwo
    have HC := Lib.hid (pivot_any w0.heap.size w0.heap.size cv bt ot ct cb1 i V (n + i + 1) r (n + i) A1 Ab1 vs _ we HT.out hri (by omega) (by omega) (by omega) (HFP.out r hri) HF4.out HF5.out HB.out.size)
    clear HF2 HF3 HF4 HF5 HFP
    go_wp2_with fail
    refine HC.out.mono ?_
    rintro e wf ⟨rfl, hT, hb⟩
    clear HC HT
    rw [← HSQ.out] at hT
    have HTF := Lib.hid hT
    replace HB := Lib.hid (HB.out.trans hb)
    clear hT hb HSQ
    go_wp2
    go_ret
    exact ⟨_, _, _, _, _, _, _, _, _, rfl, Nat.le_refl _, HTF.out, HB.out⟩
end Go.Proofs.YtcgfdfdcbamceaaGreatDoor
