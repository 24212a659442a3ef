/- simplex.Solve. -/
import Derived.Test.YtcgfdfdcbamceaaGreatDoorXBT
import Derived.Deep.DeepCutAuto
namespace Go.Proofs.YtcgfdfdcbamceaaGreatDoor
open Go.RowKit
set_option maxRecDepth 100000 in
set_option maxHeartbeats 80000000 in
theorem psolve_any (A Ab Ac : Option Addr) (na ca nb cb nc cc : Nat) (m : List (List ByteArray)) (lb lc : List ByteArray) (w : World) (h : PrW w A na Ab nb Ac nc m lb lc) (hs : ShP m lb lc) (htab : Tab w) (hgood : chkP (tx2 m) (tx1 lb) (tx1 lc) = 0 → Good m lb lc na nc) :
  Calls Tryz.prog 9 #[.agg #[.slice A na ca, .slice Ab nb cb, .slice Ac nc cc]] w (RetPr w (solP (tx2 m) (tx1 lb) (tx1 lc)) (chkP (tx2 m) (tx1 lb) (tx1 lc))) := by
 have b1 := below_new w (.cells #[.slice A na ca, .slice Ab nb cb, .slice Ac nc cc] 27)
 have b2 := below_new (w.alloc (.cells #[.slice A na ca, .slice Ab nb cb, .slice Ac nc cc] 27)) (.cells #[I 0, .slice none 0 0, .slice none 0 0, .slice none 0 0, .string ⟨#[]⟩] 32)
 have b3 := below_new ((w.alloc (.cells #[.slice A na ca, .slice Ab nb cb, .slice Ac nc cc] 27)).alloc (.cells #[I 0, .slice none 0 0, .slice none 0 0, .slice none 0 0, .string ⟨#[]⟩] 32)) (.cells #[I 0, .slice none 0 0, .slice none 0 0, .slice none 0 0, .string ⟨#[]⟩] 32)
 have hbt := (b1.trans (b2.mono b1.size)).trans (b3.mono (b1.trans (b2.mono b1.size)).size)
 have HP := Lib.hid (h.below hbt)
 have HT := Lib.hid (tab_below htab hbt)
 have HB1 := Lib.hid hbt
 have hB := ((Blk.new w 27 #[.slice A na ca, .slice Ab nb cb, .slice Ac nc cc]).below b2 (by simp)).below b3 (by simp; omega)
 have E2 := Lib.hid (show Blk (((w.alloc (.cells #[.slice A na ca, .slice Ab nb cb, .slice Ac nc cc] 27)).alloc (.cells #[I 0, .slice none 0 0, .slice none 0 0, .slice none 0 0, .string ⟨#[]⟩] 32)).alloc (.cells #[I 0, .slice none 0 0, .slice none 0 0, .slice none 0 0, .string ⟨#[]⟩] 32)) (w.heap.size + 1) 32 #[I 0, .slice none 0 0, .slice none 0 0, .slice none 0 0, .string ⟨#[]⟩] from by have h := (Blk.new (w.alloc (.cells #[.slice A na ca, .slice Ab nb cb, .slice Ac nc cc] 27)) 32 #[I 0, .slice none 0 0, .slice none 0 0, .slice none 0 0, .string ⟨#[]⟩]).below b3 (by simp); rw [World.size_alloc] at h; exact h)
 have E4 := Lib.hid (show Blk (((w.alloc (.cells #[.slice A na ca, .slice Ab nb cb, .slice Ac nc cc] 27)).alloc (.cells #[I 0, .slice none 0 0, .slice none 0 0, .slice none 0 0, .string ⟨#[]⟩] 32)).alloc (.cells #[I 0, .slice none 0 0, .slice none 0 0, .slice none 0 0, .string ⟨#[]⟩] 32)) (w.heap.size + 1 + 1) 32 #[I 0, .slice none 0 0, .slice none 0 0, .slice none 0 0, .string ⟨#[]⟩] from by have h := Blk.new ((w.alloc (.cells #[.slice A na ca, .slice Ab nb cb, .slice Ac nc cc] 27)).alloc (.cells #[I 0, .slice none 0 0, .slice none 0 0, .slice none 0 0, .string ⟨#[]⟩] 32)) 32 #[I 0, .slice none 0 0, .slice none 0 0, .slice none 0 0, .string ⟨#[]⟩]; rw [World.size_alloc, World.size_alloc] at h; exact h)
 have HSZ := Lib.hid (show (((w.alloc (.cells #[.slice A na ca, .slice Ab nb cb, .slice Ac nc cc] 27)).alloc (.cells #[I 0, .slice none 0 0, .slice none 0 0, .slice none 0 0, .string ⟨#[]⟩] 32)).alloc (.cells #[I 0, .slice none 0 0, .slice none 0 0, .slice none 0 0, .string ⟨#[]⟩] 32)).heap.size = w.heap.size + 3 by simp)
 have X0 := Lib.hid (show (((w.alloc (.cells #[.slice A na ca, .slice Ab nb cb, .slice Ac nc cc] 27)).alloc (.cells #[I 0, .slice none 0 0, .slice none 0 0, .slice none 0 0, .string ⟨#[]⟩] 32)).alloc (.cells #[I 0, .slice none 0 0, .slice none 0 0, .slice none 0 0, .string ⟨#[]⟩] 32)).cell? ⟨w.heap.size, 0, none⟩ = some (.slice A na ca) from hB.cell 0)
 have X1 := Lib.hid (show (((w.alloc (.cells #[.slice A na ca, .slice Ab nb cb, .slice Ac nc cc] 27)).alloc (.cells #[I 0, .slice none 0 0, .slice none 0 0, .slice none 0 0, .string ⟨#[]⟩] 32)).alloc (.cells #[I 0, .slice none 0 0, .slice none 0 0, .slice none 0 0, .string ⟨#[]⟩] 32)).cell? ⟨w.heap.size, 1, none⟩ = some (.slice Ab nb cb) from hB.cell 1)
 have X2 := Lib.hid (show (((w.alloc (.cells #[.slice A na ca, .slice Ab nb cb, .slice Ac nc cc] 27)).alloc (.cells #[I 0, .slice none 0 0, .slice none 0 0, .slice none 0 0, .string ⟨#[]⟩] 32)).alloc (.cells #[I 0, .slice none 0 0, .slice none 0 0, .slice none 0 0, .string ⟨#[]⟩] 32)).cell? ⟨w.heap.size, 2, none⟩ = some (.slice Ac nc cc) from hB.cell 2)
 have HSH := Lib.hid hs
 have HGD := Lib.hid hgood
 have HLN := Lib.hid h.lens
 clear hB b1 b2 b3 hbt h hs htab hgood
 obtain ⟨R, hR⟩ : ∃ R, chkP (tx2 m) (tx1 lb) (tx1 lc) = R := ⟨_, rfl⟩
 rw [hR]
 have HCR := Lib.hid hR
 rw [hR] at HGD
 clear hR
 go_enter Tryz.func9, Tryz.ntmps9
 go_upto_region 2 with (fail)
 generalize ((w.alloc (.cells #[.slice A na ca, .slice Ab nb cb, .slice Ac nc cc] 27)).alloc (.cells #[I 0, .slice none 0 0, .slice none 0 0, .slice none 0 0, .string ⟨#[]⟩] 32)).alloc (.cells #[I 0, .slice none 0 0, .slice none 0 0, .slice none 0 0, .string ⟨#[]⟩] 32) = w3 at *
 have x0 := X0.out
 have x1 := X1.out
 have x2 := X2.out
 have HC := Lib.hid (pchk_any A Ab Ac na ca nb cb nc cc m lb lc w3 HP.out HSH.out HT.out)
 go_wp2_with fail
 refine HC.out.mono ?_
 rintro e w4 ⟨rfl, hb⟩
 clear HC x0 x1 x2
 rw [HCR.out]
 have HB := Lib.hid hb
 replace HP := Lib.hid (HP.out.below hb)
 skip
 replace X0 := Lib.hid (cell_below X0.out hb)
 replace X1 := Lib.hid (cell_below X1.out hb)
 replace X2 := Lib.hid (cell_below X2.out hb)
 clear hb
 by_cases hc : R = 0
 rotate_left
 ·have t3 : (R != 0) = true := bne_iff_ne.2 hc
  have HSL := Lib.hid (show solP (tx2 m) (tx1 lb) (tx1 lc) = noRes from if_neg (by rw [HCR.out]; exact hc))
  clear hc HGD HCR
  have hk4 := E4.out.below HB.out (by rw [HSZ.out]; omega)
  have v5 := hk4.v5
  have e0 := v5.c0
  have e1 := v5.c1
  have e2 := v5.c2
  have e3 := v5.c3
  have e4 := v5.c4
  clear v5 hk4
  have hblk := E2.out.below HB.out (by rw [HSZ.out]; omega)
  have hs5 := res_end (w0 := w) (b3 := w3.heap.size) (r := solP (tx2 m) (tx1 lb) (tx1 lc)) (c := R) (k := 0) (s := ⟨#[]⟩) hblk (HB1.out.trans (HB.out.mono HB1.out.size)) (by omega) (by rw [HSZ.out]; omega) HSL.out rfl (Row.nil _ _ _ _) (Row.nil _ _ _ _) (Row.nil _ _ _ _)
  have z5 := hblk.v5
  have z0 := z5.c0
  have y0 := z5.f0
  have z1 := z5.c1
  have y1 := z5.f1
  have z2 := z5.c2
  have y2 := z5.f2
  have z3 := z5.c3
  have y3 := z5.f3
  have z4 := z5.c4
  have y4 := z5.f4
  have HS1 := Lib.hid hs5.1
  have HS2 := Lib.hid hs5.2
  clear z5 hs5 hblk
  unfold set5 at HS1 HS2
  go_wp2
  clear z0 z1 z2 z3 z4 y0 y1 y2 y3 y4
  have z0 := HS1.out.c0
  have z1 := HS1.out.c1
  have z2 := HS1.out.c2
  have z3 := HS1.out.c3
  have z4 := HS1.out.c4
  generalize ((((w4.setCell ⟨w.heap.size + 1, 0, none⟩ (I 0)).setCell ⟨w.heap.size + 1, 1, none⟩ (.slice none 0 0)).setCell ⟨w.heap.size + 1, 2, none⟩ (.slice none 0 0)).setCell ⟨w.heap.size + 1, 3, none⟩ (.slice none 0 0)).setCell ⟨w.heap.size + 1, 4, none⟩ (.string ⟨#[]⟩) = WE at *
  exact bodyPost_ret (v := .tuple #[.agg #[I 0, .slice none 0 0, .slice none 0 0, .slice none 0 0, .string ⟨#[]⟩], I R]) (by simp [results, Tryz.results9, go_sem, z0, z1, z2, z3, z4]) rfl HS2.out
 subst hc
 have t3 : ((0 : Int) != 0) = false := rfl
 have HGO := Lib.hid (HGD.out rfl)
 have HSL := Lib.hid (show solP (tx2 m) (tx1 lb) (tx1 lc) = resTx (solveQ (valsM (tx2 m)) (valsV (tx1 lb)) (valsV (tx1 lc))) from if_pos HCR.out)
 clear HGD HCR
 obtain ⟨hla, hlb, hlc⟩ := HLN.out
 obtain rfl : nb = na := by have h := HGO.out.ok.hp.lb; rw [valsV, List.length_map] at h; omega
 have hna : nb ≤ 1000000 := by have := HGO.out.ok.hm; omega
 have hnc : nc ≤ 1000000 := by have := HGO.out.ok.hn; omega
 clear hla hlb hlc
 obtain ⟨s, hse⟩ : ∃ s, solveQ (valsM (tx2 m)) (valsV (tx1 lb)) (valsV (tx1 lc)) = s := ⟨_, rfl⟩
 rw [hse] at HSL
 have HFT := Lib.hid (show FitS s by have h := HGO.out.fit; rw [hse] at h; exact h)
 have HSE := Lib.hid hse
 clear hse
 go_upto_region 5 with (fail)
 clear t3
 go_cut [6] (fun s6 wx => ∃ gs Ax cx Ay cy Ar cr nb1 B1 l1 c1 B2 l2 c2, s6 = .pointer (some ⟨gs, 0, none⟩) ∧ Hid (Blk wx gs 73 #[I s.kind, .slice Ax s.x.length cx, .slice Ay s.y.length cy, .slice Ar s.ray.length cr, .bool nb1, .slice B1 l1 c1, .bool false, .slice B2 l2 c2]) ∧ Hid (RV wx Ax s.x.length s.x) ∧ Hid (RV wx Ay s.y.length s.y) ∧ Hid (RV wx Ar s.ray.length s.ray) ∧ Hid (s.kind = 0 → Rt wx (.agg #[.bool nb1, .slice B1 l1 c1, .bool false, .slice B2 l2 c2]) s.value) ∧ Hid (Below w3.heap.size w3 wx))
 case first =>
  have hd := below_draw w4
  replace HB := Lib.hid (HB.out.trans (hd.mono HB.out.size))
  replace HP := Lib.hid (HP.out.below hd)
  replace X0 := Lib.hid (cell_below X0.out hd)
  replace X1 := Lib.hid (cell_below X1.out hd)
  replace X2 := Lib.hid (cell_below X2.out hd)
  clear hd
  refine wp_region_c (fun w' => w'.cell? ⟨w.heap.size, 0, none⟩ = some (.slice A nb ca) ∧ w'.cell? ⟨w.heap.size, 1, none⟩ = some (.slice Ab nb cb) ∧ w'.cell? ⟨w.heap.size, 2, none⟩ = some (.slice Ac nc cc)) 11 (by kernel_rfl) ?_
  generalize w4.drew = w5 at *
  refine tq 0 (.pointer (some ⟨w.heap.size, 0, none⟩)) rfl ?_ ⟨X0.out, X1.out, X2.out⟩ ?_
  ·rintro w ⟨s0, s1, s2⟩
   go_simp
  try simp only [Act.put, putA]
  refine tq 1 (.slice A nb ca) rfl ?_ ⟨X0.out, X1.out, X2.out⟩ ?_
  ·rintro w ⟨s0, s1, s2⟩
   go_simp
  try simp only [Act.put]
  refine tq 3 (.pointer (some ⟨w.heap.size, 1, none⟩)) rfl ?_ ⟨X0.out, X1.out, X2.out⟩ ?_
  ·rintro w ⟨s0, s1, s2⟩
   go_simp
  try simp only [Act.put]
  refine tq 4 (.slice Ab nb cb) rfl ?_ ⟨X0.out, X1.out, X2.out⟩ ?_
  ·rintro w ⟨s0, s1, s2⟩
   go_simp
  try simp only [Act.put]
  refine tq 6 (.pointer (some ⟨w.heap.size, 2, none⟩)) rfl ?_ ⟨X0.out, X1.out, X2.out⟩ ?_
  ·rintro w ⟨s0, s1, s2⟩
   go_simp
  try simp only [Act.put]
  refine tq 7 (.slice Ac nc cc) rfl ?_ ⟨X0.out, X1.out, X2.out⟩ ?_
  ·rintro w ⟨s0, s1, s2⟩
   go_simp
  try simp only [Act.put]
  refine wpAnyC_all (l := [2, 10]) (by kernel_rfl) rfl ?_
  refine AllC.cons rfl (fun K hK => ?_) ?_
  ·skip
   go_simp
   go_at_call 31
   refine (values_any m nb A ca _ HP.out.ma HSH.out.ma HGO.out.va hna).mono ?_
   rintro e w6 ⟨vm, ms, rfl, hlm, hb⟩
   obtain ⟨Am, cm, rfl⟩ := hlm.outer.val
   have hlr := hlm.rm
   rw [show (valsM (tx2 m)).length = nb from HGO.out.ok.hp.len] at hlr ⊢
   have QM := Lib.hid hlr
   clear hlm hlr
   replace HB := Lib.hid (HB.out.trans (hb.mono HB.out.size))
   replace X0 := Lib.hid (cell_below X0.out hb)
   replace X1 := Lib.hid (cell_below X1.out hb)
   replace X2 := Lib.hid (cell_below X2.out hb)
   replace HP := Lib.hid (HP.out.below hb)
   clear hb
   refine hK.out _ _ (fun _ => ⟨X0.out, X1.out, X2.out⟩) ?_
   clear hK K
   try simp only [Act.put, putA, putZ, putC]
   refine wpAnyC_all (l := [5, 10]) (by kernel_rfl) rfl ?_
   refine AllC.cons rfl (fun K hK => ?_) ?_
   ·skip
    go_simp
    go_at_call 32
    refine (parseAll_any lb nb Ab cb _ HP.out.vb HSH.out.vb HGO.out.vb hna).mono ?_
    rintro e w7 ⟨vb, rfl, hlm, hb⟩
    obtain ⟨Bm, cbm, rfl⟩ := hlm.val
    have hlr := hlm.rv
    rw [show (valsV (tx1 lb)).length = nb from HGO.out.ok.hp.lb] at hlr ⊢
    have QB := Lib.hid hlr
    clear hlm hlr
    replace HB := Lib.hid (HB.out.trans (hb.mono HB.out.size))
    replace X0 := Lib.hid (cell_below X0.out hb)
    replace X1 := Lib.hid (cell_below X1.out hb)
    replace X2 := Lib.hid (cell_below X2.out hb)
    replace HP := Lib.hid (HP.out.below hb)
    replace QM := Lib.hid (QM.out.below hb)
    clear hb
    refine hK.out _ _ (fun _ => ⟨X0.out, X1.out, X2.out⟩) ?_
    clear hK K
    try simp only [Act.put, putA, putZ, putC]
    refine wpAnyC_all (l := [8, 10]) (by kernel_rfl) rfl ?_
    refine AllC.cons rfl (fun K hK => ?_) ?_
    ·skip
     go_simp
     go_at_call 32
     refine (parseAll_any lc nc Ac cc _ HP.out.vc HSH.out.vc HGO.out.vc hnc).mono ?_
     rintro e w8 ⟨vc, rfl, hlm, hb⟩
     obtain ⟨Cm, ccm, rfl⟩ := hlm.val
     have hlr := hlm.rv
     rw [show (valsV (tx1 lc)).length = nc from HGO.out.ok.hp.lc] at hlr ⊢
     have QC := Lib.hid hlr
     clear hlm hlr
     replace HB := Lib.hid (HB.out.trans (hb.mono HB.out.size))
     replace X0 := Lib.hid (cell_below X0.out hb)
     replace X1 := Lib.hid (cell_below X1.out hb)
     replace X2 := Lib.hid (cell_below X2.out hb)
     replace HP := Lib.hid (HP.out.below hb)
     replace QM := Lib.hid (QM.out.below hb)
     replace QB := Lib.hid (QB.out.below hb)
     clear hb
     refine hK.out _ _ (fun _ => ⟨X0.out, X1.out, X2.out⟩) ?_
     clear hK K
     try simp only [Act.put, putA, putZ, putC]
     refine wpAnyC_all (l := [9, 10]) (by kernel_rfl) rfl ?_
     refine AllC.cons rfl (fun K hK => ?_) ?_
     ·skip
      go_simp
      go_at_call 30
      refine (lsolve_any (valsM (tx2 m)) (valsV (tx1 lb)) (valsV (tx1 lc)) nb nc Am cm Bm cbm Cm ccm _ QM.out QB.out QC.out HGO.out.ok).mono ?_
      rintro e w9 ⟨vs, rfl, hsv, hb⟩
      rw [HSE.out] at hsv
      obtain ⟨vx, vy, vr, nb1, B1, l1, c1, B2, l2, c2, rfl, hx, hy, hr, hv⟩ := hsv
      obtain ⟨Ax, cx, rfl⟩ := hx.val
      obtain ⟨Ay, cy, rfl⟩ := hy.val
      obtain ⟨Ar, cr, rfl⟩ := hr.val
      have RX := Lib.hid hx
      have RY := Lib.hid hy
      have RR := Lib.hid hr
      have RV0 := Lib.hid hv
      clear hx hy hr hv
      replace HB := Lib.hid (HB.out.trans (hb.mono HB.out.size))
      replace X0 := Lib.hid (cell_below X0.out hb)
      replace X1 := Lib.hid (cell_below X1.out hb)
      replace X2 := Lib.hid (cell_below X2.out hb)
      replace HP := Lib.hid (HP.out.below hb)
      replace QM := Lib.hid (QM.out.below hb)
      replace QB := Lib.hid (QB.out.below hb)
      replace QC := Lib.hid (QC.out.below hb)
      clear hb
      refine hK.out _ _ (fun _ => ⟨X0.out, X1.out, X2.out⟩) ?_
      clear hK K
      try simp only [Act.put, putA, putZ, putC]
      refine on1 10 fun K hK => ?_
      go_simp
      have hb := below_new w9 (.cells #[I 0, .slice none 0 0, .slice none 0 0, .slice none 0 0, .bool false, .slice none 0 0, .bool false, .slice none 0 0] 73)
      have HZ := Lib.hid (Blk.new w9 73 #[I 0, .slice none 0 0, .slice none 0 0, .slice none 0 0, .bool false, .slice none 0 0, .bool false, .slice none 0 0])
      have HGS := Lib.hid HB.out.size
      replace HB := Lib.hid (HB.out.trans (hb.mono HB.out.size))
      replace RV0 := Lib.hid (fun e => (RV0.out e).ext hb)
      replace X0 := Lib.hid (cell_below X0.out hb)
      replace X1 := Lib.hid (cell_below X1.out hb)
      replace X2 := Lib.hid (cell_below X2.out hb)
      replace HP := Lib.hid (HP.out.below hb)
      replace QM := Lib.hid (QM.out.below hb)
      replace QB := Lib.hid (QB.out.below hb)
      replace QC := Lib.hid (QC.out.below hb)
      replace RX := Lib.hid (RX.out.call hb)
      replace RY := Lib.hid (RY.out.call hb)
      replace RR := Lib.hid (RR.out.call hb)
      clear hb
      refine hK.out _ _ (fun _ => ⟨X0.out, X1.out, X2.out⟩) ?_
      clear hK K
      try simp only [Act.put, putA, putZ, putC]
      generalize w9.alloc (.cells #[I 0, .slice none 0 0, .slice none 0 0, .slice none 0 0, .bool false, .slice none 0 0, .bool false, .slice none 0 0] 73) = w10 at *
      generalize w9.heap.size = gs at *
      have v8 := HZ.out.v8
      have z0 := v8.c0
      have y0 := v8.f0
      have z1 := v8.c1
      have y1 := v8.f1
      have z2 := v8.c2
      have y2 := v8.f2
      have z3 := v8.c3
      have y3 := v8.f3
      have z4 := v8.c4
      have y4 := v8.f4
      have z5 := v8.c5
      have y5 := v8.f5
      have z6 := v8.c6
      have y6 := v8.f6
      have z7 := v8.c7
      have y7 := v8.f7
      have hk := kw_set8 HZ.out zeros8_noWord (u7 := (.slice B2 l2 c2)) (noWord_int s.kind) (noWord_slice Ax s.x.length cx) (noWord_slice Ay s.y.length cy) (noWord_slice Ar s.ray.length cr) (noWord_bool nb1) (noWord_slice B1 l1 c1) (noWord_bool false)
      have F1 := Lib.hid (V8.of_blk HZ.out rfl (I s.kind) (.slice Ax s.x.length cx) (.slice Ay s.y.length cy) (.slice Ar s.ray.length cr) (.bool nb1) (.slice B1 l1 c1) (.bool false) (.slice B2 l2 c2))
      have F2 := Lib.hid (RX.out.set8 HZ.out hk).rv
      have F3 := Lib.hid (RY.out.set8 HZ.out hk).rv
      have F4 := Lib.hid (RR.out.set8 HZ.out hk).rv
      have F5 := Lib.hid (fun e => (RV0.out e).kw hk)
      have F6 := Lib.hid (below_set8 HB.out HGS.out (I s.kind) (.slice Ax s.x.length cx) (.slice Ay s.y.length cy) (.slice Ar s.ray.length cr) (.bool nb1) (.slice B1 l1 c1) (.bool false) (.slice B2 l2 c2))
      clear hk v8 HZ RX RY RR RV0 HB X0 X1 X2 HP QM QB QC
      unfold set8 at F1 F2 F3 F4 F5 F6
      refine on1 11 fun K hK => ?_
      go_simp
      refine hK.out _ _ (fun h => absurd h (by decide)) ?_
      clear hK K z0 z1 z2 z3 z4 z5 z6 z7 y0 y1 y2 y3 y4 y5 y6 y7
      try simp only [Act.put, putA, putZ, putC]
      refine wpAnyC_done (by kernel_rfl) ?_ _
      go_wp2_with fail
      go_meet
      case rel => exact ⟨gs, Ax, cx, Ay, cy, Ar, cr, nb1, B1, l1, c1, B2, l2, c2, rfl, F1, F2, F3, F4, F5, F6⟩
     ·refine AllC.cons rfl (fun K hK => ?_) AllC.nil
      go_simp
      have hb := below_new w8 (.cells #[I 0, .slice none 0 0, .slice none 0 0, .slice none 0 0, .bool false, .slice none 0 0, .bool false, .slice none 0 0] 73)
      have HZ := Lib.hid (Blk.new w8 73 #[I 0, .slice none 0 0, .slice none 0 0, .slice none 0 0, .bool false, .slice none 0 0, .bool false, .slice none 0 0])
      have HGS := Lib.hid HB.out.size
      replace HB := Lib.hid (HB.out.trans (hb.mono HB.out.size))
      replace X0 := Lib.hid (cell_below X0.out hb)
      replace X1 := Lib.hid (cell_below X1.out hb)
      replace X2 := Lib.hid (cell_below X2.out hb)
      replace HP := Lib.hid (HP.out.below hb)
      replace QM := Lib.hid (QM.out.below hb)
      replace QB := Lib.hid (QB.out.below hb)
      replace QC := Lib.hid (QC.out.below hb)
      clear hb
      refine hK.out _ _ (fun _ => ⟨X0.out, X1.out, X2.out⟩) ?_
      clear hK K
      try simp only [Act.put, putA, putZ, putC]
      generalize w8.alloc (.cells #[I 0, .slice none 0 0, .slice none 0 0, .slice none 0 0, .bool false, .slice none 0 0, .bool false, .slice none 0 0] 73) = w11 at *
      generalize w8.heap.size = gs at *
      refine on1 9 fun K hK => ?_
      go_simp
      go_at_call 30
      refine (lsolve_any (valsM (tx2 m)) (valsV (tx1 lb)) (valsV (tx1 lc)) nb nc Am cm Bm cbm Cm ccm _ QM.out QB.out QC.out HGO.out.ok).mono ?_
      rintro e w12 ⟨vs, rfl, hsv, hb⟩
      rw [HSE.out] at hsv
      obtain ⟨vx, vy, vr, nb1, B1, l1, c1, B2, l2, c2, rfl, hx, hy, hr, hv⟩ := hsv
      obtain ⟨Ax, cx, rfl⟩ := hx.val
      obtain ⟨Ay, cy, rfl⟩ := hy.val
      obtain ⟨Ar, cr, rfl⟩ := hr.val
      have RX := Lib.hid hx
      have RY := Lib.hid hy
      have RR := Lib.hid hr
      have RV0 := Lib.hid hv
      clear hx hy hr hv
      replace HB := Lib.hid (HB.out.trans (hb.mono HB.out.size))
      replace HZ := Lib.hid (HZ.out.below hb HZ.out.lt)
      replace X0 := Lib.hid (cell_below X0.out hb)
      replace X1 := Lib.hid (cell_below X1.out hb)
      replace X2 := Lib.hid (cell_below X2.out hb)
      replace HP := Lib.hid (HP.out.below hb)
      replace QM := Lib.hid (QM.out.below hb)
      replace QB := Lib.hid (QB.out.below hb)
      replace QC := Lib.hid (QC.out.below hb)
      clear hb
      refine hK.out _ _ (fun _ => ⟨X0.out, X1.out, X2.out⟩) ?_
      clear hK K
      try simp only [Act.put, putA, putZ, putC]
      have v8 := HZ.out.v8
      have z0 := v8.c0
      have y0 := v8.f0
      have z1 := v8.c1
      have y1 := v8.f1
      have z2 := v8.c2
      have y2 := v8.f2
      have z3 := v8.c3
      have y3 := v8.f3
      have z4 := v8.c4
      have y4 := v8.f4
      have z5 := v8.c5
      have y5 := v8.f5
      have z6 := v8.c6
      have y6 := v8.f6
      have z7 := v8.c7
      have y7 := v8.f7
      have hk := kw_set8 HZ.out zeros8_noWord (u7 := (.slice B2 l2 c2)) (noWord_int s.kind) (noWord_slice Ax s.x.length cx) (noWord_slice Ay s.y.length cy) (noWord_slice Ar s.ray.length cr) (noWord_bool nb1) (noWord_slice B1 l1 c1) (noWord_bool false)
      have F1 := Lib.hid (V8.of_blk HZ.out rfl (I s.kind) (.slice Ax s.x.length cx) (.slice Ay s.y.length cy) (.slice Ar s.ray.length cr) (.bool nb1) (.slice B1 l1 c1) (.bool false) (.slice B2 l2 c2))
      have F2 := Lib.hid (RX.out.set8 HZ.out hk).rv
      have F3 := Lib.hid (RY.out.set8 HZ.out hk).rv
      have F4 := Lib.hid (RR.out.set8 HZ.out hk).rv
      have F5 := Lib.hid (fun e => (RV0.out e).kw hk)
      have F6 := Lib.hid (below_set8 HB.out HGS.out (I s.kind) (.slice Ax s.x.length cx) (.slice Ay s.y.length cy) (.slice Ar s.ray.length cr) (.bool nb1) (.slice B1 l1 c1) (.bool false) (.slice B2 l2 c2))
      clear hk v8 HZ RX RY RR RV0 HB X0 X1 X2 HP QM QB QC
      unfold set8 at F1 F2 F3 F4 F5 F6
      refine on1 11 fun K hK => ?_
      go_simp
      refine hK.out _ _ (fun h => absurd h (by decide)) ?_
      clear hK K z0 z1 z2 z3 z4 z5 z6 z7 y0 y1 y2 y3 y4 y5 y6 y7
      try simp only [Act.put, putA, putZ, putC]
      refine wpAnyC_done (by kernel_rfl) ?_ _
      go_wp2_with fail
      go_meet
      case rel => exact ⟨gs, Ax, cx, Ay, cy, Ar, cr, nb1, B1, l1, c1, B2, l2, c2, rfl, F1, F2, F3, F4, F5, F6⟩
    ·refine AllC.cons rfl (fun K hK => ?_) AllC.nil
     go_simp
     have hb := below_new w7 (.cells #[I 0, .slice none 0 0, .slice none 0 0, .slice none 0 0, .bool false, .slice none 0 0, .bool false, .slice none 0 0] 73)
     have HZ := Lib.hid (Blk.new w7 73 #[I 0, .slice none 0 0, .slice none 0 0, .slice none 0 0, .bool false, .slice none 0 0, .bool false, .slice none 0 0])
     have HGS := Lib.hid HB.out.size
     replace HB := Lib.hid (HB.out.trans (hb.mono HB.out.size))
     replace X0 := Lib.hid (cell_below X0.out hb)
     replace X1 := Lib.hid (cell_below X1.out hb)
     replace X2 := Lib.hid (cell_below X2.out hb)
     replace HP := Lib.hid (HP.out.below hb)
     replace QM := Lib.hid (QM.out.below hb)
     replace QB := Lib.hid (QB.out.below hb)
     clear hb
     refine hK.out _ _ (fun _ => ⟨X0.out, X1.out, X2.out⟩) ?_
     clear hK K
     try simp only [Act.put, putA, putZ, putC]
     generalize w7.alloc (.cells #[I 0, .slice none 0 0, .slice none 0 0, .slice none 0 0, .bool false, .slice none 0 0, .bool false, .slice none 0 0] 73) = w13 at *
     generalize w7.heap.size = gs at *
     refine on1 8 fun K hK => ?_
     go_simp
     go_at_call 32
     refine (parseAll_any lc nc Ac cc _ HP.out.vc HSH.out.vc HGO.out.vc hnc).mono ?_
     rintro e w14 ⟨vc, rfl, hlm, hb⟩
     obtain ⟨Cm, ccm, rfl⟩ := hlm.val
     have hlr := hlm.rv
     rw [show (valsV (tx1 lc)).length = nc from HGO.out.ok.hp.lc] at hlr ⊢
     have QC := Lib.hid hlr
     clear hlm hlr
     replace HB := Lib.hid (HB.out.trans (hb.mono HB.out.size))
     replace HZ := Lib.hid (HZ.out.below hb HZ.out.lt)
     replace X0 := Lib.hid (cell_below X0.out hb)
     replace X1 := Lib.hid (cell_below X1.out hb)
     replace X2 := Lib.hid (cell_below X2.out hb)
     replace HP := Lib.hid (HP.out.below hb)
     replace QM := Lib.hid (QM.out.below hb)
     replace QB := Lib.hid (QB.out.below hb)
     clear hb
     refine hK.out _ _ (fun _ => ⟨X0.out, X1.out, X2.out⟩) ?_
     clear hK K
     try simp only [Act.put, putA, putZ, putC]
     refine on1 9 fun K hK => ?_
     go_simp
     go_at_call 30
     refine (lsolve_any (valsM (tx2 m)) (valsV (tx1 lb)) (valsV (tx1 lc)) nb nc Am cm Bm cbm Cm ccm _ QM.out QB.out QC.out HGO.out.ok).mono ?_
     rintro e w15 ⟨vs, rfl, hsv, hb⟩
     rw [HSE.out] at hsv
     obtain ⟨vx, vy, vr, nb1, B1, l1, c1, B2, l2, c2, rfl, hx, hy, hr, hv⟩ := hsv
     obtain ⟨Ax, cx, rfl⟩ := hx.val
     obtain ⟨Ay, cy, rfl⟩ := hy.val
     obtain ⟨Ar, cr, rfl⟩ := hr.val
     have RX := Lib.hid hx
     have RY := Lib.hid hy
     have RR := Lib.hid hr
     have RV0 := Lib.hid hv
     clear hx hy hr hv
     replace HB := Lib.hid (HB.out.trans (hb.mono HB.out.size))
     replace HZ := Lib.hid (HZ.out.below hb HZ.out.lt)
     replace X0 := Lib.hid (cell_below X0.out hb)
     replace X1 := Lib.hid (cell_below X1.out hb)
     replace X2 := Lib.hid (cell_below X2.out hb)
     replace HP := Lib.hid (HP.out.below hb)
     replace QM := Lib.hid (QM.out.below hb)
     replace QB := Lib.hid (QB.out.below hb)
     replace QC := Lib.hid (QC.out.below hb)
     clear hb
     refine hK.out _ _ (fun _ => ⟨X0.out, X1.out, X2.out⟩) ?_
     clear hK K
     try simp only [Act.put, putA, putZ, putC]
     have v8 := HZ.out.v8
     have z0 := v8.c0
     have y0 := v8.f0
     have z1 := v8.c1
     have y1 := v8.f1
     have z2 := v8.c2
     have y2 := v8.f2
     have z3 := v8.c3
     have y3 := v8.f3
     have z4 := v8.c4
     have y4 := v8.f4
     have z5 := v8.c5
     have y5 := v8.f5
     have z6 := v8.c6
     have y6 := v8.f6
     have z7 := v8.c7
     have y7 := v8.f7
     have hk := kw_set8 HZ.out zeros8_noWord (u7 := (.slice B2 l2 c2)) (noWord_int s.kind) (noWord_slice Ax s.x.length cx) (noWord_slice Ay s.y.length cy) (noWord_slice Ar s.ray.length cr) (noWord_bool nb1) (noWord_slice B1 l1 c1) (noWord_bool false)
     have F1 := Lib.hid (V8.of_blk HZ.out rfl (I s.kind) (.slice Ax s.x.length cx) (.slice Ay s.y.length cy) (.slice Ar s.ray.length cr) (.bool nb1) (.slice B1 l1 c1) (.bool false) (.slice B2 l2 c2))
     have F2 := Lib.hid (RX.out.set8 HZ.out hk).rv
     have F3 := Lib.hid (RY.out.set8 HZ.out hk).rv
     have F4 := Lib.hid (RR.out.set8 HZ.out hk).rv
     have F5 := Lib.hid (fun e => (RV0.out e).kw hk)
     have F6 := Lib.hid (below_set8 HB.out HGS.out (I s.kind) (.slice Ax s.x.length cx) (.slice Ay s.y.length cy) (.slice Ar s.ray.length cr) (.bool nb1) (.slice B1 l1 c1) (.bool false) (.slice B2 l2 c2))
     clear hk v8 HZ RX RY RR RV0 HB X0 X1 X2 HP QM QB QC
     unfold set8 at F1 F2 F3 F4 F5 F6
     refine on1 11 fun K hK => ?_
     go_simp
     refine hK.out _ _ (fun h => absurd h (by decide)) ?_
     clear hK K z0 z1 z2 z3 z4 z5 z6 z7 y0 y1 y2 y3 y4 y5 y6 y7
     try simp only [Act.put, putA, putZ, putC]
     refine wpAnyC_done (by kernel_rfl) ?_ _
     go_wp2_with fail
     go_meet
     case rel => exact ⟨gs, Ax, cx, Ay, cy, Ar, cr, nb1, B1, l1, c1, B2, l2, c2, rfl, F1, F2, F3, F4, F5, F6⟩
   ·refine AllC.cons rfl (fun K hK => ?_) AllC.nil
    go_simp
    have hb := below_new w6 (.cells #[I 0, .slice none 0 0, .slice none 0 0, .slice none 0 0, .bool false, .slice none 0 0, .bool false, .slice none 0 0] 73)
    have HZ := Lib.hid (Blk.new w6 73 #[I 0, .slice none 0 0, .slice none 0 0, .slice none 0 0, .bool false, .slice none 0 0, .bool false, .slice none 0 0])
    have HGS := Lib.hid HB.out.size
    replace HB := Lib.hid (HB.out.trans (hb.mono HB.out.size))
    replace X0 := Lib.hid (cell_below X0.out hb)
    replace X1 := Lib.hid (cell_below X1.out hb)
    replace X2 := Lib.hid (cell_below X2.out hb)
    replace HP := Lib.hid (HP.out.below hb)
    replace QM := Lib.hid (QM.out.below hb)
    clear hb
    refine hK.out _ _ (fun _ => ⟨X0.out, X1.out, X2.out⟩) ?_
    clear hK K
    try simp only [Act.put, putA, putZ, putC]
    generalize w6.alloc (.cells #[I 0, .slice none 0 0, .slice none 0 0, .slice none 0 0, .bool false, .slice none 0 0, .bool false, .slice none 0 0] 73) = w16 at *
    generalize w6.heap.size = gs at *
    refine on1 5 fun K hK => ?_
    go_simp
    go_at_call 32
    refine (parseAll_any lb nb Ab cb _ HP.out.vb HSH.out.vb HGO.out.vb hna).mono ?_
    rintro e w17 ⟨vb, rfl, hlm, hb⟩
    obtain ⟨Bm, cbm, rfl⟩ := hlm.val
    have hlr := hlm.rv
    rw [show (valsV (tx1 lb)).length = nb from HGO.out.ok.hp.lb] at hlr ⊢
    have QB := Lib.hid hlr
    clear hlm hlr
    replace HB := Lib.hid (HB.out.trans (hb.mono HB.out.size))
    replace HZ := Lib.hid (HZ.out.below hb HZ.out.lt)
    replace X0 := Lib.hid (cell_below X0.out hb)
    replace X1 := Lib.hid (cell_below X1.out hb)
    replace X2 := Lib.hid (cell_below X2.out hb)
    replace HP := Lib.hid (HP.out.below hb)
    replace QM := Lib.hid (QM.out.below hb)
    clear hb
    refine hK.out _ _ (fun _ => ⟨X0.out, X1.out, X2.out⟩) ?_
    clear hK K
    try simp only [Act.put, putA, putZ, putC]
    refine on1 8 fun K hK => ?_
    go_simp
    go_at_call 32
    refine (parseAll_any lc nc Ac cc _ HP.out.vc HSH.out.vc HGO.out.vc hnc).mono ?_
    rintro e w18 ⟨vc, rfl, hlm, hb⟩
    obtain ⟨Cm, ccm, rfl⟩ := hlm.val
    have hlr := hlm.rv
    rw [show (valsV (tx1 lc)).length = nc from HGO.out.ok.hp.lc] at hlr ⊢
    have QC := Lib.hid hlr
    clear hlm hlr
    replace HB := Lib.hid (HB.out.trans (hb.mono HB.out.size))
    replace HZ := Lib.hid (HZ.out.below hb HZ.out.lt)
    replace X0 := Lib.hid (cell_below X0.out hb)
    replace X1 := Lib.hid (cell_below X1.out hb)
    replace X2 := Lib.hid (cell_below X2.out hb)
    replace HP := Lib.hid (HP.out.below hb)
    replace QM := Lib.hid (QM.out.below hb)
    replace QB := Lib.hid (QB.out.below hb)
    clear hb
    refine hK.out _ _ (fun _ => ⟨X0.out, X1.out, X2.out⟩) ?_
    clear hK K
    try simp only [Act.put, putA, putZ, putC]
    refine on1 9 fun K hK => ?_
    go_simp
    go_at_call 30
    refine (lsolve_any (valsM (tx2 m)) (valsV (tx1 lb)) (valsV (tx1 lc)) nb nc Am cm Bm cbm Cm ccm _ QM.out QB.out QC.out HGO.out.ok).mono ?_
    rintro e w19 ⟨vs, rfl, hsv, hb⟩
    rw [HSE.out] at hsv
    obtain ⟨vx, vy, vr, nb1, B1, l1, c1, B2, l2, c2, rfl, hx, hy, hr, hv⟩ := hsv
    obtain ⟨Ax, cx, rfl⟩ := hx.val
    obtain ⟨Ay, cy, rfl⟩ := hy.val
    obtain ⟨Ar, cr, rfl⟩ := hr.val
    have RX := Lib.hid hx
    have RY := Lib.hid hy
    have RR := Lib.hid hr
    have RV0 := Lib.hid hv
    clear hx hy hr hv
    replace HB := Lib.hid (HB.out.trans (hb.mono HB.out.size))
    replace HZ := Lib.hid (HZ.out.below hb HZ.out.lt)
    replace X0 := Lib.hid (cell_below X0.out hb)
    replace X1 := Lib.hid (cell_below X1.out hb)
    replace X2 := Lib.hid (cell_below X2.out hb)
    replace HP := Lib.hid (HP.out.below hb)
    replace QM := Lib.hid (QM.out.below hb)
    replace QB := Lib.hid (QB.out.below hb)
    replace QC := Lib.hid (QC.out.below hb)
    clear hb
    refine hK.out _ _ (fun _ => ⟨X0.out, X1.out, X2.out⟩) ?_
    clear hK K
    try simp only [Act.put, putA, putZ, putC]
    have v8 := HZ.out.v8
    have z0 := v8.c0
    have y0 := v8.f0
    have z1 := v8.c1
    have y1 := v8.f1
    have z2 := v8.c2
    have y2 := v8.f2
    have z3 := v8.c3
    have y3 := v8.f3
    have z4 := v8.c4
    have y4 := v8.f4
    have z5 := v8.c5
    have y5 := v8.f5
    have z6 := v8.c6
    have y6 := v8.f6
    have z7 := v8.c7
    have y7 := v8.f7
    have hk := kw_set8 HZ.out zeros8_noWord (u7 := (.slice B2 l2 c2)) (noWord_int s.kind) (noWord_slice Ax s.x.length cx) (noWord_slice Ay s.y.length cy) (noWord_slice Ar s.ray.length cr) (noWord_bool nb1) (noWord_slice B1 l1 c1) (noWord_bool false)
    have F1 := Lib.hid (V8.of_blk HZ.out rfl (I s.kind) (.slice Ax s.x.length cx) (.slice Ay s.y.length cy) (.slice Ar s.ray.length cr) (.bool nb1) (.slice B1 l1 c1) (.bool false) (.slice B2 l2 c2))
    have F2 := Lib.hid (RX.out.set8 HZ.out hk).rv
    have F3 := Lib.hid (RY.out.set8 HZ.out hk).rv
    have F4 := Lib.hid (RR.out.set8 HZ.out hk).rv
    have F5 := Lib.hid (fun e => (RV0.out e).kw hk)
    have F6 := Lib.hid (below_set8 HB.out HGS.out (I s.kind) (.slice Ax s.x.length cx) (.slice Ay s.y.length cy) (.slice Ar s.ray.length cr) (.bool nb1) (.slice B1 l1 c1) (.bool false) (.slice B2 l2 c2))
    clear hk v8 HZ RX RY RR RV0 HB X0 X1 X2 HP QM QB QC
    unfold set8 at F1 F2 F3 F4 F5 F6
    refine on1 11 fun K hK => ?_
    go_simp
    refine hK.out _ _ (fun h => absurd h (by decide)) ?_
    clear hK K z0 z1 z2 z3 z4 z5 z6 z7 y0 y1 y2 y3 y4 y5 y6 y7
    try simp only [Act.put, putA, putZ, putC]
    refine wpAnyC_done (by kernel_rfl) ?_ _
    go_wp2_with fail
    go_meet
    case rel => exact ⟨gs, Ax, cx, Ay, cy, Ar, cr, nb1, B1, l1, c1, B2, l2, c2, rfl, F1, F2, F3, F4, F5, F6⟩
  ·refine AllC.cons rfl (fun K hK => ?_) AllC.nil
   go_simp
   have hb := below_new w5 (.cells #[I 0, .slice none 0 0, .slice none 0 0, .slice none 0 0, .bool false, .slice none 0 0, .bool false, .slice none 0 0] 73)
   have HZ := Lib.hid (Blk.new w5 73 #[I 0, .slice none 0 0, .slice none 0 0, .slice none 0 0, .bool false, .slice none 0 0, .bool false, .slice none 0 0])
   have HGS := Lib.hid HB.out.size
   replace HB := Lib.hid (HB.out.trans (hb.mono HB.out.size))
   replace X0 := Lib.hid (cell_below X0.out hb)
   replace X1 := Lib.hid (cell_below X1.out hb)
   replace X2 := Lib.hid (cell_below X2.out hb)
   replace HP := Lib.hid (HP.out.below hb)
   clear hb
   refine hK.out _ _ (fun _ => ⟨X0.out, X1.out, X2.out⟩) ?_
   clear hK K
   try simp only [Act.put, putA, putZ, putC]
   generalize w5.alloc (.cells #[I 0, .slice none 0 0, .slice none 0 0, .slice none 0 0, .bool false, .slice none 0 0, .bool false, .slice none 0 0] 73) = w20 at *
   generalize w5.heap.size = gs at *
   refine on1 2 fun K hK => ?_
   go_simp
   go_at_call 31
   refine (values_any m nb A ca _ HP.out.ma HSH.out.ma HGO.out.va hna).mono ?_
   rintro e w21 ⟨vm, ms, rfl, hlm, hb⟩
   obtain ⟨Am, cm, rfl⟩ := hlm.outer.val
   have hlr := hlm.rm
   rw [show (valsM (tx2 m)).length = nb from HGO.out.ok.hp.len] at hlr ⊢
   have QM := Lib.hid hlr
   clear hlm hlr
   replace HB := Lib.hid (HB.out.trans (hb.mono HB.out.size))
   replace HZ := Lib.hid (HZ.out.below hb HZ.out.lt)
   replace X0 := Lib.hid (cell_below X0.out hb)
   replace X1 := Lib.hid (cell_below X1.out hb)
   replace X2 := Lib.hid (cell_below X2.out hb)
   replace HP := Lib.hid (HP.out.below hb)
   clear hb
   refine hK.out _ _ (fun _ => ⟨X0.out, X1.out, X2.out⟩) ?_
   clear hK K
   try simp only [Act.put, putA, putZ, putC]
   refine on1 5 fun K hK => ?_
   go_simp
   go_at_call 32
   refine (parseAll_any lb nb Ab cb _ HP.out.vb HSH.out.vb HGO.out.vb hna).mono ?_
   rintro e w22 ⟨vb, rfl, hlm, hb⟩
   obtain ⟨Bm, cbm, rfl⟩ := hlm.val
   have hlr := hlm.rv
   rw [show (valsV (tx1 lb)).length = nb from HGO.out.ok.hp.lb] at hlr ⊢
   have QB := Lib.hid hlr
   clear hlm hlr
   replace HB := Lib.hid (HB.out.trans (hb.mono HB.out.size))
   replace HZ := Lib.hid (HZ.out.below hb HZ.out.lt)
   replace X0 := Lib.hid (cell_below X0.out hb)
   replace X1 := Lib.hid (cell_below X1.out hb)
   replace X2 := Lib.hid (cell_below X2.out hb)
   replace HP := Lib.hid (HP.out.below hb)
   replace QM := Lib.hid (QM.out.below hb)
   clear hb
   refine hK.out _ _ (fun _ => ⟨X0.out, X1.out, X2.out⟩) ?_
   clear hK K
   try simp only [Act.put, putA, putZ, putC]
   refine on1 8 fun K hK => ?_
   go_simp
   go_at_call 32
   refine (parseAll_any lc nc Ac cc _ HP.out.vc HSH.out.vc HGO.out.vc hnc).mono ?_
   rintro e w23 ⟨vc, rfl, hlm, hb⟩
   obtain ⟨Cm, ccm, rfl⟩ := hlm.val
   have hlr := hlm.rv
   rw [show (valsV (tx1 lc)).length = nc from HGO.out.ok.hp.lc] at hlr ⊢
   have QC := Lib.hid hlr
   clear hlm hlr
   replace HB := Lib.hid (HB.out.trans (hb.mono HB.out.size))
   replace HZ := Lib.hid (HZ.out.below hb HZ.out.lt)
   replace X0 := Lib.hid (cell_below X0.out hb)
   replace X1 := Lib.hid (cell_below X1.out hb)
   replace X2 := Lib.hid (cell_below X2.out hb)
   replace HP := Lib.hid (HP.out.below hb)
   replace QM := Lib.hid (QM.out.below hb)
   replace QB := Lib.hid (QB.out.below hb)
   clear hb
   refine hK.out _ _ (fun _ => ⟨X0.out, X1.out, X2.out⟩) ?_
   clear hK K
   try simp only [Act.put, putA, putZ, putC]
   refine on1 9 fun K hK => ?_
   go_simp
   go_at_call 30
   refine (lsolve_any (valsM (tx2 m)) (valsV (tx1 lb)) (valsV (tx1 lc)) nb nc Am cm Bm cbm Cm ccm _ QM.out QB.out QC.out HGO.out.ok).mono ?_
   rintro e w24 ⟨vs, rfl, hsv, hb⟩
   rw [HSE.out] at hsv
   obtain ⟨vx, vy, vr, nb1, B1, l1, c1, B2, l2, c2, rfl, hx, hy, hr, hv⟩ := hsv
   obtain ⟨Ax, cx, rfl⟩ := hx.val
   obtain ⟨Ay, cy, rfl⟩ := hy.val
   obtain ⟨Ar, cr, rfl⟩ := hr.val
   have RX := Lib.hid hx
   have RY := Lib.hid hy
   have RR := Lib.hid hr
   have RV0 := Lib.hid hv
   clear hx hy hr hv
   replace HB := Lib.hid (HB.out.trans (hb.mono HB.out.size))
   replace HZ := Lib.hid (HZ.out.below hb HZ.out.lt)
   replace X0 := Lib.hid (cell_below X0.out hb)
   replace X1 := Lib.hid (cell_below X1.out hb)
   replace X2 := Lib.hid (cell_below X2.out hb)
   replace HP := Lib.hid (HP.out.below hb)
   replace QM := Lib.hid (QM.out.below hb)
   replace QB := Lib.hid (QB.out.below hb)
   replace QC := Lib.hid (QC.out.below hb)
   clear hb
   refine hK.out _ _ (fun _ => ⟨X0.out, X1.out, X2.out⟩) ?_
   clear hK K
   try simp only [Act.put, putA, putZ, putC]
   have v8 := HZ.out.v8
   have z0 := v8.c0
   have y0 := v8.f0
   have z1 := v8.c1
   have y1 := v8.f1
   have z2 := v8.c2
   have y2 := v8.f2
   have z3 := v8.c3
   have y3 := v8.f3
   have z4 := v8.c4
   have y4 := v8.f4
   have z5 := v8.c5
   have y5 := v8.f5
   have z6 := v8.c6
   have y6 := v8.f6
   have z7 := v8.c7
   have y7 := v8.f7
   have hk := kw_set8 HZ.out zeros8_noWord (u7 := (.slice B2 l2 c2)) (noWord_int s.kind) (noWord_slice Ax s.x.length cx) (noWord_slice Ay s.y.length cy) (noWord_slice Ar s.ray.length cr) (noWord_bool nb1) (noWord_slice B1 l1 c1) (noWord_bool false)
   have F1 := Lib.hid (V8.of_blk HZ.out rfl (I s.kind) (.slice Ax s.x.length cx) (.slice Ay s.y.length cy) (.slice Ar s.ray.length cr) (.bool nb1) (.slice B1 l1 c1) (.bool false) (.slice B2 l2 c2))
   have F2 := Lib.hid (RX.out.set8 HZ.out hk).rv
   have F3 := Lib.hid (RY.out.set8 HZ.out hk).rv
   have F4 := Lib.hid (RR.out.set8 HZ.out hk).rv
   have F5 := Lib.hid (fun e => (RV0.out e).kw hk)
   have F6 := Lib.hid (below_set8 HB.out HGS.out (I s.kind) (.slice Ax s.x.length cx) (.slice Ay s.y.length cy) (.slice Ar s.ray.length cr) (.bool nb1) (.slice B1 l1 c1) (.bool false) (.slice B2 l2 c2))
   clear hk v8 HZ RX RY RR RV0 HB X0 X1 X2 HP QM QB QC
   unfold set8 at F1 F2 F3 F4 F5 F6
   refine on1 11 fun K hK => ?_
   go_simp
   refine hK.out _ _ (fun h => absurd h (by decide)) ?_
   clear hK K z0 z1 z2 z3 z4 z5 z6 z7 y0 y1 y2 y3 y4 y5 y6 y7
   try simp only [Act.put, putA, putZ, putC]
   refine wpAnyC_done (by kernel_rfl) ?_ _
   go_wp2_with fail
   go_meet
   case rel => exact ⟨gs, Ax, cx, Ay, cy, Ar, cr, nb1, B1, l1, c1, B2, l2, c2, rfl, F1, F2, F3, F4, F5, F6⟩
 case rest =>
  obtain ⟨gs, Ax, cx, Ay, cy, Ar, cr, nb1, B1, l1, c1, B2, l2, c2, rfl, HDB, RX, RY, RR, RV0, HB2⟩ := hcut
  clear HB
  have HB := HB2
  clear HB2 HP X0 X1 X2 HGO HSH
  obtain ⟨w10, rfl⟩ : ∃ w10 : World, w10 = wc := ⟨_, rfl⟩
  have d0 : w10.cell? ⟨gs, 0, none⟩ = some (I s.kind) := HDB.out.cell 0
  go_upto_region 7 with (fail)
  have hb := below_new w10 (.cells #[I s.kind, .slice none 0 0, .slice none 0 0, .slice none 0 0, .string ⟨#[]⟩] 32)
  have RB := Lib.hid (Blk.new w10 32 #[I s.kind, .slice none 0 0, .slice none 0 0, .slice none 0 0, .string ⟨#[]⟩])
  have HGR := Lib.hid HB.out.size
  clear d0
  replace HDB := Lib.hid (HDB.out.below hb HDB.out.lt)
  replace RX := Lib.hid (RX.out.below hb)
  replace RY := Lib.hid (RY.out.below hb)
  replace RR := Lib.hid (RR.out.below hb)
  replace RV0 := Lib.hid (fun e => (RV0.out e).ext hb)
  replace HB := Lib.hid (HB.out.trans (hb.mono HB.out.size))
  clear hb
  generalize w10.alloc (.cells #[I s.kind, .slice none 0 0, .slice none 0 0, .slice none 0 0, .string ⟨#[]⟩] 32) = w11 at *
  generalize w10.heap.size = gr at *
  have d1 : w11.cell? ⟨gs, 1, none⟩ = some (.slice Ax s.x.length cx) := HDB.out.cell 1
  have HC := Lib.hid (texts_any s.x s.x.length Ax cx w11 RX.out (by have := HFT.out.lx; omega) (tab_below HT.out HB.out))
  go_wp2_with fail
  refine HC.out.mono ?_
  rintro e w12 ⟨v1, rfl, hrow, _, hb⟩
  clear HC d1 RX
  rw [HFT.out.fx]
  have hr1 := hrow HFT.out.fx
  obtain ⟨T1, k1, rfl⟩ := hr1.val
  have R1 := Lib.hid (show Row w12 w3.heap.size strT 1 (.slice T1 s.x.length k1) s.x.length ((mkS (s.x.map qText)).map Sv) from hr1.less HB.out.size)
  clear hr1 hrow
  replace HDB := Lib.hid (HDB.out.below hb HDB.out.lt)
  replace RB := Lib.hid (RB.out.below hb RB.out.lt)
  replace RV0 := Lib.hid (fun e => (RV0.out e).ext hb)
  replace RY := Lib.hid (RY.out.below hb)
  replace RR := Lib.hid (RR.out.below hb)
  replace HB := Lib.hid (HB.out.trans (hb.mono HB.out.size))
  clear hb
  have d2 : w12.cell? ⟨gs, 2, none⟩ = some (.slice Ay s.y.length cy) := HDB.out.cell 2
  have HC := Lib.hid (texts_any s.y s.y.length Ay cy w12 RY.out (by have := HFT.out.ly; omega) (tab_below HT.out HB.out))
  go_wp2_with fail
  refine HC.out.mono ?_
  rintro e w13 ⟨v2, rfl, hrow, _, hb⟩
  clear HC d2 RY
  rw [HFT.out.fy]
  have hr1 := hrow HFT.out.fy
  obtain ⟨T2, k2, rfl⟩ := hr1.val
  have R2 := Lib.hid (show Row w13 w3.heap.size strT 1 (.slice T2 s.y.length k2) s.y.length ((mkS (s.y.map qText)).map Sv) from hr1.less HB.out.size)
  clear hr1 hrow
  replace HDB := Lib.hid (HDB.out.below hb HDB.out.lt)
  replace RB := Lib.hid (RB.out.below hb RB.out.lt)
  replace RV0 := Lib.hid (fun e => (RV0.out e).ext hb)
  replace RR := Lib.hid (RR.out.below hb)
  replace R1 := Lib.hid (R1.out.call hb)
  replace HB := Lib.hid (HB.out.trans (hb.mono HB.out.size))
  clear hb
  have d3 : w13.cell? ⟨gs, 3, none⟩ = some (.slice Ar s.ray.length cr) := HDB.out.cell 3
  have HC := Lib.hid (texts_any s.ray s.ray.length Ar cr w13 RR.out (by have := HFT.out.lr; omega) (tab_below HT.out HB.out))
  go_wp2_with fail
  refine HC.out.mono ?_
  rintro e w14 ⟨v3, rfl, hrow, _, hb⟩
  clear HC d3 RR
  rw [HFT.out.fr]
  have hr1 := hrow HFT.out.fr
  obtain ⟨T3, k3, rfl⟩ := hr1.val
  have R3 := Lib.hid (show Row w14 w3.heap.size strT 1 (.slice T3 s.ray.length k3) s.ray.length ((mkS (s.ray.map qText)).map Sv) from hr1.less HB.out.size)
  clear hr1 hrow
  replace HDB := Lib.hid (HDB.out.below hb HDB.out.lt)
  replace RB := Lib.hid (RB.out.below hb RB.out.lt)
  replace RV0 := Lib.hid (fun e => (RV0.out e).ext hb)
  replace R1 := Lib.hid (R1.out.call hb)
  replace R2 := Lib.hid (R2.out.call hb)
  replace HB := Lib.hid (HB.out.trans (hb.mono HB.out.size))
  clear hb
  go_upto_region 12 with (fail)
  have z1 : w14.cell? ⟨gr, 1, none⟩ = some (.slice none 0 0) := RB.out.cell 1
  have y1 := RB.out.frozen 1
  have z2 : w14.cell? ⟨gr, 2, none⟩ = some (.slice none 0 0) := RB.out.cell 2
  have y2 := RB.out.frozen 2
  have z3 : w14.cell? ⟨gr, 3, none⟩ = some (.slice none 0 0) := RB.out.cell 3
  have y3 := RB.out.frozen 3
  go_upto_region 13 with (fail)
  clear z1 z2 z3 y1 y2 y3
  have hrb := RB.out
  have hgd : gs ≠ gr := TBx.ne_ty hrb HDB.out (by decide)
  have hw : ∀ (l : List Value), (∀ u ∈ l, noWord u) → True := fun _ _ => trivial
  clear hw
  have hfk := Kw.refl w14
  have hfb := Below.refl w3.heap.size w14
  have hk1 : Kw w14 (w14.setCell ⟨gr, 1, none⟩ (.slice T1 s.x.length k1)) := kw_nw hrb (noWord5 s.kind _ _ _ _ (noWord_slice _ _ _) (noWord_slice _ _ _) (noWord_slice _ _ _)) 1 _
  replace hfk := hfk.trans hk1
  replace hfb := hfb.setCell (p := ⟨gr, 1, none⟩) HGR.out (.slice T1 s.x.length k1)
  replace R1 := Lib.hid (R1.out.farT (o := 1) hrb (by decide) (.slice T1 s.x.length k1))
  replace R2 := Lib.hid (R2.out.farT (o := 1) hrb (by decide) (.slice T1 s.x.length k1))
  replace R3 := Lib.hid (R3.out.farT (o := 1) hrb (by decide) (.slice T1 s.x.length k1))
  replace HDB := Lib.hid (HDB.out.farB (o := 1) hgd (.slice T1 s.x.length k1))
  have hrb1 : Blk (w14.setCell ⟨gr, 1, none⟩ (.slice T1 s.x.length k1)) gr 32 #[I s.kind, .slice T1 s.x.length k1, .slice none 0 0, .slice none 0 0, .string ⟨#[]⟩] := hrb.set_ 1 (.slice T1 s.x.length k1)
  clear hrb hk1
  have hk2 : Kw (w14.setCell ⟨gr, 1, none⟩ (.slice T1 s.x.length k1)) ((w14.setCell ⟨gr, 1, none⟩ (.slice T1 s.x.length k1)).setCell ⟨gr, 2, none⟩ (.slice T2 s.y.length k2)) := kw_nw hrb1 (noWord5 s.kind _ _ _ _ (noWord_slice _ _ _) (noWord_slice _ _ _) (noWord_slice _ _ _)) 2 _
  replace hfk := hfk.trans hk2
  replace hfb := hfb.setCell (p := ⟨gr, 2, none⟩) HGR.out (.slice T2 s.y.length k2)
  replace R1 := Lib.hid (R1.out.farT (o := 2) hrb1 (by decide) (.slice T2 s.y.length k2))
  replace R2 := Lib.hid (R2.out.farT (o := 2) hrb1 (by decide) (.slice T2 s.y.length k2))
  replace R3 := Lib.hid (R3.out.farT (o := 2) hrb1 (by decide) (.slice T2 s.y.length k2))
  replace HDB := Lib.hid (HDB.out.farB (o := 2) hgd (.slice T2 s.y.length k2))
  have hrb2 : Blk ((w14.setCell ⟨gr, 1, none⟩ (.slice T1 s.x.length k1)).setCell ⟨gr, 2, none⟩ (.slice T2 s.y.length k2)) gr 32 #[I s.kind, .slice T1 s.x.length k1, .slice T2 s.y.length k2, .slice none 0 0, .string ⟨#[]⟩] := hrb1.set_ 2 (.slice T2 s.y.length k2)
  clear hrb1 hk2
  have hk3 : Kw ((w14.setCell ⟨gr, 1, none⟩ (.slice T1 s.x.length k1)).setCell ⟨gr, 2, none⟩ (.slice T2 s.y.length k2)) (((w14.setCell ⟨gr, 1, none⟩ (.slice T1 s.x.length k1)).setCell ⟨gr, 2, none⟩ (.slice T2 s.y.length k2)).setCell ⟨gr, 3, none⟩ (.slice T3 s.ray.length k3)) := kw_nw hrb2 (noWord5 s.kind _ _ _ _ (noWord_slice _ _ _) (noWord_slice _ _ _) (noWord_slice _ _ _)) 3 _
  replace hfk := hfk.trans hk3
  replace hfb := hfb.setCell (p := ⟨gr, 3, none⟩) HGR.out (.slice T3 s.ray.length k3)
  replace R1 := Lib.hid (R1.out.farT (o := 3) hrb2 (by decide) (.slice T3 s.ray.length k3))
  replace R2 := Lib.hid (R2.out.farT (o := 3) hrb2 (by decide) (.slice T3 s.ray.length k3))
  replace R3 := Lib.hid (R3.out.farT (o := 3) hrb2 (by decide) (.slice T3 s.ray.length k3))
  replace HDB := Lib.hid (HDB.out.farB (o := 3) hgd (.slice T3 s.ray.length k3))
  have hrb3 : Blk (((w14.setCell ⟨gr, 1, none⟩ (.slice T1 s.x.length k1)).setCell ⟨gr, 2, none⟩ (.slice T2 s.y.length k2)).setCell ⟨gr, 3, none⟩ (.slice T3 s.ray.length k3)) gr 32 #[I s.kind, .slice T1 s.x.length k1, .slice T2 s.y.length k2, .slice T3 s.ray.length k3, .string ⟨#[]⟩] := hrb2.set_ 3 (.slice T3 s.ray.length k3)
  clear hrb2 hk3
  replace RV0 := Lib.hid (fun e => (RV0.out e).kw hfk)
  replace HB := Lib.hid (HB.out.trans hfb)
  clear RB hfk hfb
  have RB := Lib.hid hrb3
  clear hrb3 hgd
  generalize ((w14.setCell ⟨gr, 1, none⟩ (.slice T1 s.x.length k1)).setCell ⟨gr, 2, none⟩ (.slice T2 s.y.length k2)).setCell ⟨gr, 3, none⟩ (.slice T3 s.ray.length k3) = w15 at *
  have d0 : w15.cell? ⟨gs, 0, none⟩ = some (I s.kind) := HDB.out.cell 0
  by_cases hk : s.kind = 0
  ·have tk : (s.kind == 0) = true := by rw [hk]; rfl
   have d4 : w15.cell? ⟨gs, 4, none⟩ = some (.bool nb1) := HDB.out.cell 4
   have d5 : w15.cell? ⟨gs, 5, none⟩ = some (.slice B1 l1 c1) := HDB.out.cell 5
   have d6 : w15.cell? ⟨gs, 6, none⟩ = some (.bool false) := HDB.out.cell 6
   have d7 : w15.cell? ⟨gs, 7, none⟩ = some (.slice B2 l2 c2) := HDB.out.cell 7
   have HC := Lib.hid (rtext_any _ s.value w15 (RV0.out hk) (tab_below HT.out HB.out))
   go_wp2_with fail
   refine HC.out.mono ?_
   rintro e w16 ⟨sv, rfl, hsv, hb⟩
   clear HC d0 d4 d5 d6 d7 tk
   rw [HFT.out.fv hk]
   have HSV := Lib.hid (hsv (HFT.out.fv hk))
   have HK := Lib.hid hk
   clear hsv hk
   replace HDB := Lib.hid (HDB.out.below hb HDB.out.lt)
   replace RB := Lib.hid (RB.out.below hb RB.out.lt)
   replace R1 := Lib.hid (R1.out.call hb)
   replace R2 := Lib.hid (R2.out.call hb)
   replace R3 := Lib.hid (R3.out.call hb)
   replace HB := Lib.hid (HB.out.trans (hb.mono HB.out.size))
   clear hb
   clear HDB RV0
   have z4 : w16.cell? ⟨gr, 4, none⟩ = some (.string ⟨#[]⟩) := RB.out.cell 4
   have y4 := RB.out.frozen 4
   go_upto_region 18 with (fail)
   clear z4 y4
   have hrb := RB.out
   replace R1 := Lib.hid (R1.out.farT (o := 4) hrb (by decide) (.string sv))
   replace R2 := Lib.hid (R2.out.farT (o := 4) hrb (by decide) (.string sv))
   replace R3 := Lib.hid (R3.out.farT (o := 4) hrb (by decide) (.string sv))
   replace HB := Lib.hid (HB.out.setCell (p := ⟨gr, 4, none⟩) HGR.out (.string sv))
   replace RB := Lib.hid (show Blk (w16.setCell ⟨gr, 4, none⟩ (.string sv)) gr 32 #[I s.kind, .slice T1 s.x.length k1, .slice T2 s.y.length k2, .slice T3 s.ray.length k3, .string sv] from hrb.set_ 4 (.string sv))
   clear hrb
   generalize w16.setCell ⟨gr, 4, none⟩ (.string sv) = w17 at *
   have e0 : w17.cell? ⟨gr, 0, none⟩ = some (I s.kind) := RB.out.cell 0
   have e1 : w17.cell? ⟨gr, 1, none⟩ = some (.slice T1 s.x.length k1) := RB.out.cell 1
   have e2 : w17.cell? ⟨gr, 2, none⟩ = some (.slice T2 s.y.length k2) := RB.out.cell 2
   have e3 : w17.cell? ⟨gr, 3, none⟩ = some (.slice T3 s.ray.length k3) := RB.out.cell 3
   have e4 : w17.cell? ⟨gr, 4, none⟩ = some (.string sv) := RB.out.cell 4
   have hblk := E2.out.below HB.out (by rw [HSZ.out]; omega)
   have hs5 := res_end (w0 := w) (b3 := w3.heap.size) (r := solP (tx2 m) (tx1 lb) (tx1 lc)) (c := 0) (k := s.kind) (s := sv) hblk (HB1.out.trans (HB.out.mono HB1.out.size)) (by omega) (by rw [HSZ.out]; omega) (vs := qText s.value) (by rw [HSL.out, resTx, if_pos HK.out]) HSV.out R1.out R2.out R3.out
   have z5 := hblk.v5
   have z0 := z5.c0
   have y0 := z5.f0
   have z1 := z5.c1
   have y1 := z5.f1
   have z2 := z5.c2
   have y2 := z5.f2
   have z3 := z5.c3
   have y3 := z5.f3
   have z4 := z5.c4
   have y4 := z5.f4
   have HS1 := Lib.hid hs5.1
   have HS2 := Lib.hid hs5.2
   clear z5 hs5 hblk
   unfold set5 at HS1 HS2
   go_wp2
   clear z0 z1 z2 z3 z4 y0 y1 y2 y3 y4
   have z0 := HS1.out.c0
   have z1 := HS1.out.c1
   have z2 := HS1.out.c2
   have z3 := HS1.out.c3
   have z4 := HS1.out.c4
   generalize ((((w17.setCell ⟨w.heap.size + 1, 0, none⟩ (I s.kind)).setCell ⟨w.heap.size + 1, 1, none⟩ (.slice T1 s.x.length k1)).setCell ⟨w.heap.size + 1, 2, none⟩ (.slice T2 s.y.length k2)).setCell ⟨w.heap.size + 1, 3, none⟩ (.slice T3 s.ray.length k3)).setCell ⟨w.heap.size + 1, 4, none⟩ (.string sv) = WE at *
   exact bodyPost_ret (v := .tuple #[.agg #[I s.kind, .slice T1 s.x.length k1, .slice T2 s.y.length k2, .slice T3 s.ray.length k3, .string sv], I 0]) (by simp [results, Tryz.results9, go_sem, z0, z1, z2, z3, z4]) rfl HS2.out
  ·have tk : (s.kind == 0) = false := beq_eq_false_iff_ne.2 hk
   have HK := Lib.hid hk
   clear hk
   go_upto_region 18 with (fail)
   clear d0 tk
   have e0 : w15.cell? ⟨gr, 0, none⟩ = some (I s.kind) := RB.out.cell 0
   have e1 : w15.cell? ⟨gr, 1, none⟩ = some (.slice T1 s.x.length k1) := RB.out.cell 1
   have e2 : w15.cell? ⟨gr, 2, none⟩ = some (.slice T2 s.y.length k2) := RB.out.cell 2
   have e3 : w15.cell? ⟨gr, 3, none⟩ = some (.slice T3 s.ray.length k3) := RB.out.cell 3
   have e4 : w15.cell? ⟨gr, 4, none⟩ = some (.string ⟨#[]⟩) := RB.out.cell 4
   have hblk := E2.out.below HB.out (by rw [HSZ.out]; omega)
   have hs5 := res_end (w0 := w) (b3 := w3.heap.size) (r := solP (tx2 m) (tx1 lb) (tx1 lc)) (c := 0) (k := s.kind) (s := ⟨#[]⟩) hblk (HB1.out.trans (HB.out.mono HB1.out.size)) (by omega) (by rw [HSZ.out]; omega) (vs := []) (by rw [HSL.out, resTx, if_neg HK.out]) rfl R1.out R2.out R3.out
   have z5 := hblk.v5
   have z0 := z5.c0
   have y0 := z5.f0
   have z1 := z5.c1
   have y1 := z5.f1
   have z2 := z5.c2
   have y2 := z5.f2
   have z3 := z5.c3
   have y3 := z5.f3
   have z4 := z5.c4
   have y4 := z5.f4
   have HS1 := Lib.hid hs5.1
   have HS2 := Lib.hid hs5.2
   clear z5 hs5 hblk
   unfold set5 at HS1 HS2
   go_wp2
   clear z0 z1 z2 z3 z4 y0 y1 y2 y3 y4
   have z0 := HS1.out.c0
   have z1 := HS1.out.c1
   have z2 := HS1.out.c2
   have z3 := HS1.out.c3
   have z4 := HS1.out.c4
   generalize ((((w15.setCell ⟨w.heap.size + 1, 0, none⟩ (I s.kind)).setCell ⟨w.heap.size + 1, 1, none⟩ (.slice T1 s.x.length k1)).setCell ⟨w.heap.size + 1, 2, none⟩ (.slice T2 s.y.length k2)).setCell ⟨w.heap.size + 1, 3, none⟩ (.slice T3 s.ray.length k3)).setCell ⟨w.heap.size + 1, 4, none⟩ (.string ⟨#[]⟩) = WE at *
   exact bodyPost_ret (v := .tuple #[.agg #[I s.kind, .slice T1 s.x.length k1, .slice T2 s.y.length k2, .slice T3 s.ray.length k3, .string ⟨#[]⟩], I 0]) (by simp [results, Tryz.results9, go_sem, z0, z1, z2, z3, z4]) rfl HS2.out
end Go.Proofs.YtcgfdfdcbamceaaGreatDoor
