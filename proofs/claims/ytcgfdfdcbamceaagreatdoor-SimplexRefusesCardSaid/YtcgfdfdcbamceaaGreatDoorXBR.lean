/- simplex.solve. -/
import Derived.Test.YtcgfdfdcbamceaaGreatDoorXBQ
namespace Go.Proofs.YtcgfdfdcbamceaaGreatDoor
open Go.RowKit
set_option maxRecDepth 100000 in
set_option maxHeartbeats 80000000 in
theorem lsolve_any (a : List (List Rat)) (b c : List Rat) (m n : Nat) (A : Option Addr) (ca : Nat) (Ab : Option Addr) (cb : Nat) (Ac : Option Addr) (cc : Nat) (w0 : World) (hm : RM w0 A m a) (hb : RV w0 Ab m b) (hc : RV w0 Ac n c) (ho : OkQ a b c m n) :
  Calls Tryz.prog 30 #[.slice A m ca, .slice Ab m cb, .slice Ac n cc] w0 (RetSol w0 (solveQ a b c)) := by
 have h7 := ho.hm
 have h8 := ho.hn
 have HO := Lib.hid ho
 clear ho
 obtain ⟨X0, hW⟩ : ∃ W, W = n + m + 1 := ⟨_, rfl⟩
 obtain ⟨V, hV⟩ : ∃ V, V = X0 + 1 := ⟨_, rfl⟩
 obtain ⟨X, hX⟩ : ∃ X, X = W2 m n := ⟨_, rfl⟩
 obtain ⟨U, hU⟩ : ∃ U, U = X + 1 := ⟨_, rfl⟩
 have hx : n ≤ X ∧ X ≤ n + m + 1 ∧ (m = 0 → X = n) ∧ (m ≠ 0 → X = n + m + 1) := by
  rw [hX, W2]
  split <;> omega
 have HW := Lib.hid hW
 have HV := Lib.hid hV
 have HX := Lib.hid hX
 have HU := Lib.hid hU
 have HXX := Lib.hid hx
 clear hx hX hU
 have b1 := below_new w0 (.cells #[I 0, .slice none 0 0, .slice none 0 0, .slice none 0 0, .bool false, .slice none 0 0, .bool false, .slice none 0 0] 73)
 have HM := Lib.hid (hm.below b1)
 have HBV := Lib.hid (hb.below b1)
 have HCV := Lib.hid (hc.below b1)
 have R0 := Lib.hid (Blk.new w0 73 #[I 0, .slice none 0 0, .slice none 0 0, .slice none 0 0, .bool false, .slice none 0 0, .bool false, .slice none 0 0])
 have HB1 := Lib.hid b1
 have HSZ := Lib.hid (World.size_alloc w0 (.cells #[I 0, .slice none 0 0, .slice none 0 0, .slice none 0 0, .bool false, .slice none 0 0, .bool false, .slice none 0 0] 73))
 clear b1 hm hb hc
 go_enter Tryz.func30, Tryz.ntmps30
 go_upto_region 2 with (fail)
 generalize w0.alloc (.cells #[I 0, .slice none 0 0, .slice none 0 0, .slice none 0 0, .bool false, .slice none 0 0, .bool false, .slice none 0 0] 73) = w1 at *
 have HC := Lib.hid (start_at HO.out HW.out HV.out ca (cb := cb) HM.out HBV.out)
 clear hW hV HM HBV
 go_wp2_with fail
 refine HC.out.mono ?_
 rintro e w2 ⟨g, A1, cv, vs, bt, ot, ct, Ab1, cb1, rfl, hg, hT, hb⟩
 clear HC
 have HG := Lib.hid hg
 have HB := Lib.hid hb
 have HT := Lib.hid hT
 clear hg hb hT
 have HC := Lib.hid (improve1_at HO.out HW.out HT.out HB.out.size)
 go_wp2_with fail
 refine HC.out.mono ?_
 rintro e w3 ⟨rfl, hT, hb⟩
 clear HC HT
 have HT := Lib.hid hT
 replace HB := Lib.hid (HB.out.trans hb)
 clear hT hb
 go_upto_region 4 with (fail)
 have hd := below_draw w3
 replace HB := Lib.hid (HB.out.trans (hd.mono HB.out.size))
 replace HT := Lib.hid (HT.out.call hd)
 clear hd
 obtain ⟨nb, B1, l1, q1, B2, l2, q2, hE, hrt⟩ := HT.out.tgtEl (k := X0) (by have := HV.out; omega)
 have EL := Lib.hid hE
 have RX := Lib.hid hrt
 have G1 := Lib.hid (show w3.drew.cell? ⟨g, 1, none⟩ = some (.slice (some ⟨bt, ot, none⟩) V ct) from HT.out.blk.cell 1)
 clear hE hrt
 have hwv : X0 < V := by have := HV.out; omega
 have hv9 : V ≤ 900 := by have := HV.out; have := HW.out; omega
 have HSV := Lib.hid (show (V : Int) - 1 = (X0 : Int) by have := HV.out; omega)
 have hq0 : (phase1 a b n).tgt.getD X0 0 = tabF (phase1 a b n) m (n + m + 1) := by rw [HW.out, tabF_tgt (phase1_inv HO.out.hp).inv.sh]
 rw [hq0] at RX
 clear hq0
 refine wp_region_c (fun w' => w'.cell? ⟨g, 1, none⟩ = some (.slice (some ⟨bt, ot, none⟩) V ct) ∧ w'.cell? ⟨bt, ot + X0 * 4, none⟩ = some (.bool nb) ∧ w'.cell? ⟨bt, ot + X0 * 4 + 1, none⟩ = some (.slice B1 l1 q1) ∧ w'.cell? ⟨bt, ot + X0 * 4 + 2, none⟩ = some (.bool false) ∧ w'.cell? ⟨bt, ot + X0 * 4 + 3, none⟩ = some (.slice B2 l2 q2)) 13 (by kernel_rfl) ?_
 generalize w3.drew = w4 at *
 refine tkS ⟨G1.out, EL.out.c0, EL.out.c1, EL.out.c2, EL.out.c3⟩ fun hSS => ?_
 refine tq 0 (.pointer (some ⟨g, 0, none⟩)) rfl ?_ hSS ?_
 ·rintro w ⟨s0, s1, s2, s3, s4⟩
  go_simp
 try simp only [Act.put, putA]
 refine tq 1 (.pointer (some ⟨g, 0, none⟩)) rfl ?_ hSS ?_
 ·rintro w ⟨s0, s1, s2, s3, s4⟩
  go_simp
 try simp only [Act.put]
 refine tq 2 (.pointer (some ⟨g, 1, none⟩)) rfl ?_ hSS ?_
 ·rintro w ⟨s0, s1, s2, s3, s4⟩
  go_simp
 try simp only [Act.put]
 refine tq 3 (.slice (some ⟨bt, ot, none⟩) V ct) rfl ?_ hSS ?_
 ·rintro w ⟨s0, s1, s2, s3, s4⟩
  go_simp
 try simp only [Act.put]
 refine tq 4 (.pointer (some ⟨g, 0, none⟩)) rfl ?_ hSS ?_
 ·rintro w ⟨s0, s1, s2, s3, s4⟩
  go_simp
 try simp only [Act.put]
 refine tq 5 (.pointer (some ⟨g, 0, none⟩)) rfl ?_ hSS ?_
 ·rintro w ⟨s0, s1, s2, s3, s4⟩
  go_simp
 try simp only [Act.put]
 refine tq 6 (.pointer (some ⟨g, 1, none⟩)) rfl ?_ hSS ?_
 ·rintro w ⟨s0, s1, s2, s3, s4⟩
  go_simp
 try simp only [Act.put]
 refine tq 7 (.slice (some ⟨bt, ot, none⟩) V ct) rfl ?_ hSS ?_
 ·rintro w ⟨s0, s1, s2, s3, s4⟩
  go_simp
 try simp only [Act.put]
 refine tq 8 (I V) rfl ?_ hSS ?_
 ·rintro w ⟨s0, s1, s2, s3, s4⟩
  go_simp
 try simp only [Act.put]
 refine tq 9 (I X0) rfl ?_ hSS ?_
 ·rintro w ⟨s0, s1, s2, s3, s4⟩
  go_simp
  rw [HSV.out]
  exact IntWalk.i64_in (X0 : Int) (by omega)
 try simp only [Act.put]
 refine tq 10 (.pointer (some ⟨bt, ot + X0 * 4, none⟩)) rfl ?_ hSS ?_
 ·rintro w ⟨s0, s1, s2, s3, s4⟩
  go_simp
 try simp only [Act.put]
 refine tq 11 (.agg #[.bool nb, .slice B1 l1 q1, .bool false, .slice B2 l2 q2]) rfl ?_ hSS ?_
 ·rintro w ⟨s0, s1, s2, s3, s4⟩
  go_simp
 try simp only [Act.put]
 refine on1 12 fun K hK => ?_
 go_simp
 obtain ⟨vz, hb⟩ := boxes1 w4 (.bool false) (.slice none 0 0) (.bool false) (.slice none 0 0)
 have hdd := boxes1 w4 (.bool nb) (.slice B1 l1 q1) (.bool false) (.slice B2 l2 q2)
 have HDV := Lib.hid hdd.1
 have HTD := Lib.hid (HT.out.call hdd.2)
 have RXD := Lib.hid (RX.out.ext hdd.2)
 have HBD := Lib.hid (HB.out.trans (hdd.2.mono HB.out.size))
 have HVZ := Lib.hid vz
 clear hdd vz
 replace G1 := Lib.hid (cell_below G1.out hb)
 replace EL := Lib.hid (EL.out.below hb)
 clear hb
 unfold ratT at *
 refine hK.out _ _ (fun _ => ⟨G1.out, EL.out.c0, EL.out.c1, EL.out.c2, EL.out.c3⟩) ?_
 clear hK K
 try simp only [Act.put, putA, putZ, putC]
 have z0 := HVZ.out.c0
 have y0 := HVZ.out.f0
 have z1 := HVZ.out.c1
 have y1 := HVZ.out.f1
 have z2 := HVZ.out.c2
 have y2 := HVZ.out.f2
 have z3 := HVZ.out.c3
 have y3 := HVZ.out.f3
 refine on1 13 fun K hK => ?_
 go_simp
 refine hK.out _ _ (fun h => absurd h (by decide)) ?_
 clear hK K z0 z1 z2 z3 y0 y1 y2 y3 HVZ HT G1 EL RX HB
 try simp only [Act.put, putA, putZ, putC]
 refine wpAnyC_done (by kernel_rfl) ?_ _
 generalize w4.alloc (.cells #[.bool nb, .slice B1 l1 q1, .bool false, .slice B2 l2 q2] 71) = w5 at *
 generalize w4.heap.size = gd at *
 have HT := HTD
 clear HTD
 have HB := HBD
 clear HBD
 have d0 := HDV.out.c0
 have d1 := HDV.out.c1
 have d2 := HDV.out.c2
 have d3 := HDV.out.c3
 have HC := Lib.hid (rsign_any _ _ w5 RXD.out)
 go_wp2_with fail
 refine HC.out.mono ?_
 rintro e w6 ⟨rfl, hb⟩
 clear HC d0 d1 d2 d3 HDV RXD
 replace HT := Lib.hid (HT.out.call hb)
 replace HB := Lib.hid (HB.out.trans (hb.mono HB.out.size))
 clear hb
 by_cases hneg : tabF (phase1 a b n) m (n + m + 1) < 0
 ·have tn : decide ((tabF (phase1 a b n) m (n + m + 1)).num.sign < 0) = true := neg_iff (decide_eq_true hneg)
  have HSQ := Lib.hid (solveQ_neg HO.out.hp hneg)
  generalize (tabF (phase1 a b n) m (n + m + 1)).num.sign = sg at *
  clear hneg HXX HX HU
  have q1 : w6.cell? ⟨g, 1, none⟩ = some (.slice (some ⟨bt, ot, none⟩) V ct) := HT.out.blk.cell 1
  have HPT := Lib.hid (HT.out.tg.part (k := n) (l := m) (by first | omega | (have := HU.out; have := HXX.out; omega) | (have := HV.out; have := HW.out; omega)))
  have hcap : n + m < ct ∨ n + m = ct ∧ m ≠ 0 := by have := HT.out.tg.cap (by first | omega | (have := HU.out; omega) | (have := HV.out; omega)); first | omega | (have := HU.out; have := HXX.out; omega) | (have := HV.out; have := HW.out; omega)
  have hcl : n + m ≤ ct := by omega
  have hcn : ¬ ct = n := by omega
  go_wp2_with (at_builtin; refine wpList_appN rfl _ _ rfl w6.heap.size (.slice none 0 0) [] rfl (RRow.nil _ _) (some ⟨bt, ot + n * 4, none⟩) m (ct - n) (by go_simp) HPT.out (by rw [List.length_nil]; omega) (Nat.le_refl _) ?_)
  intro v3 W3 hap
  have hb := hap.below (RRow.nil w6 w6.heap.size) (Nat.le_refl _)
  obtain ⟨Ay, cy, rfl⟩ := hap.row.val
  have hr3 := hap.row
  rw [show (((phase1 a b n).tgt.drop n).take m).length = m from HPT.out.len] at hr3 ⊢
  have HRY := Lib.hid (show RRow W3 w6.heap.size (.slice Ay m cy) (((phase1 a b n).tgt.drop n).take m) from hr3)
  replace HRY := Lib.hid (HRY.out.less HB.out.size)
  clear hr3 hap HPT q1 hcap hcl hcn
  replace HB := Lib.hid (HB.out.trans (hb.mono HB.out.size))
  clear hb HT
  have hRB := HB1.out.trans (HB.out.mono (Nat.le_trans (Nat.le_succ _) (Nat.le_of_eq HSZ.out.symm)))
  have hblk := R0.out.below HB.out (by rw [HSZ.out]; exact Nat.lt_succ_self _)
  have hle : w0.heap.size ≤ w1.heap.size := HB1.out.size
  have hs := sol_end (s := solveQ a b c) (k := 1) (nb := false) (B1 := none) (l1 := 0) (c1 := 0) (B2 := none) (l2 := 0) (c2 := 0) hblk hRB HSQ.out (RRow.nil _ _) (HRY.out.less hle) (RRow.nil _ _) (fun e => absurd e (by decide))
  have z8 := hblk.v8
  have z0 := z8.c0
  have y0 := z8.f0
  have z1 := z8.c1
  have y1 := z8.f1
  have z2 := z8.c2
  have y2 := z8.f2
  have z3 := z8.c3
  have y3 := z8.f3
  have z4 := z8.c4
  have y4 := z8.f4
  have z5 := z8.c5
  have y5 := z8.f5
  have z6 := z8.c6
  have y6 := z8.f6
  have z7 := z8.c7
  have y7 := z8.f7
  have HS1 := Lib.hid hs.1
  have HS2 := Lib.hid hs.2
  clear hs z8 hblk hRB
  unfold set8 at HS1 HS2
  go_wp2
  clear z0 z1 z2 z3 z4 z5 z6 z7 y0 y1 y2 y3 y4 y5 y6 y7
  have z0 := HS1.out.c0
  have z1 := HS1.out.c1
  have z2 := HS1.out.c2
  have z3 := HS1.out.c3
  have z4 := HS1.out.c4
  have z5 := HS1.out.c5
  have z6 := HS1.out.c6
  have z7 := HS1.out.c7
  generalize (((((((W3.setCell ⟨w0.heap.size, 0, none⟩ (I 1)).setCell ⟨w0.heap.size, 1, none⟩ (.slice none 0 0)).setCell ⟨w0.heap.size, 2, none⟩ (.slice Ay m cy)).setCell ⟨w0.heap.size, 3, none⟩ (.slice none 0 0)).setCell ⟨w0.heap.size, 4, none⟩ (.bool false)).setCell ⟨w0.heap.size, 5, none⟩ (.slice none 0 0)).setCell ⟨w0.heap.size, 6, none⟩ (.bool false)).setCell ⟨w0.heap.size, 7, none⟩ (.slice none 0 0) = WE at *
  exact bodyPost_ret (v := .agg #[I 1, .slice none 0 0, .slice Ay m cy, .slice none 0 0, .bool false, .slice none 0 0, .bool false, .slice none 0 0]) (by simp [results, Tryz.results30, go_sem, z0, z1, z2, z3, z4, z5, z6, z7]) rfl HS2.out
 ·have tn : decide ((tabF (phase1 a b n) m (n + m + 1)).num.sign < 0) = false := neg_iff (decide_eq_false hneg)
  have HNEG := Lib.hid hneg
  have HSB := Lib.hid (solveQ_best HO.out.hp hneg)
  have HSF := Lib.hid (fun k (h : (phase2 a c n (phase1 a b n)).2 = some k) => solveQ_free HO.out.hp hneg h)
  have HE2 := Lib.hid (phase2_inv HO.out.hp (sett0 HO.out.hp hneg))
  clear hneg
  generalize (tabF (phase1 a b n) m (n + m + 1)).num.sign = sg at *
  have HC := Lib.hid (settle_at HO.out HW.out HNEG.out HT.out HB.out.size)
  go_wp2_with fail
  refine HC.out.mono ?_
  rintro e w7 ⟨rfl, hT, hb⟩
  clear HC HT tn
  have HT := Lib.hid hT
  replace HB := Lib.hid (HB.out.trans hb)
  clear hT hb
  have q3 := HT.out.blk.cell 3
  have y3 := HT.out.blk.frozen 3
  have hc9 := cols_at (U := U) HW.out HX.out HU.out HG.out HT.out
  have HT0 := Lib.hid hc9.1
  have HBC := Lib.hid (HB.out.trans hc9.2)
  clear hc9 HT HB
  go_upto_region 9 with (fail)
  clear q3 y3
  generalize w7.setCell ⟨g, 3, none⟩ (I ((n : Int) + m)) = w8 at *
  have HB := HBC
  clear HBC
  go_wp2_with (at_builtin; refine wpList_appN rfl _ _ rfl w8.heap.size (.slice none 0 0) [] rfl (RRow.nil _ _) Ac n cc rfl (HCV.out.below HB.out) (by rw [List.length_nil]; omega) (Nat.le_refl _) ?_)
  intro v3 W3 hap
  have hb := hap.below (RRow.nil w8 w8.heap.size) (Nat.le_refl _)
  have HR3 := Lib.hid (show RRow W3 w8.heap.size v3 c from hap.row)
  have HBW := Lib.hid hb
  have HZ := Lib.hid (zeros_any (m + 1) W3 (by omega))
  clear hap hb
  go_wp2_with fail
  refine HZ.out.mono ?_
  rintro e W4 ⟨v4, rfl, hr4, hb⟩
  obtain ⟨A4, c4, rfl⟩ := hr4.val
  rw [List.length_replicate] at hr4 ⊢
  replace HR3 := Lib.hid (HR3.out.call hb)
  replace HBW := Lib.hid (HBW.out.trans (hb.mono HBW.out.size))
  have HR4 := Lib.hid hr4.rv
  clear HZ hr4 hb
  have hcl := HO.out.hp.lc
  go_wp2_with (at_builtin; refine wpList_appN rfl _ _ rfl w8.heap.size v3 c rfl HR3.out A4 (m + 1) c4 rfl HR4.out (by omega) HBW.out.size ?_)
  intro v5 W5 hap
  have hb := hap.below HR3.out HBW.out.size
  obtain ⟨A5, c5, rfl⟩ := hap.row.val
  have hr5 := hap.row
  have hl5 : (c ++ List.replicate (m + 1) (0 : Rat)).length = n + m + 1 := by rw [List.length_append, List.length_replicate, hcl]; rfl
  rw [hl5] at hr5 ⊢
  replace HBW := Lib.hid (HBW.out.trans hb)
  replace HT0 := Lib.hid (HT0.out.call HBW.out)
  have HR5 := Lib.hid (show RRow W5 w1.heap.size (.slice A5 (n + m + 1) c5) (goal2 c m) from hr5.less HB.out.size)
  replace HB := Lib.hid (HB.out.trans (HBW.out.mono HB.out.size))
  clear hap hb hr5 hl5 hcl HR3 HR4 HBW
  have HC := Lib.hid (aim_at HO.out HX.out HU.out HNEG.out (noWord_slice _ _ _) HT0.out HR5.out rfl HB.out.size HG.out)
  go_wp2_with fail
  refine HC.out.mono ?_
  rintro e w9 ⟨rfl, ⟨bt2, ot2, ct2, hT⟩, hb⟩
  clear HC HT0 HR5
  have HT := Lib.hid hT
  replace HB := Lib.hid (HB.out.trans hb)
  clear hT hb
  have HC := Lib.hid (improve2_at HO.out HX.out HNEG.out HT.out HB.out.size)
  go_wp2_with fail
  refine HC.out.mono ?_
  rintro e w10 ⟨rfl, hT, hb⟩
  clear HC HT
  have HT := Lib.hid hT
  replace HB := Lib.hid (HB.out.trans hb)
  clear hT hb HNEG
  generalize phase2 a c n (phase1 a b n) = p at *
  obtain ⟨t, o⟩ := p
  have hu9 : U ≤ 900 := by have := HU.out; have := HXX.out; omega
  have HC := Lib.hid (values_of w1.heap.size g cv bt2 ot2 ct2 cb1 m U X n A1 Ab1 vs t w10 HT.out (by omega) (by have := HXX.out; omega) (by omega) HB.out.size)
  go_wp2_with fail
  refine HC.out.mono ?_
  rintro e w11 ⟨vx, rfl, hr, hb⟩
  clear HC
  obtain ⟨Ax, cx, rfl⟩ := hr.val
  rw [valN_len] at hr ⊢
  have HRX := Lib.hid (hr.less HB.out.size)
  replace HT := Lib.hid (HT.out.call hb)
  replace HB := Lib.hid (HB.out.trans (hb.mono HB.out.size))
  clear hr hb
  cases o with
  | none =>
   have HSQ := Lib.hid (HSB.out rfl)
   clear HSB HSF
   rw [show I (optI none) = I (-1) from rfl]
   have q1 : w11.cell? ⟨g, 1, none⟩ = some (.slice (some ⟨bt2, ot2, none⟩) U ct2) := HT.out.blk.cell 1
   have HPT := Lib.hid (HT.out.tg.part (k := n) (l := m) (by first | omega | (have := HU.out; have := HXX.out; omega) | (have := HV.out; have := HW.out; omega)))
   have hcap : n + m < ct2 ∨ n + m = ct2 ∧ m ≠ 0 := by have := HT.out.tg.cap (by first | omega | (have := HU.out; omega) | (have := HV.out; omega)); first | omega | (have := HU.out; have := HXX.out; omega) | (have := HV.out; have := HW.out; omega)
   have hcl : n + m ≤ ct2 := by omega
   have hcn : ¬ ct2 = n := by omega
   go_wp2_with (at_builtin; refine wpList_appN rfl _ _ rfl w11.heap.size (.slice none 0 0) [] rfl (RRow.nil _ _) (some ⟨bt2, ot2 + n * 4, none⟩) m (ct2 - n) (by go_simp) HPT.out (by rw [List.length_nil]; omega) (Nat.le_refl _) ?_)
   intro v3 W3 hap
   have hb := hap.below (RRow.nil w11 w11.heap.size) (Nat.le_refl _)
   obtain ⟨Ay, cy, rfl⟩ := hap.row.val
   have hr3 := hap.row
   rw [show ((t.tgt.drop n).take m).length = m from HPT.out.len] at hr3 ⊢
   have HRY := Lib.hid (show RRow W3 w11.heap.size (.slice Ay m cy) ((t.tgt.drop n).take m) from hr3)
   replace HRY := Lib.hid (HRY.out.less HB.out.size)
   clear hr3 hap HPT q1 hcap hcl hcn
   replace HB := Lib.hid (HB.out.trans (hb.mono HB.out.size))
   replace HRX := Lib.hid (HRX.out.call hb)
   clear hb
   have hcl := HO.out.hp.lc
   have HC := Lib.hid (dot_any c (valN t n m) n Ac Ax cc n cx W3 (HCV.out.below HB.out) HRX.out.rv (Nat.le_refl _) (by omega) (N := 700000) (Nat.le_of_ble_eq_true rfl) (dotFit_gen (N := 20000) (K := 7) (by omega) (Nat.le_of_ble_eq_true rfl) (Nat.le_of_ble_eq_true rfl) (fun i _ => HO.out.gc i) (fun i _ => valN_fit HE2.out.inv.sh (Nat.le_of_ble_eq_true rfl) (HO.out.F4 _ HE2.out.inv.toInvQ) m (Nat.le_refl _) i)))
   go_wp2_with fail
   refine HC.out.mono ?_
   rintro e w13 ⟨v5, rfl, hv, hb⟩
   clear HC hcl
   replace HB := Lib.hid (HB.out.trans (hb.mono HB.out.size))
   replace HRX := Lib.hid (HRX.out.call hb)
   replace HRY := Lib.hid (HRY.out.call hb)
   clear hb
   obtain ⟨tb, T1, t1, u3, T2, t2, u4, rfl⟩ := hv.bools
   have HV5 := Lib.hid hv
   clear hv HT HE2 HG HO HCV HW HV HX HU HXX
   have hRB := HB1.out.trans (HB.out.mono (Nat.le_trans (Nat.le_succ _) (Nat.le_of_eq HSZ.out.symm)))
   have hblk := R0.out.below HB.out (by rw [HSZ.out]; exact Nat.lt_succ_self _)
   have hle : w0.heap.size ≤ w1.heap.size := HB1.out.size
   have hs := sol_end (s := solveQ a b c) (k := 0) (nb := tb) (B1 := T1) (l1 := t1) (c1 := u3) (B2 := T2) (l2 := t2) (c2 := u4) hblk hRB HSQ.out (HRX.out.less hle) (HRY.out.less hle) (RRow.nil _ _) (fun _ => HV5.out)
   have z8 := hblk.v8
   have z0 := z8.c0
   have y0 := z8.f0
   have z1 := z8.c1
   have y1 := z8.f1
   have z2 := z8.c2
   have y2 := z8.f2
   have z3 := z8.c3
   have y3 := z8.f3
   have z4 := z8.c4
   have y4 := z8.f4
   have z5 := z8.c5
   have y5 := z8.f5
   have z6 := z8.c6
   have y6 := z8.f6
   have z7 := z8.c7
   have y7 := z8.f7
   have HS1 := Lib.hid hs.1
   have HS2 := Lib.hid hs.2
   clear hs z8 hblk hRB
   unfold set8 at HS1 HS2
   go_wp2
   clear z0 z1 z2 z3 z4 z5 z6 z7 y0 y1 y2 y3 y4 y5 y6 y7
   have z0 := HS1.out.c0
   have z1 := HS1.out.c1
   have z2 := HS1.out.c2
   have z3 := HS1.out.c3
   have z4 := HS1.out.c4
   have z5 := HS1.out.c5
   have z6 := HS1.out.c6
   have z7 := HS1.out.c7
   generalize (((((((w13.setCell ⟨w0.heap.size, 0, none⟩ (I 0)).setCell ⟨w0.heap.size, 1, none⟩ (.slice Ax n cx)).setCell ⟨w0.heap.size, 2, none⟩ (.slice Ay m cy)).setCell ⟨w0.heap.size, 3, none⟩ (.slice none 0 0)).setCell ⟨w0.heap.size, 4, none⟩ (.bool tb)).setCell ⟨w0.heap.size, 5, none⟩ (.slice T1 t1 u3)).setCell ⟨w0.heap.size, 6, none⟩ (.bool false)).setCell ⟨w0.heap.size, 7, none⟩ (.slice T2 t2 u4) = WE at *
   exact bodyPost_ret (v := .agg #[I 0, .slice Ax n cx, .slice Ay m cy, .slice none 0 0, .bool tb, .slice T1 t1 u3, .bool false, .slice T2 t2 u4]) (by simp [results, Tryz.results30, go_sem, z0, z1, z2, z3, z4, z5, z6, z7]) rfl HS2.out
  | some k =>
   have HSQ := Lib.hid (HSF.out k rfl)
   have hkn : k < n + m := (HE2.out.free k rfl).1
   have hkU : k < U := by have := HXX.out; have := HU.out; omega
   have hkX : k ≤ X := by have := HXX.out; omega
   clear HSB HSF
   rw [show I (optI (some k)) = I k from rfl]
   have hk0 : ¬ ((k : Int) < 0) := by omega
   have HC := Lib.hid (zeros_any n w11 (by omega))
   go_wp2_with fail
   refine HC.out.mono ?_
   rintro e w12 ⟨vr, rfl, hr, hb⟩
   clear HC
   obtain ⟨Ar, cr, rfl⟩ := hr.val
   rw [List.length_replicate] at hr ⊢
   have HNR := Lib.hid (HT.out.new_ (v := .slice Ar n cr) fun x hx => (hr.lt hx).1)
   have HNX := Lib.hid (show ∀ x, (Value.slice Ar n cr).ownBlock = some x → (Value.slice Ax n cx).ownBlock ≠ some x from fun x hx e => by have := (hr.lt hx).1; have := (HRX.out.lt e).2; omega)
   have HR := Lib.hid (hr.less HB.out.size)
   replace HT := Lib.hid (HT.out.call hb)
   replace HRX := Lib.hid (HRX.out.call hb)
   replace HB := Lib.hid (HB.out.trans (hb.mono HB.out.size))
   clear hr hb
   by_cases hkl : k < n
   ·have tk : decide (((k : Nat) : Int) < (n : Int)) = true := decide_eq_true (by omega)
    have tkn : decide (k < n) = true := decide_eq_true hkl
    have HR0 := Lib.hid (show rayN t k n 0 = (List.replicate n 0).set k 1 by rw [rayN, if_pos hkl])
    obtain ⟨b9, o9, k9, mb, X1, x1, y1, X2, x2, y2, hv9, hE, _⟩ := HR.out.el (n := n) (k := k) (by rw [List.length_replicate]) hkl
    injection hv9 with hv9 _ hv9k
    subst hv9 hv9k
    have HC := Lib.hid (rwhole_any 1 w12 (by decide) (by decide))
    go_wp2_with fail
    refine HC.out.mono ?_
    rintro e w13 ⟨v8, rfl, hv, hb⟩
    clear HC tk tkn
    rw [rat_one_int] at hv
    have EL := Lib.hid (hE.below hb)
    replace HB := Lib.hid (HB.out.trans (hb.mono HB.out.size))
    replace HT := Lib.hid (HT.out.call hb)
    replace HR := Lib.hid (HR.out.call hb)
    replace HRX := Lib.hid (HRX.out.call hb)
    clear hb hE
    obtain ⟨tb, T1, t1, u3, T2, t2, u4, rfl⟩ := hv.bools
    obtain ⟨hp, hkw2, hbb⟩ := HR.out.putEl (k := k) hkl hv
    rw [← HR0.out] at hp
    have hF := Far.put4 (cs := #[]) hbb (o9 + k * 4) hkw2
    have HRN := Lib.hid hp
    have HBN := Lib.hid (HB.out.trans hF.below)
    obtain ⟨cur, hBk⟩ := HR.out.blk (g := b9) rfl
    have HTN := Lib.hid (HT.out.off hF hBk (HNR.out b9 rfl).1 (HNR.out b9 rfl).2)
    have HXN := Lib.hid (hF.row HRX.out (HNX.out b9 rfl))
    clear hp hkw2 hbb hF hv hBk HR0
    unfold put4 at HTN HRN HBN HXN
    have z0 := EL.out.c0
    have y0 := EL.out.f0
    have z1 := EL.out.c1
    have y1 := EL.out.f1
    have z2 := EL.out.c2
    have y2 := EL.out.f2
    have z3 := EL.out.c3
    have y3 := EL.out.f3
    clear HT HR HB HRX EL
    go_upto_region 17 with (fail)
    clear z0 z1 z2 z3 y0 y1 y2 y3
    generalize (((w13.setCell ⟨b9, o9 + k * 4, none⟩ (.bool tb)).setCell ⟨b9, o9 + k * 4 + 1, none⟩ (.slice T1 t1 u3)).setCell ⟨b9, o9 + k * 4 + 2, none⟩ (.bool false)).setCell ⟨b9, o9 + k * 4 + 3, none⟩ (.slice T2 t2 u4) = w14 at *
    generalize hAr : (some (⟨b9, o9, none⟩ : Addr)) = Ar at *
    clear hAr
    have HT := HTN
    clear HTN
    have HR := HRN
    clear HRN
    have HRX := HXN
    clear HXN
    have HB := HBN
    clear HBN
    have q2 : w14.cell? ⟨g, 2, none⟩ = some (.slice Ab1 m cb1) := HT.out.blk.cell 2
    go_wp2
    clear q2
    go_loopg [107] (m - 0) (fun mm iv wr => ∃ i : Nat, mm = m - i ∧ iv = I i ∧ i ≤ m ∧ Hid (TBx wr w1.heap.size g A1 cv vs bt2 ot2 ct2 Ab1 cb1 m U X t) ∧ Hid (RRow wr w1.heap.size (.slice Ar n cr) (rayN t k n i)) ∧ Hid (RRow wr w1.heap.size (.slice Ax n cx) (valN t n m)) ∧ Hid (Below w1.heap.size w1 wr))
    case atStart => exact ⟨0, rfl, rfl, by omega, HT, HR, HRX, HB⟩
    case round =>
     clear HT HR HRX HB
     obtain ⟨i, rfl, rfl, hi, HT, HR, HRX, HB⟩ := hrel
     obtain ⟨wa, rfl⟩ : ∃ wa : World, wa = wr := ⟨_, rfl⟩
     by_cases hil : i < m
     ·obtain ⟨b8, o8, hAb, _, _, hc8, _⟩ := HT.out.basAt hil 0
      subst hAb
      have HVS := Lib.hid (show rayN t k n (i + 1) = if basF t i < n then (rayN t k n i).set (basF t i) (- ent t.rows i k) else rayN t k n i from rfl)
      generalize hbi : basF t i = bi at *
      clear hbi
      by_cases hbn : bi < n
      ·have tb : decide (((bi : Nat) : Int) < (n : Int)) = true := decide_eq_true (by omega)
       have tbn : decide (bi < n) = true := decide_eq_true hbn
       have HVN := Lib.hid (show rayN t k n (i + 1) = (rayN t k n i).set bi (- ent t.rows i k) by rw [HVS.out, if_pos hbn])
       clear HVS
       obtain ⟨gv, ov, b6, o6, k6, hA, hu, hcl, _, _, _, _, hbl, hgl⟩ := HT.out.row hil
       subst hA
       obtain ⟨eb, E1, e1, f1, E2, e2, f2, hEl, hrt⟩ := HT.out.el hil hkX hu
       have q0 : wa.cell? ⟨g, 0, none⟩ = some (.slice (some ⟨gv, ov, none⟩) m cv) := HT.out.blk.cell 0
       have e10 := hEl.c0
       have e11 := hEl.c1
       have e12 := hEl.c2
       have e13 := hEl.c3
       have hl9 := rayN_len t k n i
       obtain ⟨b9, o9, k9, mb, X1, x1, y1, X2, x2, y2, hv9, hE, _⟩ := HR.out.el (n := n) (k := bi) hl9 hbn
       injection hv9 with hv9 _ hv9k
       subst hv9 hv9k
       have HC := Lib.hid (rneg_any _ _ wa hrt)
       go_wp2_with fail
       refine HC.out.mono ?_
       rintro e wb ⟨v8, rfl, hv, hb⟩
       clear HC hc8 tb tbn q0 e10 e11 e12 e13 hcl hEl hrt hbl hgl hu
       have EL := Lib.hid (hE.below hb)
       replace HB := Lib.hid (HB.out.trans (hb.mono HB.out.size))
       replace HT := Lib.hid (HT.out.call hb)
       replace HR := Lib.hid (HR.out.call hb)
       replace HRX := Lib.hid (HRX.out.call hb)
       clear hb hE
       obtain ⟨tb, T1, t1, u3, T2, t2, u4, rfl⟩ := hv.bools
       obtain ⟨hp, hkw2, hbb⟩ := HR.out.putEl (k := bi) hbn hv
       rw [← HVN.out] at hp
       have hF := Far.put4 (cs := #[]) hbb (o9 + bi * 4) hkw2
       have HRN := Lib.hid hp
       have HBN := Lib.hid (HB.out.trans hF.below)
       obtain ⟨cur, hBk⟩ := HR.out.blk (g := b9) rfl
       have HTN := Lib.hid (HT.out.off hF hBk (HNR.out b9 rfl).1 (HNR.out b9 rfl).2)
       have HXN := Lib.hid (hF.row HRX.out (HNX.out b9 rfl))
       clear hp hkw2 hbb hF hv hBk
       unfold put4 at HTN HRN HBN HXN
       have z0 := EL.out.c0
       have y0 := EL.out.f0
       have z1 := EL.out.c1
       have y1 := EL.out.f1
       have z2 := EL.out.c2
       have y2 := EL.out.f2
       have z3 := EL.out.c3
       have y3 := EL.out.f3
       clear HT HR HB HRX HVN EL
       go_wp2
       go_roundg (m - (i + 1))
       case measure => omega
       case rel => exact ⟨i + 1, rfl, by go_num, by omega, HTN, HRN, HXN, HBN⟩
      ·have tb : decide (((bi : Nat) : Int) < (n : Int)) = false := decide_eq_false (by omega)
       have tbn : decide (bi < n) = false := decide_eq_false hbn
       have HRN := Lib.hid (show RRow wa w1.heap.size (.slice Ar n cr) (rayN t k n (i + 1)) by rw [HVS.out, if_neg hbn]; exact HR.out)
       clear HVS HR
       go_wp2
       go_roundg (m - (i + 1))
       case measure => omega
       case rel => exact ⟨i + 1, rfl, by go_num, by omega, HT, HRN, HRX, HB⟩
     ·obtain rfl : i = m := by omega
      have hRB := HB1.out.trans (HB.out.mono (Nat.le_trans (Nat.le_succ _) (Nat.le_of_eq HSZ.out.symm)))
      have hblk := R0.out.below HB.out (by rw [HSZ.out]; exact Nat.lt_succ_self _)
      have hle : w0.heap.size ≤ w1.heap.size := HB1.out.size
      have hs := sol_end (s := solveQ a b c) (k := 2) (nb := false) (B1 := none) (l1 := 0) (c1 := 0) (B2 := none) (l2 := 0) (c2 := 0) hblk hRB HSQ.out (HRX.out.less hle) (RRow.nil _ _) (HR.out.less hle) (fun e => absurd e (by decide))
      have z8 := hblk.v8
      have z0 := z8.c0
      have y0 := z8.f0
      have z1 := z8.c1
      have y1 := z8.f1
      have z2 := z8.c2
      have y2 := z8.f2
      have z3 := z8.c3
      have y3 := z8.f3
      have z4 := z8.c4
      have y4 := z8.f4
      have z5 := z8.c5
      have y5 := z8.f5
      have z6 := z8.c6
      have y6 := z8.f6
      have z7 := z8.c7
      have y7 := z8.f7
      have HS1 := Lib.hid hs.1
      have HS2 := Lib.hid hs.2
      clear hs z8 hblk hRB
      unfold set8 at HS1 HS2
      go_wp2
      clear z0 z1 z2 z3 z4 z5 z6 z7 y0 y1 y2 y3 y4 y5 y6 y7
      have z0 := HS1.out.c0
      have z1 := HS1.out.c1
      have z2 := HS1.out.c2
      have z3 := HS1.out.c3
      have z4 := HS1.out.c4
      have z5 := HS1.out.c5
      have z6 := HS1.out.c6
      have z7 := HS1.out.c7
      generalize (((((((wa.setCell ⟨w0.heap.size, 0, none⟩ (I 2)).setCell ⟨w0.heap.size, 1, none⟩ (.slice Ax n cx)).setCell ⟨w0.heap.size, 2, none⟩ (.slice none 0 0)).setCell ⟨w0.heap.size, 3, none⟩ (.slice Ar n cr)).setCell ⟨w0.heap.size, 4, none⟩ (.bool false)).setCell ⟨w0.heap.size, 5, none⟩ (.slice none 0 0)).setCell ⟨w0.heap.size, 6, none⟩ (.bool false)).setCell ⟨w0.heap.size, 7, none⟩ (.slice none 0 0) = WE at *
      exact bodyPost_ret (v := .agg #[I 2, .slice Ax n cx, .slice none 0 0, .slice Ar n cr, .bool false, .slice none 0 0, .bool false, .slice none 0 0]) (by simp [results, Tryz.results30, go_sem, z0, z1, z2, z3, z4, z5, z6, z7]) rfl HS2.out
   ·have tk : decide (((k : Nat) : Int) < (n : Int)) = false := decide_eq_false (by omega)
    have tkn : decide (k < n) = false := decide_eq_false hkl
    replace HR := Lib.hid (show RRow w12 w1.heap.size (.slice Ar n cr) (rayN t k n 0) by rw [rayN, if_neg hkl]; exact HR.out)
    go_upto_region 17 with (fail)
    clear tk tkn
    have q2 : w12.cell? ⟨g, 2, none⟩ = some (.slice Ab1 m cb1) := HT.out.blk.cell 2
    go_wp2
    clear q2
    go_loopg [107] (m - 0) (fun mm iv wr => ∃ i : Nat, mm = m - i ∧ iv = I i ∧ i ≤ m ∧ Hid (TBx wr w1.heap.size g A1 cv vs bt2 ot2 ct2 Ab1 cb1 m U X t) ∧ Hid (RRow wr w1.heap.size (.slice Ar n cr) (rayN t k n i)) ∧ Hid (RRow wr w1.heap.size (.slice Ax n cx) (valN t n m)) ∧ Hid (Below w1.heap.size w1 wr))
    case atStart => exact ⟨0, rfl, rfl, by omega, HT, HR, HRX, HB⟩
    case round =>
     clear HT HR HRX HB
     obtain ⟨i, rfl, rfl, hi, HT, HR, HRX, HB⟩ := hrel
     obtain ⟨wa, rfl⟩ : ∃ wa : World, wa = wr := ⟨_, rfl⟩
     by_cases hil : i < m
     ·obtain ⟨b8, o8, hAb, _, _, hc8, _⟩ := HT.out.basAt hil 0
      subst hAb
      have HVS := Lib.hid (show rayN t k n (i + 1) = if basF t i < n then (rayN t k n i).set (basF t i) (- ent t.rows i k) else rayN t k n i from rfl)
      generalize hbi : basF t i = bi at *
      clear hbi
      by_cases hbn : bi < n
      ·have tb : decide (((bi : Nat) : Int) < (n : Int)) = true := decide_eq_true (by omega)
       have tbn : decide (bi < n) = true := decide_eq_true hbn
       have HVN := Lib.hid (show rayN t k n (i + 1) = (rayN t k n i).set bi (- ent t.rows i k) by rw [HVS.out, if_pos hbn])
       clear HVS
       obtain ⟨gv, ov, b6, o6, k6, hA, hu, hcl, _, _, _, _, hbl, hgl⟩ := HT.out.row hil
       subst hA
       obtain ⟨eb, E1, e1, f1, E2, e2, f2, hEl, hrt⟩ := HT.out.el hil hkX hu
       have q0 : wa.cell? ⟨g, 0, none⟩ = some (.slice (some ⟨gv, ov, none⟩) m cv) := HT.out.blk.cell 0
       have e10 := hEl.c0
       have e11 := hEl.c1
       have e12 := hEl.c2
       have e13 := hEl.c3
       have hl9 := rayN_len t k n i
       obtain ⟨b9, o9, k9, mb, X1, x1, y1, X2, x2, y2, hv9, hE, _⟩ := HR.out.el (n := n) (k := bi) hl9 hbn
       injection hv9 with hv9 _ hv9k
       subst hv9 hv9k
       have HC := Lib.hid (rneg_any _ _ wa hrt)
       go_wp2_with fail
       refine HC.out.mono ?_
       rintro e wb ⟨v8, rfl, hv, hb⟩
       clear HC hc8 tb tbn q0 e10 e11 e12 e13 hcl hEl hrt hbl hgl hu
       have EL := Lib.hid (hE.below hb)
       replace HB := Lib.hid (HB.out.trans (hb.mono HB.out.size))
       replace HT := Lib.hid (HT.out.call hb)
       replace HR := Lib.hid (HR.out.call hb)
       replace HRX := Lib.hid (HRX.out.call hb)
       clear hb hE
       obtain ⟨tb, T1, t1, u3, T2, t2, u4, rfl⟩ := hv.bools
       obtain ⟨hp, hkw2, hbb⟩ := HR.out.putEl (k := bi) hbn hv
       rw [← HVN.out] at hp
       have hF := Far.put4 (cs := #[]) hbb (o9 + bi * 4) hkw2
       have HRN := Lib.hid hp
       have HBN := Lib.hid (HB.out.trans hF.below)
       obtain ⟨cur, hBk⟩ := HR.out.blk (g := b9) rfl
       have HTN := Lib.hid (HT.out.off hF hBk (HNR.out b9 rfl).1 (HNR.out b9 rfl).2)
       have HXN := Lib.hid (hF.row HRX.out (HNX.out b9 rfl))
       clear hp hkw2 hbb hF hv hBk
       unfold put4 at HTN HRN HBN HXN
       have z0 := EL.out.c0
       have y0 := EL.out.f0
       have z1 := EL.out.c1
       have y1 := EL.out.f1
       have z2 := EL.out.c2
       have y2 := EL.out.f2
       have z3 := EL.out.c3
       have y3 := EL.out.f3
       clear HT HR HB HRX HVN EL
       go_wp2
       go_roundg (m - (i + 1))
       case measure => omega
       case rel => exact ⟨i + 1, rfl, by go_num, by omega, HTN, HRN, HXN, HBN⟩
      ·have tb : decide (((bi : Nat) : Int) < (n : Int)) = false := decide_eq_false (by omega)
       have tbn : decide (bi < n) = false := decide_eq_false hbn
       have HRN := Lib.hid (show RRow wa w1.heap.size (.slice Ar n cr) (rayN t k n (i + 1)) by rw [HVS.out, if_neg hbn]; exact HR.out)
       clear HVS HR
       go_wp2
       go_roundg (m - (i + 1))
       case measure => omega
       case rel => exact ⟨i + 1, rfl, by go_num, by omega, HT, HRN, HRX, HB⟩
     ·obtain rfl : i = m := by omega
      have hRB := HB1.out.trans (HB.out.mono (Nat.le_trans (Nat.le_succ _) (Nat.le_of_eq HSZ.out.symm)))
      have hblk := R0.out.below HB.out (by rw [HSZ.out]; exact Nat.lt_succ_self _)
      have hle : w0.heap.size ≤ w1.heap.size := HB1.out.size
      have hs := sol_end (s := solveQ a b c) (k := 2) (nb := false) (B1 := none) (l1 := 0) (c1 := 0) (B2 := none) (l2 := 0) (c2 := 0) hblk hRB HSQ.out (HRX.out.less hle) (RRow.nil _ _) (HR.out.less hle) (fun e => absurd e (by decide))
      have z8 := hblk.v8
      have z0 := z8.c0
      have y0 := z8.f0
      have z1 := z8.c1
      have y1 := z8.f1
      have z2 := z8.c2
      have y2 := z8.f2
      have z3 := z8.c3
      have y3 := z8.f3
      have z4 := z8.c4
      have y4 := z8.f4
      have z5 := z8.c5
      have y5 := z8.f5
      have z6 := z8.c6
      have y6 := z8.f6
      have z7 := z8.c7
      have y7 := z8.f7
      have HS1 := Lib.hid hs.1
      have HS2 := Lib.hid hs.2
      clear hs z8 hblk hRB
      unfold set8 at HS1 HS2
      go_wp2
      clear z0 z1 z2 z3 z4 z5 z6 z7 y0 y1 y2 y3 y4 y5 y6 y7
      have z0 := HS1.out.c0
      have z1 := HS1.out.c1
      have z2 := HS1.out.c2
      have z3 := HS1.out.c3
      have z4 := HS1.out.c4
      have z5 := HS1.out.c5
      have z6 := HS1.out.c6
      have z7 := HS1.out.c7
      generalize (((((((wa.setCell ⟨w0.heap.size, 0, none⟩ (I 2)).setCell ⟨w0.heap.size, 1, none⟩ (.slice Ax n cx)).setCell ⟨w0.heap.size, 2, none⟩ (.slice none 0 0)).setCell ⟨w0.heap.size, 3, none⟩ (.slice Ar n cr)).setCell ⟨w0.heap.size, 4, none⟩ (.bool false)).setCell ⟨w0.heap.size, 5, none⟩ (.slice none 0 0)).setCell ⟨w0.heap.size, 6, none⟩ (.bool false)).setCell ⟨w0.heap.size, 7, none⟩ (.slice none 0 0) = WE at *
      exact bodyPost_ret (v := .agg #[I 2, .slice Ax n cx, .slice none 0 0, .slice Ar n cr, .bool false, .slice none 0 0, .bool false, .slice none 0 0]) (by simp [results, Tryz.results30, go_sem, z0, z1, z2, z3, z4, z5, z6, z7]) rfl HS2.out
end Go.Proofs.YtcgfdfdcbamceaaGreatDoor
