/- FlowSwitches: the walk. FlowSwitches returns true for every input: injections of nodes of one bus can be exchanged. No conditions. The row's listed variables hold what the program's text lays (the card ties them). -/
import Derived.Test.YtenbglfkdldheaaGreatDoorDSwi
import Derived.ShutString
import Derived.ChangeMaps5
set_option maxRecDepth 100000
set_option maxHeartbeats 16000000
namespace Go.Proofs.YtenbglfkdldheaaGreatDoor
section
open Go.RowKit
theorem flowSwitches_any (n : NetD) (v : NetV) (inj : List Int) (m : Nat) (A : Option Addr) (c : Nat) (xi xk xy : Int) (w : World) (hN : Net w n v) (hj : Reads w w.heap.size 1 A m (inj.map I)) (hm : m ≤ 9223372036854775807) (htab : Tab w) : Calls Tryz.prog 7 #[v.val n, .slice A m c, I xi, I xk, I xy] w fun e w' => e = .returned (.bool true) ∧ Below w.heap.size w w' := by
 have hz := below_new w (Obj.cells (v.parts n) 29)
 have HN := aH (hN.below hz)
 have HG := aH (Blk.new w 29 (v.parts n))
 have HB := aH hz
 have HTB := aH htab
 have HJ := aH ((hj.below hz).more hz.size)
 clear hz hN htab hj
 unfold NetV.val NetV.parts at *
 go_enter Tryz.func7, Tryz.ntmps7
 have HC := aH (flowFact_any (w.alloc (Obj.cells #[.slice v.na n.nodes.length v.nc, .slice v.sa n.switches.length v.sc, .slice v.ba n.branches.length v.bc, .slice v.ga n.gens.length v.gc, .slice v.la n.loads.length v.lc, .slice v.ta n.stores.length v.tc] 29)) (tab_below HTB.out HB.out))
 go_wp2_with fail
 refine HC.out.mono ?_
 rintro e w1 ⟨rfl, hb⟩
 clear HC
 have hbs := HB.out.size
 replace HB := aH (HB.out.trans (hb.mono hbs))
 clear hbs
 replace HN := aH (HN.out.below hb)
 replace HG := bL HG hb
 replace HJ := aH ((HJ.out.below hb).more hb.size)
 clear hb
 have x0 := HG.out.cell 0
 have x1 := HG.out.cell 1
 have x2 := HG.out.cell 2
 have x3 := HG.out.cell 3
 have x4 := HG.out.cell 4
 have x5 := HG.out.cell 5
 have HC := aH (solve_any n v inj m A c w1 HN.out HJ.out hm (tab_below HTB.out HB.out))
 unfold NetV.val NetV.parts at HC
 go_wp2_with fail
 refine HC.out.mono ?_
 rintro e w2 ⟨a, b, rfl, hok, hno, hdj, hb⟩
 clear HC
 clear x0 x1 x2 x3 x4 x5
 have HOK := aH hok
 have HNO := aH hno
 clear hok hno hdj
 have hbs := HB.out.size
 replace HB := aH (HB.out.trans (hb.mono hbs))
 clear hbs
 replace HN := aH (HN.out.below hb)
 replace HG := bL HG hb
 replace HJ := aH ((HJ.out.below hb).more hb.size)
 clear hb
 by_cases hc : codeF n inj = 0
 ·obtain ⟨hra, hrb⟩ := HOK.out hc
  obtain ⟨SA, ca, rfl⟩ := hra.val
  obtain ⟨SB, cb, rfl⟩ := hrb.val
  have HRA := aH hra
  have HRB := aH hrb
  have HC0 := aH hc
  rw [hc]
  clear hra hrb hc HOK HNO
  have HOKF := aH (code_ok HC0.out)
  have HCH := aH (flowChk_ok HOKF.out.1)
  have HV := aH (vnet HCH.out.1)
  have hml : m = n.nodes.length := by have := HJ.out.1; have h2 := HCH.out.2.1; rw [List.length_map] at this; omega
  subst hml
  have HL1 := aH (show (solF n inj).length ≤ 24 by rw [solF_len]; exact isl_le HV.out)
  have HL2 := aH (show (flwF n inj).length ≤ 24 by rw [flwF_len]; exact HV.out.hb)
  go_upto_region 4 with (fail)
  have hb := below_new w2 (.cells #[.slice SA (solF n inj).length ca, .slice SB (flwF n inj).length cb] 73)
  have hx := Blk.new w2 73 #[.slice SA (solF n inj).length ca, .slice SB (flwF n inj).length cb]
  have hbs := HB.out.size
  replace HB := aH (HB.out.trans (hb.mono hbs))
  clear hbs
  replace HN := aH (HN.out.below hb)
  replace HG := bL HG hb
  replace HJ := aH ((HJ.out.below hb).more hb.size)
  replace HRA := aH (HRA.out.call hb)
  replace HRB := aH (HRB.out.call hb)
  clear hb
  have HS := aH hx
  clear hx
  generalize w2.alloc (.cells #[.slice SA (solF n inj).length ca, .slice SB (flwF n inj).length cb] 73) = wsHS at *
  generalize w2.heap.size = gHS at *
  have x0 := HG.out.cell 0
  have x1 := HG.out.cell 1
  have x2 := HG.out.cell 2
  have x3 := HG.out.cell 3
  have x4 := HG.out.cell 4
  have x5 := HG.out.cell 5
  have HC := aH (topOf_any n v wsHS HN.out)
  unfold NetV.val NetV.parts at HC
  go_wp2_with fail
  refine HC.out.mono ?_
  rintro e w3 ⟨bv, iv, rfl, hbv, hiv, hb⟩
  clear HC
  clear x0 x1 x2 x3 x4 x5
  obtain ⟨BA, bc, rfl⟩ := hbv.val
  obtain ⟨IA, ic, rfl⟩ := hiv.val
  have hbs := HB.out.size
  replace HB := aH (HB.out.trans (hb.mono hbs))
  clear hbs
  replace HN := aH (HN.out.below hb)
  replace HG := bL HG hb
  replace HJ := aH ((HJ.out.below hb).more hb.size)
  replace HRA := aH (HRA.out.call hb)
  replace HRB := aH (HRB.out.call hb)
  replace HS := bL HS hb
  clear hb
  have HBV := aH hbv
  clear hbv hiv
  go_upto_region 5 with (fail)
  have hb := below_new w3 (.cells #[.slice BA (ofL n).1.1.length bc, .slice IA (ofL n).1.2.length ic] 33)
  have hx := Blk.new w3 33 #[.slice BA (ofL n).1.1.length bc, .slice IA (ofL n).1.2.length ic]
  have hbs := HB.out.size
  replace HB := aH (HB.out.trans (hb.mono hbs))
  clear hbs
  replace HN := aH (HN.out.below hb)
  replace HG := bL HG hb
  replace HJ := aH ((HJ.out.below hb).more hb.size)
  replace HRA := aH (HRA.out.call hb)
  replace HRB := aH (HRB.out.call hb)
  replace HS := bL HS hb
  replace HBV := aH (HBV.out.call hb)
  clear hb
  have HT := aH hx
  clear hx
  generalize w3.alloc (.cells #[.slice BA (ofL n).1.1.length bc, .slice IA (ofL n).1.2.length ic] 33) = wsT at *
  generalize w3.heap.size = gT at *
  have HOF := aH (show ofL n = ((busesL n, islandsL n), 0) by rw [ofL, if_pos HCH.out.1])
  rw [HOF.out] at HBV HT ⊢
  simp only at HBV HT ⊢
  have hbl := buses_len HV.out
  rw [hbl] at HBV HT ⊢
  have HBL := aH hbl
  clear hbl
  have t0 := HT.out.cell 0
  change _ = some (Value.slice BA n.nodes.length bc) at t0
  have x0 := HG.out.cell 0
  have x1 := HG.out.cell 1
  have x2 := HG.out.cell 2
  have x3 := HG.out.cell 3
  have x4 := HG.out.cell 4
  have x5 := HG.out.cell 5
  have HC := aH (wide_any n v wsT)
  unfold NetV.val NetV.parts at HC
  go_wp2_with fail
  refine HC.out.mono ?_
  rintro e w4 ⟨rfl, hb⟩
  clear HC
  clear x0 x1 x2 x3 x4 x5
  clear t0
  have hbs := HB.out.size
  replace HB := aH (HB.out.trans (hb.mono hbs))
  clear hbs
  replace HN := aH (HN.out.below hb)
  replace HG := bL HG hb
  replace HJ := aH ((HJ.out.below hb).more hb.size)
  replace HRA := aH (HRA.out.call hb)
  replace HRB := aH (HRB.out.call hb)
  replace HS := bL HS hb
  replace HBV := aH (HBV.out.call hb)
  replace HT := bL HT hb
  clear hb
  have t0 := HT.out.cell 0
  change _ = some (Value.slice BA n.nodes.length bc) at t0
  cases hw : wideN n with
  | true =>
   go_wp2
   go_ret
   exact ⟨rfl, HB.out⟩
  | false =>
   have HW := aH hw
   clear hw
   by_cases h0 : n.nodes.length = 0
   ·have e0 : ((n.nodes.length : Int) == 0) = true := by rw [h0]; rfl
    go_wp2
    go_ret
    exact ⟨rfl, HB.out⟩
   ·have e0 : ((n.nodes.length : Int) == 0) = false := by rw [beq_eq_false_iff_ne]; omega
    have H0 := aH h0
    clear h0
    have e1 : ((n.nodes.length : Int) != (n.nodes.length : Int)) = false := by simp
    have hnn := HV.out.hn
    have hp0 : (0 : Int) < (n.nodes.length : Int) := by have := H0.out; omega
    have hp1 : (n.nodes.length : Int) ≤ 1000000 := by omega
    have hr1 := pickN_range xi hp0
    have hr2 := pickN_range xk hp0
    have hr3 := pickN_range xy (n := 100) (by decide)
    have HC := aH (pick_at xi n.nodes.length w4 hp0 hp1)
    go_wp2_with fail
    refine HC.out.mono ?_
    rintro e w5 ⟨rfl, rfl⟩
    clear HC
    have HC := aH (pick_at xk n.nodes.length w5 hp0 hp1)
    go_wp2_with fail
    refine HC.out.mono ?_
    rintro e w6 ⟨rfl, rfl⟩
    clear HC
    have HC := aH (pick_at xy 100 w6 (by decide) (by decide))
    go_wp2_with fail
    refine HC.out.mono ?_
    rintro e w7 ⟨rfl, rfl⟩
    clear HC
    generalize pickN xi n.nodes.length = i at *
    generalize pickN xk n.nodes.length = k at *
    generalize pickN xy 100 = y at *
    obtain ⟨hi0, hi1⟩ := hr1
    obtain ⟨hk0, hk1⟩ := hr2
    obtain ⟨hy0, hy1⟩ := hr3
    obtain ⟨i, rfl⟩ := Int.eq_ofNat_of_zero_le hi0
    obtain ⟨k, rfl⟩ := Int.eq_ofNat_of_zero_le hk0
    clear hi0 hk0 e0 e1
    have hi : i < n.nodes.length := by omega
    have hk : k < n.nodes.length := by omega
    go_upto_region 8 with (fail)
    obtain ⟨bb, bo, hbe, u0⟩ := reads_getI (HBV.out.reads.more lR) hi
    obtain ⟨bb2, bo2, hbe2, u1⟩ := reads_getI (HBV.out.reads.more lR) hk
    rw [hbe] at hbe2
    injection hbe2 with hbe2
    injection hbe2 with e1 e2 _
    subst e1 e2 hbe
    have hik0 : (i : Int) < (n.nodes.length : Int) := hi1
    have hkk0 : (k : Int) < (n.nodes.length : Int) := hk1
    generalize hb1 : (busesL n).getD i 0 = ubi at *
    generalize hb2 : (busesL n).getD k 0 = ubk at *
    by_cases he : ubi = ubk
    ·have te : (ubi != ubk) = false := by rw [he]; simp
     have HE := aH (show (busesL n).getD i 0 = (busesL n).getD k 0 by rw [hb1, hb2, he])
     clear he hb1 hb2
     go_quiet (fail)
     go_upto_region 10 with (fail)
     have hb : Below w7.heap.size w7 (w7.drewN nq) := below_drewT w7 nq
     have hbs := HB.out.size
     replace HB := aH (HB.out.trans (hb.mono hbs))
     clear hbs
     replace HN := aH (HN.out.below hb)
     replace HG := bL HG hb
     replace HJ := aH ((HJ.out.below hb).more hb.size)
     replace HRA := aH (HRA.out.call hb)
     replace HRB := aH (HRB.out.call hb)
     replace HS := bL HS hb
     replace HBV := aH (HBV.out.call hb)
     replace HT := bL HT hb
     clear hb
     clear te u0 u1 t0
     generalize w7.drewN nq = wq at *
     have hpos : 0 < n.nodes.length := by omega
     have hle : n.nodes.length ≤ 1000 := by omega
     have hbd := HCH.out.2.2
     have HC := aH (cloneI_any inj n.nodes.length A c wq HJ.out hpos hle)
     go_wp2_with fail
     refine HC.out.mono ?_
     rintro e w8 ⟨bp, op, kp, rfl, hrp, hb⟩
     clear HC
     have HBC := aH hb
     have HP := aH hrp
     have hgp := (own_lt hrp (g := bp) rfl).1
     obtain ⟨_, _, cur, hcur⟩ := own_lt hrp (g := bp) rfl
     have y0 := hcur.frozen (op + i)
     clear hb hrp
     obtain ⟨b1, o1, e1, u0⟩ := reads_getI (HP.out.reads.more lR) hi
     injection e1 with e1
     injection e1 with e1 e2 _
     subst e1 e2
     have hbi := hbd i
     have hbk := hbd k
     generalize hvi : inj.getD i 0 = vi at *
     have hs0 : -9223372036854775808 ≤ vi + y := by omega
     have hs1 : vi + y ≤ 9223372036854775807 := by omega
     go_upto_region 12 with (fail)
     have HP2 := aH (row_setI (z := vi + y) HP.out hi)
     have HBC2 := aH (HBC.out.setCell (p := ⟨bp, op + i, none⟩) hgp (I (vi + y)))
     clear HP HBC u0 y0 hcur
     generalize (w8.setCell ⟨bp, op + i, none⟩ (I (vi + y))) = wy at *
     obtain ⟨_, _, cur, hcur⟩ := own_lt HP2.out (g := bp) rfl
     have y0 := hcur.frozen (op + k)
     obtain ⟨b1, o1, e1, u0⟩ := reads_getI (HP2.out.reads.more lR) hk
     injection e1 with e1
     injection e1 with e1 e2 _
     subst e1 e2
     subst hvi
     generalize hvk : (inj.set i (inj.getD i 0 + y)).getD k 0 = vk at *
     have hvb : -200000 ≤ vk ∧ vk ≤ 200000 := by
      rw [← hvk, getD_setI]
      have := hbd k
      split <;> omega
     have hs0 : -9223372036854775808 ≤ vk - y := by omega
     have hs1 : vk - y ≤ 9223372036854775807 := by omega
     go_upto_region 13 with (fail)
     have HP3 := aH (row_setI (z := vk - y) HP2.out hk)
     have hb := HBC2.out.setCell (p := ⟨bp, op + k, none⟩) hgp (I (vk - y))
     clear HP2 HBC2 u0 y0 hcur
     have hbs := HB.out.size
     replace HB := aH (HB.out.trans (hb.mono hbs))
     clear hbs
     replace HN := aH (HN.out.below hb)
     replace HG := bL HG hb
     replace HJ := aH ((HJ.out.below hb).more hb.size)
     replace HRA := aH (HRA.out.call hb)
     replace HRB := aH (HRB.out.call hb)
     replace HS := bL HS hb
     replace HBV := aH (HBV.out.call hb)
     replace HT := bL HT hb
     clear hb
     generalize (wy.setCell ⟨bp, op + k, none⟩ (I (vk - y))) = wz at *
     subst hvk
     have HP := aH (show Row wz _ 3 1 (.slice (some ⟨bp, op, none⟩) n.nodes.length kp) n.nodes.length ((moveL inj i k y).map I) from HP3.out)
     clear HP3
     have hll := HCH.out.2.1
     have HSW := aH (switch_law (y := y) HW.out HC0.out (i := i) (k := k) (by omega) (by omega) HE.out)
     generalize moveL inj i k y = pj at *
     have x0 := HG.out.cell 0
     have x1 := HG.out.cell 1
     have x2 := HG.out.cell 2
     have x3 := HG.out.cell 3
     have x4 := HG.out.cell 4
     have x5 := HG.out.cell 5
     have HC := aH (solve_any n v pj n.nodes.length (some ⟨bp, op, none⟩) kp wz HN.out (HP.out.reads.more lR) (by omega) (tab_below HTB.out HB.out))
     unfold NetV.val NetV.parts at HC
     go_wp2_with fail
     refine HC.out.mono ?_
     rintro e w9 ⟨a2, b2, rfl, hok, hno, -, hb⟩
     clear HC
     clear x0 x1 x2 x3 x4 x5
     have HOK2 := aH hok
     have HNO2 := aH hno
     clear hok hno
     have hbs := HB.out.size
     replace HB := aH (HB.out.trans (hb.mono hbs))
     clear hbs
     replace HN := aH (HN.out.below hb)
     replace HG := bL HG hb
     replace HJ := aH ((HJ.out.below hb).more hb.size)
     replace HRA := aH (HRA.out.call hb)
     replace HRB := aH (HRB.out.call hb)
     replace HS := bL HS hb
     replace HBV := aH (HBV.out.call hb)
     replace HT := bL HT hb
     replace HP := aH (HP.out.call hb)
     clear hb
     rcases HSW.out with h4 | ⟨h0, h1, h2⟩
     ·obtain ⟨rfl, rfl⟩ := HNO2.out (by rw [h4]; decide)
      rw [h4]
      go_upto_region 14 with (fail)
      have hb := below_new w9 (.cells #[.slice none 0 0, .slice none 0 0] 73)
      have hx := Blk.new w9 73 #[.slice none 0 0, .slice none 0 0]
      have hbs := HB.out.size
      replace HB := aH (HB.out.trans (hb.mono hbs))
      clear hbs
      replace HN := aH (HN.out.below hb)
      replace HG := bL HG hb
      replace HJ := aH ((HJ.out.below hb).more hb.size)
      replace HRA := aH (HRA.out.call hb)
      replace HRB := aH (HRB.out.call hb)
      replace HS := bL HS hb
      replace HBV := aH (HBV.out.call hb)
      replace HT := bL HT hb
      replace HP := aH (HP.out.call hb)
      clear hb
      have HU := aH hx
      clear hx
      generalize w9.alloc (.cells #[.slice none 0 0, .slice none 0 0] 73) = wsHU at *
      generalize w9.heap.size = gHU at *
      go_wp2
      go_ret
      exact ⟨rfl, HB.out⟩
     ·obtain ⟨hra, hrb⟩ := HOK2.out h0
      rw [h1] at hra
      rw [h2] at hrb
      rw [h0]
      obtain ⟨UA, ua, rfl⟩ := hra.val
      obtain ⟨UB, ub, rfl⟩ := hrb.val
      have HUA := aH hra
      have HUB := aH hrb
      clear hra hrb HOK2 HNO2
      go_upto_region 14 with (fail)
      have hb := below_new w9 (.cells #[.slice UA (solF n inj).length ua, .slice UB (flwF n inj).length ub] 73)
      have hx := Blk.new w9 73 #[.slice UA (solF n inj).length ua, .slice UB (flwF n inj).length ub]
      have hbs := HB.out.size
      replace HB := aH (HB.out.trans (hb.mono hbs))
      clear hbs
      replace HN := aH (HN.out.below hb)
      replace HG := bL HG hb
      replace HJ := aH ((HJ.out.below hb).more hb.size)
      replace HRA := aH (HRA.out.call hb)
      replace HRB := aH (HRB.out.call hb)
      replace HS := bL HS hb
      replace HBV := aH (HBV.out.call hb)
      replace HT := bL HT hb
      replace HP := aH (HP.out.call hb)
      replace HUA := aH (HUA.out.call hb)
      replace HUB := aH (HUB.out.call hb)
      clear hb
      have HU := aH hx
      clear hx
      generalize w9.alloc (.cells #[.slice UA (solF n inj).length ua, .slice UB (flwF n inj).length ub] 73) = wsHU at *
      generalize w9.heap.size = gHU at *
      have z0 := HS.out.cell 0
      have z1 := HS.out.cell 1
      change _ = some (Value.slice SA (solF n inj).length ca) at z0
      change _ = some (Value.slice SB (flwF n inj).length cb) at z1
      have z2 := HU.out.cell 0
      have z3 := HU.out.cell 1
      change _ = some (Value.slice UA (solF n inj).length ua) at z2
      change _ = some (Value.slice UB (flwF n inj).length ub) at z3
      have hl1 : (solF n inj).length ≤ 1000000 := by have := HL1.out; omega
      have hl2 : (flwF n inj).length ≤ 1000000 := by have := HL2.out; omega
      have HC := aH (equalV_any (mkS ((flwF n inj).map qText)) (mkS ((flwF n inj).map qText)) (flwF n inj).length (flwF n inj).length SB UB cb ub wsHU (HRB.out.reads.more lR) (HUB.out.reads.more lR) hl2)
      rw [decide_eq_true rfl] at HC
      go_wp2_with fail
      refine HC.out.mono ?_
      rintro e w10 ⟨rfl, hb⟩
      clear HC
      clear z0 z1 z2 z3
      have hbs := HB.out.size
      replace HB := aH (HB.out.trans (hb.mono hbs))
      clear hbs
      replace HN := aH (HN.out.below hb)
      replace HG := bL HG hb
      replace HJ := aH ((HJ.out.below hb).more hb.size)
      replace HRA := aH (HRA.out.call hb)
      replace HRB := aH (HRB.out.call hb)
      replace HS := bL HS hb
      replace HBV := aH (HBV.out.call hb)
      replace HT := bL HT hb
      replace HP := aH (HP.out.call hb)
      replace HUA := aH (HUA.out.call hb)
      replace HUB := aH (HUB.out.call hb)
      replace HU := bL HU hb
      clear hb
      have z0 := HS.out.cell 0
      have z1 := HS.out.cell 1
      change _ = some (Value.slice SA (solF n inj).length ca) at z0
      change _ = some (Value.slice SB (flwF n inj).length cb) at z1
      have z2 := HU.out.cell 0
      have z3 := HU.out.cell 1
      change _ = some (Value.slice UA (solF n inj).length ua) at z2
      change _ = some (Value.slice UB (flwF n inj).length ub) at z3
      have HC := aH (equalV_any (mkS ((solF n inj).map qText)) (mkS ((solF n inj).map qText)) (solF n inj).length (solF n inj).length SA UA ca ua w10 (HRA.out.reads.more lR) (HUA.out.reads.more lR) hl1)
      rw [decide_eq_true rfl] at HC
      go_wp2_with fail
      refine HC.out.mono ?_
      rintro e w11 ⟨rfl, hb⟩
      clear HC
      clear z0 z1 z2 z3
      have hbs := HB.out.size
      replace HB := aH (HB.out.trans (hb.mono hbs))
      clear hbs
      replace HN := aH (HN.out.below hb)
      replace HG := bL HG hb
      replace HJ := aH ((HJ.out.below hb).more hb.size)
      replace HRA := aH (HRA.out.call hb)
      replace HRB := aH (HRB.out.call hb)
      replace HS := bL HS hb
      replace HBV := aH (HBV.out.call hb)
      replace HT := bL HT hb
      replace HP := aH (HP.out.call hb)
      replace HUA := aH (HUA.out.call hb)
      replace HUB := aH (HUB.out.call hb)
      replace HU := bL HU hb
      clear hb
      go_wp2
      go_ret
      exact ⟨rfl, HB.out⟩
    ·have te : (ubi != ubk) = true := bne_iff_ne.2 he
     clear he hb1 hb2
     go_quiet (fail)
     have hb : Below w7.heap.size w7 (w7.drewN nq) := below_drewT w7 nq
     have hbs := HB.out.size
     replace HB := aH (HB.out.trans (hb.mono hbs))
     clear hbs
     replace HN := aH (HN.out.below hb)
     replace HG := bL HG hb
     replace HJ := aH ((HJ.out.below hb).more hb.size)
     replace HRA := aH (HRA.out.call hb)
     replace HRB := aH (HRB.out.call hb)
     replace HS := bL HS hb
     replace HBV := aH (HBV.out.call hb)
     replace HT := bL HT hb
     clear hb
     go_wp2
     go_ret
     exact ⟨rfl, HB.out⟩
 ·obtain ⟨rfl, rfl⟩ := HNO.out hc
  have tc : (codeF n inj != 0) = true := bne_iff_ne.2 hc
  clear hc HOK HNO
  go_upto_region 4 with (fail)
  have hb := below_new w2 (.cells #[.slice none 0 0, .slice none 0 0] 73)
  have hx := Blk.new w2 73 #[.slice none 0 0, .slice none 0 0]
  have hbs := HB.out.size
  replace HB := aH (HB.out.trans (hb.mono hbs))
  clear hbs
  replace HN := aH (HN.out.below hb)
  replace HG := bL HG hb
  replace HJ := aH ((HJ.out.below hb).more hb.size)
  clear hb
  have HS := aH hx
  clear hx
  generalize w2.alloc (.cells #[.slice none 0 0, .slice none 0 0] 73) = wsHS at *
  generalize w2.heap.size = gHS at *
  have x0 := HG.out.cell 0
  have x1 := HG.out.cell 1
  have x2 := HG.out.cell 2
  have x3 := HG.out.cell 3
  have x4 := HG.out.cell 4
  have x5 := HG.out.cell 5
  have HC := aH (topOf_any n v wsHS HN.out)
  unfold NetV.val NetV.parts at HC
  go_wp2_with fail
  refine HC.out.mono ?_
  rintro e w3 ⟨bv, iv, rfl, hbv, hiv, hb⟩
  clear HC
  clear x0 x1 x2 x3 x4 x5
  obtain ⟨BA, bc, rfl⟩ := hbv.val
  obtain ⟨IA, ic, rfl⟩ := hiv.val
  have hbs := HB.out.size
  replace HB := aH (HB.out.trans (hb.mono hbs))
  clear hbs
  replace HN := aH (HN.out.below hb)
  replace HG := bL HG hb
  replace HJ := aH ((HJ.out.below hb).more hb.size)
  replace HS := bL HS hb
  clear hb
  have HBV := aH hbv
  clear hbv hiv
  go_upto_region 5 with (fail)
  have hb := below_new w3 (.cells #[.slice BA (ofL n).1.1.length bc, .slice IA (ofL n).1.2.length ic] 33)
  have hx := Blk.new w3 33 #[.slice BA (ofL n).1.1.length bc, .slice IA (ofL n).1.2.length ic]
  have hbs := HB.out.size
  replace HB := aH (HB.out.trans (hb.mono hbs))
  clear hbs
  replace HN := aH (HN.out.below hb)
  replace HG := bL HG hb
  replace HJ := aH ((HJ.out.below hb).more hb.size)
  replace HS := bL HS hb
  replace HBV := aH (HBV.out.call hb)
  clear hb
  have HT := aH hx
  clear hx
  generalize w3.alloc (.cells #[.slice BA (ofL n).1.1.length bc, .slice IA (ofL n).1.2.length ic] 33) = wsT at *
  generalize w3.heap.size = gT at *
  go_wp2
  go_ret
  exact ⟨rfl, HB.out⟩
theorem flowSwitches_row (n : NetD) (v : NetV) (inj : List Int) (A : Option Addr) (c : Nat) (xi xk xy : Int) (w : World) (hN : Net w n v) (hj : Reads w w.heap.size 1 A inj.length (inj.map I)) (hm : inj.length ≤ 9223372036854775807) (_hi : -9223372036854775808 ≤ xi ∧ xi ≤ 9223372036854775807) (_hk : -9223372036854775808 ≤ xk ∧ xk ≤ 9223372036854775807) (_hy : -9223372036854775808 ≤ xy ∧ xy ≤ 9223372036854775807) (htab : Tab w) : Calls Tryz.prog 7 #[v.val n, .slice A inj.length c, I xi, I xk, I xy] w fun e w' => e = .returned (.bool true) ∧ Below w.heap.size w w' :=
 flowSwitches_any n v inj inj.length A c xi xk xy w hN hj hm htab
end
section
open Go.ChangeShapes Go.WideShapes Go.ChangeAt Go.RowKit Go.ChangeMaps
theorem flowSwitches_door (os : Os) (args : Array Value) : laidMetH Tryz.prog Rows.flowSwitchesRow.laid ((World.doorLaid Tryz.prog 62 os).forCall (fun _ _ => 0) ⟨#[], args, []⟩).memory :=
 laidMetH_of_parts3 (fuel := 8) (laidMet_of_run' 8 (by kernel_rfl) (by kernel_rfl)) (by kernel_rfl) (by kernel_rfl)
set_option linter.unusedVariables false in
theorem flowSwitches_lifted (os : Os) (started : os.Started) (H : Type) (enc : TypeId × Value → H) :
  ReturnsInHanded {} Tryz.checked os 7 .any (fun w args => (Rows.flowSwitchesSpec.pre enc Tryz.prog Tryz.f7 [] false w args ∧ laidMetH Tryz.prog Rows.flowSwitchesRow.laid w) ∧ sizedMet enc Tryz.prog Tryz.f7 (OpenSpec.ofChange Rows.flowSwitchesSpec) false w args)
   (Rows.flowSwitchesSpec.post enc Tryz.prog Tryz.f7 false true false false) := by
 refine returnsInHanded_of_change_and (C := Tryz.checked) (X := fun w _ => laidMetH Tryz.prog Rows.flowSwitchesRow.laid w) (fun _ _ _ hh h => h.of_heap hh) own started (by kernel_rfl) Tryz.func7
  (ChangeSpec.witness_shaped (enc := enc) (C := Tryz.checked) (os := os) (X := fun w _ => laidMetH Tryz.prog Rows.flowSwitchesRow.laid w) false (World.doorLaid Tryz.prog 62 os) #[.agg #[.slice none 0 0, .slice none 0 0, .slice none 0 0, .slice none 0 0, .slice none 0 0, .slice none 0 0], .slice none 0 0, .int .i64 0, .int .i64 0, .int .i64 0] 8 rfl (World.shaped_of_RefB (by kernel_rfl) (by kernel_rfl)) (by kernel_rfl) (by kernel_rfl) (by kernel_rfl) (flowSwitches_door os _)) ?_
 intro W base args ds gs before hval0 hW _ _ hL _
 have hval : ∀ (j : Nat) t v, Tryz.f7.params[j]? = some t → args[j]? = some v → Value.okWide Tryz.prog W .any base t v := hval0
 have hW' := hW
 obtain ⟨p, q, hA0, hV, rfl, hfz, hnd⟩ := hW
 have hA : DataW.TrodAll enc Tryz.prog W 0 (fun _ => true) true Tryz.f7.params.toList args.toList ds p := hA0
 rw [Tryz.params7] at hA hval
 obtain ⟨v0, vs0, d0, ds0, p0, q0, hargs, rfl, rfl, h0, r0⟩ := trodAll_cons hA
 obtain ⟨v1, vs1, d1, ds1, p1, q1, rfl, rfl, rfl, h1, r1⟩ := trodAll_cons r0
 obtain ⟨v2, vs2, d2, ds2, p2, q2, rfl, rfl, rfl, h2, r2⟩ := trodAll_cons r1
 obtain ⟨v3, vs3, d3, ds3, p3, q3, rfl, rfl, rfl, h3, r3⟩ := trodAll_cons r2
 obtain ⟨v4, vs4, d4, ds4, p4, q4, rfl, rfl, rfl, h4, r4⟩ := trodAll_cons r3
 obtain ⟨rfl, rfl, rfl⟩ := trodAll_nil r4
 obtain rfl : args = #[v0, v1, v2, v3, v4] := by cases args; simp_all
 obtain ⟨rfl, rfl⟩ := trodVars_none hV
 have k0 := h0
 have lt0 : ∀ x ∈ p0, x.block < W.heap.size := by obtain ⟨m, hm⟩ := k0; exact DataW.trod_lt m _ _ _ hm
 obtain ⟨n0, nv0, rfl, hn0⟩ := open_net (hval 0 29 v0 rfl rfl) h0
 have k1 := h1
 have lt1 : ∀ x ∈ p1, x.block < W.heap.size := by obtain ⟨m, hm⟩ := k1; exact DataW.trod_lt m _ _ _ hm
 obtain ⟨a1, len1, cap1, rfl⟩ := okWide_slice Tryz.underlying31 (hval 1 31 v1 rfl rfl)
 obtain ⟨fu1, ho1⟩ := h1
 obtain ⟨m1, A1, c1, e1, hm1, hl1⟩ := open_ints Tryz.underlying31 (u := .slice a1 len1 cap1) ho1
 injection e1 with ea1 eb1 ec1
 subst ea1 eb1 ec1
 obtain ⟨s2, rfl, rfl, rfl, ws2⟩ := open_int Tryz.underlying3 (hval 2 3 v2 rfl rfl) h2
 obtain ⟨s3, rfl, rfl, rfl, ws3⟩ := open_int Tryz.underlying3 (hval 3 3 v3 rfl rfl) h3
 obtain ⟨s4, rfl, rfl, rfl, ws4⟩ := open_int Tryz.underlying3 (hval 4 3 v4 rfl rfl) h4
 clear hA0 hval0
 refine (flowSwitches_row n0 nv0 m1 _ _ s2 s3 s4 W hn0 hm1 hl1 (bounds64 ws2) (bounds64 ws3) (bounds64 ws4) (tab_of_laid hL)).mono fun e W' ⟨he, bel⟩ => ?_
 subst he
 exact ⟨_, rfl, _, _, _, [], _, [], hW', trodAll_mk1 (shut_bool Tryz.underlying4 _), (trodAll_cons_mk (Below.trod laidOut (by kernel_rfl) (of_decide_eq_true (by kernel_rfl)) k0 bel lt0) (trodAll_cons_mk (Below.trod laidOut (by kernel_rfl) (of_decide_eq_true (by kernel_rfl)) k1 bel lt1) (trodAll_cons_mk (shut_int Tryz.underlying3 ws2) (trodAll_cons_mk (shut_int Tryz.underlying3 ws3) (trodAll_cons_mk (shut_int Tryz.underlying3 ws4) trodAll_mk0))))), rfl, bel.frame _, fun h => by cases h⟩
end
end Go.Proofs.YtenbglfkdldheaaGreatDoor
