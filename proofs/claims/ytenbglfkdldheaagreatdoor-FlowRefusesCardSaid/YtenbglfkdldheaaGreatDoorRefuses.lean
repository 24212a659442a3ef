/- FlowRefuses: the walk. FlowRefuses returns true for every input: a state in which one number differs is refused. No conditions. The row's listed variables hold what the program's text lays (the card ties them). -/
import Derived.Test.YtenbglfkdldheaaGreatDoorDRef
import Derived.ShutString
import Derived.ChangeMaps5
set_option maxRecDepth 100000
set_option maxHeartbeats 16000000
namespace Go.Proofs.YtenbglfkdldheaaGreatDoor
section
open Go.RowKit
theorem rval_ne {a : List UInt8} (h : rchk a = 0) (h1 : a ≠ [48]) : rval a ≠ 0 := fun e => h1 (by
 have h2 := (back_text h).2
 rw [e] at h2
 rw [← h2]
 decide +kernel)
theorem add_text {a : List UInt8} {q : Rat} (hq : SzQ q 831) (ha : rchk a = 0) (hl : a.length ≤ 50) : ratAdd (qText q) a = (qText (q + rval a), 0) ∧ SzQ (q + rval a) 882 := by
 have hs := (rval_sz ha).1.mono hl
 have hz := hq.add hs
 obtain ⟨h1, h2⟩ := qText_ok q (hq.fit (by omega) (by omega))
 refine ⟨?_, hz⟩
 rw [ratAdd, rOp, rAll, if_pos h1, rAll, if_pos ha, rAll, if_pos rfl, h2, ratTx, if_pos (hz.fit (by omega) (by omega))]
theorem refuse_ang {n : NetD} {inj : List Int} (h : codeF n inj = 0) {k : Nat} {q d : Rat} (hq : (solF n inj)[k]? = some q) (hd : d ≠ 0) (hs : SzQ (q + d) 882) :
  verF n inj (mkS (((solF n inj).set k (q + d)).map qText)) (mkS ((flwF n inj).map qText)) = 21 ∧ ((solF n inj).set k (q + d)).all fitQ = true := by
 obtain ⟨_, h2, h3⟩ := code_ok h
 obtain ⟨hk, rfl⟩ := List.getElem?_eq_some_iff.1 hq
 have ha := all_setF (k := k) h2 (hs.fit (by omega) (by omega))
 refine ⟨?_, ha⟩
 rw [ver_mk h (by rw [List.length_set, solF_len]) (flwF_len n inj) ha h3, if_neg]
 rintro ⟨e, _⟩
 refine set_ne hk ?_ e
 rw [gD, gE hk]
 exact add_ne hd
theorem refuse_flw {n : NetD} {inj : List Int} (h : codeF n inj = 0) {k : Nat} {q d : Rat} (hq : (flwF n inj)[k]? = some q) (hd : d ≠ 0) (hs : SzQ (q + d) 882) :
  verF n inj (mkS ((solF n inj).map qText)) (mkS (((flwF n inj).set k (q + d)).map qText)) = 21 ∧ ((flwF n inj).set k (q + d)).all fitQ = true := by
 obtain ⟨_, h2, h3⟩ := code_ok h
 obtain ⟨hk, rfl⟩ := List.getElem?_eq_some_iff.1 hq
 have ha := all_setF (k := k) h3 (hs.fit (by omega) (by omega))
 refine ⟨?_, ha⟩
 rw [ver_mk h (solF_len n inj) (by rw [List.length_set, flwF_len]) h2 ha, if_neg]
 rintro ⟨_, e⟩
 refine set_ne hk ?_ e
 rw [gD, gE hk]
 exact add_ne hd
theorem row_setT {w : World} {base g off cap k : Nat} {l : List Rat} {q : Rat} (h : Row w base 51 1 (.slice (some ⟨g, off, none⟩) l.length cap) l.length ((mkS (l.map qText)).map Sv)) (hk : k < l.length) :
  Row (w.setCell ⟨g, off + k, none⟩ (.string ⟨(qText q).toArray⟩)) base 51 1 (.slice (some ⟨g, off, none⟩) l.length cap) l.length ((mkS ((l.set k q).map qText)).map Sv) := by
 have h1 := Row.set_at h (j := k) (by omega) (.string ⟨(qText q).toArray⟩)
 rw [mkS_set, List.map_set]
 exact h1
theorem flowRefuses_any (n : NetD) (v : NetV) (inj : List Int) (m : Nat) (A : Option Addr) (c : Nat) (i : Int) (s : ByteArray) (w : World) (hN : Net w n v) (hj : Reads w w.heap.size 1 A m (inj.map I)) (hm : m ≤ 9223372036854775807) (hs : s.size ≤ 9223372036854775807) (htab : Tab w) : Calls Tryz.prog 8 #[v.val n, .slice A m c, I i, .string s] w fun e w' => e = .returned (.bool true) ∧ Below w.heap.size w w' := by
 have HN0 := aH hN
 have HJ0 := aH hj
 have hz := below_new w (Obj.cells (v.parts n) 29)
 have HN := aH (hN.below hz)
 have HG := aH (Blk.new w 29 (v.parts n))
 have HB := aH hz
 have HTB := aH htab
 have HJ := aH ((hj.below hz).more hz.size)
 clear hz hN htab hj
 unfold NetV.val NetV.parts at *
 go_enter Tryz.func8, Tryz.ntmps8
 have HC := aH (flowFact_any (w.alloc (Obj.cells #[.slice v.na n.nodes.length v.nc, .slice v.sa n.switches.length v.sc, .slice v.ba n.branches.length v.bc, .slice v.ga n.gens.length v.gc, .slice v.la n.loads.length v.lc, .slice v.ta n.stores.length v.tc] 29)) (tab_below HTB.out HB.out))
 go_wp2_with fail
 refine HC.out.mono ?_
 rintro e w1 ⟨rfl, hb⟩
 clear HC
 have hbs := HB.out.size
 replace HB := aH (HB.out.trans (hb.mono hbs))
 clear hbs
 replace HN := aH (HN.out.below hb)
 replace HG := bL HG hb
 replace HJ := aH ((HJ.out.below hb).more hb.size)
 clear hb
 have HWS := aH HB.out.size
 have x0 := HG.out.cell 0
 have x1 := HG.out.cell 1
 have x2 := HG.out.cell 2
 have x3 := HG.out.cell 3
 have x4 := HG.out.cell 4
 have x5 := HG.out.cell 5
 have HC := aH (solve_any n v inj m A c w1 HN.out HJ.out hm (tab_below HTB.out HB.out))
 unfold NetV.val NetV.parts at HC
 go_wp2_with fail
 refine HC.out.mono ?_
 rintro e w2 ⟨a, b, rfl, hok, hno, hdj, hb⟩
 clear HC
 clear x0 x1 x2 x3 x4 x5
 have HOK := aH hok
 have HNO := aH hno
 have HDJ := aH hdj
 clear hok hno hdj
 have hbs := HB.out.size
 replace HB := aH (HB.out.trans (hb.mono hbs))
 clear hbs
 replace HN := aH (HN.out.below hb)
 replace HG := bL HG hb
 replace HJ := aH ((HJ.out.below hb).more hb.size)
 clear hb
 by_cases hc : codeF n inj = 0
 ·obtain ⟨hra, hrb⟩ := HOK.out hc
  obtain ⟨SA, ca, rfl⟩ := hra.val
  obtain ⟨SB, cb, rfl⟩ := hrb.val
  have HRA := aH hra
  have HRB := aH hrb
  have HC0 := aH hc
  rw [hc]
  clear hra hrb hc HOK HNO
  have HOKF := aH (code_ok HC0.out)
  have hVN := vnet (flowChk_ok HOKF.out.1).1
  have HL1 := aH (show (solF n inj).length ≤ 24 by rw [solF_len]; exact isl_le hVN)
  have HL2 := aH (show (flwF n inj).length ≤ 24 by rw [flwF_len]; exact hVN.hb)
  clear hVN
  generalize hA : solF n inj = PA at *
  generalize hF : flwF n inj = PF at *
  have HPA := aH hA
  have HPF := aH hF
  clear hA hF
  go_upto_region 4 with (fail)
  have hb := below_new w2 (.cells #[.slice SA PA.length ca, .slice SB PF.length cb] 73)
  have hx := Blk.new w2 73 #[.slice SA PA.length ca, .slice SB PF.length cb]
  have hbs := HB.out.size
  replace HB := aH (HB.out.trans (hb.mono hbs))
  clear hbs
  replace HN := aH (HN.out.below hb)
  replace HG := bL HG hb
  replace HJ := aH ((HJ.out.below hb).more hb.size)
  replace HRA := aH (HRA.out.call hb)
  replace HRB := aH (HRB.out.call hb)
  clear hb
  have HS := aH hx
  clear hx
  generalize w2.alloc (.cells #[.slice SA PA.length ca, .slice SB PF.length cb] 73) = wsHS at *
  generalize w2.heap.size = gHS at *
  have x0 := HG.out.cell 0
  have x1 := HG.out.cell 1
  have x2 := HG.out.cell 2
  have x3 := HG.out.cell 3
  have x4 := HG.out.cell 4
  have x5 := HG.out.cell 5
  have HC := aH (wide_any n v wsHS)
  unfold NetV.val NetV.parts at HC
  go_wp2_with fail
  refine HC.out.mono ?_
  rintro e w3 ⟨rfl, hb⟩
  clear HC
  clear x0 x1 x2 x3 x4 x5
  have hbs := HB.out.size
  replace HB := aH (HB.out.trans (hb.mono hbs))
  clear hbs
  replace HN := aH (HN.out.below hb)
  replace HG := bL HG hb
  replace HJ := aH ((HJ.out.below hb).more hb.size)
  replace HRA := aH (HRA.out.call hb)
  replace HRB := aH (HRB.out.call hb)
  replace HS := bL HS hb
  clear hb
  cases hw : wideN n with
  | true =>
   have z0 := HS.out.cell 0
   have z1 := HS.out.cell 1
   change _ = some (Value.slice SA PA.length ca) at z0
   change _ = some (Value.slice SB PF.length cb) at z1
   go_wp2
   go_ret
   exact ⟨rfl, HB.out⟩
  | false =>
   have HW := aH hw
   clear hw
   have z0 := HS.out.cell 0
   have z1 := HS.out.cell 1
   change _ = some (Value.slice SA PA.length ca) at z0
   change _ = some (Value.slice SB PF.length cb) at z1
   by_cases h0 : PA.length = 0
   ·have t0 : ((PA.length : Int) == 0) = true := by rw [h0]; rfl
    go_wp2
    go_ret
    exact ⟨rfl, HB.out⟩
   ·have t0 : ((PA.length : Int) == 0) = false := by rw [beq_eq_false_iff_ne]; omega
    have H0 := aH h0
    clear h0
    have hsz := hs
    have HC := aH (rchk_any s w3 hs (tab_below HTB.out HB.out))
    go_wp2_with fail
    refine HC.out.mono ?_
    rintro e w4 ⟨rfl, hb⟩
    clear HC
    clear z0 z1
    have hbs := HB.out.size
    replace HB := aH (HB.out.trans (hb.mono hbs))
    clear hbs
    replace HN := aH (HN.out.below hb)
    replace HG := bL HG hb
    replace HJ := aH ((HJ.out.below hb).more hb.size)
    replace HRA := aH (HRA.out.call hb)
    replace HRB := aH (HRB.out.call hb)
    replace HS := bL HS hb
    clear hb
    have z0 := HS.out.cell 0
    have z1 := HS.out.cell 1
    change _ = some (Value.slice SA PA.length ca) at z0
    change _ = some (Value.slice SB PF.length cb) at z1
    by_cases hr : rchk (SL s) = 0
    ·have HR := aH hr
     rw [hr]
     clear hr
     have tb := beq_lit s [48] [48] (by decide +kernel)
     by_cases h1 : SL s = [48]
     ·rw [decide_eq_true h1] at tb
      go_wp2
      go_ret
      exact ⟨rfl, HB.out⟩
     ·rw [decide_eq_false h1] at tb
      have H1 := aH h1
      clear h1
      cases h2 : decide ((s.size : Int) > 50) with
      | true =>
       go_wp2
       go_ret
       exact ⟨rfl, HB.out⟩
      | false =>
       have H2 := aH (show s.size ≤ 50 by have := of_decide_eq_false h2; omega)
       go_upto_region 6 with (fail)
       clear t0 tb h2
       have hpl : 0 < ((PA.length : Int) + (PF.length : Int)) := by have := H0.out; omega
       have hpm : ((PA.length : Int) + (PF.length : Int)) ≤ 1000000 := by have := HL1.out; have := HL2.out; omega
       have hpr := pickN_range i hpl
       have HC := aH (pick_at i ((PA.length : Int) + (PF.length : Int)) w4 hpl hpm)
       go_wp2_with fail
       refine HC.out.mono ?_
       rintro e w5 ⟨rfl, rfl⟩
       clear HC
       generalize pickN i ((PA.length : Int) + (PF.length : Int)) = k at *
       obtain ⟨hk0, hk1⟩ := hpr
       obtain ⟨k, rfl⟩ := Int.eq_ofNat_of_zero_le hk0
       clear hpl hpm hk0
       by_cases hk : PA.length ≤ k
       ·have tk : decide ((k : Int) ≥ (PA.length : Int)) = true := decide_eq_true (by omega)
        go_upto_region 10 with (fail)
        obtain ⟨j, hj⟩ : ∃ j : Nat, k = PA.length + j := ⟨k - PA.length, by omega⟩
        subst hj
        rw [show ((PA.length + j : Nat) : Int) - (PA.length : Int) = (j : Int) by omega, IntWalk.wrap64_in (j : Int) (by have := HL2.out; omega)]
        clear z0 z1
        clear tk
        obtain ⟨q, hq⟩ : ∃ q, PF[j]? = some q := ⟨_, gE (by omega)⟩
        obtain ⟨bl, off, u, e1, hbl, hu, hcl⟩ := (HRB.out.reads.more lR).at1 (k := j) (by omega)
        subst e1
        obtain rfl : u = .string ⟨(qText q).toArray⟩ := by
         rw [List.getElem?_map, mkS, List.getElem?_map, List.getElem?_map, hq] at hu
         exact (Option.some.inj hu).symm
        clear hu
        have HSZ := aH (sol_sz (inj := inj) HW.out HOKF.out.1)
        rw [HPA.out, HPF.out] at HSZ
        have HQS := aH (HSZ.out.2 q (List.mem_of_getElem? hq))
        clear HSZ
        have HQF := aH (HQS.out.fit (by omega) (by omega))
        have hqs : (⟨(qText q).toArray⟩ : ByteArray).size ≤ 9223372036854775807 := sh_mk HOKF.out.2.2 _ (by rw [mkS, List.map_map]; exact List.mem_map.2 ⟨q, List.mem_of_getElem? hq, rfl⟩)
        have hkl : j < PF.length := by omega
        have HAD := aH (add_text HQS.out HR.out (show (SL s).length ≤ 50 by have := H2.out; rw [show (SL s).length = s.size from rfl]; exact this))
        have HBL := aH (own_lt HRB.out (g := bl) rfl)
        obtain ⟨_, _, cur, hcur⟩ := HBL.out
        have y0 := hcur.frozen (off + j)
        clear hcur hbl
        have HC := aH (ratAdd_any ⟨(qText q).toArray⟩ s w5 hqs hs (tab_below HTB.out HB.out))
        change Hid (Calls _ _ _ _ (RetTx _ (ratAdd (qText q) (SL s)))) at HC
        rw [HAD.out.1] at HC
        go_wp2_with fail
        refine HC.out.mono ?_
        rintro e w6 ⟨rfl, hb⟩
        clear HC
        clear y0
        replace hcl := cell_below hcl hb
        have hbs := HB.out.size
        replace HB := aH (HB.out.trans (hb.mono hbs))
        clear hbs
        replace HN := aH (HN.out.below hb)
        replace HG := bL HG hb
        replace HJ := aH ((HJ.out.below hb).more hb.size)
        replace HRA := aH (HRA.out.call hb)
        replace HRB := aH (HRB.out.call hb)
        replace HS := bL HS hb
        clear hb
        obtain ⟨_, _, cur, hcur⟩ := own_lt HRB.out (g := bl) rfl
        have y0 := hcur.frozen (off + j)
        go_upto_region 12 with (fail)
        have R2 := aH (row_setT (q := q + rval (SL s)) HRB.out hkl)
        have Q2 := aH (Row.set_away HRA.out (p := ⟨bl, off + j, none⟩) (fun g h e => HDJ.out g h (by rw [e]; rfl)) (.string ⟨(qText (q + rval (SL s))).toArray⟩))
        have HS2 := aH (HS.out.far (p := ⟨bl, off + j, none⟩) (blk_ne HS.out hcur (by decide)) (.string ⟨(qText (q + rval (SL s))).toArray⟩))
        have HG2 := aH (HG.out.far (p := ⟨bl, off + j, none⟩) (blk_ne HG.out hcur (by decide)) (.string ⟨(qText (q + rval (SL s))).toArray⟩))
        have HB2 := aH (HB.out.setCell (p := ⟨bl, off + j, none⟩) (Nat.le_trans HWS.out HBL.out.1) (.string ⟨(qText (q + rval (SL s))).toArray⟩))
        clear HRB HRA HS HB HBL hcur y0 hcl HDJ HG HN HJ
        generalize (w6.setCell ⟨bl, off + j, none⟩ (.string ⟨(qText (q + rval (SL s))).toArray⟩)) = ws9 at *
        have HRB := R2
        have HRA := Q2
        have HS := HS2
        have HB := HB2
        have HG := HG2
        clear R2 Q2 HS2 HB2 HG2
        have HN := aH (HN0.out.below HB.out)
        have HJ := aH ((HJ0.out.below HB.out).more HB.out.size)
        have x0 := HG.out.cell 0
        have x1 := HG.out.cell 1
        have x2 := HG.out.cell 2
        have x3 := HG.out.cell 3
        have x4 := HG.out.cell 4
        have x5 := HG.out.cell 5
        have z0 := HS.out.cell 0
        have z1 := HS.out.cell 1
        change _ = some (Value.slice SA PA.length ca) at z0
        change _ = some (Value.slice (some ⟨bl, off, none⟩) PF.length cb) at z1
        have HRE := aH (refuse_flw (d := rval (SL s)) HC0.out (by rw [HPF.out]; exact hq) (rval_ne HR.out H1.out) HAD.out.2)
        rw [HPA.out, HPF.out] at HRE
        have HC := aH (verify_any n v inj m A c (mkS (PA.map qText)) (mkS ((PF.set j (q + rval (SL s))).map qText)) SA (some ⟨bl, off, none⟩) PA.length ca PF.length cb ws9 HN.out HJ.out hm (tab_below HTB.out HB.out) (HRA.out.reads.more lR) (HRB.out.reads.more lR) (sh_mk HOKF.out.2.1) (sh_mk HRE.out.2) (by have := HL1.out; omega) (by have := HL2.out; omega))
        unfold NetV.val NetV.parts at HC
        rw [HRE.out.1] at HC
        go_wp2_with fail
        refine HC.out.mono ?_
        rintro e w7 ⟨rfl, hb⟩
        clear HC
        clear x0 x1 x2 x3 x4 x5
        clear z0 z1
        replace HB := bT HB hb
        go_wp2
        go_ret
        exact ⟨rfl, HB.out⟩
       ·have tk : decide ((k : Int) ≥ (PA.length : Int)) = false := decide_eq_false (by omega)
        go_upto_region 10 with (fail)
        clear z0 z1
        clear tk
        obtain ⟨q, hq⟩ : ∃ q, PA[k]? = some q := ⟨_, gE (by omega)⟩
        obtain ⟨bl, off, u, e1, hbl, hu, hcl⟩ := (HRA.out.reads.more lR).at1 (k := k) (by omega)
        subst e1
        obtain rfl : u = .string ⟨(qText q).toArray⟩ := by
         rw [List.getElem?_map, mkS, List.getElem?_map, List.getElem?_map, hq] at hu
         exact (Option.some.inj hu).symm
        clear hu
        have HSZ := aH (sol_sz (inj := inj) HW.out HOKF.out.1)
        rw [HPA.out, HPF.out] at HSZ
        have HQS := aH (HSZ.out.1 q (List.mem_of_getElem? hq))
        clear HSZ
        have HQF := aH (HQS.out.fit (by omega) (by omega))
        have hqs : (⟨(qText q).toArray⟩ : ByteArray).size ≤ 9223372036854775807 := sh_mk HOKF.out.2.1 _ (by rw [mkS, List.map_map]; exact List.mem_map.2 ⟨q, List.mem_of_getElem? hq, rfl⟩)
        have hkl : k < PA.length := by omega
        have HAD := aH (add_text HQS.out HR.out (show (SL s).length ≤ 50 by have := H2.out; rw [show (SL s).length = s.size from rfl]; exact this))
        have HBL := aH (own_lt HRA.out (g := bl) rfl)
        obtain ⟨_, _, cur, hcur⟩ := HBL.out
        have y0 := hcur.frozen (off + k)
        clear hcur hbl
        have HC := aH (ratAdd_any ⟨(qText q).toArray⟩ s w5 hqs hs (tab_below HTB.out HB.out))
        change Hid (Calls _ _ _ _ (RetTx _ (ratAdd (qText q) (SL s)))) at HC
        rw [HAD.out.1] at HC
        go_wp2_with fail
        refine HC.out.mono ?_
        rintro e w6 ⟨rfl, hb⟩
        clear HC
        clear y0
        replace hcl := cell_below hcl hb
        have hbs := HB.out.size
        replace HB := aH (HB.out.trans (hb.mono hbs))
        clear hbs
        replace HN := aH (HN.out.below hb)
        replace HG := bL HG hb
        replace HJ := aH ((HJ.out.below hb).more hb.size)
        replace HRA := aH (HRA.out.call hb)
        replace HRB := aH (HRB.out.call hb)
        replace HS := bL HS hb
        clear hb
        obtain ⟨_, _, cur, hcur⟩ := own_lt HRA.out (g := bl) rfl
        have y0 := hcur.frozen (off + k)
        go_upto_region 12 with (fail)
        have R2 := aH (row_setT (q := q + rval (SL s)) HRA.out hkl)
        have Q2 := aH (Row.set_away HRB.out (p := ⟨bl, off + k, none⟩) (fun g h e => HDJ.out bl rfl (by rw [h, e])) (.string ⟨(qText (q + rval (SL s))).toArray⟩))
        have HS2 := aH (HS.out.far (p := ⟨bl, off + k, none⟩) (blk_ne HS.out hcur (by decide)) (.string ⟨(qText (q + rval (SL s))).toArray⟩))
        have HG2 := aH (HG.out.far (p := ⟨bl, off + k, none⟩) (blk_ne HG.out hcur (by decide)) (.string ⟨(qText (q + rval (SL s))).toArray⟩))
        have HB2 := aH (HB.out.setCell (p := ⟨bl, off + k, none⟩) (Nat.le_trans HWS.out HBL.out.1) (.string ⟨(qText (q + rval (SL s))).toArray⟩))
        clear HRA HRB HS HB HBL hcur y0 hcl HDJ HG HN HJ
        generalize (w6.setCell ⟨bl, off + k, none⟩ (.string ⟨(qText (q + rval (SL s))).toArray⟩)) = ws9 at *
        have HRA := R2
        have HRB := Q2
        have HS := HS2
        have HB := HB2
        have HG := HG2
        clear R2 Q2 HS2 HB2 HG2
        have HN := aH (HN0.out.below HB.out)
        have HJ := aH ((HJ0.out.below HB.out).more HB.out.size)
        have x0 := HG.out.cell 0
        have x1 := HG.out.cell 1
        have x2 := HG.out.cell 2
        have x3 := HG.out.cell 3
        have x4 := HG.out.cell 4
        have x5 := HG.out.cell 5
        have z0 := HS.out.cell 0
        have z1 := HS.out.cell 1
        change _ = some (Value.slice (some ⟨bl, off, none⟩) PA.length ca) at z0
        change _ = some (Value.slice SB PF.length cb) at z1
        have HRE := aH (refuse_ang (d := rval (SL s)) HC0.out (by rw [HPA.out]; exact hq) (rval_ne HR.out H1.out) HAD.out.2)
        rw [HPA.out, HPF.out] at HRE
        have HC := aH (verify_any n v inj m A c (mkS ((PA.set k (q + rval (SL s))).map qText)) (mkS (PF.map qText)) (some ⟨bl, off, none⟩) SB PA.length ca PF.length cb ws9 HN.out HJ.out hm (tab_below HTB.out HB.out) (HRA.out.reads.more lR) (HRB.out.reads.more lR) (sh_mk HRE.out.2) (sh_mk HOKF.out.2.2) (by have := HL1.out; omega) (by have := HL2.out; omega))
        unfold NetV.val NetV.parts at HC
        rw [HRE.out.1] at HC
        go_wp2_with fail
        refine HC.out.mono ?_
        rintro e w7 ⟨rfl, hb⟩
        clear HC
        clear x0 x1 x2 x3 x4 x5
        clear z0 z1
        replace HB := bT HB hb
        go_wp2
        go_ret
        exact ⟨rfl, HB.out⟩
    ·have tr : (rchk (SL s) != 0) = true := bne_iff_ne.2 hr
     clear hr
     go_wp2
     go_ret
     exact ⟨rfl, HB.out⟩
 ·obtain ⟨rfl, rfl⟩ := HNO.out hc
  have tc : (codeF n inj != 0) = true := bne_iff_ne.2 hc
  clear hc HOK HNO HDJ
  go_upto_region 4 with (fail)
  have hb := below_new w2 (.cells #[.slice none 0 0, .slice none 0 0] 73)
  have hx := Blk.new w2 73 #[.slice none 0 0, .slice none 0 0]
  have hbs := HB.out.size
  replace HB := aH (HB.out.trans (hb.mono hbs))
  clear hbs
  replace HN := aH (HN.out.below hb)
  replace HG := bL HG hb
  replace HJ := aH ((HJ.out.below hb).more hb.size)
  clear hb
  have HS := aH hx
  clear hx
  generalize w2.alloc (.cells #[.slice none 0 0, .slice none 0 0] 73) = wsHS at *
  generalize w2.heap.size = gHS at *
  go_wp2
  go_ret
  exact ⟨rfl, HB.out⟩
theorem flowRefuses_row (n : NetD) (v : NetV) (inj : List Int) (A : Option Addr) (c : Nat) (i : Int) (s : ByteArray) (w : World) (hN : Net w n v) (hj : Reads w w.heap.size 1 A inj.length (inj.map I)) (hm : inj.length ≤ 9223372036854775807) (_hi : -9223372036854775808 ≤ i ∧ i ≤ 9223372036854775807) (hs : s.size ≤ 9223372036854775807) (htab : Tab w) : Calls Tryz.prog 8 #[v.val n, .slice A inj.length c, I i, .string s] w fun e w' => e = .returned (.bool true) ∧ Below w.heap.size w w' :=
 flowRefuses_any n v inj inj.length A c i s w hN hj hm hs htab
end
section
open Go.ChangeShapes Go.WideShapes Go.ChangeAt Go.RowKit Go.ChangeMaps
theorem flowRefuses_door (os : Os) (args : Array Value) : laidMetH Tryz.prog Rows.flowRefusesRow.laid ((World.doorLaid Tryz.prog 62 os).forCall (fun _ _ => 0) ⟨#[], args, []⟩).memory :=
 laidMetH_of_parts3 (fuel := 8) (laidMet_of_run' 8 (by kernel_rfl) (by kernel_rfl)) (by kernel_rfl) (by kernel_rfl)
set_option linter.unusedVariables false in
theorem flowRefuses_lifted (os : Os) (started : os.Started) (H : Type) (enc : TypeId × Value → H) :
  ReturnsInHanded {} Tryz.checked os 8 .any (fun w args => (Rows.flowRefusesSpec.pre enc Tryz.prog Tryz.f8 [] false w args ∧ laidMetH Tryz.prog Rows.flowRefusesRow.laid w) ∧ sizedMet enc Tryz.prog Tryz.f8 (OpenSpec.ofChange Rows.flowRefusesSpec) false w args)
   (Rows.flowRefusesSpec.post enc Tryz.prog Tryz.f8 false true false false) := by
 refine returnsInHanded_of_change_and (C := Tryz.checked) (X := fun w _ => laidMetH Tryz.prog Rows.flowRefusesRow.laid w) (fun _ _ _ hh h => h.of_heap hh) own started (by kernel_rfl) Tryz.func8
  (ChangeSpec.witness_shaped (enc := enc) (C := Tryz.checked) (os := os) (X := fun w _ => laidMetH Tryz.prog Rows.flowRefusesRow.laid w) false (World.doorLaid Tryz.prog 62 os) #[.agg #[.slice none 0 0, .slice none 0 0, .slice none 0 0, .slice none 0 0, .slice none 0 0, .slice none 0 0], .slice none 0 0, .int .i64 0, .string ⟨#[]⟩] 8 rfl (World.shaped_of_RefB (by kernel_rfl) (by kernel_rfl)) (by kernel_rfl) (by kernel_rfl) (by kernel_rfl) (flowRefuses_door os _)) ?_
 intro W base args ds gs before hval0 hW _ _ hL _
 have hval : ∀ (j : Nat) t v, Tryz.f8.params[j]? = some t → args[j]? = some v → Value.okWide Tryz.prog W .any base t v := hval0
 have hW' := hW
 obtain ⟨p, q, hA0, hV, rfl, hfz, hnd⟩ := hW
 have hA : DataW.TrodAll enc Tryz.prog W 0 (fun _ => true) true Tryz.f8.params.toList args.toList ds p := hA0
 rw [Tryz.params8] at hA hval
 obtain ⟨v0, vs0, d0, ds0, p0, q0, hargs, rfl, rfl, h0, r0⟩ := trodAll_cons hA
 obtain ⟨v1, vs1, d1, ds1, p1, q1, rfl, rfl, rfl, h1, r1⟩ := trodAll_cons r0
 obtain ⟨v2, vs2, d2, ds2, p2, q2, rfl, rfl, rfl, h2, r2⟩ := trodAll_cons r1
 obtain ⟨v3, vs3, d3, ds3, p3, q3, rfl, rfl, rfl, h3, r3⟩ := trodAll_cons r2
 obtain ⟨rfl, rfl, rfl⟩ := trodAll_nil r3
 obtain rfl : args = #[v0, v1, v2, v3] := by cases args; simp_all
 obtain ⟨rfl, rfl⟩ := trodVars_none hV
 have k0 := h0
 have lt0 : ∀ x ∈ p0, x.block < W.heap.size := by obtain ⟨m, hm⟩ := k0; exact DataW.trod_lt m _ _ _ hm
 obtain ⟨n0, nv0, rfl, hn0⟩ := open_net (hval 0 29 v0 rfl rfl) h0
 have k1 := h1
 have lt1 : ∀ x ∈ p1, x.block < W.heap.size := by obtain ⟨m, hm⟩ := k1; exact DataW.trod_lt m _ _ _ hm
 obtain ⟨a1, len1, cap1, rfl⟩ := okWide_slice Tryz.underlying31 (hval 1 31 v1 rfl rfl)
 obtain ⟨fu1, ho1⟩ := h1
 obtain ⟨m1, A1, c1, e1, hm1, hl1⟩ := open_ints Tryz.underlying31 (u := .slice a1 len1 cap1) ho1
 injection e1 with ea1 eb1 ec1
 subst ea1 eb1 ec1
 obtain ⟨s2, rfl, rfl, rfl, ws2⟩ := open_int Tryz.underlying3 (hval 2 3 v2 rfl rfl) h2
 obtain ⟨s3, rfl, rfl, rfl, ws3⟩ := open_string Tryz.underlying51 (hval 3 51 v3 rfl rfl) h3
 clear hA0 hval0
 refine (flowRefuses_row n0 nv0 m1 _ _ s2 s3 W hn0 hm1 hl1 (bounds64 ws2) (size_of_wf ws3) (tab_of_laid hL)).mono fun e W' ⟨he, bel⟩ => ?_
 subst he
 exact ⟨_, rfl, _, _, _, [], _, [], hW', trodAll_mk1 (shut_bool Tryz.underlying4 _), (trodAll_cons_mk (Below.trod laidOut (by kernel_rfl) (of_decide_eq_true (by kernel_rfl)) k0 bel lt0) (trodAll_cons_mk (Below.trod laidOut (by kernel_rfl) (of_decide_eq_true (by kernel_rfl)) k1 bel lt1) (trodAll_cons_mk (shut_int Tryz.underlying3 ws2) (trodAll_cons_mk (shut_string Tryz.underlying51 ws3) trodAll_mk0)))), rfl, bel.frame _, fun h => by cases h⟩
end
end Go.Proofs.YtenbglfkdldheaaGreatDoor
