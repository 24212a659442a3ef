/- slices.Equal at vectors of texts, matrix.Same. flow.Verify. -/
import Derived.Test.YtenbglfkdldheaaGreatDoorZFK
set_option maxRecDepth 100000
set_option maxHeartbeats 16000000
namespace Go.Proofs.YtenbglfkdldheaaGreatDoor
open Go.RowKit
theorem strs_ne {x y : ByteArray} (h : x ≠ y) : (x.toList == y.toList) = false := (Lib.bytes_beq_false_iff x y).2 h
theorem equalV_any (xs ys : List ByteArray) (n m : Nat) (A B : Option Addr) (c d : Nat) (w : World) (hx : Reads w w.heap.size 1 A n (xs.map Sv)) (hy : Reads w w.heap.size 1 B m (ys.map Sv)) (hn : n ≤ 1000000) :
  Calls Tryz.prog 29 #[.slice A n c, .slice B m d] w fun e w' => e = .returned (.bool (decide (xs = ys))) ∧ Below w.heap.size w w' := by
 have hxl : xs.length = n := by have := hx.1; simpa using this
 have hyl : ys.length = m := by have := hy.1; simpa using this
 by_cases hl : n = m
 ·subst hl
  have HX := aH hx
  have HY := aH hy
  have HXL := aH hxl
  have HYL := aH hyl
  clear hx hy hxl hyl
  go_enter Tryz.func29, Tryz.ntmps29
  go_wp2
  go_loopg [13] (n - 0) (fun r v wr => ∃ k : Nat, r = n - k ∧ v = I k ∧ k ≤ n ∧ Hid (Below w.heap.size w wr) ∧ Hid (xs.take k = ys.take k))
  case atStart => exact ⟨0, rfl, rfl, by omega, Below.refl _ _, rfl⟩
  case round =>
   obtain ⟨k, rfl, rfl, hk, HB, HO⟩ := hrel
   obtain ⟨wa, rfl⟩ := wE wr
   by_cases hlt : k < n
   ·obtain ⟨x, hx⟩ : ∃ x, xs[k]? = some x := ⟨_, gE (by rw [HXL.out]; exact hlt)⟩
    obtain ⟨y, hy⟩ : ∃ y, ys[k]? = some y := ⟨_, gE (by rw [HYL.out]; exact hlt)⟩
    obtain ⟨b1, o1, u, rfl, _, hu, hc⟩ := (HX.out.below HB.out).at1 hlt
    obtain ⟨b2, o2, v, rfl, _, hv, hd⟩ := (HY.out.below HB.out).at1 hlt
    obtain rfl : u = Sv x := by
     rw [List.getElem?_map, hx] at hu
     simpa using hu.symm
    obtain rfl : v = Sv y := by
     rw [List.getElem?_map, hy] at hv
     simpa using hv.symm
    by_cases hxy : x = y
    ·subst hxy
     have HN := aH (show xs.take (k + 1) = ys.take (k + 1) by rw [List.take_add_one, List.take_add_one, HO.out, hx, hy])
     have tt : (x.toList == x.toList) = true := beq_self_eq_true _
     clear hu hv hx hy HO
     go_wp2
     go_quiet (fail)
     go_wp2
     go_roundg (n - (k + 1))
     case measure => omega
     case rel => exact ⟨k + 1, rfl, by go_num, by omega, aH (below_drewN HB.out _), HN⟩
    ·have HF := aH (show decide (xs = ys) = false from decide_eq_false fun h => hxy (by rw [h, hy] at hx; exact (Option.some.inj hx).symm))
     have tt : (x.toList == y.toList) = false := strs_ne hxy
     clear hu hv hx hy HO hxy
     go_wp2
     go_quiet (fail)
     go_wp2
     go_ret
     exact ⟨ret_bool HF.out.symm, below_drewN HB.out _⟩
   ·have HF := aH (show decide (xs = ys) = true by
     have := HO.out
     rw [List.take_of_length_le (by rw [HXL.out]; omega), List.take_of_length_le (by rw [HYL.out]; omega)] at this
     exact decide_eq_true this)
    clear HO
    go_wp2
    go_ret
    exact ⟨ret_bool HF.out.symm, HB.out⟩
 ·have t : ((n : Int) != (m : Int)) = true := bne_iff_ne.2 (by omega)
  have HF := aH (show decide (xs = ys) = false from decide_eq_false fun h => hl (by rw [← hxl, ← hyl, h]))
  clear hx hy hxl hyl
  go_enter Tryz.func29, Tryz.ntmps29
  go_wp2
  go_ret
  exact ⟨ret_bool HF.out.symm, Below.refl _ _⟩
theorem same1_any (xs ys : List ByteArray) (n m : Nat) (A B : Option Addr) (c d : Nat) (w : World) (hx : Reads w w.heap.size 1 A n (xs.map Sv)) (hy : Reads w w.heap.size 1 B m (ys.map Sv)) (hn : n ≤ 1000000) :
  Calls Tryz.prog 106 #[.slice A n c, .slice B m d] w fun e w' => e = .returned (.bool (decide (xs = ys))) ∧ Below w.heap.size w w' := by
 have HC := aH (equalV_any xs ys n m A B c d w hx hy hn)
 clear hx hy
 go_enter Tryz.func106, Tryz.ntmps106
 go_wp2_with fail
 refine HC.out.mono ?_
 rintro e w1 ⟨rfl, hb⟩
 have HB := aH hb
 clear hb HC
 go_wp2
 go_ret
 exact ⟨rfl, HB.out⟩
theorem eqfunc_any (xs ys : List (List ByteArray)) (n m : Nat) (A B : Option Addr) (c d : Nat) (w : World) (hx : SMat w A n xs) (hy : SMat w B m ys) (hn : n ≤ 1000000) (hw : ∀ l ∈ xs, l.length ≤ 1000000) :
  Calls Tryz.prog 105 #[.slice A n c, .slice B m d, .func (.func 106) #[] #[]] w fun e w' => e = .returned (.bool (decide (xs = ys))) ∧ Below w.heap.size w w' := by
 have hxl : xs.length = n := by obtain ⟨_, _, h, _⟩ := hx; exact h
 have hyl : ys.length = m := by obtain ⟨_, _, h, _⟩ := hy; exact h
 by_cases hl : n = m
 ·subst hl
  have HX := aH hx
  have HY := aH hy
  have HXL := aH hxl
  have HYL := aH hyl
  have HW := aH hw
  clear hx hy hxl hyl hw
  go_enter Tryz.func105, Tryz.ntmps105
  go_wp2
  go_loopg [17] (n - 0) (fun r v wr => ∃ k : Nat, r = n - k ∧ v = I k ∧ k ≤ n ∧ Hid (Below w.heap.size w wr) ∧ Hid (xs.take k = ys.take k))
  case atStart => exact ⟨0, rfl, rfl, by omega, Below.refl _ _, rfl⟩
  case round =>
   obtain ⟨k, rfl, rfl, hk, HB, HO⟩ := hrel
   obtain ⟨wa, rfl⟩ := wE wr
   by_cases hlt : k < n
   ·obtain ⟨x, hx⟩ : ∃ x, xs[k]? = some x := ⟨_, gE (by rw [HXL.out]; exact hlt)⟩
    obtain ⟨y, hy⟩ : ∃ y, ys[k]? = some y := ⟨_, gE (by rw [HYL.out]; exact hlt)⟩
    obtain ⟨b1, o1, B1, c1, rfl, hc, hrx⟩ := (HX.out.below HB.out).at_ hlt x hx
    obtain ⟨b2, o2, B2, c2, rfl, hd, hry⟩ := (HY.out.below HB.out).at_ hlt y hy
    have HC := aH (same1_any x y x.length y.length B1 B2 c1 c2 wa hrx hry (HW.out x (List.mem_of_getElem? hx)))
    have HXK := aH hx
    have HYK := aH hy
    clear hrx hry hx hy
    go_wp2_with fail
    refine HC.out.mono ?_
    rintro e w1 ⟨rfl, hb⟩
    have HB1 := aH (HB.out.trans (hb.mono HB.out.size))
    clear hb HC HB hc hd
    generalize hlx : x.length = lx at *
    generalize hly : y.length = ly at *
    clear hlx hly
    by_cases hxy : x = y
    ·have HN := aH (show xs.take (k + 1) = ys.take (k + 1) by rw [List.take_add_one, List.take_add_one, HO.out, HXK.out, HYK.out, hxy])
     rw [decide_eq_true hxy]
     clear HO HXK HYK hxy
     go_wp2
     go_roundg (n - (k + 1))
     case measure => omega
     case rel => exact ⟨k + 1, rfl, by go_num, by omega, HB1, HN⟩
    ·have HF := aH (show decide (xs = ys) = false from decide_eq_false fun h => hxy (by
      have h1 := HXK.out
      rw [h, HYK.out] at h1
      exact (Option.some.inj h1).symm))
     rw [decide_eq_false hxy]
     clear HO HXK HYK hxy
     go_wp2
     go_ret
     exact ⟨ret_bool HF.out.symm, HB1.out⟩
   ·have HF := aH (show decide (xs = ys) = true by
     have := HO.out
     rw [List.take_of_length_le (by rw [HXL.out]; omega), List.take_of_length_le (by rw [HYL.out]; omega)] at this
     exact decide_eq_true this)
    clear HO
    go_wp2
    go_ret
    exact ⟨ret_bool HF.out.symm, HB.out⟩
 ·have t : ((n : Int) != (m : Int)) = true := bne_iff_ne.2 (by omega)
  have HF := aH (show decide (xs = ys) = false from decide_eq_false fun h => hl (by rw [← hxl, ← hyl, h]))
  clear hx hy hxl hyl hw
  go_enter Tryz.func105, Tryz.ntmps105
  go_wp2
  go_ret
  exact ⟨ret_bool HF.out.symm, Below.refl _ _⟩
theorem same_any (xs ys : List (List ByteArray)) (n m : Nat) (A B : Option Addr) (c d : Nat) (w : World) (hx : SMat w A n xs) (hy : SMat w B m ys) (hn : n ≤ 1000000) (hw : ∀ l ∈ xs, l.length ≤ 1000000) :
  Calls Tryz.prog 45 #[.slice A n c, .slice B m d] w fun e w' => e = .returned (.bool (decide (xs = ys))) ∧ Below w.heap.size w w' := by
 have HC := aH (eqfunc_any xs ys n m A B c d w hx hy hn hw)
 clear hx hy hw
 go_enter Tryz.func45, Tryz.ntmps45
 go_wp2_with fail
 refine HC.out.mono ?_
 rintro e w1 ⟨rfl, hb⟩
 have HB := aH hb
 clear hb HC
 go_wp2
 go_ret
 exact ⟨rfl, HB.out⟩
theorem tx1_inj {a b : List ByteArray} (h : tx1 a = tx1 b) : a = b := by
 induction a generalizing b with
 | nil => cases b with
  | nil => rfl
  | cons y b => simp [tx1] at h
 | cons x a ih => cases b with
  | nil => simp [tx1] at h
  | cons y b =>
   simp only [tx1, List.map_cons, List.cons.injEq] at h
   rw [SL_inj h.1, ih h.2]
def verF (n : NetD) (inj : List Int) (a f : List ByteArray) : Int :=
 if flowChk n inj ≠ 0 then flowChk n inj else if a.length ≠ nbN n ∨ f.length ≠ n.branches.length then 3 else if chkV (tx1 a) ≠ 0 then chkV (tx1 a) else if chkV (tx1 f) ≠ 0 then chkV (tx1 f)
 else if codeF n inj ≠ 0 then 21 else if mkS ((solF n inj).map qText) ≠ a then 21 else if mkS ((flwF n inj).map qText) ≠ f then 21 else 0
theorem MF.ms {n : NetD} {base g : Nat} {w : World} (h : MF w base g n) : ∃ rs qs v, MS w base g rs (isO (busesL n) (islandsL n) (frmL n) (toL n) (freeL n)) qs (tsO (bLQ n) (cLQ n)) v := by
 obtain ⟨rs, qs, v, vs, hS, _⟩ := h
 exact ⟨rs, qs, v, hS⟩
theorem mf_buses {n : NetD} (hV : VNet n) {base g : Nat} {w : World} (h : MF w base g n) : Calls Tryz.prog 92 #[.pointer (some ⟨g, 0, none⟩)] w fun e w' => e = .returned (I (nbN n : Nat)) ∧ w' = w := by
 obtain ⟨rs, qs, v, hS⟩ := h.ms
 exact buses_fw base g rs _ qs _ v w hS (by have := isl_le hV; show (islandsL n).length ≤ 1000; omega)
theorem verify_any (n : NetD) (v : NetV) (inj : List Int) (m : Nat) (A : Option Addr) (c : Nat) (l1 l2 : List ByteArray) (SA SB : Option Addr) (ka ca kb cb : Nat) (w : World) (hN : Net w n v) (hj : Reads w w.heap.size 1 A m (inj.map I)) (hm : m ≤ 9223372036854775807) (htab : Tab w)
  (ha : SV w SA ka l1) (hb : SV w SB kb l2) (sa1 : Sh1 l1) (sb1 : Sh1 l2) (hka : ka ≤ 1000000) (hkb : kb ≤ 1000000) : Calls Tryz.prog 38 #[v.val n, .slice A m c, .agg #[.slice SA ka ca, .slice SB kb cb]] w fun e w' => e = .returned (I (verF n inj l1 l2)) ∧ Below w.heap.size w w' := by
 obtain rfl := ha.len
 obtain rfl := hb.len
 obtain ⟨na, nc, sa, sc, bra, brc, ga, gc, la, lc, ta, tc⟩ := v
 have hz := (below_new w (Obj.cells (NetV.parts ⟨na, nc, sa, sc, bra, brc, ga, gc, la, lc, ta, tc⟩ n) 29))
 have hG := Blk.new w 29 (NetV.parts ⟨na, nc, sa, sc, bra, brc, ga, gc, la, lc, ta, tc⟩ n)
 unfold NetV.parts at *
 simp only at hz hG
 have hz2 := below_new (w.alloc (Obj.cells #[.slice na n.nodes.length nc, .slice sa n.switches.length sc, .slice bra n.branches.length brc, .slice ga n.gens.length gc, .slice la n.loads.length lc, .slice ta n.stores.length tc] 29)) (Obj.cells #[.slice SA l1.length ca, .slice SB l2.length cb] 73)
 have hR := Blk.new (w.alloc (Obj.cells #[.slice na n.nodes.length nc, .slice sa n.switches.length sc, .slice bra n.branches.length brc, .slice ga n.gens.length gc, .slice la n.loads.length lc, .slice ta n.stores.length tc] 29)) 73 #[.slice SA l1.length ca, .slice SB l2.length cb]
 rw [World.size_alloc] at hR
 have HR := aH hR
 clear hR
 have HG := aH (hG.below hz2 hG.lt)
 have HB := aH (hz.trans (hz2.mono hz.size))
 have HN := aH ((hN.below hz).below hz2)
 have HJ := aH ((((hj.below hz).more hz.size).below hz2).more hz2.size)
 have HTB := aH htab
 have HSA := aH ((ha.below hz).below hz2)
 have HSB := aH ((hb.below hz).below hz2)
 have HS1 := aH sa1
 have HS2 := aH sb1
 clear hz hz2 hG hN hj htab ha hb sa1 sb1
 unfold NetV.val NetV.parts at *
 simp only at HN ⊢
 go_enter Tryz.func38, Tryz.ntmps38
 go_upto_region 1 with (fail)
 generalize (w.alloc (Obj.cells #[.slice na n.nodes.length nc, .slice sa n.switches.length sc, .slice bra n.branches.length brc, .slice ga n.gens.length gc, .slice la n.loads.length lc, .slice ta n.stores.length tc] 29)).alloc (Obj.cells #[.slice SA l1.length ca, .slice SB l2.length cb] 73) = w2 at *
 have HC := aH (flowCheck_any n _ inj m A c w2 HN.out HJ.out hm)
 unfold NetV.val NetV.parts at HC
 simp only at HC
 have x0 := HG.out.cell 0
 have x1 := HG.out.cell 1
 have x2 := HG.out.cell 2
 have x3 := HG.out.cell 3
 have x4 := HG.out.cell 4
 have x5 := HG.out.cell 5
 go_wp2_with fail
 refine HC.out.mono ?_
 rintro e w3 ⟨rfl, hb⟩
 clear HC x0 x1 x2 x3 x4 x5
 replace HR := bL HR hb
 replace HG := bL HG hb
 replace HN := aH (HN.out.below hb)
 replace HJ := aH ((HJ.out.below hb).more hb.size)
 replace HSA := aH (HSA.out.below hb)
 replace HSB := aH (HSB.out.below hb)
 replace HB := bT HB hb
 clear hb
 by_cases hc : flowChk n inj = 0
 ·obtain ⟨h1, h2, h3⟩ := flowChk_ok hc
  have HV := aH (vnet h1)
  have HC0 := aH hc
  rw [hc]
  clear hc h1 h2 h3
  have HC := aH (fwOf_any n _ w3 HN.out.net HV.out)
  unfold NetV.val NetV.parts at HC
  simp only at HC
  have x0 := HG.out.cell 0
  have x1 := HG.out.cell 1
  have x2 := HG.out.cell 2
  have x3 := HG.out.cell 3
  have x4 := HG.out.cell 4
  have x5 := HG.out.cell 5
  go_wp2_with fail
  refine HC.out.mono ?_
  rintro e w4 ⟨base, g, rfl, hbs, hMF, hb⟩
  clear HC x0 x1 x2 x3 x4 x5
  have HMF := aH hMF
  clear hMF hbs
  replace HR := bL HR hb
  replace HG := bL HG hb
  replace HN := aH (HN.out.below hb)
  replace HJ := aH ((HJ.out.below hb).more hb.size)
  replace HSA := aH (HSA.out.below hb)
  replace HSB := aH (HSB.out.below hb)
  replace HB := bT HB hb
  clear hb
  go_upto_region 5 with (fail)
  have hb := below_draw w4
  replace HMF := aH (mf_ext HMF.out hb)
  replace HR := bL HR hb
  replace HG := bL HG hb
  replace HN := aH (HN.out.below hb)
  replace HJ := aH ((HJ.out.below hb).more hb.size)
  replace HSA := aH (HSA.out.below hb)
  replace HSB := aH (HSB.out.below hb)
  replace HB := bT HB hb
  clear hb
  have q0 := HR.out.cell 0
  have q1 := HR.out.cell 1
  have q2 := HG.out.cell 2
  change _ = some (Value.slice SA l1.length ca) at q0
  change _ = some (Value.slice SB l2.length cb) at q1
  change _ = some (Value.slice bra n.branches.length brc) at q2
  by_cases g1 : l1.length = nbN n
  ·have t1 : ((l1.length : Int) != (nbN n : Int)) = false := by rw [g1]; simp
   have G1 := aH g1
   clear g1
   by_cases g2 : l2.length = n.branches.length
   ·have t2 : ((l2.length : Int) != (n.branches.length : Int)) = false := by rw [g2]; simp
    have G2 := aH g2
    clear g2
    refine wp_region_c (fun w' => w'.cell? ⟨w.heap.size + 1, 0, none⟩ = some (.slice SA l1.length ca) ∧ w'.cell? ⟨w.heap.size + 1, 1, none⟩ = some (.slice SB l2.length cb) ∧ w'.cell? ⟨w.heap.size, 2, none⟩ = some (.slice bra n.branches.length brc)) 14 (by kernel_rfl) ?_
    generalize w4.drew = w5 at *
    refine aZ 0 (.pointer (some ⟨w.heap.size + 1, 0, none⟩)) rfl ⟨q0, q1, q2⟩ ?_
    refine aZ 1 (.slice SA l1.length ca) rfl ⟨q0, q1, q2⟩ ?_
    refine aZ 2 (I (l1.length : Nat)) rfl ⟨q0, q1, q2⟩ ?_
    refine aZ 3 (.pointer (some ⟨g, 0, none⟩)) rfl ⟨q0, q1, q2⟩ ?_
    refine on1 4 fun K hK => ?_
    go_simp
    go_at_call 92
    refine (mf_buses HV.out HMF.out).mono ?_
    rintro e w' ⟨rfl, hw⟩
    replace hw := hw.symm
    subst hw
    refine hK.out _ _ (fun _ => ⟨q0, q1, q2⟩) ?_
    clear hK K
    refine aZ 5 (.bool false) rfl ⟨q0, q1, q2⟩ ?_
    refine aZ 6 (.bool false) rfl ⟨q0, q1, q2⟩ ?_
    refine aZ 7 (.pointer (some ⟨w.heap.size + 1, 1, none⟩)) rfl ⟨q0, q1, q2⟩ ?_
    refine aZ 8 (.slice SB l2.length cb) rfl ⟨q0, q1, q2⟩ ?_
    refine aZ 9 (I (l2.length : Nat)) rfl ⟨q0, q1, q2⟩ ?_
    refine aZ 10 (.pointer (some ⟨w.heap.size, 2, none⟩)) rfl ⟨q0, q1, q2⟩ ?_
    refine aZ 11 (.slice bra n.branches.length brc) rfl ⟨q0, q1, q2⟩ ?_
    refine aZ 12 (I (n.branches.length : Nat)) rfl ⟨q0, q1, q2⟩ ?_
    refine aZ 13 (.bool false) rfl ⟨q0, q1, q2⟩ ?_
    refine on1 14 fun K hK => ?_
    go_simp
    refine hK.out _ _ (fun h => absurd h (by decide)) ?_
    clear hK K
    refine wpAnyC_done (by kernel_rfl) ?_ _
    clear t1 t2 q2 HMF
    go_wp2
    clear q0 q1
    have hb := below_new w5 (Obj.cells #[.slice SA l1.length ca, .slice SB l2.length cb] 47)
    have HX := aH (Blk.new w5 47 #[.slice SA l1.length ca, .slice SB l2.length cb])
    replace HR := bL HR hb
    replace HG := bL HG hb
    replace HN := aH (HN.out.below hb)
    replace HJ := aH ((HJ.out.below hb).more hb.size)
    replace HSA := aH (HSA.out.below hb)
    replace HSB := aH (HSB.out.below hb)
    replace HB := bT HB hb
    clear hb
    generalize w5.alloc (Obj.cells #[.slice SA l1.length ca, .slice SB l2.length cb] 47) = w6 at *
    generalize w5.heap.size = gx at *
    have q0 := HX.out.cell 0
    have q1 := HX.out.cell 1
    change _ = some (Value.slice SA l1.length ca) at q0
    change _ = some (Value.slice SB l2.length cb) at q1
    refine wp_loop_rounds 3 ?_
    rw [rounds_succ]
    have HC := aH (chkV_any l1 l1.length SA ca w6 HSA.out HS1.out (tab_below HTB.out HB.out))
    go_wp2_with fail
    refine HC.out.mono ?_
    rintro e w7 ⟨rfl, hb⟩
    clear HC q0 q1
    replace HX := bL HX hb
    replace HR := bL HR hb
    replace HG := bL HG hb
    replace HN := aH (HN.out.below hb)
    replace HJ := aH ((HJ.out.below hb).more hb.size)
    replace HSA := aH (HSA.out.below hb)
    replace HSB := aH (HSB.out.below hb)
    replace HB := bT HB hb
    clear hb
    have q0 := HX.out.cell 0
    have q1 := HX.out.cell 1
    change _ = some (Value.slice SA l1.length ca) at q0
    change _ = some (Value.slice SB l2.length cb) at q1
    by_cases c1 : chkV (tx1 l1) = 0
    ·have C1 := aH c1
     rw [c1]
     clear c1
     go_wp2
     rw [rounds_succ]
     have HC := aH (chkV_any l2 l2.length SB cb w7 HSB.out HS2.out (tab_below HTB.out HB.out))
     go_wp2_with fail
     refine HC.out.mono ?_
     rintro e w8 ⟨rfl, hb⟩
     clear HC q0 q1
     replace HX := bL HX hb
     replace HR := bL HR hb
     replace HG := bL HG hb
     replace HN := aH (HN.out.below hb)
     replace HJ := aH ((HJ.out.below hb).more hb.size)
     replace HSA := aH (HSA.out.below hb)
     replace HSB := aH (HSB.out.below hb)
     replace HB := bT HB hb
     clear hb
     by_cases c2 : chkV (tx1 l2) = 0
     ·have C2 := aH c2
      rw [c2]
      clear c2
      have q0 := HX.out.cell 0
      have q1 := HX.out.cell 1
      change _ = some (Value.slice SA l1.length ca) at q0
      change _ = some (Value.slice SB l2.length cb) at q1
      go_wp2
      rw [rounds_succ]
      have x0 := HG.out.cell 0
      have x1 := HG.out.cell 1
      have x2 := HG.out.cell 2
      have x3 := HG.out.cell 3
      have x4 := HG.out.cell 4
      have x5 := HG.out.cell 5
      have HC := aH (solve_any n _ inj m A c w8 HN.out HJ.out hm (tab_below HTB.out HB.out))
      unfold NetV.val NetV.parts at HC
      simp only at HC
      go_wp2_with fail
      refine HC.out.mono ?_
      rintro e w9 ⟨a, b, rfl, hok, hno, -, hb⟩
      clear q0 q1
      clear HC x0 x1 x2 x3 x4 x5
      have HOK := aH hok
      have HNO := aH hno
      clear hok hno
      replace HX := bL HX hb
      replace HR := bL HR hb
      replace HG := bL HG hb
      replace HN := aH (HN.out.below hb)
      replace HJ := aH ((HJ.out.below hb).more hb.size)
      replace HSA := aH (HSA.out.below hb)
      replace HSB := aH (HSB.out.below hb)
      replace HB := bT HB hb
      clear hb
      clear HX
      by_cases hc : codeF n inj = 0
      ·obtain ⟨hra, hrb⟩ := HOK.out hc
       obtain ⟨WA, wca, rfl⟩ := hra.val
       obtain ⟨WB, wcb, rfl⟩ := hrb.val
       have HRA := aH hra
       have HRB := aH hrb
       have CC := aH hc
       rw [hc]
       clear hra hrb hc HOK HNO
       have hl1 : (solF n inj).length ≤ 1000000 := by have := isl_le HV.out; show (angN n _).length ≤ _; rw [angN_len]; unfold nbN; omega
       have hl2 : (flwF n inj).length ≤ 1000000 := by have := HV.out.hb; show (flN n _).length ≤ _; rw [flN_len]; omega
       go_upto_region 15 with (fail)
       have hb := below_new w9 (.cells #[.slice WA (solF n inj).length wca, .slice WB (flwF n inj).length wcb] 73)
       have hx := Blk.new w9 73 #[.slice WA (solF n inj).length wca, .slice WB (flwF n inj).length wcb]
       replace HRA := aH (HRA.out.call hb)
       replace HRB := aH (HRB.out.call hb)
       replace HR := bL HR hb
       replace HG := bL HG hb
       replace HN := aH (HN.out.below hb)
       replace HJ := aH ((HJ.out.below hb).more hb.size)
       replace HSA := aH (HSA.out.below hb)
       replace HSB := aH (HSB.out.below hb)
       replace HB := bT HB hb
       clear hb
       have HW := aH hx
       clear hx
       generalize w9.alloc (.cells #[.slice WA (solF n inj).length wca, .slice WB (flwF n inj).length wcb] 73) = W1 at *
       generalize w9.heap.size = gw at *
       have q0 := HR.out.cell 0
       have q1 := HR.out.cell 1
       change _ = some (Value.slice SA l1.length ca) at q0
       change _ = some (Value.slice SB l2.length cb) at q1
       have q2 := HW.out.cell 0
       have q3 := HW.out.cell 1
       change _ = some (Value.slice WA (solF n inj).length wca) at q2
       change _ = some (Value.slice WB (flwF n inj).length wcb) at q3
       by_cases ea : mkS ((solF n inj).map qText) = l1
       ·have EA := aH ea
        clear ea
        have HC := aH (equalV_any (mkS ((solF n inj).map qText)) l1 (solF n inj).length l1.length WA SA wca ca W1 (HRA.out.reads.more lR) HSA.out hl1)
        rw [decide_eq_true EA.out] at HC
        go_wp2_with fail
        refine HC.out.mono ?_
        rintro e W2 ⟨rfl, hb⟩
        clear HC q0 q1 q2 q3
        replace HRB := aH (HRB.out.call hb)
        replace HW := bL HW hb
        replace HR := bL HR hb
        replace HG := bL HG hb
        replace HN := aH (HN.out.below hb)
        replace HJ := aH ((HJ.out.below hb).more hb.size)
        replace HSA := aH (HSA.out.below hb)
        replace HSB := aH (HSB.out.below hb)
        replace HB := bT HB hb
        clear hb
        have q0 := HR.out.cell 0
        have q1 := HR.out.cell 1
        change _ = some (Value.slice SA l1.length ca) at q0
        change _ = some (Value.slice SB l2.length cb) at q1
        have q2 := HW.out.cell 0
        have q3 := HW.out.cell 1
        change _ = some (Value.slice WA (solF n inj).length wca) at q2
        change _ = some (Value.slice WB (flwF n inj).length wcb) at q3
        by_cases eb : mkS ((flwF n inj).map qText) = l2
        ·have EB := aH eb
         clear eb
         have HC := aH (equalV_any (mkS ((flwF n inj).map qText)) l2 (flwF n inj).length l2.length WB SB wcb cb W2 (HRB.out.reads.more lR) HSB.out hl2)
         rw [decide_eq_true EB.out] at HC
         go_wp2_with fail
         refine HC.out.mono ?_
         rintro e W3 ⟨rfl, hb⟩
         clear HC q0 q1 q2 q3
         replace HRB := aH (HRB.out.call hb)
         replace HW := bL HW hb
         replace HR := bL HR hb
         replace HG := bL HG hb
         replace HN := aH (HN.out.below hb)
         replace HJ := aH ((HJ.out.below hb).more hb.size)
         replace HSA := aH (HSA.out.below hb)
         replace HSB := aH (HSB.out.below hb)
         replace HB := bT HB hb
         clear hb
         have q0 := HR.out.cell 0
         have q1 := HR.out.cell 1
         change _ = some (Value.slice SA l1.length ca) at q0
         change _ = some (Value.slice SB l2.length cb) at q1
         have q2 := HW.out.cell 0
         have q3 := HW.out.cell 1
         change _ = some (Value.slice WA (solF n inj).length wca) at q2
         change _ = some (Value.slice WB (flwF n inj).length wcb) at q3
         clear q0 q1 q2 q3 HRA HRB HW HG HR HN HJ HSA HSB
         have HV3 := aH (show verF n inj l1 l2 = 0 by rw [verF, if_neg (fun k => k HC0.out), if_neg (by have := G1.out; have := G2.out; omega), if_neg (fun k => k C1.out), if_neg (fun k => k C2.out), if_neg (fun k => k CC.out), if_neg (fun k => k EA.out), if_neg (fun k => k EB.out)])
         go_wp2
         go_ret
         exact ⟨by rw [HV3.out]; rfl, HB.out⟩
        ·have EB := aH eb
         clear eb
         have HC := aH (equalV_any (mkS ((flwF n inj).map qText)) l2 (flwF n inj).length l2.length WB SB wcb cb W2 (HRB.out.reads.more lR) HSB.out hl2)
         rw [decide_eq_false EB.out] at HC
         go_wp2_with fail
         refine HC.out.mono ?_
         rintro e W3 ⟨rfl, hb⟩
         clear HC q0 q1 q2 q3
         replace HRB := aH (HRB.out.call hb)
         replace HW := bL HW hb
         replace HR := bL HR hb
         replace HG := bL HG hb
         replace HN := aH (HN.out.below hb)
         replace HJ := aH ((HJ.out.below hb).more hb.size)
         replace HSA := aH (HSA.out.below hb)
         replace HSB := aH (HSB.out.below hb)
         replace HB := bT HB hb
         clear hb
         have q0 := HR.out.cell 0
         have q1 := HR.out.cell 1
         change _ = some (Value.slice SA l1.length ca) at q0
         change _ = some (Value.slice SB l2.length cb) at q1
         have q2 := HW.out.cell 0
         have q3 := HW.out.cell 1
         change _ = some (Value.slice WA (solF n inj).length wca) at q2
         change _ = some (Value.slice WB (flwF n inj).length wcb) at q3
         clear q0 q1 q2 q3 HRA HRB HW HG HR HN HJ HSA HSB
         have HV3 := aH (show verF n inj l1 l2 = 21 by rw [verF, if_neg (fun k => k HC0.out), if_neg (by have := G1.out; have := G2.out; omega), if_neg (fun k => k C1.out), if_neg (fun k => k C2.out), if_neg (fun k => k CC.out), if_neg (fun k => k EA.out), if_pos EB.out])
         go_wp2
         go_ret
         exact ⟨by rw [HV3.out]; rfl, HB.out⟩
       ·have EA := aH ea
        clear ea
        have HC := aH (equalV_any (mkS ((solF n inj).map qText)) l1 (solF n inj).length l1.length WA SA wca ca W1 (HRA.out.reads.more lR) HSA.out hl1)
        rw [decide_eq_false EA.out] at HC
        go_wp2_with fail
        refine HC.out.mono ?_
        rintro e W2 ⟨rfl, hb⟩
        clear HC q0 q1 q2 q3
        replace HRB := aH (HRB.out.call hb)
        replace HW := bL HW hb
        replace HR := bL HR hb
        replace HG := bL HG hb
        replace HN := aH (HN.out.below hb)
        replace HJ := aH ((HJ.out.below hb).more hb.size)
        replace HSA := aH (HSA.out.below hb)
        replace HSB := aH (HSB.out.below hb)
        replace HB := bT HB hb
        clear hb
        have q0 := HR.out.cell 0
        have q1 := HR.out.cell 1
        change _ = some (Value.slice SA l1.length ca) at q0
        change _ = some (Value.slice SB l2.length cb) at q1
        have q2 := HW.out.cell 0
        have q3 := HW.out.cell 1
        change _ = some (Value.slice WA (solF n inj).length wca) at q2
        change _ = some (Value.slice WB (flwF n inj).length wcb) at q3
        clear q0 q1 q2 q3 HRA HRB HW HG HR HN HJ HSA HSB
        have HV3 := aH (show verF n inj l1 l2 = 21 by rw [verF, if_neg (fun k => k HC0.out), if_neg (by have := G1.out; have := G2.out; omega), if_neg (fun k => k C1.out), if_neg (fun k => k C2.out), if_neg (fun k => k CC.out), if_pos EA.out])
        go_wp2
        go_ret
        exact ⟨by rw [HV3.out]; rfl, HB.out⟩
      ·obtain ⟨rfl, rfl⟩ := HNO.out hc
       have tcc : (codeF n inj != 0) = true := bne_iff_ne.2 hc
       have CC := aH hc
       clear hc HOK HNO
       go_upto_region 15 with (fail)
       have hb := below_new w9 (.cells #[.slice none 0 0, .slice none 0 0] 73)
       have hx := Blk.new w9 73 #[.slice none 0 0, .slice none 0 0]
       replace HR := bL HR hb
       replace HG := bL HG hb
       replace HN := aH (HN.out.below hb)
       replace HJ := aH ((HJ.out.below hb).more hb.size)
       replace HSA := aH (HSA.out.below hb)
       replace HSB := aH (HSB.out.below hb)
       replace HB := bT HB hb
       clear hb
       have HW := aH hx
       clear hx
       generalize w9.alloc (.cells #[.slice none 0 0, .slice none 0 0] 73) = W1 at *
       generalize w9.heap.size = gw at *
       have q0 := HR.out.cell 0
       have q1 := HR.out.cell 1
       change _ = some (Value.slice SA l1.length ca) at q0
       change _ = some (Value.slice SB l2.length cb) at q1
       have q2 := HW.out.cell 0
       have q3 := HW.out.cell 1
       change _ = some (Value.slice none 0 0) at q2
       change _ = some (Value.slice none 0 0) at q3
       clear HW HG HR HN HJ HSA HSB
       have HV3 := aH (show verF n inj l1 l2 = 21 by rw [verF, if_neg (fun k => k HC0.out), if_neg (by have := G1.out; have := G2.out; omega), if_neg (fun k => k C1.out), if_neg (fun k => k C2.out), if_pos CC.out])
       go_wp2
       go_ret
       exact ⟨by rw [HV3.out]; rfl, HB.out⟩
     ·have tcc : (chkV (tx1 l2) != 0) = true := bne_iff_ne.2 c2
      have HV3 := aH (show verF n inj l1 l2 = chkV (tx1 l2) by rw [verF, if_neg (fun k => k HC0.out), if_neg (by have := G1.out; have := G2.out; omega), if_neg (fun k => k C1.out), if_pos c2])
      clear c2 HR HG HN HJ HSA HSB HX
      go_wp2
      go_ret
      exact ⟨by rw [HV3.out]; rfl, HB.out⟩
    ·have tcc : (chkV (tx1 l1) != 0) = true := bne_iff_ne.2 c1
     have HV3 := aH (show verF n inj l1 l2 = chkV (tx1 l1) by rw [verF, if_neg (fun k => k HC0.out), if_neg (by have := G1.out; have := G2.out; omega), if_pos c1])
     clear c1 q0 q1 HR HG HN HJ HSA HSB HX
     go_wp2
     go_ret
     exact ⟨by rw [HV3.out]; rfl, HB.out⟩
   ·have t2 : ((l2.length : Int) != (n.branches.length : Int)) = true := bne_iff_ne.2 (by omega)
    have G2 := aH g2
    clear g2
    refine wp_region_c (fun w' => w'.cell? ⟨w.heap.size + 1, 0, none⟩ = some (.slice SA l1.length ca) ∧ w'.cell? ⟨w.heap.size + 1, 1, none⟩ = some (.slice SB l2.length cb) ∧ w'.cell? ⟨w.heap.size, 2, none⟩ = some (.slice bra n.branches.length brc)) 14 (by kernel_rfl) ?_
    generalize w4.drew = w5 at *
    refine aZ 0 (.pointer (some ⟨w.heap.size + 1, 0, none⟩)) rfl ⟨q0, q1, q2⟩ ?_
    refine aZ 1 (.slice SA l1.length ca) rfl ⟨q0, q1, q2⟩ ?_
    refine aZ 2 (I (l1.length : Nat)) rfl ⟨q0, q1, q2⟩ ?_
    refine aZ 3 (.pointer (some ⟨g, 0, none⟩)) rfl ⟨q0, q1, q2⟩ ?_
    refine on1 4 fun K hK => ?_
    go_simp
    go_at_call 92
    refine (mf_buses HV.out HMF.out).mono ?_
    rintro e w' ⟨rfl, hw⟩
    replace hw := hw.symm
    subst hw
    refine hK.out _ _ (fun _ => ⟨q0, q1, q2⟩) ?_
    clear hK K
    refine aZ 5 (.bool false) rfl ⟨q0, q1, q2⟩ ?_
    refine aZ 6 (.bool false) rfl ⟨q0, q1, q2⟩ ?_
    refine aZ 7 (.pointer (some ⟨w.heap.size + 1, 1, none⟩)) rfl ⟨q0, q1, q2⟩ ?_
    refine aZ 8 (.slice SB l2.length cb) rfl ⟨q0, q1, q2⟩ ?_
    refine aZ 9 (I (l2.length : Nat)) rfl ⟨q0, q1, q2⟩ ?_
    refine aZ 10 (.pointer (some ⟨w.heap.size, 2, none⟩)) rfl ⟨q0, q1, q2⟩ ?_
    refine aZ 11 (.slice bra n.branches.length brc) rfl ⟨q0, q1, q2⟩ ?_
    refine aZ 12 (I (n.branches.length : Nat)) rfl ⟨q0, q1, q2⟩ ?_
    refine aZ 13 (.bool true) rfl ⟨q0, q1, q2⟩ ?_
    refine on1 14 fun K hK => ?_
    go_simp
    refine hK.out _ _ (fun h => absurd h (by decide)) ?_
    clear hK K
    refine wpAnyC_done (by kernel_rfl) ?_ _
    have HV3 := aH (show verF n inj l1 l2 = 3 by rw [verF, if_neg (fun k => k HC0.out), if_pos (.inr G2.out)])
    clear q0 q1 q2 HMF HG HN HJ HSA HSB HR
    go_wp2
    go_ret
    exact ⟨by rw [HV3.out]; rfl, HB.out⟩
  ·have t1 : ((l1.length : Int) != (nbN n : Int)) = true := bne_iff_ne.2 (by omega)
   have G1 := aH g1
   clear g1
   refine wp_region_c (fun w' => w'.cell? ⟨w.heap.size + 1, 0, none⟩ = some (.slice SA l1.length ca) ∧ w'.cell? ⟨w.heap.size + 1, 1, none⟩ = some (.slice SB l2.length cb) ∧ w'.cell? ⟨w.heap.size, 2, none⟩ = some (.slice bra n.branches.length brc)) 14 (by kernel_rfl) ?_
   generalize w4.drew = w5 at *
   refine aZ 0 (.pointer (some ⟨w.heap.size + 1, 0, none⟩)) rfl ⟨q0, q1, q2⟩ ?_
   refine aZ 1 (.slice SA l1.length ca) rfl ⟨q0, q1, q2⟩ ?_
   refine aZ 2 (I (l1.length : Nat)) rfl ⟨q0, q1, q2⟩ ?_
   refine aZ 3 (.pointer (some ⟨g, 0, none⟩)) rfl ⟨q0, q1, q2⟩ ?_
   refine on1 4 fun K hK => ?_
   go_simp
   go_at_call 92
   refine (mf_buses HV.out HMF.out).mono ?_
   rintro e w' ⟨rfl, hw⟩
   replace hw := hw.symm
   subst hw
   refine hK.out _ _ (fun _ => ⟨q0, q1, q2⟩) ?_
   clear hK K
   refine aZ 5 (.bool true) rfl ⟨q0, q1, q2⟩ ?_
   refine aZ 6 (.bool true) rfl ⟨q0, q1, q2⟩ ?_
   refine tk8 7 undef rfl (Or.inr ⟨by kernel_rfl, rfl⟩) ⟨q0, q1, q2⟩ ?_
   refine tk8 8 undef rfl (Or.inr ⟨by kernel_rfl, rfl⟩) ⟨q0, q1, q2⟩ ?_
   refine tk8 9 undef rfl (Or.inr ⟨by kernel_rfl, rfl⟩) ⟨q0, q1, q2⟩ ?_
   refine tk8 10 undef rfl (Or.inr ⟨by kernel_rfl, rfl⟩) ⟨q0, q1, q2⟩ ?_
   refine tk8 11 undef rfl (Or.inr ⟨by kernel_rfl, rfl⟩) ⟨q0, q1, q2⟩ ?_
   refine tk8 12 undef rfl (Or.inr ⟨by kernel_rfl, rfl⟩) ⟨q0, q1, q2⟩ ?_
   refine tk8 13 undef rfl (Or.inr ⟨by kernel_rfl, rfl⟩) ⟨q0, q1, q2⟩ ?_
   refine on1 14 fun K hK => ?_
   go_simp
   refine hK.out _ _ (fun h => absurd h (by decide)) ?_
   clear hK K
   refine wpAnyC_done (by kernel_rfl) ?_ _
   have HV3 := aH (show verF n inj l1 l2 = 3 by rw [verF, if_neg (fun k => k HC0.out), if_pos (.inl G1.out)])
   clear q0 q1 q2 HMF HG HN HJ HSA HSB HR
   go_wp2
   go_ret
   exact ⟨by rw [HV3.out]; rfl, HB.out⟩
 ·have tc0 : (flowChk n inj != 0) = true := bne_iff_ne.2 hc
  have HV3 := aH (show verF n inj l1 l2 = flowChk n inj by rw [verF, if_pos hc])
  clear HR HG HN HJ HSA HSB
  go_wp2
  go_ret
  exact ⟨by rw [HV3.out]; rfl, HB.out⟩
end Go.Proofs.YtenbglfkdldheaaGreatDoor
