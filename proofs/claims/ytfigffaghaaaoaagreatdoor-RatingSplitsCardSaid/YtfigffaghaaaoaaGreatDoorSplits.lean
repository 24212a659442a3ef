/- RatingSplits: the walk. RatingSplits returns true for every input: a step is the same as two steps with the same flows. No conditions. The row's listed variables hold what the program's text lays (the card ties them). -/
import Derived.Test.YtfigffaghaaaoaaGreatDoorRX5
import Derived.Test.YtfigffaghaaaoaaGreatDoorRDR
import Derived.ShutString
import Derived.ChangeMaps5
namespace Go.Proofs.YtfigffaghaaaoaaGreatDoor
open Go.RowKit

set_option maxRecDepth 100000 in
set_option maxHeartbeats 16000000 in
theorem ratingSplits_any (n : NetD) (v : NetV) (l : List ByteArray) (nl : Nat) (A : Option Addr) (c : Nat) (a b : Int) (w : World) (hN : Net w n v) (hv : SV w A nl l) (hsb : Sh1 l)  (htab : Tab w) : Calls Tryz.prog 4 #[v.val n, .slice A nl c, I a, I b] w fun e w' => e = .returned (.bool true) ∧ Below w.heap.size w w' := by
  have hz := below_new w (Obj.cells (v.parts n) 29)
  have HN := Lib.hid (hN.below hz)
  have HG := Lib.hid (Blk.new w 29 (v.parts n))
  have HZ := Lib.hid hz
  have HVC := Lib.hid (hv.below hz)
  have HSB := Lib.hid hsb
  have HTB := Lib.hid (tab_below htab hz)
  clear hz hN hv hsb htab
  unfold NetV.val NetV.parts at *
  go_enter Tryz.func4, Tryz.ntmps4
  have HC := Lib.hid (ratingFact_any (w.alloc (Obj.cells #[.slice v.na n.nodes.length v.nc, .slice v.sa n.switches.length v.sc, .slice v.ba n.branches.length v.bc, .slice v.ga n.gens.length v.gc, .slice v.la n.loads.length v.lc, .slice v.ta n.stores.length v.tc] 29)) HTB.out)
  go_wp2_with fail
  refine HC.out.mono ?_
  rintro e w1 ⟨rfl, hb⟩
  clear HC
  replace HN := Lib.hid (HN.out.below hb)
  replace HG := Lib.hid (HG.out.below hb HG.out.lt)
  replace HZ := Lib.hid (HZ.out.trans (hb.mono HZ.out.size))
  replace HVC := Lib.hid (HVC.out.below hb)
  replace HTB := Lib.hid (tab_below HTB.out hb)
  have HB := Lib.hid (Below.refl w1.heap.size w1)
  clear hb
  have hgl : w.heap.size < w1.heap.size := HG.out.lt
  have hpa := pickN_range a (n := 1000) (by decide)
  have hpb := pickN_range b (n := 1000) (by decide)
  have HC := Lib.hid (pick_at a 1000 w1 (by decide) (by decide))
  go_wp2_with fail
  refine HC.out.mono ?_
  rintro e w2 ⟨rfl, rfl⟩
  clear HC
  have HC := Lib.hid (pick_at b 1000 w2 (by decide) (by decide))
  go_wp2_with fail
  refine HC.out.mono ?_
  rintro e w3 ⟨rfl, rfl⟩
  clear HC
  generalize pickN a 1000 = pa at *
  generalize pickN b 1000 = pb at *
  by_cases e : checkN n = 0
  · have HE := Lib.hid e
    have HVN := Lib.hid (vnet e)
    have HNB := Lib.hid (show n.branches.length ≤ 24 from HVN.out.hb)
    have HM0 := Lib.hid (stM_zero HVN.out)
    clear e
    have x0 := (HG.out.below HB.out hgl).cell 0
    have x1 := (HG.out.below HB.out hgl).cell 1
    have x2 := (HG.out.below HB.out hgl).cell 2
    have x3 := (HG.out.below HB.out hgl).cell 3
    have x4 := (HG.out.below HB.out hgl).cell 4
    have x5 := (HG.out.below HB.out hgl).cell 5
    have HBsp := Lib.hid HB.out.size
    have HC := Lib.hid (show Calls Tryz.prog 7 #[.agg #[.slice v.na n.nodes.length v.nc, .slice v.sa n.switches.length v.sc, .slice v.ba n.branches.length v.bc, .slice v.ga n.gens.length v.gc, .slice v.la n.loads.length v.lc, .slice v.ta n.stores.length v.tc]] w3 (fun e w' => ∃ p, e = .returned (.tuple #[.pointer (some ⟨p.g, 0, none⟩), I 0]) ∧ WS w' w3.heap.size p n.branches (List.replicate n.branches.length rt0) 0 ∧ Below w3.heap.size w3 w') from (rnew_any n v w3 (HN.out.below HB.out)).mono fun e w' h => by
        obtain ⟨p, h1, h2⟩ := h.2.1 HE.out
        exact ⟨p, h1, h2, h.2.2⟩)
    go_wp2_with fail
    refine HC.out.mono ?_
    rintro e w4 ⟨p, rfl, hws, hb⟩
    clear HC
    have hbs := HB.out.size
    replace HB := Lib.hid (HB.out.trans (hb.mono hbs))
    clear hbs
    clear hb
    clear x0 x1 x2 x3 x4 x5
    have HWp := Lib.hid hws
    have HPp := Lib.hid hws.plt
    have HOp := Lib.hid (off_old HVC.out hws HBsp.out)
    clear hws
    have HBep := Lib.hid (Nat.le_refl w4.heap.size)
    have x0 := (HG.out.below HB.out hgl).cell 0
    have x1 := (HG.out.below HB.out hgl).cell 1
    have x2 := (HG.out.below HB.out hgl).cell 2
    have x3 := (HG.out.below HB.out hgl).cell 3
    have x4 := (HG.out.below HB.out hgl).cell 4
    have x5 := (HG.out.below HB.out hgl).cell 5
    have HBsq := Lib.hid HB.out.size
    have HBfp := HBep
    have HC := Lib.hid (show Calls Tryz.prog 7 #[.agg #[.slice v.na n.nodes.length v.nc, .slice v.sa n.switches.length v.sc, .slice v.ba n.branches.length v.bc, .slice v.ga n.gens.length v.gc, .slice v.la n.loads.length v.lc, .slice v.ta n.stores.length v.tc]] w4 (fun e w' => ∃ p, e = .returned (.tuple #[.pointer (some ⟨p.g, 0, none⟩), I 0]) ∧ WS w' w4.heap.size p n.branches (List.replicate n.branches.length rt0) 0 ∧ Below w4.heap.size w4 w') from (rnew_any n v w4 (HN.out.below HB.out)).mono fun e w' h => by
        obtain ⟨p, h1, h2⟩ := h.2.1 HE.out
        exact ⟨p, h1, h2, h.2.2⟩)
    go_wp2_with fail
    refine HC.out.mono ?_
    rintro e w5 ⟨q, rfl, hws, hb⟩
    clear HC
    have hbs := HB.out.size
    replace HB := Lib.hid (HB.out.trans (hb.mono hbs))
    clear hbs
    replace HWp := Lib.hid (HWp.out.call hb)
    replace HBep := Lib.hid (Nat.le_trans HBep.out hb.size)
    clear hb
    clear x0 x1 x2 x3 x4 x5
    have HApq := Lib.hid (apart_of HPp.out hws HBfp.out)
    clear HBfp
    have HWq := Lib.hid hws
    have HPq := Lib.hid hws.plt
    have HOq := Lib.hid (off_old HVC.out hws HBsq.out)
    clear hws
    have HBeq := Lib.hid (Nat.le_refl w5.heap.size)
    have hb := below_new w5 (.cells #[I 0, I 0] 34)
    have hx := Blk.new w5 34 #[I 0, I 0]
    have hbs := HB.out.size
    replace HB := Lib.hid (HB.out.trans (hb.mono hbs))
    clear hbs
    replace HWp := Lib.hid (HWp.out.call hb)
    replace HBep := Lib.hid (Nat.le_trans HBep.out hb.size)
    replace HWq := Lib.hid (HWq.out.call hb)
    replace HBeq := Lib.hid (Nat.le_trans HBeq.out hb.size)
    clear hb
    have HX := Lib.hid hx
    clear hx
    have HC := Lib.hid (fine_any [0, 0] 2 (some ⟨w5.heap.size, 0, none⟩) 2 (w5.alloc (.cells #[I 0, I 0] 34)) (w5.alloc (.cells #[I 0, I 0] 34)).heap.size (reads_blk (n := 2) (sz := 1) HX.out rfl) (by decide))
    rw [show fineB [0, 0] = true from rfl] at HC
    go_wp2_with fail
    refine HC.out.mono ?_
    rintro e w6 ⟨rfl, rfl⟩
    clear HC
    clear HX
    generalize (w5.alloc (.cells #[I 0, I 0] 34)) = w7 at *
    obtain ⟨k1, k2, k3, k4, k5⟩ := split_law n.branches (tx1 l) (List.replicate n.branches.length rt0) (a := 1 + pa) (b := 1 + pb) (by omega) (by omega) (by omega) (by omega)
    have hta := stT_range (bs := n.branches) (l := tx1 l) (s := 1 + pa) (t := 0) (by omega) (by decide)
    have HMA := Lib.hid (stM_stS (l := l) (s := 1 + pa) (t := 0) HM0.out (by omega) (by decide))
    have HMF := Lib.hid (stM_stS (l := l) (s := 1 + pa + (1 + pb)) (t := 0) HM0.out (by omega) (by decide))
    generalize List.replicate n.branches.length rt0 = st0 at *
    have K1 := Lib.hid k1
    have K2 := Lib.hid k2
    have K3 := Lib.hid k3
    have K4 := Lib.hid k4
    have K5 := Lib.hid k5
    clear k1 k2 k3 k4 k5
    have HC := Lib.hid (rstepU_any p n.branches st0 0 w3.heap.size w7 HWp.out HNB.out (HM0.out.ok (by decide)) (by decide) (by decide) l nl A c (HVC.out.below HB.out) HSB.out HOp.out (tab_below HTB.out HB.out) (1 + pa + (1 + pb)) (by omega))
    go_wp2_with fail
    refine HC.out.mono ?_
    rintro e w8 ⟨AHR1, cHR1, rfl, hrow, hws, hch, hb⟩
    clear HC
    replace HBep := Lib.hid (Nat.le_trans HBep.out hb.size)
    replace HWq := Lib.hid (HWq.out.apart hch HWp.out HApq.out.symm)
    replace HBeq := Lib.hid (Nat.le_trans HBeq.out hb.size)
    replace HB := Lib.hid (HB.out.trans (hb.mono HBsp.out))
    replace HWp := Lib.hid hws
    have HR1 := Lib.hid hrow
    clear hrow hws hch hb
    have HC := Lib.hid (rstepU_any q n.branches st0 0 w4.heap.size w8 HWq.out HNB.out (HM0.out.ok (by decide)) (by decide) (by decide) l nl A c (HVC.out.below HB.out) HSB.out HOq.out (tab_below HTB.out HB.out) (1 + pa) (by omega))
    go_wp2_with fail
    refine HC.out.mono ?_
    rintro e w9 ⟨AHR2, cHR2, rfl, hrow, hws, hch, hb⟩
    clear HC
    replace HWp := Lib.hid (HWp.out.apart hch HWq.out HApq.out)
    replace HBep := Lib.hid (Nat.le_trans HBep.out hb.size)
    replace HBeq := Lib.hid (Nat.le_trans HBeq.out hb.size)
    replace HR1 := Lib.hid (HR1.out.typ hch HWq.out (by decide) (by decide) (by decide) (by decide))
    replace HB := Lib.hid (HB.out.trans (hb.mono HBsq.out))
    replace HWq := Lib.hid hws
    have HR2 := Lib.hid hrow
    clear hrow hws hch hb
    clear HR2
    rw [K1.out]
    have hsg : 0 ≤ stT n.branches (tx1 l) (1 + pa) 0 ∧ stT n.branches (tx1 l) (1 + pa) 0 ≤ 200000 := by omega
    have HSG := Lib.hid hsg
    clear hta hsg
    have HC := Lib.hid (rstepU_any q n.branches (stS n.branches (tx1 l) (1 + pa) 0 st0) (stT n.branches (tx1 l) (1 + pa) 0) w4.heap.size w9 HWq.out HNB.out (HMA.out.ok (by omega)) HSG.out.1 HSG.out.2 l nl A c (HVC.out.below HB.out) HSB.out HOq.out (tab_below HTB.out HB.out) (1 + pb) (by omega))
    go_wp2_with fail
    refine HC.out.mono ?_
    rintro e w10 ⟨AHR3, cHR3, rfl, hrow, hws, hch, hb⟩
    clear HC
    replace HWp := Lib.hid (HWp.out.apart hch HWq.out HApq.out)
    replace HBep := Lib.hid (Nat.le_trans HBep.out hb.size)
    replace HBeq := Lib.hid (Nat.le_trans HBeq.out hb.size)
    replace HR1 := Lib.hid (HR1.out.typ hch HWq.out (by decide) (by decide) (by decide) (by decide))
    replace HB := Lib.hid (HB.out.trans (hb.mono HBsq.out))
    replace HWq := Lib.hid hws
    have HR3 := Lib.hid hrow
    clear hrow hws hch hb
    rw [K3.out, K4.out] at HWq
    rw [K5.out] at HR3
    rw [K2.out, K5.out]
    have hnl := stN_le n.branches (tx1 l) (1 + pa + (1 + pb)) 0 st0
    have HNL := Lib.hid (show (stN n.branches (tx1 l) (1 + pa + (1 + pb)) 0 st0).length ≤ 1000000 from by have := HNB.out; omega)
    clear hnl K1 K2 K3 K4 K5 HSG HMA HM0
    have HOK := Lib.hid (HMF.out.ok (by omega))
    generalize stE0 : stepE n.branches.length (tx1 l) (1 + pa + (1 + pb)) 0 = ee at *
    have te : (ee == ee) = true := beq_self_eq_true _
    clear stE0
    generalize stN n.branches (tx1 l) (1 + pa + (1 + pb)) 0 st0 = nm at *
    generalize stS n.branches (tx1 l) (1 + pa + (1 + pb)) 0 st0 = sf at *
    generalize stT n.branches (tx1 l) (1 + pa + (1 + pb)) 0 = tf at *
    have HC := Lib.hid (equalS_any nm nm nm.length nm.length AHR1 AHR3 cHR1 cHR3 w10 _ _ HR1.out.reads HR3.out.reads HNL.out HNL.out)
    simp only [decide_true] at HC
    go_wp2_with fail
    refine HC.out.mono ?_
    rintro e w11 ⟨rfl, qq, rfl⟩
    clear HC
    have hb : Below w10.heap.size w10 (w10.drewN qq) := below_drewN _ qq
    have hbs := HB.out.size
    replace HB := Lib.hid (HB.out.trans (hb.mono hbs))
    clear hbs
    replace HWp := Lib.hid (HWp.out.call hb)
    replace HBep := Lib.hid (Nat.le_trans HBep.out hb.size)
    replace HWq := Lib.hid (HWq.out.call hb)
    replace HBeq := Lib.hid (Nat.le_trans HBeq.out hb.size)
    replace HR1 := Lib.hid (HR1.out.call hb)
    replace HR3 := Lib.hid (HR3.out.call hb)
    clear hb
    generalize (w10.drewN qq) = w12 at *
    clear HR1 HR3
    have HC := Lib.hid (rleft_any p n.branches sf _ w3.heap.size w12 HWp.out HNB.out HOK.out)
    go_wp2_with fail
    refine HC.out.mono ?_
    rintro e w13 ⟨AHL1, cHL1, rfl, hrow, hb⟩
    clear HC
    have hbs := HB.out.size
    replace HB := Lib.hid (HB.out.trans (hb.mono hbs))
    clear hbs
    replace HWp := Lib.hid (HWp.out.call hb)
    replace HBep := Lib.hid (Nat.le_trans HBep.out hb.size)
    replace HWq := Lib.hid (HWq.out.call hb)
    replace HBeq := Lib.hid (Nat.le_trans HBeq.out hb.size)
    clear hb
    have HL1 := Lib.hid hrow
    clear hrow
    have HC := Lib.hid (rleft_any q n.branches sf _ w4.heap.size w13 HWq.out HNB.out HOK.out)
    go_wp2_with fail
    refine HC.out.mono ?_
    rintro e w14 ⟨AHL2, cHL2, rfl, hrow, hb⟩
    clear HC
    have hbs := HB.out.size
    replace HB := Lib.hid (HB.out.trans (hb.mono hbs))
    clear hbs
    replace HWp := Lib.hid (HWp.out.call hb)
    replace HBep := Lib.hid (Nat.le_trans HBep.out hb.size)
    replace HWq := Lib.hid (HWq.out.call hb)
    replace HBeq := Lib.hid (Nat.le_trans HBeq.out hb.size)
    replace HL1 := Lib.hid (HL1.out.call hb)
    clear hb
    have HL2 := Lib.hid hrow
    clear hrow
    have HLL := Lib.hid (show (leftL n.branches sf).length ≤ 1000000 from by have := leftL_le n.branches sf; have := HNB.out; omega)
    have HC := Lib.hid (equalL_any (leftL n.branches sf) (leftL n.branches sf) (leftL n.branches sf).length (leftL n.branches sf).length AHL1 AHL2 cHL1 cHL2 w14 _ _ HL1.out.reads HL2.out.reads HLL.out HLL.out)
    simp only [decide_true] at HC
    go_wp2_with fail
    refine HC.out.mono ?_
    rintro e w15 ⟨rfl, hb⟩
    clear HC
    have hbs := HB.out.size
    replace HB := Lib.hid (HB.out.trans (hb.mono hbs))
    clear hbs
    replace HWp := Lib.hid (HWp.out.call hb)
    replace HBep := Lib.hid (Nat.le_trans HBep.out hb.size)
    replace HWq := Lib.hid (HWq.out.call hb)
    replace HBeq := Lib.hid (Nat.le_trans HBeq.out hb.size)
    replace HL1 := Lib.hid (HL1.out.call hb)
    replace HL2 := Lib.hid (HL2.out.call hb)
    clear hb
    clear HL1 HL2 HLL
    have HC := Lib.hid (rover_any p n.branches sf _ w3.heap.size w15 HWp.out HNB.out)
    go_wp2_with fail
    refine HC.out.mono ?_
    rintro e w16 ⟨AHV1, cHV1, rfl, hrow, hb⟩
    clear HC
    have hbs := HB.out.size
    replace HB := Lib.hid (HB.out.trans (hb.mono hbs))
    clear hbs
    replace HWp := Lib.hid (HWp.out.call hb)
    replace HBep := Lib.hid (Nat.le_trans HBep.out hb.size)
    replace HWq := Lib.hid (HWq.out.call hb)
    replace HBeq := Lib.hid (Nat.le_trans HBeq.out hb.size)
    clear hb
    have HV1 := Lib.hid hrow
    clear hrow
    have HC := Lib.hid (rover_any q n.branches sf _ w4.heap.size w16 HWq.out HNB.out)
    go_wp2_with fail
    refine HC.out.mono ?_
    rintro e w17 ⟨AHV2, cHV2, rfl, hrow, hb⟩
    clear HC
    have hbs := HB.out.size
    replace HB := Lib.hid (HB.out.trans (hb.mono hbs))
    clear hbs
    replace HWp := Lib.hid (HWp.out.call hb)
    replace HBep := Lib.hid (Nat.le_trans HBep.out hb.size)
    replace HWq := Lib.hid (HWq.out.call hb)
    replace HBeq := Lib.hid (Nat.le_trans HBeq.out hb.size)
    replace HV1 := Lib.hid (HV1.out.call hb)
    clear hb
    have HV2 := Lib.hid hrow
    clear hrow
    have HLL := Lib.hid (show (overL n.branches sf).length ≤ 1000000 from by have := overL_le n.branches sf; have := HNB.out; omega)
    have HC := Lib.hid (equalS_any (overL n.branches sf) (overL n.branches sf) (overL n.branches sf).length (overL n.branches sf).length AHV1 AHV2 cHV1 cHV2 w17 _ _ HV1.out.reads HV2.out.reads HLL.out HLL.out)
    simp only [decide_true] at HC
    go_wp2_with fail
    refine HC.out.mono ?_
    rintro e w18 ⟨rfl, qq, rfl⟩
    clear HC
    have hb : Below w17.heap.size w17 (w17.drewN qq) := below_drewN _ qq
    have hbs := HB.out.size
    replace HB := Lib.hid (HB.out.trans (hb.mono hbs))
    clear hbs
    replace HWp := Lib.hid (HWp.out.call hb)
    replace HBep := Lib.hid (Nat.le_trans HBep.out hb.size)
    replace HWq := Lib.hid (HWq.out.call hb)
    replace HBeq := Lib.hid (Nat.le_trans HBeq.out hb.size)
    replace HV1 := Lib.hid (HV1.out.call hb)
    replace HV2 := Lib.hid (HV2.out.call hb)
    clear hb
    generalize (w17.drewN qq) = w19 at *
    clear HV1 HV2 HLL
    have HC := Lib.hid (rtime_any p n.branches sf tf w3.heap.size w19 HWp.out)
    go_wp2_with fail
    refine HC.out.mono ?_
    rintro e w20 ⟨rfl, rfl⟩
    clear HC
    have HC := Lib.hid (rtime_any q n.branches sf tf w4.heap.size w20 HWq.out)
    go_wp2_with fail
    refine HC.out.mono ?_
    rintro e w21 ⟨rfl, rfl⟩
    clear HC
    have tt : (tf == tf) = true := beq_self_eq_true _
    go_wp2
    go_ret
    exact ⟨rfl, HZ.out.trans (HB.out.mono HZ.out.size)⟩
  · have HE := Lib.hid e
    generalize hck : checkN n = ck at *
    have HCK := Lib.hid hck
    have tc : (ck != 0) = true := bne_iff_ne.2 e
    have tc2 : (ck == ck) = true := beq_self_eq_true _
    clear e hck
    have x0 := (HG.out.below HB.out hgl).cell 0
    have x1 := (HG.out.below HB.out hgl).cell 1
    have x2 := (HG.out.below HB.out hgl).cell 2
    have x3 := (HG.out.below HB.out hgl).cell 3
    have x4 := (HG.out.below HB.out hgl).cell 4
    have x5 := (HG.out.below HB.out hgl).cell 5
    have HC := Lib.hid (show Calls Tryz.prog 7 #[.agg #[.slice v.na n.nodes.length v.nc, .slice v.sa n.switches.length v.sc, .slice v.ba n.branches.length v.bc, .slice v.ga n.gens.length v.gc, .slice v.la n.loads.length v.lc, .slice v.ta n.stores.length v.tc]] w3 (fun e w' => e = .returned (.tuple #[.pointer none, I ck]) ∧ Below w3.heap.size w3 w') from (rnew_any n v w3 (HN.out.below HB.out)).mono fun e w' h => by
        have h1 := h.1 (by rw [HCK.out]; exact HE.out)
        rw [HCK.out] at h1
        exact ⟨h1, h.2.2⟩)
    go_wp2_with fail
    refine HC.out.mono ?_
    rintro e w41 ⟨rfl, hb⟩
    clear HC
    have hbs := HB.out.size
    replace HB := Lib.hid (HB.out.trans (hb.mono hbs))
    clear hbs
    clear hb
    clear x0 x1 x2 x3 x4 x5
    have x0 := (HG.out.below HB.out hgl).cell 0
    have x1 := (HG.out.below HB.out hgl).cell 1
    have x2 := (HG.out.below HB.out hgl).cell 2
    have x3 := (HG.out.below HB.out hgl).cell 3
    have x4 := (HG.out.below HB.out hgl).cell 4
    have x5 := (HG.out.below HB.out hgl).cell 5
    have HC := Lib.hid (show Calls Tryz.prog 7 #[.agg #[.slice v.na n.nodes.length v.nc, .slice v.sa n.switches.length v.sc, .slice v.ba n.branches.length v.bc, .slice v.ga n.gens.length v.gc, .slice v.la n.loads.length v.lc, .slice v.ta n.stores.length v.tc]] w41 (fun e w' => e = .returned (.tuple #[.pointer none, I ck]) ∧ Below w41.heap.size w41 w') from (rnew_any n v w41 (HN.out.below HB.out)).mono fun e w' h => by
        have h1 := h.1 (by rw [HCK.out]; exact HE.out)
        rw [HCK.out] at h1
        exact ⟨h1, h.2.2⟩)
    go_wp2_with fail
    refine HC.out.mono ?_
    rintro e w42 ⟨rfl, hb⟩
    clear HC
    have hbs := HB.out.size
    replace HB := Lib.hid (HB.out.trans (hb.mono hbs))
    clear hbs
    clear hb
    clear x0 x1 x2 x3 x4 x5
    have hb := below_new w42 (.cells #[I ck, I ck] 34)
    have hx := Blk.new w42 34 #[I ck, I ck]
    have hbs := HB.out.size
    replace HB := Lib.hid (HB.out.trans (hb.mono hbs))
    clear hbs
    clear hb
    have HX := Lib.hid hx
    clear hx
    have HC := Lib.hid (fine_any [ck, ck] 2 (some ⟨w42.heap.size, 0, none⟩) 2 (w42.alloc (.cells #[I ck, I ck] 34)) (w42.alloc (.cells #[I ck, I ck] 34)).heap.size (reads_blk (n := 2) (sz := 1) HX.out rfl) (by decide))
    rw [show fineB [ck, ck] = false from by simp [fineB, HE.out]] at HC
    go_wp2_with fail
    refine HC.out.mono ?_
    rintro e w43 ⟨rfl, rfl⟩
    clear HC
    clear HX
    generalize (w42.alloc (.cells #[I ck, I ck] 34)) = w44 at *
    go_wp2
    go_ret
    exact ⟨rfl, HZ.out.trans (HB.out.mono HZ.out.size)⟩
theorem ratingSplits_row {P0 : Prop} {P1 : Prop} {PL : Prop} (n : NetD) (v : NetV) (l : List ByteArray) (A : Option Addr) (c : Nat) (a b : Int) (w : World) (hN : Net w n v) (hv : Reads w w.heap.size 1 A l.length (l.map Sv)) (hsb : Sh1 l) (_hl : PL) (_h0 : P0) (_h1 : P1) (htab : Tab w) : Calls Tryz.prog 4 #[v.val n, .slice A l.length c, I a, I b] w fun e w' => e = .returned (.bool true) ∧ Below w.heap.size w w' :=
  ratingSplits_any n v l l.length A c a b w hN hv hsb htab
end Go.Proofs.YtfigffaghaaaoaaGreatDoor
namespace Go.Proofs.YtfigffaghaaaoaaGreatDoor
open Go.ChangeShapes Go.WideShapes Go.ChangeAt Go.RowKit Go.ChangeMaps

theorem ratingSplits_door (os : Os) (args : Array Value) : laidMetH Tryz.prog Rows.ratingSplitsRow.laid ((World.doorLaid Tryz.prog 62 os).forCall (fun _ _ => 0) ⟨#[], args, []⟩).memory :=
  laidMetH_of_parts3 (fuel := 8) (laidMet_of_run' 8 (by kernel_rfl) (by kernel_rfl)) (by kernel_rfl) (by kernel_rfl)
set_option linter.unusedVariables false in
set_option maxRecDepth 100000 in
theorem ratingSplits_lifted (os : Os) (started : os.Started) (H : Type) (enc : TypeId × Value → H) :
    ReturnsInHanded {} Tryz.checked os 4 .any (fun w args => (Rows.ratingSplitsSpec.pre enc Tryz.prog Tryz.f4 [] false w args ∧ laidMetH Tryz.prog Rows.ratingSplitsRow.laid w) ∧ sizedMet enc Tryz.prog Tryz.f4 (OpenSpec.ofChange Rows.ratingSplitsSpec) false w args)
      (Rows.ratingSplitsSpec.post enc Tryz.prog Tryz.f4 false true false false) := by
  refine returnsInHanded_of_change_and (C := Tryz.checked) (X := fun w _ => laidMetH Tryz.prog Rows.ratingSplitsRow.laid w) (fun _ _ _ hh h => h.of_heap hh) own started (by kernel_rfl) Tryz.func4
    (ChangeSpec.witness_shaped (enc := enc) (C := Tryz.checked) (os := os) (X := fun w _ => laidMetH Tryz.prog Rows.ratingSplitsRow.laid w) false (World.doorLaid Tryz.prog 62 os) #[.agg #[.slice none 0 0, .slice none 0 0, .slice none 0 0, .slice none 0 0, .slice none 0 0, .slice none 0 0], .slice none 0 0, .int .i64 0, .int .i64 0] 8 rfl (World.shaped_of_RefB (by kernel_rfl) (by kernel_rfl)) (by kernel_rfl) (by kernel_rfl) (by kernel_rfl) (ratingSplits_door os _)) ?_
  intro W base args ds gs before hval0 hW _ _ hL _
  have hval : ∀ (j : Nat) t v, Tryz.f4.params[j]? = some t → args[j]? = some v → Value.okWide Tryz.prog W .any base t v := hval0
  have hW' := hW
  obtain ⟨p, q, hA0, hV, rfl, hfz, hnd⟩ := hW
  have hA : DataW.TrodAll enc Tryz.prog W 0 (fun _ => true) true Tryz.f4.params.toList args.toList ds p := hA0
  rw [Tryz.params4] at hA hval
  obtain ⟨v0, vs0, d0, ds0, p0, q0, hargs, rfl, rfl, h0, r0⟩ := trodAll_cons hA
  obtain ⟨v1, vs1, d1, ds1, p1, q1, rfl, rfl, rfl, h1, r1⟩ := trodAll_cons r0
  obtain ⟨v2, vs2, d2, ds2, p2, q2, rfl, rfl, rfl, h2, r2⟩ := trodAll_cons r1
  obtain ⟨v3, vs3, d3, ds3, p3, q3, rfl, rfl, rfl, h3, r3⟩ := trodAll_cons r2
  obtain ⟨rfl, rfl, rfl⟩ := trodAll_nil r3
  obtain rfl : args = #[v0, v1, v2, v3] := by cases args; simp_all
  obtain ⟨rfl, rfl⟩ := trodVars_none hV
  have k0 := h0
  have lt0 : ∀ x ∈ p0, x.block < W.heap.size := by obtain ⟨m, hm⟩ := k0; exact DataW.trod_lt m _ _ _ hm
  obtain ⟨n0, nv0, rfl, hn0⟩ := open_net (hval 0 29 v0 rfl rfl) h0
  have k1 := h1
  have lt1 : ∀ x ∈ p1, x.block < W.heap.size := by obtain ⟨m, hm⟩ := k1; exact DataW.trod_lt m _ _ _ hm
  obtain ⟨a1, len1, cap1, rfl⟩ := okWide_slice Tryz.underlying31 (hval 1 31 v1 rfl rfl)
  obtain ⟨fu1, ho1⟩ := h1
  obtain ⟨m1, A1, c1, e1, hm1, hs1, hl1⟩ := open_vec Tryz.underlying31 (u := .slice a1 len1 cap1) ho1
  injection e1 with ea1 eb1 ec1
  subst ea1 eb1 ec1
  obtain ⟨s2, rfl, rfl, rfl, ws2⟩ := open_int Tryz.underlying3 (hval 2 3 v2 rfl rfl) h2
  obtain ⟨s3, rfl, rfl, rfl, ws3⟩ := open_int Tryz.underlying3 (hval 3 3 v3 rfl rfl) h3
  clear hA0 hval0
  refine (ratingSplits_row n0 nv0 m1 _ _ s2 s3 W hn0 hm1 hs1 hl1 (bounds64 ws2) (bounds64 ws3) (tab_of_laid hL)).mono fun e W' ⟨he, bel⟩ => ?_
  subst he
  exact ⟨_, rfl, _, _, _, [], _, [], hW', trodAll_mk1 (shut_bool Tryz.underlying4 _), (trodAll_cons_mk (Below.trod laidOut (by kernel_rfl) (of_decide_eq_true (by kernel_rfl)) k0 bel lt0) (trodAll_cons_mk (Below.trod laidOut (by kernel_rfl) (of_decide_eq_true (by kernel_rfl)) k1 bel lt1) (trodAll_cons_mk (shut_int Tryz.underlying3 ws2) (trodAll_cons_mk (shut_int Tryz.underlying3 ws3) trodAll_mk0)))), rfl, bel.frame _, fun h => by cases h⟩
end Go.Proofs.YtfigffaghaaaoaaGreatDoor
