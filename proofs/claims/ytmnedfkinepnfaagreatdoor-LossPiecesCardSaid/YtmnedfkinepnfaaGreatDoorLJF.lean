/- loss.Total at two good vectors (for the facts). The keep's lengthy$1; slices.IndexFunc, slices.ContainsFunc at it. The keep's at: the value of a piece. slices.Equal at rows of loss pieces . slices.Clone at []api.Rat; the keep's lengthy. -/
import Derived.Test.YtmnedfkinepnfaaGreatDoorLJD
import Derived.Deep.LoopGhost
import Derived.Test.YtmnedfkinepnfaaGreatDoorLJA
namespace Go.Proofs.YtmnedfkinepnfaaGreatDoor
open Go.RowKit

def totF (r f : List Rat) (i : Nat) : Rat := r.getD i 0 * f.getD i 0 * f.getD i 0
set_option maxRecDepth 100000 in
set_option maxHeartbeats 4000000 in
theorem total_good (a b : List ByteArray) (n : Nat) (A B : Option Addr) (ca cb : Nat) (w : World) (ha : Reads w w.heap.size 1 A n (a.map Sv)) (hb : Reads w w.heap.size 1 B n (b.map Sv)) (sa : Sh1 a) (sb : Sh1 b) (htab : Tab w) (va : chkV (tx1 a) = 0) (vb : chkV (tx1 b) = 0) (hres : ∀ s ∈ a, resE (SL s) = 0) :
    Calls Tryz.prog 51 #[.slice A n ca, .slice B n cb] w (RetTx w (ratTx (sm n (totF (valsV (tx1 a)) (valsV (tx1 b)))))) := by
  have la : a.length = n := by have := ha.1; simpa using this
  have lb : b.length = n := by have := hb.1; simpa using this
  have hn : n ≤ 40 := by have := (chkV_ok va).1; rw [tx1, List.length_map, la] at this; exact this
  have HA := Lib.hid ha
  have HBR := Lib.hid hb
  have SA := Lib.hid sa
  have SB := Lib.hid sb
  have HTB := Lib.hid htab
  have VA := Lib.hid va
  have VB := Lib.hid vb
  have HRS := Lib.hid hres
  have LA := Lib.hid la
  have LB := Lib.hid lb
  have hb0 := below_new w (.cells #[.slice A n ca, .slice B n cb] 50)
  have hk0 := Blk.new w 50 #[.slice A n ca, .slice B n cb]
  have K0 := Lib.hid (hk0.cell 0)
  have K1 := Lib.hid (hk0.cell 1)
  have HB0 := Lib.hid hb0
  clear ha hb sa sb htab va vb hres la lb hb0 hk0
  go_enter Tryz.func51, Tryz.ntmps51
  go_wp2
  generalize w.alloc (.cells #[.slice A n ca, .slice B n cb] 50) = w0 at *
  go_loopg [17] (2 - 0) (fun r v wr => ∃ k : Nat, r = 2 - k ∧ v = I k ∧ k ≤ 2 ∧ Hid (Below w0.heap.size w0 wr))
  case atStart => exact ⟨0, rfl, rfl, by omega, Below.refl _ _⟩
  case round =>
    obtain ⟨k, rfl, rfl, hk, HB⟩ := hrel
    obtain ⟨wa, rfl⟩ : ∃ wa : World, wa = wr := ⟨_, rfl⟩
    have k0 := cell_below K0.out HB.out
    have k1 := cell_below K1.out HB.out
    have HBW := Lib.hid (HB0.out.trans (HB.out.mono HB0.out.size))
    match k, hk with
    | 0, _ =>
      have HC := Lib.hid (chkV_any a n A ca wa ((HA.out.below HBW.out).more HBW.out.size) SA.out (tab_below HTB.out HBW.out))
      rw [VA.out] at HC
      go_wp2_with fail
      refine HC.out.mono ?_
      rintro e w1 ⟨rfl, hb⟩
      have HB1 := Lib.hid (HB.out.trans (hb.mono HB.out.size))
      clear hb HC HB HBW k0 k1
      go_wp2
      go_roundg (2 - 1)
      case measure => omega
      case rel => exact ⟨1, rfl, rfl, by omega, HB1⟩
    | 1, _ =>
      have HC := Lib.hid (chkV_any b n B cb wa ((HBR.out.below HBW.out).more HBW.out.size) SB.out (tab_below HTB.out HBW.out))
      rw [VB.out] at HC
      go_wp2_with fail
      refine HC.out.mono ?_
      rintro e w1 ⟨rfl, hb⟩
      have HB1 := Lib.hid (HB.out.trans (hb.mono HB.out.size))
      clear hb HC HB HBW k0 k1
      go_wp2
      go_roundg (2 - 2)
      case measure => omega
      case rel => exact ⟨2, rfl, rfl, by omega, HB1⟩
    | 2, _ =>
      clear k0 k1 HB
      have HW := Lib.hid (rwhole_any 0 wa (by decide) (by decide))
      go_wp2_with fail
      refine HW.out.mono ?_
      rintro e w4 ⟨v, rfl, hv, hb⟩
      obtain ⟨nb0, A0, l0, c0, B0, m0, d0, rfl⟩ := hv.bools
      obtain ⟨vs1, hb1⟩ := boxes1 w4 (.bool nb0) (.slice A0 l0 c0) (.bool false) (.slice B0 m0 d0)
      unfold ratT at vs1 hb1
      have hB4 := HBW.out.trans (hb.mono HBW.out.size)
      have HB4 := Lib.hid (hB4.trans (hb1.mono hB4.size))
      have HV4 := Lib.hid (show Vq _ w4.heap.size (sm 0 (totF (valsV (tx1 a)) (valsV (tx1 b)))) from ⟨_, _, _, _, _, _, _, vs1, hv.ext hb1⟩)
      have hR : w.heap.size ≤ w4.heap.size := hB4.size
      have FA := Lib.hid (fit1_of VA.out)
      have FB := Lib.hid (fit1_of VB.out)
      clear hv hb vs1 hb1 HW hB4 HBW K0 K1 HB0
      generalize hS : w4.heap.size = sB at *
      go_wp2
      go_loopg [35] (n - 0) (fun r v wr => ∃ k : Nat, r = n - k ∧ v = I k ∧ k ≤ n ∧ Hid (Vq wr sB (sm k (totF (valsV (tx1 a)) (valsV (tx1 b))))) ∧ Hid (Below w.heap.size w wr))
      case atStart => exact ⟨0, rfl, rfl, by omega, HV4, HB4⟩
      case round =>
        clear HV4 HB4
        obtain ⟨k, rfl, rfl, hk, HV, HB⟩ := hrel
        obtain ⟨wb, rfl⟩ : ∃ wb : World, wb = wr := ⟨_, rfl⟩
        by_cases hlt : k < n
        · obtain ⟨x, hx⟩ : ∃ x, a[k]? = some x := ⟨_, List.getElem?_eq_getElem (by rw [LA.out]; exact hlt)⟩
          obtain ⟨y, hy⟩ : ∃ y, b[k]? = some y := ⟨_, List.getElem?_eq_getElem (by rw [LB.out]; exact hlt)⟩
          obtain ⟨p, off, u, rfl, _, hu, hc⟩ := ((HA.out.below HB.out).more HB.out.size).at1 (k := k) hlt
          obtain ⟨p2, off2, u2, rfl, _, hu2, hc2⟩ := ((HBR.out.below HB.out).more HB.out.size).at1 (k := k) hlt
          obtain rfl : u = Sv x := by rw [List.getElem?_map, hx] at hu; simpa using hu.symm
          obtain rfl : u2 = Sv y := by rw [List.getElem?_map, hy] at hu2; simpa using hu2.symm
          have mx := List.mem_of_getElem? hx
          have my := List.mem_of_getElem? hy
          have HSX := Lib.hid (SA.out x mx)
          have HSY := Lib.hid (SB.out y my)
          have HVX := Lib.hid (rchk_val _ ((chkV_ok VA.out).2 _ (List.mem_map.2 ⟨x, mx, rfl⟩)))
          have HVY := Lib.hid (rchk_val _ ((chkV_ok VB.out).2 _ (List.mem_map.2 ⟨y, my, rfl⟩)))
          have HN := Lib.hid (show sm (k + 1) (totF (valsV (tx1 a)) (valsV (tx1 b))) = sm k (totF (valsV (tx1 a)) (valsV (tx1 b))) + rval (SL x) * rval (SL y) * rval (SL y) by
            rw [sm]
            congr 1
            simp [totF, valsV, tx1, List.getD_eq_getElem?_getD, hx, hy])
          have hfs : k * ((210 + 210) + (210 + 210) + 1) + 1 ≤ 40000 := by omega
          have HFS := Lib.hid ((fitR_sum (N := (210 + 210) + (210 + 210)) (f := totF (valsV (tx1 a)) (valsV (tx1 b))) k fun i _ => fitR_mul (fitR_mul (FA.out.at_ i) (FB.out.at_ i)) ((FB.out.at_ i).mono (Nat.le_add_right 210 210))).mono hfs)
          clear hfs
          have HC := Lib.hid (res_any x wb HSX.out (tab_below HTB.out HB.out))
          rw [HRS.out x mx] at HC
          generalize hs1 : sm (k + 1) (totF (valsV (tx1 a)) (valsV (tx1 b))) = s1 at *
          have HE1 := Lib.hid hs1
          clear hs1
          generalize sm k (totF (valsV (tx1 a)) (valsV (tx1 b))) = s0 at *
          clear hx hy hu hu2 mx my
          go_wp2_with fail
          refine HC.out.mono ?_
          rintro e w5 ⟨rfl, hb⟩
          have HB5 := Lib.hid (HB.out.trans (hb.mono HB.out.size))
          have HV5 := Lib.hid (HV.out.below hb)
          have ca5 := cell_below hc hb
          have cb5 := cell_below hc2 hb
          have HP := Lib.hid (parse_any y w5 HSY.out HVY.out)
          clear hb HC HB HV hc hc2
          go_wp2_with fail
          refine HP.out.mono ?_
          rintro e w6 ⟨v6, rfl, hv, hb⟩
          obtain ⟨xb, xn, xnl, xnc, xd, xdl, xdc, rfl⟩ := hv.bools
          obtain ⟨vx, hb1⟩ := boxes1 w6 (.bool xb) (.slice xn xnl xnc) (.bool false) (.slice xd xdl xdc)
          have hd := below_draw (w6.alloc (.cells #[.bool xb, .slice xn xnl xnc, .bool false, .slice xd xdl xdc] ratT))
          have hB6 := HB5.out.trans (hb.mono HB5.out.size)
          have hB7 := hB6.trans (hb1.mono hB6.size)
          have HB7 := Lib.hid (hB7.trans (hd.mono hB7.size))
          have VX := Lib.hid (vx.below hd)
          have RX := Lib.hid ((hv.ext hb1).ext hd)
          obtain ⟨tb, An, ln, cn, Ad, ld, cd, vs, hs⟩ := ((HV5.out.below hb).below hb1).below hd
          have VS := Lib.hid vs
          have HSQ := Lib.hid hs
          have CA := Lib.hid (cell_below (cell_below (cell_below ca5 hb) hb1) hd)
          have hxs : w6.heap.size ≠ sB := by
            have := (show sB < w6.heap.size by obtain ⟨_, _, _, _, _, _, _, h, _⟩ := HV5.out.below hb; exact h.lt)
            omega
          clear hv hb vx hb1 hd hB6 hB7 vs hs HP HV5 HB5 ca5
          unfold ratT at *
          go_upto_region 18 with (fail)
          clear cb5
          generalize w6.heap.size = xB at *
          generalize w6.alloc (Obj.cells #[Value.bool xb, Value.slice xn xnl xnc, Value.bool false, Value.slice xd xdl xdc] 82) = W0 at *
          refine wp_region_c (fun w' => w'.cell? ⟨sB, 0, none⟩ = some (.bool tb) ∧ w'.cell? ⟨sB, 1, none⟩ = some (.slice An ln cn) ∧ w'.cell? ⟨sB, 2, none⟩ = some (.bool false) ∧ w'.cell? ⟨sB, 3, none⟩ = some (.slice Ad ld cd) ∧ w'.cell? ⟨xB, 0, none⟩ = some (.bool xb) ∧ w'.cell? ⟨xB, 1, none⟩ = some (.slice xn xnl xnc) ∧ w'.cell? ⟨xB, 2, none⟩ = some (.bool false) ∧ w'.cell? ⟨xB, 3, none⟩ = some (.slice xd xdl xdc) ∧ w'.cell? ⟨p, off + k, none⟩ = some (Sv x)) 11 (by kernel_rfl) ?_
          generalize W0.drew = W1 at *
          refine wpAnyC_take8 (i := 0) (oi := _) (v := .agg #[.bool tb, .slice An ln cn, .bool false, .slice Ad ld cd]) rfl (by kernel_rfl) (by kernel_rfl) (by kernel_rfl) (by kernel_rfl) (by kernel_rfl) (by kernel_rfl) (fun _ _ _ h => h) (Or.inl ⟨by rfl, ?_⟩) ⟨VS.out.c0, VS.out.c1, VS.out.c2, VS.out.c3, VX.out.c0, VX.out.c1, VX.out.c2, VX.out.c3, CA.out⟩ ?_
          · intro w hSw
            obtain ⟨s0, s1, s2, s3, s4, s5, s6, s7, s8⟩ := hSw
            go_simp
          try simp only [Act.put, List.setIfInBounds_toArray]
          refine wpAnyC_take8 (i := 1) (oi := _) (v := .slice (some ⟨p, off, none⟩) n ca) rfl (by kernel_rfl) (by kernel_rfl) (by kernel_rfl) (by kernel_rfl) (by kernel_rfl) (by kernel_rfl) (fun _ _ _ h => h) (Or.inl ⟨by rfl, ?_⟩) ⟨VS.out.c0, VS.out.c1, VS.out.c2, VS.out.c3, VX.out.c0, VX.out.c1, VX.out.c2, VX.out.c3, CA.out⟩ ?_
          · intro w hSw
            obtain ⟨s0, s1, s2, s3, s4, s5, s6, s7, s8⟩ := hSw
            go_simp
          try simp only [Act.put]
          refine wpAnyC_take8 (i := 2) (oi := _) (v := I k) rfl (by kernel_rfl) (by kernel_rfl) (by kernel_rfl) (by kernel_rfl) (by kernel_rfl) (by kernel_rfl) (fun _ _ _ h => h) (Or.inl ⟨by rfl, ?_⟩) ⟨VS.out.c0, VS.out.c1, VS.out.c2, VS.out.c3, VX.out.c0, VX.out.c1, VX.out.c2, VX.out.c3, CA.out⟩ ?_
          · intro w hSw
            obtain ⟨s0, s1, s2, s3, s4, s5, s6, s7, s8⟩ := hSw
            go_simp
          try simp only [Act.put]
          refine wpAnyC_take8 (i := 3) (oi := _) (v := .pointer (some ⟨p, off + k, none⟩)) rfl (by kernel_rfl) (by kernel_rfl) (by kernel_rfl) (by kernel_rfl) (by kernel_rfl) (by kernel_rfl) (fun _ _ _ h => h) (Or.inl ⟨by rfl, ?_⟩) ⟨VS.out.c0, VS.out.c1, VS.out.c2, VS.out.c3, VX.out.c0, VX.out.c1, VX.out.c2, VX.out.c3, CA.out⟩ ?_
          · intro w hSw
            obtain ⟨s0, s1, s2, s3, s4, s5, s6, s7, s8⟩ := hSw
            go_simp
          try simp only [Act.put]
          refine wpAnyC_take8 (i := 4) (oi := _) (v := Sv x) rfl (by kernel_rfl) (by kernel_rfl) (by kernel_rfl) (by kernel_rfl) (by kernel_rfl) (by kernel_rfl) (fun _ _ _ h => h) (Or.inl ⟨by rfl, ?_⟩) ⟨VS.out.c0, VS.out.c1, VS.out.c2, VS.out.c3, VX.out.c0, VX.out.c1, VX.out.c2, VX.out.c3, CA.out⟩ ?_
          · intro w hSw
            obtain ⟨s0, s1, s2, s3, s4, s5, s6, s7, s8⟩ := hSw
            go_simp
          try simp only [Act.put]
          refine wpAnyC_take8 (i := 6) (oi := _) (v := .agg #[.bool xb, .slice xn xnl xnc, .bool false, .slice xd xdl xdc]) rfl (by kernel_rfl) (by kernel_rfl) (by kernel_rfl) (by kernel_rfl) (by kernel_rfl) (by kernel_rfl) (fun _ _ _ h => h) (Or.inl ⟨by rfl, ?_⟩) ⟨VS.out.c0, VS.out.c1, VS.out.c2, VS.out.c3, VX.out.c0, VX.out.c1, VX.out.c2, VX.out.c3, CA.out⟩ ?_
          · intro w hSw
            obtain ⟨s0, s1, s2, s3, s4, s5, s6, s7, s8⟩ := hSw
            go_simp
          try simp only [Act.put]
          refine wpAnyC_take8 (i := 8) (oi := _) (v := .agg #[.bool xb, .slice xn xnl xnc, .bool false, .slice xd xdl xdc]) rfl (by kernel_rfl) (by kernel_rfl) (by kernel_rfl) (by kernel_rfl) (by kernel_rfl) (by kernel_rfl) (fun _ _ _ h => h) (Or.inl ⟨by rfl, ?_⟩) ⟨VS.out.c0, VS.out.c1, VS.out.c2, VS.out.c3, VX.out.c0, VX.out.c1, VX.out.c2, VX.out.c3, CA.out⟩ ?_
          · intro w hSw
            obtain ⟨s0, s1, s2, s3, s4, s5, s6, s7, s8⟩ := hSw
            go_simp
          try simp only [Act.put]
          refine wpAnyC_one (i := 5) (by kernel_rfl) rfl (fun K hK => ?_)
          go_simp
          go_at_call 56
          refine (parse_any x W1 HSX.out HVX.out).mono ?_
          rintro e W2 ⟨v2, rfl, hv, hb⟩
          have VS2 := Lib.hid (VS.out.below hb)
          have VX2 := Lib.hid (VX.out.below hb)
          have CA2 := Lib.hid (cell_below CA.out hb)
          have RX2 := Lib.hid (RX.out.ext hb)
          have HSQ2 := Lib.hid (HSQ.out.ext hb)
          have HBB2 := Lib.hid (HB7.out.trans (hb.mono HB7.out.size))
          have HR2 := Lib.hid hv
          clear hb hv VS VX CA RX HSQ HB7
          refine hK.out _ _ (fun _ => ⟨VS2.out.c0, VS2.out.c1, VS2.out.c2, VS2.out.c3, VX2.out.c0, VX2.out.c1, VX2.out.c2, VX2.out.c3, CA2.out⟩) ?_
          clear hK K
          try simp only [Act.put, List.setIfInBounds_toArray, List.set_cons_zero, List.set_cons_succ]
          refine wpAnyC_one (i := 7) (by kernel_rfl) rfl (fun K hK => ?_)
          go_simp
          go_at_call 67
          refine (rmul_any _ _ (rval (SL x)) (rval (SL y)) _ HR2.out RX2.out (N := 210) (by decide) (val_fit HVX.out) (val_fit HVY.out)).mono ?_
          rintro e W3 ⟨v3, rfl, hv, hb⟩
          have VS3 := Lib.hid (VS2.out.below hb)
          have VX3 := Lib.hid (VX2.out.below hb)
          have CA3 := Lib.hid (cell_below CA2.out hb)
          have RX3 := Lib.hid (RX2.out.ext hb)
          have HSQ3 := Lib.hid (HSQ2.out.ext hb)
          have HBB3 := Lib.hid (HBB2.out.trans (hb.mono HBB2.out.size))
          have HR3 := Lib.hid hv
          clear hb hv VS2 VX2 CA2 RX2 HSQ2 HBB2
          refine hK.out _ _ (fun _ => ⟨VS3.out.c0, VS3.out.c1, VS3.out.c2, VS3.out.c3, VX3.out.c0, VX3.out.c1, VX3.out.c2, VX3.out.c3, CA3.out⟩) ?_
          clear hK K
          try simp only [Act.put, List.setIfInBounds_toArray, List.set_cons_zero, List.set_cons_succ]
          refine wpAnyC_one (i := 9) (by kernel_rfl) rfl (fun K hK => ?_)
          go_simp
          go_at_call 67
          refine (rmul_any _ _ (rval (SL x) * rval (SL y)) (rval (SL y)) _ HR3.out RX3.out (N := 210 + 210) (by decide) (fitR_mul (val_fit HVX.out) (val_fit HVY.out)) ((val_fit HVY.out).mono (Nat.le_add_right 210 210))).mono ?_
          rintro e W4 ⟨v4, rfl, hv, hb⟩
          have VS4 := Lib.hid (VS3.out.below hb)
          have VX4 := Lib.hid (VX3.out.below hb)
          have CA4 := Lib.hid (cell_below CA3.out hb)
          have RX4 := Lib.hid (RX3.out.ext hb)
          have HSQ4 := Lib.hid (HSQ3.out.ext hb)
          have HBB4 := Lib.hid (HBB3.out.trans (hb.mono HBB3.out.size))
          have HR4 := Lib.hid hv
          clear hb hv VS3 VX3 CA3 RX3 HSQ3 HBB3
          refine hK.out _ _ (fun _ => ⟨VS4.out.c0, VS4.out.c1, VS4.out.c2, VS4.out.c3, VX4.out.c0, VX4.out.c1, VX4.out.c2, VX4.out.c3, CA4.out⟩) ?_
          clear hK K
          try simp only [Act.put, List.setIfInBounds_toArray, List.set_cons_zero, List.set_cons_succ]
          refine wpAnyC_one (i := 10) (by kernel_rfl) rfl (fun K hK => ?_)
          go_simp
          go_at_call 96
          refine (radd_any _ _ s0 (rval (SL x) * rval (SL y) * rval (SL y)) _ HSQ4.out HR4.out (N := 40000) (Nat.le_of_ble_eq_true rfl) HFS.out ((fitR_mul (fitR_mul (val_fit HVX.out) (val_fit HVY.out)) ((val_fit HVY.out).mono (Nat.le_add_right 210 210))).mono (Nat.le_of_ble_eq_true rfl))).mono ?_
          rintro e W5 ⟨v5, rfl, hv, hb⟩
          obtain ⟨qb, qn, qnl, qnc, qd, qdl, qdc, rfl⟩ := hv.bools
          have VS5 := Lib.hid (VS4.out.below hb)
          have VX5 := Lib.hid (VX4.out.below hb)
          have CA5 := Lib.hid (cell_below CA4.out hb)
          have RX5 := Lib.hid (RX4.out.ext hb)
          have HSQ5 := Lib.hid (HSQ4.out.ext hb)
          have HBB5 := Lib.hid (HBB4.out.trans (hb.mono HBB4.out.size))
          have HR5 := Lib.hid hv
          clear hb hv VS4 VX4 CA4 RX4 HSQ4 HBB4
          refine hK.out _ _ (fun _ => ⟨VS5.out.c0, VS5.out.c1, VS5.out.c2, VS5.out.c3, VX5.out.c0, VX5.out.c1, VX5.out.c2, VX5.out.c3, CA5.out⟩) ?_
          clear hK K
          try simp only [Act.put, List.setIfInBounds_toArray, List.set_cons_zero, List.set_cons_succ]
          have HBN := Lib.hid (below_set4 HBB5.out (g := sB) hR (.bool qb) (.slice qn qnl qnc) (.bool false) (.slice qd qdl qdc))
          have HVN := Lib.hid (show Vq _ sB s1 from ⟨_, _, _, _, _, _, _, VS5.out.set (.bool qb) (.slice qn qnl qnc) (.bool false) (.slice qd qdl qdc), by rw [HN.out]; exact HR5.out.set4 VS5.out (.bool qb) (.slice qn qnl qnc) (.bool false) (.slice qd qdl qdc)⟩)
          unfold set4 at HBN HVN
          have r0 := VS5.out.c0
          have q0 := VS5.out.f0
          have r1 := VS5.out.c1
          have q1 := VS5.out.f1
          have r2 := VS5.out.c2
          have q2 := VS5.out.f2
          have r3 := VS5.out.c3
          have q3 := VS5.out.f3
          clear VX5 CA5 RX5 HSQ5 HBB5 HR5 VS5
          refine wpAnyC_one (i := 11) (by kernel_rfl) rfl (fun K hK => ?_)
          go_simp
          refine hK.out _ _ (fun h => absurd h (by decide)) ?_
          clear hK K
          clear r0 r1 r2 r3 q0 q1 q2 q3
          refine wpAnyC_done (by kernel_rfl) ?_ _
          go_wp2
          go_roundg (n - (k + 1))
          case measure => omega
          case rel => exact ⟨k + 1, rfl, by go_num, by omega, by rw [HE1.out]; exact HVN, HBN⟩
        · have hkn : k = n := by omega
          subst hkn
          obtain ⟨tb, An, ln, cn, Ad, ld, cd, vs, hs⟩ := HV.out
          have HC := Lib.hid (lossText_any _ _ wb hs (tab_below HTB.out HB.out))
          have s0 := vs.c0
          have s1 := vs.c1
          have s2 := vs.c2
          have s3 := vs.c3
          clear vs hs HV
          go_wp2_with fail
          refine HC.out.mono ?_
          rintro e w9 ⟨rfl, hb⟩
          have HBT := Lib.hid (HB.out.trans (hb.mono HB.out.size))
          clear hb HC HB s0 s1 s2 s3
          go_wp2
          go_ret2
          exact ⟨rfl, HBT.out⟩
end Go.Proofs.YtmnedfkinepnfaaGreatDoor
namespace Go.Proofs.YtmnedfkinepnfaaGreatDoor
open Go.RowKit

def lhT (s : ByteArray) : Bool := decide (100 < s.size)
def lhS (l : List ByteArray) : Bool := l.any lhT
set_option maxRecDepth 100000 in
theorem len1_any (s : ByteArray) (w : World) : Calls Tryz.prog 65 #[.string s] w fun e w' => e = .returned (.bool (lhT s)) ∧ w' = w := by
  go_enter Tryz.func65, Tryz.ntmps65
  go_wp2
  go_ret
  exact ⟨ret_bool (decide_eq_decide.2 (by omega)), rfl⟩
set_option maxRecDepth 100000 in
set_option maxHeartbeats 400000 in
theorem idxlen_any (es : List ByteArray) (n : Nat) (A : Option Addr) (c : Nat) (w : World) (hr : Reads w w.heap.size 1 A n (es.map Sv)) (hn : n ≤ 1000000) :
    Calls Tryz.prog 119 #[.slice A n c, .func (.func 65) #[] #[]] w fun e w' => (∃ r, e = .returned (I r) ∧ decide (0 ≤ r) = es.any lhT) ∧ w' = w := by
  have HL := Lib.hid (show es.length = n by have := hr.1; simpa using this)
  have HR := Lib.hid hr
  clear hr
  go_enter Tryz.func119, Tryz.ntmps119
  go_wp2
  go_loopg [8] (n - 0) (fun r v wr => ∃ k : Nat, r = n - k ∧ v = I k ∧ k ≤ n ∧ wr = w ∧ Hid (es.any lhT = (es.drop k).any lhT))
  case atStart => exact ⟨0, rfl, rfl, by omega, rfl, rfl⟩
  case round =>
    obtain ⟨k, rfl, rfl, hk, rfl, HO⟩ := hrel
    by_cases hlt : k < n
    · obtain ⟨x, hx⟩ : ∃ x, es[k]? = some x := ⟨_, List.getElem?_eq_getElem (by rw [HL.out]; exact hlt)⟩
      obtain ⟨b, off, u, rfl, _, hu, hc⟩ := HR.out.at1 hlt
      obtain rfl : u = Sv x := by
        rw [List.getElem?_map, hx] at hu
        simpa using hu.symm
      have HCC := Lib.hid (len1_any x wr)
      clear hu
      have HO2 := Lib.hid (show es.any lhT = (lhT x || (es.drop (k + 1)).any lhT) by
        obtain ⟨h1, h2⟩ := List.getElem?_eq_some_iff.1 hx
        rw [HO.out, List.drop_eq_getElem_cons h1, h2]
        rfl)
      clear hx HO
      by_cases h0 : lhT x = true
      · have HF := Lib.hid (show decide (0 ≤ (k : Int)) = es.any lhT by
          rw [HO2.out, h0, decide_eq_true (by omega)]; rfl)
        go_wp2_with fail
        refine HCC.out.mono ?_
        rintro e w' ⟨rfl, rfl⟩
        clear HCC
        rw [h0]
        clear HO2 h0
        go_wp2
        go_ret
        exact ⟨⟨_, rfl, HF.out⟩, rfl⟩
      · have h0 : lhT x = false := by simpa using h0
        have HO3 := Lib.hid (show es.any lhT = (es.drop (k + 1)).any lhT by rw [HO2.out, h0]; rfl)
        go_wp2_with fail
        refine HCC.out.mono ?_
        rintro e w' ⟨rfl, rfl⟩
        clear HCC
        rw [h0]
        clear HO2 h0
        go_wp2
        go_roundg (n - (k + 1))
        case measure => omega
        case rel => exact ⟨k + 1, rfl, by go_num, by omega, rfl, HO3⟩
    · have HF := Lib.hid (show decide (0 ≤ (-1 : Int)) = es.any lhT by
        rw [HO.out, List.drop_of_length_le (by rw [HL.out]; omega)]; rfl)
      clear HO
      go_wp2
      go_ret
      exact ⟨⟨_, rfl, HF.out⟩, rfl⟩
set_option maxRecDepth 100000 in
theorem contlen_any (es : List ByteArray) (n : Nat) (A : Option Addr) (c : Nat) (w : World) (hr : Reads w w.heap.size 1 A n (es.map Sv)) (hn : n ≤ 1000000) :
    Calls Tryz.prog 63 #[.slice A n c, .func (.func 65) #[] #[]] w fun e w' => e = .returned (.bool (lhS es)) ∧ w' = w := by
  have HX := Lib.hid (idxlen_any es n A c w hr hn)
  clear hr
  go_enter Tryz.func63, Tryz.ntmps63
  go_wp2_with fail
  refine HX.out.mono ?_
  rintro e w1 ⟨⟨r, rfl, hr⟩, rfl⟩
  have HR := Lib.hid hr
  clear hr HX
  go_wp2
  go_ret
  exact ⟨ret_bool HR.out, rfl⟩
end Go.Proofs.YtmnedfkinepnfaaGreatDoor
namespace Go.Proofs.YtmnedfkinepnfaaGreatDoor
open Go.RowKit

theorem ratTx_len' (q : Rat) : (ratTx q).1.length ≤ 4002 := by
  unfold ratTx
  split
  · rename_i h; exact qTextLen h
  · exact Nat.zero_le _
theorem ratMul_len (a b : List UInt8) : (ratMul a b).1.length ≤ 4002 := by
  unfold ratMul rOp
  split
  · exact ratTx_len' _
  · exact Nat.zero_le _
set_option maxRecDepth 100000 in
set_option maxHeartbeats 1000000 in
theorem at_any (a b f : ByteArray) (w : World) (ha : a.size ≤ 9223372036854775807) (hb : b.size ≤ 9223372036854775807) (hf : f.size ≤ 9223372036854775807) (htab : Tab w) :
    Calls Tryz.prog 26 #[.agg #[.string a, .string b], .string f] w fun e w' => e = .returned (.tuple #[.string ⟨(atT (SL a) (SL b) (SL f)).1.toArray⟩, .bool (atT (SL a) (SL b) (SL f)).2]) ∧ Below w.heap.size w w' := by
  obtain ⟨m1, m2, hm⟩ : ∃ m1 m2, ratMul (SL b) (SL f) = (m1, m2) := ⟨_, _, rfl⟩
  obtain ⟨s1, s2, hs⟩ : ∃ s1 s2, ratAdd (SL a) m1 = (s1, s2) := ⟨_, _, rfl⟩
  have hl : m1.length ≤ 4002 := by have := ratMul_len (SL b) (SL f); rwa [hm] at this
  rw [show atT (SL a) (SL b) (SL f) = (s1, m2 == 0 && s2 == 0) by rw [atT, hm]; show ((ratAdd (SL a) m1).1, m2 == 0 && (ratAdd (SL a) m1).2 == 0) = _; rw [hs]]
  have hb0 := below_new w (.cells #[.string a, .string b] 43)
  have hk0 := Blk.new w 43 #[.string a, .string b]
  have K0 := Lib.hid (hk0.cell 0)
  have k1 := hk0.cell 1
  have hmm := ratMul_any b f (w.alloc (.cells #[.string a, .string b] 43)) hb hf (tab_below htab hb0)
  rw [hm] at hmm
  have HM := Lib.hid hmm
  have HB0 := Lib.hid hb0
  have HTB := Lib.hid htab
  have HS := Lib.hid hs
  have k0 := K0.out
  clear hb0 hk0 htab hmm hm hs
  go_enter Tryz.func26, Tryz.ntmps26
  go_wp2_with fail
  refine HM.out.mono ?_
  rintro e w1 ⟨rfl, hb1⟩
  have HB1 := Lib.hid (HB0.out.trans (hb1.mono HB0.out.size))
  have c0 := cell_below K0.out hb1
  have hA := ratAdd_any a ⟨m1.toArray⟩ w1 ha (by
    show m1.toArray.size ≤ _
    rw [List.size_toArray]; omega) (tab_below HTB.out HB1.out)
  rw [show ratAdd (SL a) (SL ⟨m1.toArray⟩) = (s1, s2) from HS.out] at hA
  have HA := Lib.hid hA
  clear hb1 HM HB0 K0 k0 k1 hA
  go_wp2_with fail
  refine HA.out.mono ?_
  rintro e w2 ⟨rfl, hb2⟩
  have HB2 := Lib.hid (HB1.out.trans (hb2.mono HB1.out.size))
  clear hb2 HA HB1 c0
  by_cases hm0 : m2 = 0
  · subst hm0
    by_cases hs0 : s2 = 0
    · subst hs0
      go_wp2
      go_ret2
      exact ⟨rfl, HB2.out⟩
    · have t0 : (s2 == 0) = false := beq_eq_false_iff_ne.2 hs0
      clear hs0
      go_wp2
      go_ret2
      exact ⟨by rw [t0]; rfl, HB2.out⟩
  · have t0 : (m2 == 0) = false := beq_eq_false_iff_ne.2 hm0
    clear hm0
    go_wp2
    go_ret2
    exact ⟨by rw [t0]; rfl, HB2.out⟩
end Go.Proofs.YtmnedfkinepnfaaGreatDoor
namespace Go.Proofs.YtmnedfkinepnfaaGreatDoor
open Go.RowKit

/-- the cells of a row of loss pieces -/
def lpV (l : List (ByteArray × ByteArray)) : List Value := l.flatMap fun p => [Sv p.1, Sv p.2]
theorem lpV_len (l : List (ByteArray × ByteArray)) : (lpV l).length = l.length * 2 := by
  induction l with
  | nil => rfl
  | cons p l ih => simp only [lpV, List.flatMap_cons, List.length_append, List.length_cons, List.length_nil] at ih ⊢; omega
theorem lpV_at : ∀ {l : List (ByteArray × ByteArray)} {k : Nat} {p : ByteArray × ByteArray}, l[k]? = some p → (lpV l)[k * 2]? = some (Sv p.1) ∧ (lpV l)[k * 2 + 1]? = some (Sv p.2)
  | [], _, _, h => by simp at h
  | q :: l, 0, p, h => by simp at h; subst h; exact ⟨rfl, rfl⟩
  | q :: l, k + 1, p, h => by
    have := lpV_at (l := l) (k := k) (by simpa using h)
    rw [show (k + 1) * 2 = k * 2 + 2 by omega]
    exact this
theorem toList_inj {a b : ByteArray} (h : a.toList = b.toList) : a = b := (Lib.bytes_beq_iff _ _).1 (beq_iff_eq.2 h)
set_option maxRecDepth 100000 in
set_option maxHeartbeats 1000000 in
theorem lpEqual_any (a b : List (ByteArray × ByteArray)) (n m : Nat) (A B : Option Addr) (ca cb : Nat) (w : World) (ha : Reads w w.heap.size 2 A n (lpV a)) (hb : Reads w w.heap.size 2 B m (lpV b)) (hn : n ≤ 1000000) (hm : m ≤ 1000000) :
    Calls Tryz.prog 52 #[.slice A n ca, .slice B m cb] w fun e w' => e = .returned (.bool (decide (a = b))) ∧ Below w.heap.size w w' := by
  have la : a.length = n := by have := ha.1; rw [lpV_len] at this; omega
  have lb : b.length = m := by have := hb.1; rw [lpV_len] at this; omega
  by_cases hnm : n = m
  · subst hnm
    have HA := Lib.hid ha
    have HBB := Lib.hid hb
    have LA := Lib.hid la
    have LB := Lib.hid lb
    clear ha hb la lb
    go_enter Tryz.func52, Tryz.ntmps52
    go_wp2
    go_loopg [13] (n - 0) (fun r v wr => ∃ k : Nat, r = n - k ∧ v = I k ∧ k ≤ n ∧ Hid (decide (a = b) = decide (a.drop k = b.drop k)) ∧ Hid (Below w.heap.size w wr))
    case atStart => exact ⟨0, rfl, rfl, by omega, rfl, Below.refl _ _⟩
    case round =>
      obtain ⟨k, rfl, rfl, hk, HE, HB⟩ := hrel
      obtain ⟨wa, rfl⟩ : ∃ wa : World, wa = wr := ⟨_, rfl⟩
      by_cases hlt : k < n
      · obtain ⟨p, hp⟩ : ∃ p, a[k]? = some p := ⟨_, List.getElem?_eq_getElem (by rw [LA.out]; exact hlt)⟩
        obtain ⟨q, hq⟩ : ∃ q, b[k]? = some q := ⟨_, List.getElem?_eq_getElem (by rw [LB.out]; exact hlt)⟩
        obtain ⟨g, o, rfl, _, hc⟩ := ((HA.out.below HB.out).more HB.out.size).2 (by omega)
        obtain ⟨g2, o2, rfl, _, hc2⟩ := ((HBB.out.below HB.out).more HB.out.size).2 (by omega)
        have a0 := hc _ _ (lpV_at hp).1
        have a1 := hc _ _ (lpV_at hp).2
        have b0 := hc2 _ _ (lpV_at hq).1
        have b1 := hc2 _ _ (lpV_at hq).2
        have HST := Lib.hid (show decide (a.drop k = b.drop k) = (decide (p = q) && decide (a.drop (k + 1) = b.drop (k + 1))) by
          obtain ⟨h1, e1⟩ := List.getElem?_eq_some_iff.1 hp
          obtain ⟨h2, e2⟩ := List.getElem?_eq_some_iff.1 hq
          rw [List.drop_eq_getElem_cons h1, List.drop_eq_getElem_cons h2, e1, e2, ← Bool.decide_and]
          exact decide_eq_decide.2 List.cons_eq_cons)
        obtain ⟨p1, p2⟩ := p
        obtain ⟨q1, q2⟩ := q
        clear hc hc2 hp hq
        rw [← Nat.add_assoc] at a1 b1
        by_cases e1 : p1 = q1
        · subst e1
          by_cases e2 : p2 = q2
          · subst e2
            have HN := Lib.hid (show decide (a = b) = decide (a.drop (k + 1) = b.drop (k + 1)) by rw [HE.out, HST.out, decide_eq_true rfl, Bool.true_and])
            have HB1 := Lib.hid (HB.out.trans ((below_draw wa).mono HB.out.size))
            clear HE HST HB
            go_upto_region 6 with (fail)
            go_region
            clear a0 a1 b0 b1
            go_wp2
            go_roundg (n - (k + 1))
            case measure => omega
            case rel => exact ⟨k + 1, rfl, by go_num, by omega, HN, HB1⟩
          · have ne2 : ¬ p2.toList = q2.toList := fun h => e2 (toList_inj h)
            have HF := Lib.hid (show decide (a = b) = false by rw [HE.out, HST.out, decide_eq_false (fun h => e2 (Prod.mk.inj h).2), Bool.false_and])
            have HB1 := Lib.hid (HB.out.trans ((below_draw wa).mono HB.out.size))
            clear HE HST HB e2
            go_upto_region 6 with (fail)
            go_region
            clear a0 a1 b0 b1
            go_wp2
            go_ret
            exact ⟨ret_bool HF.out.symm, HB1.out⟩
        · have ne1 : ¬ p1.toList = q1.toList := fun h => e1 (toList_inj h)
          have HF := Lib.hid (show decide (a = b) = false by rw [HE.out, HST.out, decide_eq_false (fun h => e1 (Prod.mk.inj h).1), Bool.false_and])
          have HB1 := Lib.hid (HB.out.trans ((below_draw wa).mono HB.out.size))
          clear HE HST HB e1
          go_upto_region 6 with (fail)
          go_region
          clear a0 a1 b0 b1
          go_wp2
          go_ret
          exact ⟨ret_bool HF.out.symm, HB1.out⟩
      · have HF := Lib.hid (show decide (a = b) = true by rw [HE.out, List.drop_of_length_le (by rw [LA.out]; omega), List.drop_of_length_le (by rw [LB.out]; omega)]; rfl)
        clear HE
        go_wp2
        go_ret
        exact ⟨ret_bool HF.out.symm, HB.out⟩
  · have HF := Lib.hid (show decide (a = b) = false from decide_eq_false fun h => hnm (by rw [← la, ← lb, h]))
    clear ha hb la lb
    go_enter Tryz.func52, Tryz.ntmps52
    go_wp2
    go_ret
    exact ⟨ret_bool HF.out.symm, Below.refl _ _⟩
end Go.Proofs.YtmnedfkinepnfaaGreatDoor
namespace Go.Proofs.YtmnedfkinepnfaaGreatDoor
open Go.RowKit

theorem info_str1 : (Tryz.prog.info? strT).map (fun i => (i.zero, i.size, i.bytes)) = some (some (.string ⟨#[]⟩), 1, 16) := by kernel_rfl
theorem row_empty (w : World) (e : TypeId) : Row (w.alloc (.cells #[] e)) w.heap.size e 1 (.slice (some ⟨w.heap.size, 0, none⟩) 0 0) 0 [] :=
  ⟨rfl, .inr ⟨w.heap.size, 0, 0, #[], rfl, Nat.le_refl _, Blk.new w e #[], Nat.le_refl _, by unfold maxLen; omega, Nat.le_refl _, rfl⟩⟩
set_option maxRecDepth 100000 in
set_option maxHeartbeats 1000000 in
theorem cloneS_any (l : List ByteArray) (n : Nat) (A : Option Addr) (c : Nat) (w : World) (hr : Reads w w.heap.size 1 A n (l.map Sv)) (hn : n ≤ 1000) :
    Calls Tryz.prog 64 #[.slice A n c] w fun e w' => ∃ v, e = .returned v ∧ Row w' w.heap.size strT 1 v n (l.map Sv) ∧ Below w.heap.size w w' := by
  obtain ⟨i0, hi, hz0, hz1, hz2⟩ := info_parts info_str1
  have q1 : ∀ (w : World) (a : Option Addr) (n c n' c' : Nat), (binOp .eql 23 (.slice a n c) (.slice none n' c')).run Tryz.prog w = .ok (.bool a.isNone) w := fun w a n c n' c' => Lib.run_eql_slice_nil w _ _ a n c n' c' Tryz.underlying23
  cases A with
  | none =>
    have h0 : n = 0 := by
      by_cases h : 0 < n
      · obtain ⟨_, _, e, _⟩ := hr.2 h; cases e
      · omega
    subst h0
    have hl : l = [] := by have := hr.1; simpa using this
    subst hl
    clear hr hi hz0 hz1 hz2
    go_enter Tryz.func64, Tryz.ntmps64
    go_wp2
    go_ret
    exact ⟨_, rfl, Row.nil _ _ _ _, Below.refl _ _⟩
  | some ad =>
    have HR := Lib.hid hr
    have HI := Lib.hid hi
    have HZ0 := Lib.hid hz0
    have HZ1 := Lib.hid hz1
    have HZ2 := Lib.hid hz2
    clear hr hi hz0 hz1 hz2
    unfold strT at *
    go_enter Tryz.func64, Tryz.ntmps64
    go_wp2_with (at_builtin; refine wpList_append_rowG rfl _ _ 23 rfl w.heap.size 22 i0 _ 1 16 Tryz.underlying23 HI.out HZ0.out HZ1.out HZ2.out rfl (by decide) _ 0 [] rfl (row_empty w _) w.heap.size (some ad) n c (l.map Sv) rfl (HR.out.below ((Below.refl _ _).alloc (Nat.le_refl _) _)) (by intro u hu; obtain ⟨s, _, rfl⟩ := List.mem_map.1 hu; rfl) ?c1 ?c2 ?c3 ?_)
    case c1 => unfold maxLen; omega
    case c2 => omega
    case c3 => simp
    intro v' w3 hr3 hg3
    have HR3 := Lib.hid hr3
    have HB3 := Lib.hid (show Below w.heap.size w w3 from ((Below.refl _ w).alloc (Nat.le_refl _) _).trans ((row_empty w _).belowG hg3 (by simp)))
    clear hr3 hg3
    go_wp2
    go_ret
    exact ⟨_, rfl, HR3.out, HB3.out⟩
theorem reads_str2 (w : World) (u v : ByteArray) (t : TypeId) : Reads (w.alloc (.cells #[Sv u, Sv v] t)) (w.heap.size + 1) 1 (some ⟨w.heap.size, 0, none⟩) 2 [Sv u, Sv v] := by
  have hB := Blk.new w t #[Sv u, Sv v]
  exact ⟨rfl, fun _ => ⟨w.heap.size, 0, rfl, Nat.lt_succ_self _, fun j x hx => by
    rw [Nat.zero_add, hB.cell]
    simpa using hx⟩⟩
set_option maxRecDepth 100000 in
set_option maxHeartbeats 1000000 in
theorem lengthy_any (r f : ByteArray) (l : List ByteArray) (n : Nat) (A : Option Addr) (c : Nat) (w : World) (hr : Reads w w.heap.size 1 A n (l.map Sv)) (hn : n ≤ 1000) :
    Calls Tryz.prog 16 #[.string r, .slice A n c, .string f] w fun e w' => e = .returned (.bool (lhS (l ++ [r, f]))) ∧ Below w.heap.size w w' := by
  obtain ⟨i0, hi, hz0, hz1, hz2⟩ := info_parts info_str1
  have HC := Lib.hid (cloneS_any l n A c w hr hn)
  have HI := Lib.hid hi
  have HZ0 := Lib.hid hz0
  have HZ1 := Lib.hid hz1
  have HZ2 := Lib.hid hz2
  clear hr hi hz0 hz1 hz2
  unfold strT at *
  go_enter Tryz.func16, Tryz.ntmps16
  go_wp2_with fail
  refine HC.out.mono ?_
  rintro e w1 ⟨v, rfl, hrow, hb⟩
  obtain ⟨A1, c1, rfl⟩ := hrow.val
  have HR := Lib.hid hrow
  have HB1 := Lib.hid hb
  clear hrow hb HC
  go_wp2_with (at_builtin; refine wpList_append_rowG rfl _ _ 23 rfl w.heap.size 22 i0 _ 1 16 Tryz.underlying23 HI.out HZ0.out HZ1.out HZ2.out rfl (by decide) _ n (l.map Sv) rfl (HR.out.alloc _) (w1.heap.size + 1) (some ⟨w1.heap.size, 0, none⟩) 2 2 [Sv r, Sv f] rfl (reads_str2 w1 r f _) (by intro u hu; simp at hu; rcases hu with rfl | rfl <;> rfl) ?c1 ?c2 ?c3 ?_)
  case c1 => unfold maxLen; omega
  case c2 => omega
  case c3 => have := HB1.out.size; simp; omega
  intro v' w3 hr3 hg3
  have HB3 := Lib.hid (show Below w.heap.size w w3 from (HB1.out.alloc HB1.out.size _).trans ((HR.out.alloc _).belowG hg3 (by have := HB1.out.size; simp; omega)))
  obtain ⟨A3, c3, rfl⟩ := hr3.val
  have HX := Lib.hid (contlen_any (l ++ [r, f]) (n + 2) A3 c3 w3 (by have := hr3.reads; simpa using this) (by omega))
  clear hr3 hg3 HR HB1
  go_wp2_with fail
  refine HX.out.mono ?_
  rintro e w4 ⟨rfl, rfl⟩
  clear HX
  go_wp2
  go_ret
  exact ⟨rfl, HB3.out⟩
end Go.Proofs.YtmnedfkinepnfaaGreatDoor
