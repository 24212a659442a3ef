/- loss.Gap. The plain laws of LossBounds and LossPieces. -/
import Derived.Test.YtmnedfkinepnfaaGreatDoorLJC
import Derived.Test.YtmnedfkinepnfaaGreatDoorLJA
namespace Go.Proofs.YtmnedfkinepnfaaGreatDoor
open Go.RowKit

section
variable {P : Program} {ops : Array Oper} {Q : Exit → Act → World → Prop} {md : Region.Mode} {S : World → Prop} {c : Nat}
/-- one of two comes up -/
theorem wpAnyC_two_ {i j : Nat} {o1 o2 : Oper} {fuel : Nat} {listed : Array Bool} {a : Act} {w : World} (hr : Region.ready md ops listed = [i, j]) (h1 : ops[i]? = some o1) (h2 : ops[j]? = some o2)
    (k1 : ∀ K' : Act → World → Prop, Shut (∀ a w, ((listed.setIfInBounds i true).getD c true = false → S w) → wpAnyC P md ops Q S c fuel (listed.setIfInBounds i true) a w → K' a w) → if Region.wanted o1 (yielded ops a.tmps) = true then Oper.wp P o1 a w K' Q else K' (a.put o1.dst undef) w)
    (k2 : ∀ K' : Act → World → Prop, Shut (∀ a w, ((listed.setIfInBounds j true).getD c true = false → S w) → wpAnyC P md ops Q S c fuel (listed.setIfInBounds j true) a w → K' a w) → if Region.wanted o2 (yielded ops a.tmps) = true then Oper.wp P o2 a w K' Q else K' (a.put o2.dst undef) w) : wpAnyC P md ops Q S c (fuel + 1) listed a w := by
  refine ⟨fun h0 => (by rw [hr] at h0; cases h0), fun x hx => ?_⟩
  rw [hr] at hx
  rcases List.mem_cons.1 hx with rfl | hx
  · exact wpOp_step h1 (fun K' hK => k1 K' (fun a w hS hW => hK a w ⟨hS, hW⟩))
  · obtain rfl : x = j := by simpa using hx
    exact wpOp_step h2 (fun K' hK => k2 K' (fun a w hS hW => hK a w ⟨hS, hW⟩))
end
theorem fit_four : FitR 1 (((4 : Int) : Rat)) := ⟨by unfold Fits; decide, by unfold Fits; decide⟩
theorem gap_step {l : List Rat} {k : Nat} {x y : Rat} (hx : l[k]? = some x) (hy : l[k + 1]? = some y) (far : Rat) : gapQ (l.drop k) far = gapQ (l.drop (k + 1)) (if far < y - x then y - x else far) := by
  obtain ⟨h1, e1⟩ := List.getElem?_eq_some_iff.1 hx
  obtain ⟨h2, e2⟩ := List.getElem?_eq_some_iff.1 hy
  rw [List.drop_eq_getElem_cons h1, List.drop_eq_getElem_cons h2, e1, e2, gapQ]
theorem gap_end {l : List Rat} {k : Nat} (h : l.length ≤ k + 1) (far : Rat) : gapQ (l.drop k) far = far := by
  by_cases h1 : k < l.length
  · rw [List.drop_eq_getElem_cons h1, List.drop_of_length_le (by omega)]; rfl
  · rw [List.drop_of_length_le (by omega)]; rfl
theorem cmpQ_gt' {x y : Rat} : decide (0 < (x.num * (y.den : Int) - y.num * (x.den : Int)).sign) = decide (y < x) := by
  show decide (0 < cmpQ x y) = _
  rcases cmpQ_cases x y with h | h | h
  · rw [h]; have := (cmpQ_lt _ _).1 h; rw [decide_eq_false (by decide), decide_eq_false (by grind)]
  · rw [h]; have := (cmpQ_eq _ _).1 h; rw [decide_eq_false (by decide), decide_eq_false (by grind)]
  · rw [h]; have := (cmpQ_gt _ _).1 h; rw [decide_eq_true (by decide), decide_eq_true (by grind)]
theorem fitR_sub {N M : Nat} {x y : Rat} (hx : FitR N x) (hy : FitR M y) : FitR (N + M + 1) (x - y) := by
  rw [Rat.sub_eq_add_neg]
  refine fitR_add hx ⟨?_, ?_⟩
  · have := hy.1
    unfold Fits at *
    rw [Rat.neg_num, Int.natAbs_neg]; exact this
  · have := hy.2
    rw [Rat.neg_den]; exact this
def gapT (r : List UInt8) (l : List (List UInt8)) : List UInt8 × Int := if lchk r l ≠ 0 then ([], lchk r l) else ratTx (rval r * gapQ (valsV l) 0 * gapQ (valsV l) 0 / 4)
set_option maxRecDepth 100000 in
set_option maxHeartbeats 4000000 in
theorem gap_any (r : ByteArray) (l : List ByteArray) (n : Nat) (A : Option Addr) (c : Nat) (w : World) (sr : r.size ≤ 9223372036854775807) (hr : Reads w w.heap.size 1 A n (l.map Sv)) (hs : Sh1 l) (htab : Tab w) :
    Calls Tryz.prog 18 #[.string r, .slice A n c] w (RetTx w (gapT (SL r) (tx1 l))) := by
  have HC := Lib.hid (lchk_any r l n A c w sr hr hs htab)
  have HRD := Lib.hid hr
  have HS := Lib.hid hs
  have HTB := Lib.hid htab
  have hl : l.length = n := by have := hr.1; simpa using this
  have HL := Lib.hid (show (tx1 l).length = n by rw [tx1, List.length_map, hl])
  clear hr hs htab hl
  by_cases h0 : lchk (SL r) (tx1 l) = 0
  · have HO := Lib.hid (lchk_ok h0)
    have HRES := Lib.hid (show gapT (SL r) (tx1 l) = ratTx (rval (SL r) * gapQ (valsV (tx1 l)) 0 * gapQ (valsV (tx1 l)) 0 / 4) by rw [gapT, if_neg (fun k => k h0)])
    rw [h0] at HC
    have HFR := Lib.hid (val_fit (rchk_val _ HO.out.rok))
    rw [HRES.out]
    clear h0 HRES
    have hn16 : n ≤ 16 := by rw [← HL.out]; exact HO.out.few
    have hn2 : 2 ≤ n := by rw [← HL.out]; exact HO.out.two
    go_enter Tryz.func18, Tryz.ntmps18
    go_wp2_with fail
    refine HC.out.mono ?_
    rintro e w1 ⟨rfl, hb⟩
    have HB1 := Lib.hid hb
    have HQ := Lib.hid (parseAll_any l n A c w1 ((HRD.out.below hb).more hb.size) HS.out (val1_of HO.out.vec) (by omega))
    clear hb HC
    go_wp2_with fail
    refine HQ.out.mono ?_
    rintro e w3 ⟨v3, rfl, hrow, hb⟩
    have HB3 := Lib.hid (HB1.out.trans (hb.mono HB1.out.size))
    have hlv : (valsV (tx1 l)).length = n := by rw [valsV, List.length_map, HL.out]
    obtain ⟨A3, c3, rfl⟩ := hrow.val
    rw [hlv] at hrow ⊢
    have HRV := Lib.hid hrow.rv
    have HLV := Lib.hid hlv
    have HF1 := Lib.hid (fit1_of HO.out.vec)
    have HW := Lib.hid (rwhole_any 0 w3 (by decide) (by decide))
    clear hb hrow hlv HQ HB1 HL
    generalize valsV (tx1 l) = ls at *
    go_wp2_with fail
    refine HW.out.mono ?_
    rintro e w4 ⟨v, rfl, hv, hb⟩
    obtain ⟨nb0, A0, l0, c0, B0, m0, d0, rfl⟩ := hv.bools
    obtain ⟨vs1, hb1⟩ := boxes1 w4 (.bool nb0) (.slice A0 l0 c0) (.bool false) (.slice B0 m0 d0)
    unfold ratT at vs1 hb1
    have HB4 := Lib.hid (hb.trans (hb1.mono hb.size))
    have HV4 := Lib.hid (show Vq _ w4.heap.size 0 from ⟨_, _, _, _, _, _, _, vs1, hv.ext hb1⟩)
    have hR : w3.heap.size ≤ w4.heap.size := hb.size
    have HG := Lib.hid (show gapQ ls 0 = gapQ (ls.drop 0) 0 from rfl)
    have HF0 := Lib.hid (show FitR 1000 0 from fitR_zero.mono (by omega))
    clear hv hb vs1 hb1 HW
    generalize hS : w4.heap.size = sB at *
    go_wp2
    go_loopg [9] (n - 0) (fun r v wr => ∃ (k : Nat) (far : Rat), r = n - k ∧ v = I ((k : Int) + 1) ∧ k + 1 ≤ n ∧ Hid (Vq wr sB far) ∧ Hid (gapQ ls 0 = gapQ (ls.drop k) far) ∧ Hid (FitR 1000 far) ∧ Hid (Below w3.heap.size w3 wr))
    case atStart => exact ⟨0, 0, rfl, rfl, by omega, HV4, HG, HF0, HB4⟩
    case round =>
      clear HV4 HG HF0 HB4
      obtain ⟨k, far, rfl, rfl, hk, HV, HG, HF, HB⟩ := hrel
      obtain ⟨wa, rfl⟩ : ∃ wa : World, wa = wr := ⟨_, rfl⟩
      by_cases hlt : k + 1 < n
      · obtain ⟨p, hp⟩ : ∃ p, ls[k]? = some p := ⟨_, List.getElem?_eq_getElem (by rw [HLV.out]; omega)⟩
        obtain ⟨q, hq⟩ : ∃ q, ls[k + 1]? = some q := ⟨_, List.getElem?_eq_getElem (by rw [HLV.out]; omega)⟩
        obtain ⟨b, o, nb, B1, l1, c1, B2, l2, c2, rfl, _, hC, hrt⟩ := (HRV.out.below HB.out).form (k := k) (by omega) p hp
        obtain ⟨b', o', mb, D1, m1, d1, D2, m2, d2, e', _, hD, hrd⟩ := (HRV.out.below HB.out).form hlt q hq
        obtain ⟨rfl, rfl⟩ : b = b' ∧ o = o' := by injection e' with e'; injection e' with e1 e2; exact ⟨e1, e2⟩
        have HFP := Lib.hid (HF1.out p (List.mem_of_getElem? hp))
        have HFQ := Lib.hid (HF1.out q (List.mem_of_getElem? hq))
        have HFD := Lib.hid ((fitR_sub HFQ.out HFP.out).mono (show 210 + 210 + 1 ≤ 1000 by omega))
        have HGN := Lib.hid (show gapQ ls 0 = gapQ (ls.drop (k + 1)) (if far < q - p then q - p else far) by rw [HG.out, gap_step hp hq])
        have hd := below_draw wa
        have CP1 := Lib.hid (hC.below hd)
        have CQ1 := Lib.hid (hD.below hd)
        have RP1 := Lib.hid (hrt.ext hd)
        have RQ1 := Lib.hid (hrd.ext hd)
        have HV1 := Lib.hid (HV.out.below hd)
        have HB1 := Lib.hid (HB.out.trans (hd.mono HB.out.size))
        have hs1 : (k : Int) + 1 - 1 = k := by omega
        have hwk : IntKind.i64.wrap ((k : Int)) = k := IntWalk.i64_in _ (by omega)
        have hnk : ¬ n ≤ k := by omega
        have hkl : k < n := by omega
        have hp0 : ¬ ((k : Int) + 1 < 0) := by omega
        clear e' hp hq hrt hrd hd hC hD HV HB HG
        go_upto_region 9 with (fail)
        refine wp_region_c (fun w' => w'.cell? ⟨b, o + k * 4, none⟩ = some (.bool nb) ∧ w'.cell? ⟨b, o + k * 4 + 1, none⟩ = some (.slice B1 l1 c1) ∧ w'.cell? ⟨b, o + k * 4 + 2, none⟩ = some (.bool false) ∧ w'.cell? ⟨b, o + k * 4 + 3, none⟩ = some (.slice B2 l2 c2) ∧ w'.cell? ⟨b, o + (k + 1) * 4, none⟩ = some (.bool mb) ∧ w'.cell? ⟨b, o + (k + 1) * 4 + 1, none⟩ = some (.slice D1 m1 d1) ∧ w'.cell? ⟨b, o + (k + 1) * 4 + 2, none⟩ = some (.bool false) ∧ w'.cell? ⟨b, o + (k + 1) * 4 + 3, none⟩ = some (.slice D2 m2 d2)) 9 (by kernel_rfl) ?_
        generalize wa.drew = W1 at *
        refine wpAnyC_take8 (i := 0) (oi := _) (v := .slice (some ⟨b, o, none⟩) n c3) rfl (by kernel_rfl) (by kernel_rfl) (by kernel_rfl) (by kernel_rfl) (by kernel_rfl) (by kernel_rfl) (fun _ _ _ h => h) (Or.inl ⟨by rfl, ?_⟩) ⟨CP1.out.c0, CP1.out.c1, CP1.out.c2, CP1.out.c3, CQ1.out.c0, CQ1.out.c1, CQ1.out.c2, CQ1.out.c3⟩ ?_
        · intro w hSw
          obtain ⟨s0, s1, s2, s3, s4, s5, s6, s7⟩ := hSw
          go_simp
        try simp only [Act.put, List.setIfInBounds_toArray]
        refine wpAnyC_take8 (i := 1) (oi := _) (v := I ((k : Int) + 1)) rfl (by kernel_rfl) (by kernel_rfl) (by kernel_rfl) (by kernel_rfl) (by kernel_rfl) (by kernel_rfl) (fun _ _ _ h => h) (Or.inl ⟨by rfl, ?_⟩) ⟨CP1.out.c0, CP1.out.c1, CP1.out.c2, CP1.out.c3, CQ1.out.c0, CQ1.out.c1, CQ1.out.c2, CQ1.out.c3⟩ ?_
        · intro w hSw
          obtain ⟨s0, s1, s2, s3, s4, s5, s6, s7⟩ := hSw
          go_simp
        try simp only [Act.put]
        refine wpAnyC_take8 (i := 2) (oi := _) (v := .pointer (some ⟨b, o + (k + 1) * 4, none⟩)) rfl (by kernel_rfl) (by kernel_rfl) (by kernel_rfl) (by kernel_rfl) (by kernel_rfl) (by kernel_rfl) (fun _ _ _ h => h) (Or.inl ⟨by rfl, ?_⟩) ⟨CP1.out.c0, CP1.out.c1, CP1.out.c2, CP1.out.c3, CQ1.out.c0, CQ1.out.c1, CQ1.out.c2, CQ1.out.c3⟩ ?_
        · intro w hSw
          obtain ⟨s0, s1, s2, s3, s4, s5, s6, s7⟩ := hSw
          go_simp
        try simp only [Act.put]
        refine wpAnyC_take8 (i := 3) (oi := _) (v := .agg #[.bool mb, .slice D1 m1 d1, .bool false, .slice D2 m2 d2]) rfl (by kernel_rfl) (by kernel_rfl) (by kernel_rfl) (by kernel_rfl) (by kernel_rfl) (by kernel_rfl) (fun _ _ _ h => h) (Or.inl ⟨by rfl, ?_⟩) ⟨CP1.out.c0, CP1.out.c1, CP1.out.c2, CP1.out.c3, CQ1.out.c0, CQ1.out.c1, CQ1.out.c2, CQ1.out.c3⟩ ?_
        · intro w hSw
          obtain ⟨s0, s1, s2, s3, s4, s5, s6, s7⟩ := hSw
          go_simp
        try simp only [Act.put]
        refine wpAnyC_take8 (i := 4) (oi := _) (v := .slice (some ⟨b, o, none⟩) n c3) rfl (by kernel_rfl) (by kernel_rfl) (by kernel_rfl) (by kernel_rfl) (by kernel_rfl) (by kernel_rfl) (fun _ _ _ h => h) (Or.inl ⟨by rfl, ?_⟩) ⟨CP1.out.c0, CP1.out.c1, CP1.out.c2, CP1.out.c3, CQ1.out.c0, CQ1.out.c1, CQ1.out.c2, CQ1.out.c3⟩ ?_
        · intro w hSw
          obtain ⟨s0, s1, s2, s3, s4, s5, s6, s7⟩ := hSw
          go_simp
        try simp only [Act.put]
        refine wpAnyC_take8 (i := 5) (oi := _) (v := I ((k : Int) + 1)) rfl (by kernel_rfl) (by kernel_rfl) (by kernel_rfl) (by kernel_rfl) (by kernel_rfl) (by kernel_rfl) (fun _ _ _ h => h) (Or.inl ⟨by rfl, ?_⟩) ⟨CP1.out.c0, CP1.out.c1, CP1.out.c2, CP1.out.c3, CQ1.out.c0, CQ1.out.c1, CQ1.out.c2, CQ1.out.c3⟩ ?_
        · intro w hSw
          obtain ⟨s0, s1, s2, s3, s4, s5, s6, s7⟩ := hSw
          go_simp
        try simp only [Act.put]
        refine wpAnyC_take8 (i := 6) (oi := _) (v := I k) rfl (by kernel_rfl) (by kernel_rfl) (by kernel_rfl) (by kernel_rfl) (by kernel_rfl) (by kernel_rfl) (fun _ _ _ h => h) (Or.inl ⟨by rfl, ?_⟩) ⟨CP1.out.c0, CP1.out.c1, CP1.out.c2, CP1.out.c3, CQ1.out.c0, CQ1.out.c1, CQ1.out.c2, CQ1.out.c3⟩ ?_
        · intro w hSw
          obtain ⟨s0, s1, s2, s3, s4, s5, s6, s7⟩ := hSw
          go_simp
        try simp only [Act.put]
        refine wpAnyC_take8 (i := 7) (oi := _) (v := .pointer (some ⟨b, o + k * 4, none⟩)) rfl (by kernel_rfl) (by kernel_rfl) (by kernel_rfl) (by kernel_rfl) (by kernel_rfl) (by kernel_rfl) (fun _ _ _ h => h) (Or.inl ⟨by rfl, ?_⟩) ⟨CP1.out.c0, CP1.out.c1, CP1.out.c2, CP1.out.c3, CQ1.out.c0, CQ1.out.c1, CQ1.out.c2, CQ1.out.c3⟩ ?_
        · intro w hSw
          obtain ⟨s0, s1, s2, s3, s4, s5, s6, s7⟩ := hSw
          go_simp
        try simp only [Act.put]
        refine wpAnyC_take8 (i := 8) (oi := _) (v := .agg #[.bool nb, .slice B1 l1 c1, .bool false, .slice B2 l2 c2]) rfl (by kernel_rfl) (by kernel_rfl) (by kernel_rfl) (by kernel_rfl) (by kernel_rfl) (by kernel_rfl) (fun _ _ _ h => h) (Or.inl ⟨by rfl, ?_⟩) ⟨CP1.out.c0, CP1.out.c1, CP1.out.c2, CP1.out.c3, CQ1.out.c0, CQ1.out.c1, CQ1.out.c2, CQ1.out.c3⟩ ?_
        · intro w hSw
          obtain ⟨s0, s1, s2, s3, s4, s5, s6, s7⟩ := hSw
          go_simp
        try simp only [Act.put]
        refine wpAnyC_two_ (i := 9) (j := 10) (by kernel_rfl) rfl rfl (fun K hK => ?_) (fun K hK => ?_)
        · skip
          go_simp
          go_at_call 68
          refine (rsub_any _ _ q p W1 RQ1.out RP1.out (N := 210) (by decide) HFQ.out HFP.out).mono ?_
          rintro e W5 ⟨v5, rfl, hv, hb⟩
          obtain ⟨tb, T1, t1, e1, T2, t2, e2, rfl⟩ := hv.bools
          have hbz := below_new W5 (.cells #[.bool false, .slice none 0 0, .bool false, .slice none 0 0] 82)
          have HV6 := Lib.hid (hv.ext hbz)
          have HS6 := Lib.hid ((HV1.out.below hb).below hbz)
          have HB5 := Lib.hid (HB1.out.trans (hb.mono HB1.out.size))
          have HB6 := Lib.hid (HB5.out.trans (hbz.mono HB5.out.size))
          have VR := Lib.hid ((Blk.new W5 82 #[.bool false, .slice none 0 0, .bool false, .slice none 0 0]).vr)
          have hlt5 : sB < W5.heap.size := by obtain ⟨_, _, _, _, _, _, _, vs, _⟩ := HV1.out.below hb; exact vs.lt
          have hsz5 := HB5.out.size
          refine hK.out _ _ (fun h => absurd h (by decide)) ?_
          clear hK K hb hbz hv HV1 HB1 HB5 CP1 CQ1 RP1 RQ1
          try simp only [Act.put, List.setIfInBounds_toArray, List.set_cons_zero, List.set_cons_succ]
          refine wpAnyC_one (i := 10) (by kernel_rfl) rfl (fun K hK => ?_)
          go_simp
          refine hK.out _ _ (fun h => absurd h (by decide)) ?_
          clear hK K
          try simp only [Act.put, List.setIfInBounds_toArray, List.set_cons_zero, List.set_cons_succ]
          generalize W5.alloc (.cells #[.bool false, .slice none 0 0, .bool false, .slice none 0 0] 82) = W6 at *
          generalize W5.heap.size = g5 at *
          refine wpAnyC_one (i := 11) (by kernel_rfl) rfl (fun K hK => ?_)
          have r0 := VR.out.c0
          have q0 := VR.out.f0
          have r1 := VR.out.c1
          have q1 := VR.out.f1
          have r2 := VR.out.c2
          have q2 := VR.out.f2
          have r3 := VR.out.c3
          have q3 := VR.out.f3
          go_simp
          refine hK.out _ _ (fun h => absurd h (by decide)) ?_
          clear hK K r0 r1 r2 r3 q0 q1 q2 q3
          have HZ := Lib.hid (VR.out.set (.bool tb) (.slice T1 t1 e1) (.bool false) (.slice T2 t2 e2))
          have HQ := Lib.hid (HV6.out.set4 VR.out (.bool tb) (.slice T1 t1 e1) (.bool false) (.slice T2 t2 e2))
          have HB7 := Lib.hid (below_set4 HB6.out (g := g5) (by omega) (.bool tb) (.slice T1 t1 e1) (.bool false) (.slice T2 t2 e2))
          obtain ⟨fb, F1, f1, g1, F2, f2, g2, vs, hs⟩ := HS6.out
          have HVS := Lib.hid (vs.far (g' := g5) (by omega) (.bool tb) (.slice T1 t1 e1) (.bool false) (.slice T2 t2 e2))
          have HSQ := Lib.hid (hs.set4 VR.out (.bool tb) (.slice T1 t1 e1) (.bool false) (.slice T2 t2 e2))
          clear vs hs HS6 HV6 VR HB6
          unfold set4 at HZ HQ HB7 HVS HSQ
          generalize hWW : (((W6.setCell ⟨g5, 0, none⟩ (.bool tb)).setCell ⟨g5, 1, none⟩ (.slice T1 t1 e1)).setCell ⟨g5, 2, none⟩ (.bool false)).setCell ⟨g5, 3, none⟩ (.slice T2 t2 e2) = W8 at *
          clear hWW
          refine wpAnyC_done (by kernel_rfl) ?_ _
          have HCMP := Lib.hid (rcmp_any _ _ (q - p) far W8 HQ.out HSQ.out (N := 1000) (by decide) HFD.out HF.out)
          have z0 := HZ.out.c0
          have s0 := HVS.out.c0
          have z1 := HZ.out.c1
          have s1 := HVS.out.c1
          have z2 := HZ.out.c2
          have s2 := HVS.out.c2
          have z3 := HZ.out.c3
          have s3 := HVS.out.c3
          go_wp2_with fail
          refine HCMP.out.mono ?_
          rintro e w9 ⟨rfl, hb⟩
          have HVS9 := Lib.hid (HVS.out.below hb)
          have HZ9 := Lib.hid (HZ.out.below hb)
          have HQ9 := Lib.hid (HQ.out.ext hb)
          have HSQ9 := Lib.hid (HSQ.out.ext hb)
          have HB9 := Lib.hid (HB7.out.trans (hb.mono HB7.out.size))
          clear hb HCMP HVS HZ HQ HSQ HB7 z0 z1 z2 z3 s0 s1 s2 s3
          by_cases hcmp : far < q - p
          · have tc : decide (0 < ((q - p).num * (far.den : Int) - far.num * ((q - p).den : Int)).sign) = true := by rw [cmpQ_gt']; exact decide_eq_true hcmp
            rw [if_pos hcmp] at HGN
            clear hcmp
            generalize ((q - p).num * (far.den : Int) - far.num * ((q - p).den : Int)).sign = sg at *
            have HN := Lib.hid (show Vq _ sB (q - p) from ⟨_, _, _, _, _, _, _, HVS9.out.set (.bool tb) (.slice T1 t1 e1) (.bool false) (.slice T2 t2 e2), HQ9.out.set4 HVS9.out (.bool tb) (.slice T1 t1 e1) (.bool false) (.slice T2 t2 e2)⟩)
            have HBN := Lib.hid (below_set4 HB9.out (g := sB) hR (.bool tb) (.slice T1 t1 e1) (.bool false) (.slice T2 t2 e2))
            unfold set4 at HN HBN
            have z0 := HZ9.out.c0
            have r0 := HVS9.out.c0
            have q0 := HVS9.out.f0
            have z1 := HZ9.out.c1
            have r1 := HVS9.out.c1
            have q1 := HVS9.out.f1
            have z2 := HZ9.out.c2
            have r2 := HVS9.out.c2
            have q2 := HVS9.out.f2
            have z3 := HZ9.out.c3
            have r3 := HVS9.out.c3
            have q3 := HVS9.out.f3
            clear HZ9 HVS9 HQ9 HSQ9 HB9
            go_wp2
            go_roundg (n - (k + 1))
            case measure => omega
            case rel => exact ⟨k + 1, q - p, rfl, by go_num, by omega, HN, HGN, HFD, HBN⟩
          · have tc : decide (0 < ((q - p).num * (far.den : Int) - far.num * ((q - p).den : Int)).sign) = false := by rw [cmpQ_gt']; exact decide_eq_false hcmp
            rw [if_neg hcmp] at HGN
            clear hcmp
            generalize ((q - p).num * (far.den : Int) - far.num * ((q - p).den : Int)).sign = sg at *
            have HN := Lib.hid (show Vq w9 sB far from ⟨_, _, _, _, _, _, _, HVS9.out, HSQ9.out⟩)
            clear HZ9 HVS9 HQ9 HSQ9
            go_wp2
            go_roundg (n - (k + 1))
            case measure => omega
            case rel => exact ⟨k + 1, far, rfl, by go_num, by omega, HN, HGN, HF, HB9⟩
        · skip
          go_simp
          have hbz := below_new W1 (.cells #[.bool false, .slice none 0 0, .bool false, .slice none 0 0] 82)
          have RP2 := Lib.hid (RP1.out.ext hbz)
          have RQ2 := Lib.hid (RQ1.out.ext hbz)
          have HV2 := Lib.hid (HV1.out.below hbz)
          have HB2 := Lib.hid (HB1.out.trans (hbz.mono HB1.out.size))
          have CP2 := Lib.hid (CP1.out.below hbz)
          have CQ2 := Lib.hid (CQ1.out.below hbz)
          have VR0 := Lib.hid ((Blk.new W1 82 #[.bool false, .slice none 0 0, .bool false, .slice none 0 0]).vr)
          have hlt5 : sB < W1.heap.size := by obtain ⟨_, _, _, _, _, _, _, vs, _⟩ := HV1.out; exact vs.lt
          have hsz5 := HB1.out.size
          refine hK.out _ _ (fun _ => ⟨CP2.out.c0, CP2.out.c1, CP2.out.c2, CP2.out.c3, CQ2.out.c0, CQ2.out.c1, CQ2.out.c2, CQ2.out.c3⟩) ?_
          clear hK K hbz HV1 HB1 CP1 CQ1 RP1 RQ1
          try simp only [Act.put, List.setIfInBounds_toArray, List.set_cons_zero, List.set_cons_succ]
          generalize W1.alloc (.cells #[.bool false, .slice none 0 0, .bool false, .slice none 0 0] 82) = W2 at *
          generalize W1.heap.size = g5 at *
          refine wpAnyC_one (i := 9) (by kernel_rfl) rfl (fun K hK => ?_)
          go_simp
          go_at_call 68
          refine (rsub_any _ _ q p W2 RQ2.out RP2.out (N := 210) (by decide) HFQ.out HFP.out).mono ?_
          rintro e W6 ⟨v5, rfl, hv, hb⟩
          obtain ⟨tb, T1, t1, e1, T2, t2, e2, rfl⟩ := hv.bools
          have HV6 := Lib.hid hv
          have HS6 := Lib.hid (HV2.out.below hb)
          have HB6 := Lib.hid (HB2.out.trans (hb.mono HB2.out.size))
          have VR := Lib.hid (VR0.out.below hb)
          refine hK.out _ _ (fun h => absurd h (by decide)) ?_
          clear hK K hb hv HV2 HB2 CP2 CQ2 RP2 RQ2 VR0
          try simp only [Act.put, List.setIfInBounds_toArray, List.set_cons_zero, List.set_cons_succ]
          refine wpAnyC_one (i := 11) (by kernel_rfl) rfl (fun K hK => ?_)
          have r0 := VR.out.c0
          have q0 := VR.out.f0
          have r1 := VR.out.c1
          have q1 := VR.out.f1
          have r2 := VR.out.c2
          have q2 := VR.out.f2
          have r3 := VR.out.c3
          have q3 := VR.out.f3
          go_simp
          refine hK.out _ _ (fun h => absurd h (by decide)) ?_
          clear hK K r0 r1 r2 r3 q0 q1 q2 q3
          have HZ := Lib.hid (VR.out.set (.bool tb) (.slice T1 t1 e1) (.bool false) (.slice T2 t2 e2))
          have HQ := Lib.hid (HV6.out.set4 VR.out (.bool tb) (.slice T1 t1 e1) (.bool false) (.slice T2 t2 e2))
          have HB7 := Lib.hid (below_set4 HB6.out (g := g5) (by omega) (.bool tb) (.slice T1 t1 e1) (.bool false) (.slice T2 t2 e2))
          obtain ⟨fb, F1, f1, g1, F2, f2, g2, vs, hs⟩ := HS6.out
          have HVS := Lib.hid (vs.far (g' := g5) (by omega) (.bool tb) (.slice T1 t1 e1) (.bool false) (.slice T2 t2 e2))
          have HSQ := Lib.hid (hs.set4 VR.out (.bool tb) (.slice T1 t1 e1) (.bool false) (.slice T2 t2 e2))
          clear vs hs HS6 HV6 VR HB6
          unfold set4 at HZ HQ HB7 HVS HSQ
          generalize hWW : (((W6.setCell ⟨g5, 0, none⟩ (.bool tb)).setCell ⟨g5, 1, none⟩ (.slice T1 t1 e1)).setCell ⟨g5, 2, none⟩ (.bool false)).setCell ⟨g5, 3, none⟩ (.slice T2 t2 e2) = W8 at *
          clear hWW
          refine wpAnyC_done (by kernel_rfl) ?_ _
          have HCMP := Lib.hid (rcmp_any _ _ (q - p) far W8 HQ.out HSQ.out (N := 1000) (by decide) HFD.out HF.out)
          have z0 := HZ.out.c0
          have s0 := HVS.out.c0
          have z1 := HZ.out.c1
          have s1 := HVS.out.c1
          have z2 := HZ.out.c2
          have s2 := HVS.out.c2
          have z3 := HZ.out.c3
          have s3 := HVS.out.c3
          go_wp2_with fail
          refine HCMP.out.mono ?_
          rintro e w9 ⟨rfl, hb⟩
          have HVS9 := Lib.hid (HVS.out.below hb)
          have HZ9 := Lib.hid (HZ.out.below hb)
          have HQ9 := Lib.hid (HQ.out.ext hb)
          have HSQ9 := Lib.hid (HSQ.out.ext hb)
          have HB9 := Lib.hid (HB7.out.trans (hb.mono HB7.out.size))
          clear hb HCMP HVS HZ HQ HSQ HB7 z0 z1 z2 z3 s0 s1 s2 s3
          by_cases hcmp : far < q - p
          · have tc : decide (0 < ((q - p).num * (far.den : Int) - far.num * ((q - p).den : Int)).sign) = true := by rw [cmpQ_gt']; exact decide_eq_true hcmp
            rw [if_pos hcmp] at HGN
            clear hcmp
            generalize ((q - p).num * (far.den : Int) - far.num * ((q - p).den : Int)).sign = sg at *
            have HN := Lib.hid (show Vq _ sB (q - p) from ⟨_, _, _, _, _, _, _, HVS9.out.set (.bool tb) (.slice T1 t1 e1) (.bool false) (.slice T2 t2 e2), HQ9.out.set4 HVS9.out (.bool tb) (.slice T1 t1 e1) (.bool false) (.slice T2 t2 e2)⟩)
            have HBN := Lib.hid (below_set4 HB9.out (g := sB) hR (.bool tb) (.slice T1 t1 e1) (.bool false) (.slice T2 t2 e2))
            unfold set4 at HN HBN
            have z0 := HZ9.out.c0
            have r0 := HVS9.out.c0
            have q0 := HVS9.out.f0
            have z1 := HZ9.out.c1
            have r1 := HVS9.out.c1
            have q1 := HVS9.out.f1
            have z2 := HZ9.out.c2
            have r2 := HVS9.out.c2
            have q2 := HVS9.out.f2
            have z3 := HZ9.out.c3
            have r3 := HVS9.out.c3
            have q3 := HVS9.out.f3
            clear HZ9 HVS9 HQ9 HSQ9 HB9
            go_wp2
            go_roundg (n - (k + 1))
            case measure => omega
            case rel => exact ⟨k + 1, q - p, rfl, by go_num, by omega, HN, HGN, HFD, HBN⟩
          · have tc : decide (0 < ((q - p).num * (far.den : Int) - far.num * ((q - p).den : Int)).sign) = false := by rw [cmpQ_gt']; exact decide_eq_false hcmp
            rw [if_neg hcmp] at HGN
            clear hcmp
            generalize ((q - p).num * (far.den : Int) - far.num * ((q - p).den : Int)).sign = sg at *
            have HN := Lib.hid (show Vq w9 sB far from ⟨_, _, _, _, _, _, _, HVS9.out, HSQ9.out⟩)
            clear HZ9 HVS9 HQ9 HSQ9
            go_wp2
            go_roundg (n - (k + 1))
            case measure => omega
            case rel => exact ⟨k + 1, far, rfl, by go_num, by omega, HN, HGN, HF, HB9⟩
      · have hin : k + 1 = n := by omega
        subst hin
        rw [gap_end (by rw [HLV.out]; omega)] at HG
        have HGE := Lib.hid HG.out.symm
        have hd := below_draw wa
        obtain ⟨fb, F1, f1, g1, F2, f2, g2, vs, hs⟩ := HV.out
        have VF1 := Lib.hid (vs.below hd)
        have FQ1 := Lib.hid (hs.ext hd)
        have HB1 := Lib.hid (HB.out.trans (hd.mono HB.out.size))
        clear vs hs hd HV HG HB
        go_upto_region 12 with (fail)
        refine wp_region_c (fun w' => w'.cell? ⟨sB, 0, none⟩ = some (.bool fb) ∧ w'.cell? ⟨sB, 1, none⟩ = some (.slice F1 f1 g1) ∧ w'.cell? ⟨sB, 2, none⟩ = some (.bool false) ∧ w'.cell? ⟨sB, 3, none⟩ = some (.slice F2 f2 g2)) 12 (by kernel_rfl) ?_
        generalize wa.drew = W1 at *
        refine wpAnyC_take8 (i := 0) (oi := _) (v := .string r) rfl (by kernel_rfl) (by kernel_rfl) (by kernel_rfl) (by kernel_rfl) (by kernel_rfl) (by kernel_rfl) (fun _ _ _ h => h) (Or.inl ⟨by rfl, ?_⟩) ⟨VF1.out.c0, VF1.out.c1, VF1.out.c2, VF1.out.c3⟩ ?_
        · intro w hSw
          obtain ⟨s0, s1, s2, s3⟩ := hSw
          go_simp
        try simp only [Act.put, List.setIfInBounds_toArray]
        refine wpAnyC_take8 (i := 2) (oi := _) (v := .agg #[.bool fb, .slice F1 f1 g1, .bool false, .slice F2 f2 g2]) rfl (by kernel_rfl) (by kernel_rfl) (by kernel_rfl) (by kernel_rfl) (by kernel_rfl) (by kernel_rfl) (fun _ _ _ h => h) (Or.inl ⟨by rfl, ?_⟩) ⟨VF1.out.c0, VF1.out.c1, VF1.out.c2, VF1.out.c3⟩ ?_
        · intro w hSw
          obtain ⟨s0, s1, s2, s3⟩ := hSw
          go_simp
        try simp only [Act.put]
        refine wpAnyC_take8 (i := 4) (oi := _) (v := .agg #[.bool fb, .slice F1 f1 g1, .bool false, .slice F2 f2 g2]) rfl (by kernel_rfl) (by kernel_rfl) (by kernel_rfl) (by kernel_rfl) (by kernel_rfl) (by kernel_rfl) (fun _ _ _ h => h) (Or.inl ⟨by rfl, ?_⟩) ⟨VF1.out.c0, VF1.out.c1, VF1.out.c2, VF1.out.c3⟩ ?_
        · intro w hSw
          obtain ⟨s0, s1, s2, s3⟩ := hSw
          go_simp
        try simp only [Act.put]
        refine wpAnyC_one (i := 1) (by kernel_rfl) rfl (fun K hK => ?_)
        go_simp
        go_at_call 56
        refine (parse_any r W1 sr (rchk_val _ HO.out.rok)).mono ?_
        rintro e W2 ⟨v2, rfl, hv, hb⟩
        have VF2 := Lib.hid (VF1.out.below hb)
        have FQ2 := Lib.hid (FQ1.out.ext hb)
        have HB2 := Lib.hid (HB1.out.trans (hb.mono HB1.out.size))
        have HR2 := Lib.hid hv
        clear hb hv
        refine hK.out _ _ (fun _ => ⟨VF2.out.c0, VF2.out.c1, VF2.out.c2, VF2.out.c3⟩) ?_
        clear hK K
        try simp only [Act.put, List.setIfInBounds_toArray, List.set_cons_zero, List.set_cons_succ]
        clear VF1 FQ1 HB1
        refine wpAnyC_one (i := 3) (by kernel_rfl) rfl (fun K hK => ?_)
        go_simp
        go_at_call 67
        refine (rmul_any _ _ (rval (SL r)) far _ HR2.out FQ2.out (N := 1000) (by decide) (HFR.out.mono (by omega)) HF.out).mono ?_
        rintro e W3 ⟨v3, rfl, hv, hb⟩
        have VF3 := Lib.hid (VF2.out.below hb)
        have FQ3 := Lib.hid (FQ2.out.ext hb)
        have HB3b := Lib.hid (HB2.out.trans (hb.mono HB2.out.size))
        have HR3 := Lib.hid hv
        clear hb hv
        refine hK.out _ _ (fun _ => ⟨VF3.out.c0, VF3.out.c1, VF3.out.c2, VF3.out.c3⟩) ?_
        clear hK K
        try simp only [Act.put, List.setIfInBounds_toArray, List.set_cons_zero, List.set_cons_succ]
        clear VF2 FQ2 HB2 HR2
        refine wpAnyC_one (i := 5) (by kernel_rfl) rfl (fun K hK => ?_)
        go_simp
        go_at_call 67
        refine (rmul_any _ _ (rval (SL r) * far) far _ HR3.out FQ3.out (N := 3000) (by decide) ((fitR_mul (HFR.out.mono (show 210 ≤ 1000 by omega)) HF.out).mono (by omega)) (HF.out.mono (by omega))).mono ?_
        rintro e W4 ⟨v4, rfl, hv, hb⟩
        have VF4 := Lib.hid (VF3.out.below hb)
        have HB4 := Lib.hid (HB3b.out.trans (hb.mono HB3b.out.size))
        have HR4 := Lib.hid hv
        clear hb hv
        refine hK.out _ _ (fun _ => ⟨VF4.out.c0, VF4.out.c1, VF4.out.c2, VF4.out.c3⟩) ?_
        clear hK K
        try simp only [Act.put, List.setIfInBounds_toArray, List.set_cons_zero, List.set_cons_succ]
        clear VF3 FQ3 HB3b HR3
        refine wpAnyC_one (i := 6) (by kernel_rfl) rfl (fun K hK => ?_)
        go_simp
        go_at_call 58
        refine (rwhole_any 4 W4 (by decide) (by decide)).mono ?_
        rintro e W5 ⟨v5, rfl, hv, hb⟩
        have VF5 := Lib.hid (VF4.out.below hb)
        have HB5 := Lib.hid (HB4.out.trans (hb.mono HB4.out.size))
        have HR5 := Lib.hid (HR4.out.ext hb)
        have HW5 := Lib.hid hv
        clear hb hv
        refine hK.out _ _ (fun _ => ⟨VF5.out.c0, VF5.out.c1, VF5.out.c2, VF5.out.c3⟩) ?_
        clear hK K
        try simp only [Act.put, List.setIfInBounds_toArray, List.set_cons_zero, List.set_cons_succ]
        clear VF4 HB4 HR4
        refine wpAnyC_one (i := 7) (by kernel_rfl) rfl (fun K hK => ?_)
        go_simp
        go_at_call 69
        refine (rdiv_any _ _ (rval (SL r) * far * far) (((4 : Int) : Rat)) _ HR5.out HW5.out (by decide) (N := 6000) (by decide) ((fitR_mul (fitR_mul (HFR.out.mono (show 210 ≤ 1000 by omega)) HF.out) (HF.out.mono (show 1000 ≤ 1000 + 1000 by omega))).mono (by omega)) (fit_four.mono (by omega))).mono ?_
        rintro e W6 ⟨v6, rfl, hv, hb⟩
        have VF6 := Lib.hid (VF5.out.below hb)
        have HB6 := Lib.hid (HB5.out.trans (hb.mono HB5.out.size))
        have HR6 := Lib.hid hv
        clear hb hv
        refine hK.out _ _ (fun _ => ⟨VF6.out.c0, VF6.out.c1, VF6.out.c2, VF6.out.c3⟩) ?_
        clear hK K
        try simp only [Act.put, List.setIfInBounds_toArray, List.set_cons_zero, List.set_cons_succ]
        clear VF5 HB5 HR5 HW5
        refine wpAnyC_one (i := 8) (by kernel_rfl) rfl (fun K hK => ?_)
        go_simp
        go_at_call 61
        refine (lossText_any _ _ _ HR6.out (tab_below HTB.out (HB3.out.trans (HB6.out.mono HB3.out.size)))).mono ?_
        rintro e W7 ⟨rfl, hb⟩
        have VF7 := Lib.hid (VF6.out.below hb)
        have HB7 := Lib.hid ((HB3.out.trans (HB6.out.mono HB3.out.size)).trans (hb.mono (HB3.out.trans (HB6.out.mono HB3.out.size)).size))
        clear hb VF6 HB6 HR6
        refine hK.out _ _ (fun _ => ⟨VF7.out.c0, VF7.out.c1, VF7.out.c2, VF7.out.c3⟩) ?_
        clear hK K
        try simp only [Act.put, List.setIfInBounds_toArray, List.set_cons_zero, List.set_cons_succ]
        refine wpAnyC_take8 (i := 9) (oi := _) (v := .string ⟨(ratTx (rval (SL r) * far * far / ((4 : Int) : Rat))).1.toArray⟩) rfl (by kernel_rfl) (by kernel_rfl) (by kernel_rfl) (by kernel_rfl) (by kernel_rfl) (by kernel_rfl) (fun _ _ _ h => h) (Or.inl ⟨by rfl, ?_⟩) ⟨VF7.out.c0, VF7.out.c1, VF7.out.c2, VF7.out.c3⟩ ?_
        · intro w hSw
          obtain ⟨s0, s1, s2, s3⟩ := hSw
          go_simp
        try simp only [Act.put, List.setIfInBounds_toArray]
        refine wpAnyC_take8 (i := 10) (oi := _) (v := I (ratTx (rval (SL r) * far * far / ((4 : Int) : Rat))).2) rfl (by kernel_rfl) (by kernel_rfl) (by kernel_rfl) (by kernel_rfl) (by kernel_rfl) (by kernel_rfl) (fun _ _ _ h => h) (Or.inl ⟨by rfl, ?_⟩) ⟨VF7.out.c0, VF7.out.c1, VF7.out.c2, VF7.out.c3⟩ ?_
        · intro w hSw
          obtain ⟨s0, s1, s2, s3⟩ := hSw
          go_simp
        try simp only [Act.put]
        refine wpAnyC_one (i := 11) (by kernel_rfl) rfl (fun K hK => ?_)
        go_simp
        refine hK.out _ _ (fun _ => ⟨VF7.out.c0, VF7.out.c1, VF7.out.c2, VF7.out.c3⟩) ?_
        clear hK K
        try simp only [Act.put, List.setIfInBounds_toArray, List.set_cons_zero, List.set_cons_succ]
        refine wpAnyC_one (i := 12) (by kernel_rfl) rfl (fun K hK => ?_)
        go_simp
        refine hK.out _ _ (fun h => absurd h (by decide)) ?_
        clear hK K
        refine wpAnyC_done (by kernel_rfl) ?_ _
        have HQ := Lib.hid (show RetTx w (ratTx (rval (SL r) * gapQ ls 0 * gapQ ls 0 / 4)) (.returned (.tuple #[.string ⟨(ratTx (rval (SL r) * far * far / ((4 : Int) : Rat))).1.toArray⟩, I (ratTx (rval (SL r) * far * far / ((4 : Int) : Rat))).2])) W7 from ⟨by rw [HGE.out, show ((4 : Int) : Rat) = 4 from rfl], HB7.out⟩)
        go_wp2
        go_ret2
        exact HQ.out
  · have HRES := Lib.hid (show gapT (SL r) (tx1 l) = ([], lchk (SL r) (tx1 l)) by rw [gapT, if_pos h0])
    have hne : (lchk (SL r) (tx1 l) != 0) = true := bne_iff_ne.2 h0
    generalize lchk (SL r) (tx1 l) = ce at *
    clear h0
    go_enter Tryz.func18, Tryz.ntmps18
    go_wp2_with fail
    refine HC.out.mono ?_
    rintro e w1 ⟨rfl, hb⟩
    have HQ := Lib.hid (tx_bad HRES.out hb)
    clear HC hb
    go_wp2
    go_ret2
    exact HQ.out
end Go.Proofs.YtmnedfkinepnfaaGreatDoor
namespace Go.Proofs.YtmnedfkinepnfaaGreatDoor
open Go.Lib

theorem vals_sz {l : List (List UInt8)} (hv : chkV l = 0) (hl : ∀ s ∈ l, s.length ≤ 100) : ∀ y ∈ valsV l, SzQ y 100 := fun y hy => by
  obtain ⟨s, hs, rfl⟩ := List.mem_map.1 hy
  exact sz_text ((chkV_ok hv).2 s hs) (hl s hs)
theorem getD_sz {l : List Rat} {k : Nat} (h : ∀ y ∈ l, SzQ y k) (i : Nat) (hi : i < l.length) : SzQ (l.getD i 0) k := by
  rw [List.getD_eq_getElem?_getD, List.getElem?_eq_getElem hi]
  exact h _ (List.getElem_mem hi)
theorem bounds_law {r f : List UInt8} {l : List (List UInt8)} (he : (boundsT r l f).2.2 = 0) (hr : r.length ≤ 100) (hf : f.length ≤ 100) (hl : ∀ s ∈ l, s.length ≤ 100) :
    ∃ (A B X G D : List UInt8) (c1 c2 c3 c4 : Int), boundsT r l f = (A, B, 0) ∧ exactT r f = (X, 0) ∧ gapT r l = (G, 0) ∧ ratCmp A X = (c1, 0) ∧ c1 ≤ 0 ∧ ratCmp X B = (c2, 0) ∧ c2 ≤ 0 ∧ ratSub B X = (D, 0) ∧ ratCmp D G = (c3, 0) ∧ c3 ≤ 0 ∧ ratCmp A [48] = (c4, 0) ∧ 0 ≤ c4 ∧ A.length ≤ 4002 ∧ B.length ≤ 4002 ∧ X.length ≤ 4002 ∧ G.length ≤ 4002 ∧ D.length ≤ 4002 := by
  unfold boundsT at he ⊢
  by_cases h1 : lchk r l = 0
  · rw [if_neg (fun k => k h1)] at he ⊢
    by_cases h2 : rchk f = 0
    · rw [if_neg (fun k => k h2)] at he ⊢
      by_cases h3 : rval f < (valsV l).getD 0 0
      · rw [if_pos h3] at he; cases he
      · rw [if_neg h3] at he ⊢
        by_cases h4 : (valsV l).getD (l.length - 1) 0 < rval f
        · rw [if_pos h4] at he; cases he
        · rw [if_neg h4] at he ⊢
          have hO := lchk_ok h1
          have hlen : (valsV l).length = l.length := by rw [valsV, List.length_map]
          have hsz := vals_sz hO.vec hl
          have sr := sz_text hO.rok hr
          have sf := sz_text h2 hf
          obtain ⟨k, hk, hk1, hk2, _, _, n1, n2, n3, n4⟩ := bounds_nums hO.nonneg hO.inc (by rw [hlen]; exact hO.two) (Rat.not_lt.1 h3) (by rw [hlen]; exact Rat.not_lt.1 h4)
          have hk' : atK l f = k := hk
          have q1 : SzQ (lowQ r l f) 702 := maxQ_sz _ _ _ _ (sz_zero.mono (by omega)) fun p hp => by
            obtain ⟨q, hq, rfl⟩ := List.mem_map.1 hp
            exact sz_at sr (hsz q hq) (hsz q hq) sf
          have q2 : SzQ (highQ r l f) 702 := by
            unfold highQ
            rw [hk']
            exact sz_at sr (getD_sz hsz _ (by omega)) (getD_sz hsz _ hk2) sf
          have q3 := sz_exact sr sf
          have q4 := sz_gap sr hsz
          have q5 : SzQ (highQ r l f - rval r * rval f * rval f) 1003 := (q2.sub q3).mono (Nat.le_refl _)
          have b1 := q1.backQ (by omega) (by omega)
          have b2 := q2.backQ (by omega) (by omega)
          have b3 := q3.backQ (by omega) (by omega)
          have b4 := q4.backQ (by omega) (by omega)
          have b5 := q5.backQ (by omega) (by omega)
          have e0 : highQ r l f = pcAt (thru (rval r) ((valsV l).getD (k - 1) 0) ((valsV l).getD k 0)) (rval f) := by unfold highQ; rw [hk']
          rw [← e0] at n3 n4
          refine ⟨_, _, _, _, _, _, _, _, _, by rw [twoT, b1.1, b2.1]; rfl, by rw [exactT, if_neg (fun k => k hO.res), if_neg (fun k => k h2)]; exact ratTx_ok b3.1, by rw [gapT, if_neg (fun k => k h1)]; exact ratTx_ok b4.1, ratCmp_q q1 q3 (by omega) (by omega) (by omega) (by omega), cmp_le n2, ratCmp_q q3 q2 (by omega) (by omega) (by omega) (by omega), cmp_le n3, by rw [ratSub, rOp_ok b2.2.1 b3.2.1, b2.2.2, b3.2.2]; exact ratTx_ok b5.1, ratCmp_q q5 q4 (by omega) (by omega) (by omega) (by omega), cmp_le n4, by rw [ratCmp, if_pos (rAll_two b1.2.1 rchk_48), b1.2.2, rval_48], ?_, qTextLen b1.1, qTextLen b2.1, qTextLen b3.1, qTextLen b4.1, qTextLen b5.1⟩
          rcases cmpQ_cases (lowQ r l f) 0 with h | h | h
          · have := (cmpQ_lt _ _).1 h
            have n1' : 0 ≤ lowQ r l f := n1
            grind
          · omega
          · omega
    · rw [if_pos h2] at he; exact absurd he h2
  · rw [if_pos h1] at he; exact absurd he h1
/-- a piece as texts -/
def pcTx (p : PcQ) : List UInt8 × List UInt8 := (qText p.1, qText p.2)
structure PLaw (r : List UInt8) (l : List (List UInt8)) (f X : List UInt8) (t c : List (List UInt8 × List UInt8)) (i : Nat) (p : List UInt8) : Prop where
  tan : ∃ a b Y Z d, t[i]? = some (a, b) ∧ exactT r p = (Y, 0) ∧ atT a b p = (Y, true) ∧ atT a b f = (Z, true) ∧ ratCmp Z X = (d, 0) ∧ d ≤ 0 ∧ a.length ≤ 4002 ∧ b.length ≤ 4002 ∧ Y.length ≤ 4002 ∧ Z.length ≤ 4002 ∧
    (1 ≤ i → ∃ a b, c[i - 1]? = some (a, b) ∧ atT a b p = (Y, true) ∧ a.length ≤ 4002 ∧ b.length ≤ 4002) ∧ (i + 1 < l.length → ∃ a b, c[i]? = some (a, b) ∧ atT a b p = (Y, true) ∧ a.length ≤ 4002 ∧ b.length ≤ 4002)
theorem fitP_thru {r p q : Rat} (hr : SzQ r 100) (hp : SzQ p 100) (hq : SzQ q 100) : fitP (thru r p q) = true := by
  have h := sz_thru hr hp hq
  rw [fitP, h.1.fit (by omega) (by omega), h.2.fit (by omega) (by omega)]; rfl
theorem choQ_mem (r : Rat) : ∀ {l : List Rat} {p : PcQ}, p ∈ choQ r l → ∃ a ∈ l, ∃ b ∈ l, p = thru r a b
  | [], _, h => by simp [choQ] at h
  | [_], _, h => by simp [choQ] at h
  | a :: b :: l, p, h => by
    rw [choQ] at h
    rcases List.mem_cons.1 h with rfl | h
    · exact ⟨a, by simp, b, by simp, rfl⟩
    · obtain ⟨x, hx, y, hy, e⟩ := choQ_mem r h
      exact ⟨x, List.mem_cons_of_mem _ hx, y, List.mem_cons_of_mem _ hy, e⟩
theorem pieces_law {r f : List UInt8} {l : List (List UInt8)} (h1 : lchk r l = 0) (h2 : rchk f = 0) (hr : r.length ≤ 100) (hf : f.length ≤ 100) (hl : ∀ s ∈ l, s.length ≤ 100) :
    ∃ (t c : List (List UInt8 × List UInt8)) (X : List UInt8), tanT r l = (t, 0) ∧ choT r l = (c, 0) ∧ exactT r f = (X, 0) ∧ t.length = l.length ∧ c.length = l.length - 1 ∧ X.length ≤ 4002 ∧ ∀ (i : Nat) (p : List UInt8), l[i]? = some p → PLaw r l f X t c i p := by
  have hO := lchk_ok h1
  have hlen : (valsV l).length = l.length := by rw [valsV, List.length_map]
  have hsz := vals_sz hO.vec hl
  have sr := sz_text hO.rok hr
  have sf := sz_text h2 hf
  have q3 := sz_exact sr sf
  have b3 := q3.backQ (by omega) (by omega)
  have ht : (tanQ (rval r) (valsV l)).all fitP = true := List.all_eq_true.2 fun p hp => by
    obtain ⟨q, hq, rfl⟩ := List.mem_map.1 hp
    exact fitP_thru sr (hsz q hq) (hsz q hq)
  have hc : (choQ (rval r) (valsV l)).all fitP = true := List.all_eq_true.2 fun p hp => by
    obtain ⟨a, ha, b, hb, rfl⟩ := choQ_mem _ hp
    exact fitP_thru sr (hsz a ha) (hsz b hb)
  refine ⟨_, _, _, by rw [tanT, if_neg (fun k => k h1), pcsT, if_pos ht], by rw [choT, if_neg (fun k => k h1), pcsT, if_pos hc], by rw [exactT, if_neg (fun k => k hO.res), if_neg (fun k => k h2)]; exact ratTx_ok b3.1, by rw [List.length_map, tanQ, List.length_map, hlen], by rw [List.length_map, choQ_len, hlen], qTextLen b3.1, fun i p hp => ⟨?_⟩⟩
  have hpm := List.mem_of_getElem? hp
  have hpc := (chkV_ok hO.vec).2 p hpm
  have hpl := hl p hpm
  have sp := sz_text hpc hpl
  have hv : (valsV l)[i]? = some (rval p) := by rw [valsV, List.getElem?_map, hp]; rfl
  have hi := (List.getElem?_eq_some_iff.1 hp).1
  have qy := sz_exact sr sp
  have by' := qy.backQ (by omega) (by omega)
  have lenP : ∀ {a b : Rat}, SzQ a 100 → SzQ b 100 → (qText (thru (rval r) a b).1).length ≤ 4002 ∧ (qText (thru (rval r) a b).2).length ≤ 4002 := fun ha hb => by
    have h := sz_thru sr ha hb
    exact ⟨qTextLen (h.1.fit (by omega) (by omega)), qTextLen (h.2.fit (by omega) (by omega))⟩
  have qz := sz_at sr sp sp sf
  refine ⟨qText (thru (rval r) (rval p) (rval p)).1, qText (thru (rval r) (rval p) (rval p)).2, qText (rval r * rval p * rval p), qText (pcAt (thru (rval r) (rval p) (rval p)) (rval f)), _, by rw [List.getElem?_map, tanQ, List.getElem?_map, hv]; rfl, by rw [exactT, if_neg (fun k => k hO.res), if_neg (fun k => k hpc)]; exact ratTx_ok by'.1, by rw [at_q sr sp sp hpc hpl, tan_touch], at_q sr sp sp h2 hf, ratCmp_q qz q3 (by omega) (by omega) (by omega) (by omega), cmp_le (tan_below hO.nonneg), (lenP sp sp).1, (lenP sp sp).2, qTextLen by'.1, qTextLen (qz.fit (by omega) (by omega)), fun h1i => ?_, fun h2i => ?_⟩
  · have hv0 : (valsV l)[i - 1]? = some ((valsV l).getD (i - 1) 0) := by rw [List.getD_eq_getElem?_getD, List.getElem?_eq_getElem (by omega)]; rfl
    have s0 := getD_sz hsz (i - 1) (by omega)
    exact ⟨_, _, by rw [List.getElem?_map, choQ_get _ hv0 (by rw [Nat.sub_add_cancel h1i]; exact hv)]; rfl, by rw [at_q sr s0 sp hpc hpl, cho_right], (lenP s0 sp).1, (lenP s0 sp).2⟩
  · have hv0 : (valsV l)[i + 1]? = some ((valsV l).getD (i + 1) 0) := by rw [List.getD_eq_getElem?_getD, List.getElem?_eq_getElem (by omega)]; rfl
    have s0 := getD_sz hsz (i + 1) (by omega)
    exact ⟨_, _, by rw [List.getElem?_map, choQ_get _ hv hv0]; rfl, by rw [at_q sr sp s0 hpc hpl, cho_left], (lenP sp s0).1, (lenP sp s0).2⟩
end Go.Proofs.YtmnedfkinepnfaaGreatDoor
