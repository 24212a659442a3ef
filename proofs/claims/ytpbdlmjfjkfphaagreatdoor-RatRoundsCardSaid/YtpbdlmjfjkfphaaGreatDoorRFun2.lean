/- rat.Div, Neg, Compare, Sign. -/
import Derived.Test.YtpbdlmjfjkfphaaGreatDoorRFun
namespace Go.Proofs.YtpbdlmjfjkfphaaGreatDoor
open Go.RowKit

theorem sl_zero48 : SL ⟨#[48]⟩ = [48] := rfl
theorem qText_zero : qText 0 = [48] := by decide +kernel
theorem Rt.words {w : World} {v : Value} {q : Rat} (h : Rt w v q) : ∃ b A l c b2 B m d, v = .agg #[.bool b, .slice A l c, .bool b2, .slice B m d] ∧ Big w (.agg #[.bool b, .slice A l c]) q.num ∧ Big w (.agg #[.bool b2, .slice B m d]) (q.den : Int) := by
  obtain ⟨A, l, c, B, m, d, e, h1, h2⟩ := h.form
  exact ⟨_, A, l, c, _, B, m, d, e, h1, h2⟩
theorem val_ne {l : List UInt8} (h : RVal l) (h0 : l ≠ [48]) : (rval l).num ≠ 0 := fun e => by
  have h1 := Rat.num_eq_zero.1 e
  have h2 := h.text
  rw [h1, qText_zero] at h2
  exact h0 h2.symm
set_option maxRecDepth 100000 in
set_option maxHeartbeats 2000000 in
theorem opDiv_any (s t : ByteArray) (w : World) (hs : s.size ≤ 9223372036854775807) (ht : t.size ≤ 9223372036854775807) (htab : Tab w) (hne : (rval (SL t)).num ≠ 0) :
    Calls Tryz.prog 24 #[.string s, .string t, .func (.func 28) #[] #[]] w (RetTx w (rOp (SL s) (SL t) (ratTx (rval (SL s) / rval (SL t))))) := by
  have hb0 := (Below.refl w.heap.size w).alloc (Nat.le_refl _) (.cells #[.string s, .string t] 22)
  have HA := Lib.hid (rall_any [s, t] 2 (some ⟨w.heap.size, 0, none⟩) 2 _ (reads2 w 22 s t) (by omega) (fun x hx => mem2 hs ht hx) (tab_below htab hb0))
  have HB := Lib.hid hb0
  have HTB := Lib.hid htab
  have hmap : [s, t].map SL = [SL s, SL t] := rfl
  rw [hmap] at HA
  clear hb0 htab hmap
  go_enter Tryz.func24, Tryz.ntmps24
  go_wp2_with fail
  refine HA.out.mono ?_
  rintro e w1 ⟨rfl, hb⟩
  have HB1 := Lib.hid (HB.out.trans (hb.mono HB.out.size))
  clear hb HB HA
  by_cases h0 : rAll [SL s, SL t] = 0
  · obtain ⟨ha, hb⟩ := rAll_ok h0
    have HT := Lib.hid h0
    have HVA := Lib.hid (rchk_val _ ha)
    have HVB := Lib.hid (rchk_val _ hb)
    rw [h0]
    clear h0 ha hb
    go_wp2_with fail
    refine (parse_any s w1 hs HVA.out).mono ?_
    rintro e w2 ⟨u, rfl, hu, hb2⟩
    have HB2 := Lib.hid (HB1.out.trans (hb2.mono HB1.out.size))
    have HU := Lib.hid hu
    clear hb2 HB1 hu
    go_wp2_with fail
    refine (parse_any t w2 ht HVB.out).mono ?_
    rintro e w3 ⟨v, rfl, hv, hb3⟩
    have HB3 := Lib.hid (HB2.out.trans (hb3.mono HB2.out.size))
    have HU3 := Lib.hid (HU.out.ext hb3)
    have HV3 := Lib.hid hv
    clear hb3 HB2 hv HU
    go_wp2_with fail
    refine (rdiv_any u v _ _ w3 HU3.out HV3.out hne (N := 210) (by omega) (val_fit HVA.out) (val_fit HVB.out)).mono ?_
    rintro e w4 ⟨r, rfl, hr, hb4⟩
    have HB4 := Lib.hid (HB3.out.trans (hb4.mono HB3.out.size))
    have HR4 := Lib.hid hr
    clear hb4 HB3 hr
    go_wp2_with fail
    refine (ratText_any r _ w4 HR4.out (tab_below HTB.out HB4.out)).mono ?_
    rintro e w5 ⟨rfl, hb5⟩
    have HQ := Lib.hid (rOp_good (a := SL s) (b := SL t) (r := ratTx (rval (SL s) / rval (SL t))) HT.out HB4.out ⟨rfl, hb5⟩)
    clear hb5 HB4
    go_wp2
    go_ret2
    exact HQ.out
  · have HQ := Lib.hid (rOp_bad (a := SL s) (b := SL t) (r := ratTx (rval (SL s) / rval (SL t))) rfl h0 HB1.out)
    have tc : (rAll [SL s, SL t] != 0) = true := bne_iff_ne.2 h0
    generalize rAll [SL s, SL t] = c at *
    clear h0
    go_wp2
    go_ret2
    exact HQ.out
theorem reads3 (w : World) (t : TypeId) (s u : ByteArray) : Reads (w.alloc (.cells #[.string s, .string u] t)) (w.alloc (.cells #[.string s, .string u] t)).heap.size 1 (some ⟨w.heap.size, 0, none⟩) 2 ([s, u].map Sv) := reads2 w t s u
set_option maxRecDepth 100000 in
set_option maxHeartbeats 2000000 in
theorem ratDiv_any (s t : ByteArray) (w : World) (hs : s.size ≤ 9223372036854775807) (ht : t.size ≤ 9223372036854775807) (htab : Tab w) : Calls Tryz.prog 11 #[.string s, .string t] w (RetTx w (ratDiv (SL s) (SL t))) := by
  have hb0 := (Below.refl w.heap.size w).alloc (Nat.le_refl _) (.cells #[.string s, .string t] 22)
  have HA := Lib.hid (rall_any [s, t] 2 (some ⟨w.heap.size, 0, none⟩) 2 _ (reads2 w 22 s t) (by omega) (fun x hx => mem2 hs ht hx) (tab_below htab hb0))
  have HB := Lib.hid hb0
  have HTB := Lib.hid htab
  have hmap : [s, t].map SL = [SL s, SL t] := rfl
  rw [hmap] at HA
  have hlit := beq_lit t [48] [48] (by decide +kernel)
  clear hb0 htab hmap
  go_enter Tryz.func11, Tryz.ntmps11
  go_wp2_with fail
  refine HA.out.mono ?_
  rintro e w1 ⟨rfl, hb⟩
  have HB1 := Lib.hid (HB.out.trans (hb.mono HB.out.size))
  clear hb HB HA
  by_cases h0 : rAll [SL s, SL t] = 0
  · obtain ⟨ha, hb⟩ := rAll_ok h0
    rw [h0]
    by_cases hz : SL t = [48]
    · have HQ := Lib.hid (show RetTx w (ratDiv (SL s) (SL t)) (.returned (.tuple #[.string ⟨#[]⟩, I 10])) w1 from rOp_good h0 HB1.out ⟨by rw [if_pos hz], Below.refl _ _⟩)
      rw [decide_eq_true hz] at hlit
      clear h0 ha hb hz
      go_wp2
      go_ret2
      exact HQ.out
    · have HO := Lib.hid (opDiv_any s t w1 hs ht (tab_below HTB.out HB1.out) (val_ne (rchk_val _ hb) hz))
      have HT := Lib.hid h0
      have HZ := Lib.hid hz
      rw [decide_eq_false hz] at hlit
      clear h0 ha hb hz
      go_wp2_with fail
      refine HO.out.mono ?_
      rintro e w2 ⟨rfl, hb2⟩
      have HQ := Lib.hid (show RetTx w (ratDiv (SL s) (SL t)) (.returned (.tuple #[.string ⟨(rOp (SL s) (SL t) (ratTx (rval (SL s) / rval (SL t)))).1.toArray⟩, I (rOp (SL s) (SL t) (ratTx (rval (SL s) / rval (SL t)))).2])) w2 from ⟨by rw [ratDiv, if_neg HZ.out], HB1.out.trans (hb2.mono HB1.out.size)⟩)
      clear HO hb2
      go_wp2
      go_ret2
      exact HQ.out
  · have HQ := Lib.hid (show RetTx w (ratDiv (SL s) (SL t)) _ w1 from rOp_bad (a := SL s) (b := SL t) rfl h0 HB1.out)
    have tc : (rAll [SL s, SL t] != 0) = true := bne_iff_ne.2 h0
    generalize rAll [SL s, SL t] = c at *
    clear h0 hlit
    go_wp2
    go_ret2
    exact HQ.out
set_option maxRecDepth 100000 in
set_option maxHeartbeats 2000000 in
theorem rnegf_any (u v : Value) (x y : Rat) (w : World) (hx : Rt w u x) (hy : Rt w v y) : Calls Tryz.prog 33 #[u, v] w (RetRt w (-x)) := by
  obtain ⟨xn, xnl, xnc, xd, xdl, xdc, rfl, -, -⟩ := hx.form
  obtain ⟨yn, ynl, ync, yd, ydl, ydc, rfl, -, -⟩ := hy.form
  obtain ⟨vx, -, vr, hb0⟩ := boxes3 w (.bool (decide (x.num < 0))) (.slice xn xnl xnc) (.bool false) (.slice xd xdl xdc) (.bool (decide (y.num < 0))) (.slice yn ynl ync) (.bool false) (.slice yd ydl ydc) (.bool false) (.slice none 0 0) (.bool false) (.slice none 0 0)
  have HN := Lib.hid (rneg_any _ x _ (hx.ext hb0))
  have VR := Lib.hid vr
  have HB := Lib.hid hb0
  have v0 := vx.c0
  have v1 := vx.c1
  have v2 := vx.c2
  have v3 := vx.c3
  clear vx vr hb0 hx hy
  generalize decide (x.num < 0) = xb at *
  generalize decide (y.num < 0) = yb at *
  unfold ratT at *
  go_enter Tryz.func33, Tryz.ntmps33
  go_wp2_with fail
  refine HN.out.mono ?_
  rintro e w1 ⟨r, rfl, hr, hb⟩
  obtain ⟨rb, Ar, lr, cr, db, Br, mr, dr, rfl, h1, h2⟩ := hr.words
  have hv := VR.out.below hb
  have HR := Lib.hid (ret_rat_set (HB.out.trans (hb.mono HB.out.size)) (by omega) hv (Rt.mk h1 h2))
  have HZ := Lib.hid (hv.set (.bool rb) (.slice Ar lr cr) (.bool db) (.slice Br mr dr))
  have r0 := hv.c0
  have r1 := hv.c1
  have r2 := hv.c2
  have r3 := hv.c3
  have q0 := hv.f0
  have q1 := hv.f1
  have q2 := hv.f2
  have q3 := hv.f3
  unfold set4 at HR HZ
  clear h1 h2 hb hv VR HB HN v0 v1 v2 v3
  go_wp2
  have z0 := HZ.out.c0
  have z1 := HZ.out.c1
  have z2 := HZ.out.c2
  have z3 := HZ.out.c3
  generalize ((((w1.setCell ⟨w.heap.size + 1 + 1, 0, none⟩ (.bool rb)).setCell ⟨w.heap.size + 1 + 1, 1, none⟩ (.slice Ar lr cr)).setCell ⟨w.heap.size + 1 + 1, 2, none⟩ (.bool db)).setCell ⟨w.heap.size + 1 + 1, 3, none⟩ (.slice Br mr dr)) = W at *
  exact bodyPost_ret (v := .agg #[.bool rb, .slice Ar lr cr, .bool db, .slice Br mr dr]) (by simp [results, Tryz.results33, go_sem, z0, z1, z2, z3]) rfl HR.out
set_option maxRecDepth 100000 in
set_option maxHeartbeats 2000000 in
theorem opNeg_any (s t : ByteArray) (w : World) (hs : s.size ≤ 9223372036854775807) (ht : t.size ≤ 9223372036854775807) (htab : Tab w) :
    Calls Tryz.prog 24 #[.string s, .string t, .func (.func 33) #[] #[]] w (RetTx w (rOp (SL s) (SL t) (ratTx (-rval (SL s))))) := by
  have hb0 := (Below.refl w.heap.size w).alloc (Nat.le_refl _) (.cells #[.string s, .string t] 22)
  have HA := Lib.hid (rall_any [s, t] 2 (some ⟨w.heap.size, 0, none⟩) 2 _ (reads2 w 22 s t) (by omega) (fun x hx => mem2 hs ht hx) (tab_below htab hb0))
  have HB := Lib.hid hb0
  have HTB := Lib.hid htab
  have hmap : [s, t].map SL = [SL s, SL t] := rfl
  rw [hmap] at HA
  clear hb0 htab hmap
  go_enter Tryz.func24, Tryz.ntmps24
  go_wp2_with fail
  refine HA.out.mono ?_
  rintro e w1 ⟨rfl, hb⟩
  have HB1 := Lib.hid (HB.out.trans (hb.mono HB.out.size))
  clear hb HB HA
  by_cases h0 : rAll [SL s, SL t] = 0
  · obtain ⟨ha, hb⟩ := rAll_ok h0
    have HT := Lib.hid h0
    have HVA := Lib.hid (rchk_val _ ha)
    have HVB := Lib.hid (rchk_val _ hb)
    rw [h0]
    clear h0 ha hb
    go_wp2_with fail
    refine (parse_any s w1 hs HVA.out).mono ?_
    rintro e w2 ⟨u, rfl, hu, hb2⟩
    have HB2 := Lib.hid (HB1.out.trans (hb2.mono HB1.out.size))
    have HU := Lib.hid hu
    clear hb2 HB1 hu
    go_wp2_with fail
    refine (parse_any t w2 ht HVB.out).mono ?_
    rintro e w3 ⟨v, rfl, hv, hb3⟩
    have HB3 := Lib.hid (HB2.out.trans (hb3.mono HB2.out.size))
    have HU3 := Lib.hid (HU.out.ext hb3)
    have HV3 := Lib.hid hv
    clear hb3 HB2 hv HU
    go_wp2_with fail
    refine (rnegf_any u v _ _ w3 HU3.out HV3.out).mono ?_
    rintro e w4 ⟨r, rfl, hr, hb4⟩
    have HB4 := Lib.hid (HB3.out.trans (hb4.mono HB3.out.size))
    have HR4 := Lib.hid hr
    clear hb4 HB3 hr
    go_wp2_with fail
    refine (ratText_any r _ w4 HR4.out (tab_below HTB.out HB4.out)).mono ?_
    rintro e w5 ⟨rfl, hb5⟩
    have HQ := Lib.hid (rOp_good (a := SL s) (b := SL t) (r := ratTx (-rval (SL s))) HT.out HB4.out ⟨rfl, hb5⟩)
    clear hb5 HB4
    go_wp2
    go_ret2
    exact HQ.out
  · have HQ := Lib.hid (rOp_bad (a := SL s) (b := SL t) (r := ratTx (-rval (SL s))) rfl h0 HB1.out)
    have tc : (rAll [SL s, SL t] != 0) = true := bne_iff_ne.2 h0
    generalize rAll [SL s, SL t] = c at *
    clear h0
    go_wp2
    go_ret2
    exact HQ.out
theorem sz48 : (⟨#[48]⟩ : ByteArray).size ≤ 9223372036854775807 := by decide
set_option maxRecDepth 100000 in
theorem ratNeg_any (s : ByteArray) (w : World) (hs : s.size ≤ 9223372036854775807) (htab : Tab w) : Calls Tryz.prog 15 #[.string s] w (RetTx w (ratNeg (SL s))) := by
  have HO := Lib.hid (opNeg_any s ⟨#[48]⟩ w hs sz48 htab)
  rw [sl_zero48] at HO
  go_enter Tryz.func15, Tryz.ntmps15
  go_wp2_with fail
  refine HO.out.mono ?_
  rintro e w1 ⟨rfl, hb⟩
  have HQ := Lib.hid (show RetTx w (ratNeg (SL s)) _ w1 from ⟨rfl, hb⟩)
  clear HO hb
  go_wp2
  go_ret2
  exact HQ.out
def RetCq (w : World) (r : Int × Int) (e : Ending) (w' : World) : Prop := e = .returned (.tuple #[I r.1, I r.2]) ∧ Below w.heap.size w w'
set_option maxRecDepth 100000 in
set_option maxHeartbeats 2000000 in
theorem ratCmp_any (s t : ByteArray) (w : World) (hs : s.size ≤ 9223372036854775807) (ht : t.size ≤ 9223372036854775807) (htab : Tab w) : Calls Tryz.prog 13 #[.string s, .string t] w (RetCq w (ratCmp (SL s) (SL t))) := by
  have hb0 := (Below.refl w.heap.size w).alloc (Nat.le_refl _) (.cells #[.string s, .string t] 22)
  have HA := Lib.hid (rall_any [s, t] 2 (some ⟨w.heap.size, 0, none⟩) 2 _ (reads2 w 22 s t) (by omega) (fun x hx => mem2 hs ht hx) (tab_below htab hb0))
  have HB := Lib.hid hb0
  have HTB := Lib.hid htab
  have hmap : [s, t].map SL = [SL s, SL t] := rfl
  rw [hmap] at HA
  clear hb0 htab hmap
  go_enter Tryz.func13, Tryz.ntmps13
  go_wp2_with fail
  refine HA.out.mono ?_
  rintro e w1 ⟨rfl, hb⟩
  have HB1 := Lib.hid (HB.out.trans (hb.mono HB.out.size))
  clear hb HB HA
  by_cases h0 : rAll [SL s, SL t] = 0
  · obtain ⟨ha, hb⟩ := rAll_ok h0
    have HT := Lib.hid h0
    have HVA := Lib.hid (rchk_val _ ha)
    have HVB := Lib.hid (rchk_val _ hb)
    rw [h0]
    clear h0 ha hb
    go_wp2_with fail
    refine (parse_any s w1 hs HVA.out).mono ?_
    rintro e w2 ⟨u, rfl, hu, hb2⟩
    have HB2 := Lib.hid (HB1.out.trans (hb2.mono HB1.out.size))
    have HU := Lib.hid hu
    clear hb2 HB1 hu
    go_wp2_with fail
    refine (parse_any t w2 ht HVB.out).mono ?_
    rintro e w3 ⟨v, rfl, hv, hb3⟩
    have HB3 := Lib.hid (HB2.out.trans (hb3.mono HB2.out.size))
    have HU3 := Lib.hid (HU.out.ext hb3)
    have HV3 := Lib.hid hv
    clear hb3 HB2 hv HU
    go_wp2_with fail
    refine (rcmp_any u v _ _ w3 HU3.out HV3.out (N := 210) (by omega) (val_fit HVA.out) (val_fit HVB.out)).mono ?_
    rintro e w4 ⟨rfl, hb4⟩
    have HQ := Lib.hid (show RetCq w (ratCmp (SL s) (SL t)) (.returned (.tuple #[I (cmpQ (rval (SL s)) (rval (SL t))), I 0])) w4 from ⟨by rw [ratCmp, if_pos HT.out], HB3.out.trans (hb4.mono HB3.out.size)⟩)
    unfold cmpQ at HQ
    clear hb4 HB3
    go_wp2
    go_ret2
    exact HQ.out
  · have HQ := Lib.hid (show RetCq w (ratCmp (SL s) (SL t)) (.returned (.tuple #[I 0, I (rAll [SL s, SL t])])) w1 from ⟨by rw [ratCmp, if_neg h0], HB1.out⟩)
    have tc : (rAll [SL s, SL t] != 0) = true := bne_iff_ne.2 h0
    generalize rAll [SL s, SL t] = c at *
    clear h0
    go_wp2
    go_ret2
    exact HQ.out
set_option maxRecDepth 100000 in
theorem ratSign_any (s : ByteArray) (w : World) (hs : s.size ≤ 9223372036854775807) (htab : Tab w) : Calls Tryz.prog 14 #[.string s] w (RetCq w (ratCmp (SL s) [48])) := by
  have HO := Lib.hid (ratCmp_any s ⟨#[48]⟩ w hs sz48 htab)
  rw [sl_zero48] at HO
  go_enter Tryz.func14, Tryz.ntmps14
  go_wp2_with fail
  refine HO.out.mono ?_
  rintro e w1 ⟨rfl, hb⟩
  have HQ := Lib.hid (show RetCq w (ratCmp (SL s) [48]) _ w1 from ⟨rfl, hb⟩)
  clear HO hb
  go_wp2
  go_ret2
  exact HQ.out
end Go.Proofs.YtpbdlmjfjkfphaaGreatDoor
