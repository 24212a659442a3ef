/- rat.Add, Sub, Mul, Div, Neg, Compare, Sign. rat.Div, Neg, Compare, Sign. large.Rat: Floor, Ceil; rat.whole, Floor, Ceil. large.Whole, large.Frac, rat.Of. -/
import Derived.Test.YtgecdcjfncfmcaaGreatDoorJO
import Derived.Test.YtgecdcjfncfmcaaGreatDoorJP
namespace Go.Proofs.YtgecdcjfncfmcaaGreatDoor
open Go.RowKit

theorem fits_fitM {n : Nat} (h : fitN n = true) : Fits 210 (n : Int) := by
  have := (num_of_fit h).fits
  rwa [num_dec] at this
theorem val_fit {l : List UInt8} (h : RVal l) : FitR 210 (rval l) := by
  have := h.fit
  rw [fitQ, Bool.and_eq_true] at this
  refine ⟨?_, fits_fitM this.2⟩
  have h1 := fits_fitM this.1
  unfold Fits at *
  rw [Int.natAbs_natCast] at h1
  exact h1
theorem rOp_bad {w w' : World} {a b : List UInt8} {r : List UInt8 × Int} {c : Int} (hc : rAll [a, b] = c) (h0 : c ≠ 0) (hb : Below w.heap.size w w') : RetTx w (rOp a b r) (.returned (.tuple #[.string ⟨#[]⟩, I c])) w' := by
  refine ⟨?_, hb⟩
  rw [rOp, if_neg (by rw [hc]; exact h0), hc]
theorem rOp_good {w w1 w' : World} {a b : List UInt8} {r : List UInt8 × Int} {e : Ending} (hc : rAll [a, b] = 0) (hb : Below w.heap.size w w1) (h : RetTx w1 r e w') : RetTx w (rOp a b r) e w' := by
  rw [rOp, if_pos hc]
  exact ⟨h.1, hb.trans (h.2.mono hb.size)⟩
theorem reads2 (w : World) (t : TypeId) (s u : ByteArray) : Reads (w.alloc (.cells #[.string s, .string u] t)) (w.alloc (.cells #[.string s, .string u] t)).heap.size 1 (some ⟨w.heap.size, 0, none⟩) 2 ([s, u].map Sv) := by
  have := reads_lits w t ([s, u].map Sv)
  rw [World.size_alloc]
  exact this
theorem mem2 {s t x : ByteArray} {K : Nat} (hs : s.size ≤ K) (ht : t.size ≤ K) (h : x ∈ [s, t]) : x.size ≤ K := by
  rcases List.mem_cons.1 h with rfl | h
  · exact hs
  · rw [List.mem_singleton.1 h]; exact ht
set_option maxRecDepth 100000 in
set_option maxHeartbeats 2000000 in
theorem opAdd_any (s t : ByteArray) (w : World) (hs : s.size ≤ 9223372036854775807) (ht : t.size ≤ 9223372036854775807) (htab : Tab w) :
    Calls Tryz.prog 90 #[.string s, .string t, .func (.func 87) #[] #[]] w (RetTx w (rOp (SL s) (SL t) (ratTx (rval (SL s) + rval (SL t))))) := by
  have hb0 := (Below.refl w.heap.size w).alloc (Nat.le_refl _) (.cells #[.string s, .string t] 53)
  have HA := Lib.hid (rall_any [s, t] 2 (some ⟨w.heap.size, 0, none⟩) 2 _ (reads2 w 53 s t) (by omega) (fun x hx => mem2 hs ht hx) (tab_below htab hb0))
  have HB := Lib.hid hb0
  have HTB := Lib.hid htab
  have hmap : [s, t].map SL = [SL s, SL t] := rfl
  rw [hmap] at HA
  clear hb0 htab hmap
  go_enter Tryz.func90, Tryz.ntmps90
  go_wp2_with fail
  refine HA.out.mono ?_
  rintro e w1 ⟨rfl, hb⟩
  have HB1 := Lib.hid (HB.out.trans (hb.mono HB.out.size))
  clear hb HB HA
  by_cases h0 : rAll [SL s, SL t] = 0
  · obtain ⟨ha, hb⟩ := rAll_ok h0
    have HT := Lib.hid h0
    have HVA := Lib.hid (rchk_val _ ha)
    have HVB := Lib.hid (rchk_val _ hb)
    rw [h0]
    clear h0 ha hb
    go_wp2_with fail
    refine (parse_any s w1 hs HVA.out).mono ?_
    rintro e w2 ⟨u, rfl, hu, hb2⟩
    have HB2 := Lib.hid (HB1.out.trans (hb2.mono HB1.out.size))
    have HU := Lib.hid hu
    clear hb2 HB1 hu
    go_wp2_with fail
    refine (parse_any t w2 ht HVB.out).mono ?_
    rintro e w3 ⟨v, rfl, hv, hb3⟩
    have HB3 := Lib.hid (HB2.out.trans (hb3.mono HB2.out.size))
    have HU3 := Lib.hid (HU.out.ext hb3)
    have HV3 := Lib.hid hv
    clear hb3 HB2 hv HU
    go_wp2_with fail
    refine (radd_any u v _ _ w3 HU3.out HV3.out (N := 210) (by omega) (val_fit HVA.out) (val_fit HVB.out)).mono ?_
    rintro e w4 ⟨r, rfl, hr, hb4⟩
    have HB4 := Lib.hid (HB3.out.trans (hb4.mono HB3.out.size))
    have HR4 := Lib.hid hr
    clear hb4 HB3 hr
    go_wp2_with fail
    refine (ratText_any r _ w4 HR4.out (tab_below HTB.out HB4.out)).mono ?_
    rintro e w5 ⟨rfl, hb5⟩
    have HQ := Lib.hid (rOp_good (a := SL s) (b := SL t) (r := ratTx (rval (SL s) + rval (SL t))) HT.out HB4.out ⟨rfl, hb5⟩)
    clear hb5 HB4
    go_wp2
    go_ret2
    exact HQ.out
  · have HQ := Lib.hid (rOp_bad (a := SL s) (b := SL t) (r := ratTx (rval (SL s) + rval (SL t))) rfl h0 HB1.out)
    have tc : (rAll [SL s, SL t] != 0) = true := bne_iff_ne.2 h0
    generalize rAll [SL s, SL t] = c at *
    clear h0
    go_wp2
    go_ret2
    exact HQ.out
set_option maxRecDepth 100000 in
theorem ratAdd_any (s t : ByteArray) (w : World) (hs : s.size ≤ 9223372036854775807) (ht : t.size ≤ 9223372036854775807) (htab : Tab w) : Calls Tryz.prog 54 #[.string s, .string t] w (RetTx w (ratAdd (SL s) (SL t))) := by
  have HO := Lib.hid (opAdd_any s t w hs ht htab)
  go_enter Tryz.func54, Tryz.ntmps54
  go_wp2_with fail
  refine HO.out.mono ?_
  rintro e w1 ⟨rfl, hb⟩
  have HQ := Lib.hid (show RetTx w (ratAdd (SL s) (SL t)) _ w1 from ⟨rfl, hb⟩)
  clear HO hb
  go_wp2
  go_ret2
  exact HQ.out
set_option maxRecDepth 100000 in
set_option maxHeartbeats 2000000 in
theorem opMul_any (s t : ByteArray) (w : World) (hs : s.size ≤ 9223372036854775807) (ht : t.size ≤ 9223372036854775807) (htab : Tab w) :
    Calls Tryz.prog 90 #[.string s, .string t, .func (.func 88) #[] #[]] w (RetTx w (rOp (SL s) (SL t) (ratTx (rval (SL s) * rval (SL t))))) := by
  have hb0 := (Below.refl w.heap.size w).alloc (Nat.le_refl _) (.cells #[.string s, .string t] 53)
  have HA := Lib.hid (rall_any [s, t] 2 (some ⟨w.heap.size, 0, none⟩) 2 _ (reads2 w 53 s t) (by omega) (fun x hx => mem2 hs ht hx) (tab_below htab hb0))
  have HB := Lib.hid hb0
  have HTB := Lib.hid htab
  have hmap : [s, t].map SL = [SL s, SL t] := rfl
  rw [hmap] at HA
  clear hb0 htab hmap
  go_enter Tryz.func90, Tryz.ntmps90
  go_wp2_with fail
  refine HA.out.mono ?_
  rintro e w1 ⟨rfl, hb⟩
  have HB1 := Lib.hid (HB.out.trans (hb.mono HB.out.size))
  clear hb HB HA
  by_cases h0 : rAll [SL s, SL t] = 0
  · obtain ⟨ha, hb⟩ := rAll_ok h0
    have HT := Lib.hid h0
    have HVA := Lib.hid (rchk_val _ ha)
    have HVB := Lib.hid (rchk_val _ hb)
    rw [h0]
    clear h0 ha hb
    go_wp2_with fail
    refine (parse_any s w1 hs HVA.out).mono ?_
    rintro e w2 ⟨u, rfl, hu, hb2⟩
    have HB2 := Lib.hid (HB1.out.trans (hb2.mono HB1.out.size))
    have HU := Lib.hid hu
    clear hb2 HB1 hu
    go_wp2_with fail
    refine (parse_any t w2 ht HVB.out).mono ?_
    rintro e w3 ⟨v, rfl, hv, hb3⟩
    have HB3 := Lib.hid (HB2.out.trans (hb3.mono HB2.out.size))
    have HU3 := Lib.hid (HU.out.ext hb3)
    have HV3 := Lib.hid hv
    clear hb3 HB2 hv HU
    go_wp2_with fail
    refine (rmul_any u v _ _ w3 HU3.out HV3.out (N := 210) (by omega) (val_fit HVA.out) (val_fit HVB.out)).mono ?_
    rintro e w4 ⟨r, rfl, hr, hb4⟩
    have HB4 := Lib.hid (HB3.out.trans (hb4.mono HB3.out.size))
    have HR4 := Lib.hid hr
    clear hb4 HB3 hr
    go_wp2_with fail
    refine (ratText_any r _ w4 HR4.out (tab_below HTB.out HB4.out)).mono ?_
    rintro e w5 ⟨rfl, hb5⟩
    have HQ := Lib.hid (rOp_good (a := SL s) (b := SL t) (r := ratTx (rval (SL s) * rval (SL t))) HT.out HB4.out ⟨rfl, hb5⟩)
    clear hb5 HB4
    go_wp2
    go_ret2
    exact HQ.out
  · have HQ := Lib.hid (rOp_bad (a := SL s) (b := SL t) (r := ratTx (rval (SL s) * rval (SL t))) rfl h0 HB1.out)
    have tc : (rAll [SL s, SL t] != 0) = true := bne_iff_ne.2 h0
    generalize rAll [SL s, SL t] = c at *
    clear h0
    go_wp2
    go_ret2
    exact HQ.out
end Go.Proofs.YtgecdcjfncfmcaaGreatDoor
namespace Go.Proofs.YtgecdcjfncfmcaaGreatDoor
open Go.RowKit

theorem sl_zero48 : SL ⟨#[48]⟩ = [48] := rfl
theorem Rt.words {w : World} {v : Value} {q : Rat} (h : Rt w v q) : ∃ b A l c b2 B m d, v = .agg #[.bool b, .slice A l c, .bool b2, .slice B m d] ∧ Big w (.agg #[.bool b, .slice A l c]) q.num ∧ Big w (.agg #[.bool b2, .slice B m d]) (q.den : Int) := by
  obtain ⟨A, l, c, B, m, d, e, h1, h2⟩ := h.form
  exact ⟨_, A, l, c, _, B, m, d, e, h1, h2⟩
set_option maxRecDepth 100000 in
set_option maxHeartbeats 2000000 in
theorem rnegf_any (u v : Value) (x y : Rat) (w : World) (hx : Rt w u x) (hy : Rt w v y) : Calls Tryz.prog 91 #[u, v] w (RetRt w (-x)) := by
  obtain ⟨xn, xnl, xnc, xd, xdl, xdc, rfl, -, -⟩ := hx.form
  obtain ⟨yn, ynl, ync, yd, ydl, ydc, rfl, -, -⟩ := hy.form
  obtain ⟨vx, -, vr, hb0⟩ := boxes3 w (.bool (decide (x.num < 0))) (.slice xn xnl xnc) (.bool false) (.slice xd xdl xdc) (.bool (decide (y.num < 0))) (.slice yn ynl ync) (.bool false) (.slice yd ydl ydc) (.bool false) (.slice none 0 0) (.bool false) (.slice none 0 0)
  have HN := Lib.hid (rneg_any _ x _ (hx.ext hb0))
  have VR := Lib.hid vr
  have HB := Lib.hid hb0
  have v0 := vx.c0
  have v1 := vx.c1
  have v2 := vx.c2
  have v3 := vx.c3
  clear vx vr hb0 hx hy
  generalize decide (x.num < 0) = xb at *
  generalize decide (y.num < 0) = yb at *
  unfold ratT at *
  go_enter Tryz.func91, Tryz.ntmps91
  go_wp2_with fail
  refine HN.out.mono ?_
  rintro e w1 ⟨r, rfl, hr, hb⟩
  obtain ⟨rb, Ar, lr, cr, db, Br, mr, dr, rfl, h1, h2⟩ := hr.words
  have hv := VR.out.below hb
  have HR := Lib.hid (ret_rat_set (HB.out.trans (hb.mono HB.out.size)) (by omega) hv (Rt.mk h1 h2))
  have HZ := Lib.hid (hv.set (.bool rb) (.slice Ar lr cr) (.bool db) (.slice Br mr dr))
  have r0 := hv.c0
  have r1 := hv.c1
  have r2 := hv.c2
  have r3 := hv.c3
  have q0 := hv.f0
  have q1 := hv.f1
  have q2 := hv.f2
  have q3 := hv.f3
  unfold set4 at HR HZ
  clear h1 h2 hb hv VR HB HN v0 v1 v2 v3
  go_wp2
  have z0 := HZ.out.c0
  have z1 := HZ.out.c1
  have z2 := HZ.out.c2
  have z3 := HZ.out.c3
  generalize ((((w1.setCell ⟨w.heap.size + 1 + 1, 0, none⟩ (.bool rb)).setCell ⟨w.heap.size + 1 + 1, 1, none⟩ (.slice Ar lr cr)).setCell ⟨w.heap.size + 1 + 1, 2, none⟩ (.bool db)).setCell ⟨w.heap.size + 1 + 1, 3, none⟩ (.slice Br mr dr)) = W at *
  exact bodyPost_ret (v := .agg #[.bool rb, .slice Ar lr cr, .bool db, .slice Br mr dr]) (by simp [results, Tryz.results91, go_sem, z0, z1, z2, z3]) rfl HR.out
set_option maxRecDepth 100000 in
set_option maxHeartbeats 2000000 in
theorem opNeg_any (s t : ByteArray) (w : World) (hs : s.size ≤ 9223372036854775807) (ht : t.size ≤ 9223372036854775807) (htab : Tab w) :
    Calls Tryz.prog 90 #[.string s, .string t, .func (.func 91) #[] #[]] w (RetTx w (rOp (SL s) (SL t) (ratTx (-rval (SL s))))) := by
  have hb0 := (Below.refl w.heap.size w).alloc (Nat.le_refl _) (.cells #[.string s, .string t] 53)
  have HA := Lib.hid (rall_any [s, t] 2 (some ⟨w.heap.size, 0, none⟩) 2 _ (reads2 w 53 s t) (by omega) (fun x hx => mem2 hs ht hx) (tab_below htab hb0))
  have HB := Lib.hid hb0
  have HTB := Lib.hid htab
  have hmap : [s, t].map SL = [SL s, SL t] := rfl
  rw [hmap] at HA
  clear hb0 htab hmap
  go_enter Tryz.func90, Tryz.ntmps90
  go_wp2_with fail
  refine HA.out.mono ?_
  rintro e w1 ⟨rfl, hb⟩
  have HB1 := Lib.hid (HB.out.trans (hb.mono HB.out.size))
  clear hb HB HA
  by_cases h0 : rAll [SL s, SL t] = 0
  · obtain ⟨ha, hb⟩ := rAll_ok h0
    have HT := Lib.hid h0
    have HVA := Lib.hid (rchk_val _ ha)
    have HVB := Lib.hid (rchk_val _ hb)
    rw [h0]
    clear h0 ha hb
    go_wp2_with fail
    refine (parse_any s w1 hs HVA.out).mono ?_
    rintro e w2 ⟨u, rfl, hu, hb2⟩
    have HB2 := Lib.hid (HB1.out.trans (hb2.mono HB1.out.size))
    have HU := Lib.hid hu
    clear hb2 HB1 hu
    go_wp2_with fail
    refine (parse_any t w2 ht HVB.out).mono ?_
    rintro e w3 ⟨v, rfl, hv, hb3⟩
    have HB3 := Lib.hid (HB2.out.trans (hb3.mono HB2.out.size))
    have HU3 := Lib.hid (HU.out.ext hb3)
    have HV3 := Lib.hid hv
    clear hb3 HB2 hv HU
    go_wp2_with fail
    refine (rnegf_any u v _ _ w3 HU3.out HV3.out).mono ?_
    rintro e w4 ⟨r, rfl, hr, hb4⟩
    have HB4 := Lib.hid (HB3.out.trans (hb4.mono HB3.out.size))
    have HR4 := Lib.hid hr
    clear hb4 HB3 hr
    go_wp2_with fail
    refine (ratText_any r _ w4 HR4.out (tab_below HTB.out HB4.out)).mono ?_
    rintro e w5 ⟨rfl, hb5⟩
    have HQ := Lib.hid (rOp_good (a := SL s) (b := SL t) (r := ratTx (-rval (SL s))) HT.out HB4.out ⟨rfl, hb5⟩)
    clear hb5 HB4
    go_wp2
    go_ret2
    exact HQ.out
  · have HQ := Lib.hid (rOp_bad (a := SL s) (b := SL t) (r := ratTx (-rval (SL s))) rfl h0 HB1.out)
    have tc : (rAll [SL s, SL t] != 0) = true := bne_iff_ne.2 h0
    generalize rAll [SL s, SL t] = c at *
    clear h0
    go_wp2
    go_ret2
    exact HQ.out
theorem sz48 : (⟨#[48]⟩ : ByteArray).size ≤ 9223372036854775807 := by decide
set_option maxRecDepth 100000 in
theorem ratNeg_any (s : ByteArray) (w : World) (hs : s.size ≤ 9223372036854775807) (htab : Tab w) : Calls Tryz.prog 34 #[.string s] w (RetTx w (ratNeg (SL s))) := by
  have HO := Lib.hid (opNeg_any s ⟨#[48]⟩ w hs sz48 htab)
  rw [sl_zero48] at HO
  go_enter Tryz.func34, Tryz.ntmps34
  go_wp2_with fail
  refine HO.out.mono ?_
  rintro e w1 ⟨rfl, hb⟩
  have HQ := Lib.hid (show RetTx w (ratNeg (SL s)) _ w1 from ⟨rfl, hb⟩)
  clear HO hb
  go_wp2
  go_ret2
  exact HQ.out
end Go.Proofs.YtgecdcjfncfmcaaGreatDoor
namespace Go.Proofs.YtgecdcjfncfmcaaGreatDoor
open Go.RowKit

theorem whole_rt {w : World} {x0 x1 x2 x3 : Value} {z : Int} (h1 : Big w (.agg #[x0, x1]) z) (h2 : Big w (.agg #[x2, x3]) 1) : Rt w (.agg #[x0, x1, x2, x3]) (z : Rat) := Rt.mk h1 h2
end Go.Proofs.YtgecdcjfncfmcaaGreatDoor
namespace Go.Proofs.YtgecdcjfncfmcaaGreatDoor
open Go.RowKit

set_option maxRecDepth 100000 in
set_option maxHeartbeats 2000000 in
theorem rwhole_any (n : Int) (w : World) (h0 : -9223372036854775808 ≤ n) (h1 : n ≤ 9223372036854775807) : Calls Tryz.prog 70 #[I n] w (RetRt w (n : Rat)) := by
  obtain ⟨vr, hb⟩ := boxes1 w (.bool false) (.slice none 0 0) (.bool false) (.slice none 0 0)
  have VR := Lib.hid vr
  have HB := Lib.hid hb
  clear vr hb
  unfold ratT at *
  go_enter Tryz.func70, Tryz.ntmps70
  go_wp2_with fail
  generalize w.alloc (Obj.cells #[Value.bool false, Value.slice none 0 0, Value.bool false, Value.slice none 0 0] 121) = W0 at *
  refine (of_any n _ h0 h1).mono ?_
  rintro e w1 ⟨v1, rfl, hv, hb⟩
  obtain ⟨b1, A1, l1, c1, rfl⟩ := hv.ofWords
  have HB1 := Lib.hid (HB.out.trans (hb.mono HB.out.size))
  have VR1 := Lib.hid (VR.out.below hb)
  have BN := Lib.hid hv
  clear hv hb HB VR
  go_wp2_with fail
  refine (of_any 1 _ (by omega) (by omega)).mono ?_
  rintro e w2 ⟨v2, rfl, hv, hb⟩
  obtain ⟨b2, A2, l2, c2, rfl⟩ := hv.ofWords
  have hvr := VR1.out.below hb
  have HR := Lib.hid (ret_rat_set (HB1.out.trans (hb.mono HB1.out.size)) (Nat.le_refl _) hvr (whole_rt (BN.out.ext hb) hv))
  have HZ := Lib.hid (hvr.set (.bool b1) (.slice A1 l1 c1) (.bool b2) (.slice A2 l2 c2))
  unfold set4 at HR HZ
  have r0 := hvr.c0
  have r1 := hvr.c1
  have r2 := hvr.c2
  have r3 := hvr.c3
  have q0 := hvr.f0
  have q1 := hvr.f1
  have q2 := hvr.f2
  have q3 := hvr.f3
  clear hv hb hvr HB1 VR1 BN
  go_wp2
  have z0 := HZ.out.c0
  have z1 := HZ.out.c1
  have z2 := HZ.out.c2
  have z3 := HZ.out.c3
  generalize ((((w2.setCell ⟨w.heap.size, 0, none⟩ (.bool b1)).setCell ⟨w.heap.size, 1, none⟩ (.slice A1 l1 c1)).setCell ⟨w.heap.size, 2, none⟩ (.bool b2)).setCell ⟨w.heap.size, 3, none⟩ (.slice A2 l2 c2)) = W at *
  exact bodyPost_ret (v := .agg #[.bool b1, .slice A1 l1 c1, .bool b2, .slice A2 l2 c2]) (by simp [results, Tryz.results70, go_sem, z0, z1, z2, z3]) rfl HR.out
theorem fits_i64 (n : Int) (h0 : -9223372036854775808 ≤ n) (h1 : n ≤ 9223372036854775807) : Fits 2 n := by
  unfold Fits
  have e : P32 2 = 18446744073709551616 := by decide
  omega
set_option maxRecDepth 100000 in
set_option maxHeartbeats 2000000 in
theorem rfrac_any (n d : Int) (w : World) (h0 : -9223372036854775808 ≤ n) (h1 : n ≤ 9223372036854775807) (k0 : -9223372036854775808 ≤ d) (k1 : d ≤ 9223372036854775807) (hd : d ≠ 0) : Calls Tryz.prog 123 #[I n, I d] w (RetRt w (Rat.divInt n d)) := by
  obtain ⟨vr, hb⟩ := boxes1 w (.bool false) (.slice none 0 0) (.bool false) (.slice none 0 0)
  have VR := Lib.hid vr
  have HB := Lib.hid hb
  have FN := Lib.hid (fits_i64 n h0 h1)
  have FD := Lib.hid (fits_i64 d k0 k1)
  have HD := Lib.hid hd
  clear vr hb hd
  unfold ratT at *
  go_enter Tryz.func123, Tryz.ntmps123
  go_wp2_with fail
  generalize w.alloc (Obj.cells #[Value.bool false, Value.slice none 0 0, Value.bool false, Value.slice none 0 0] 121) = W0 at *
  refine (of_any n _ h0 h1).mono ?_
  rintro e w1 ⟨v1, rfl, hv, hb⟩
  have HB1 := Lib.hid (HB.out.trans (hb.mono HB.out.size))
  have VR1 := Lib.hid (VR.out.below hb)
  have BN := Lib.hid hv
  clear hv hb HB VR
  go_wp2_with fail
  refine (of_any d _ k0 k1).mono ?_
  rintro e w2 ⟨v2, rfl, hv, hb⟩
  have HB2 := Lib.hid (HB1.out.trans (hb.mono HB1.out.size))
  have VR2 := Lib.hid (VR1.out.below hb)
  have HR := Lib.hid (ratio_any v1 v2 n d w2 (BN.out.ext hb) hv HD.out (N := 2) (by omega) FN.out FD.out)
  clear hv hb HB1 VR1 BN
  go_wp2_with fail
  refine HR.out.mono ?_
  rintro e w3 ⟨v3, rfl, hv, hb⟩
  obtain ⟨b1, A1, l1, c1, b2, A2, l2, c2, rfl, g1, g2⟩ := hv.words
  have hvr := VR2.out.below hb
  have HR := Lib.hid (ret_rat_set (HB2.out.trans (hb.mono HB2.out.size)) (Nat.le_refl _) hvr (Rt.mk g1 g2))
  have HZ := Lib.hid (hvr.set (.bool b1) (.slice A1 l1 c1) (.bool b2) (.slice A2 l2 c2))
  unfold set4 at HR HZ
  have r0 := hvr.c0
  have r1 := hvr.c1
  have r2 := hvr.c2
  have r3 := hvr.c3
  have q0 := hvr.f0
  have q1 := hvr.f1
  have q2 := hvr.f2
  have q3 := hvr.f3
  clear hv hb hvr HB2 VR2 g1 g2
  go_wp2
  have z0 := HZ.out.c0
  have z1 := HZ.out.c1
  have z2 := HZ.out.c2
  have z3 := HZ.out.c3
  generalize ((((w3.setCell ⟨w.heap.size, 0, none⟩ (.bool b1)).setCell ⟨w.heap.size, 1, none⟩ (.slice A1 l1 c1)).setCell ⟨w.heap.size, 2, none⟩ (.bool b2)).setCell ⟨w.heap.size, 3, none⟩ (.slice A2 l2 c2)) = W at *
  exact bodyPost_ret (v := .agg #[.bool b1, .slice A1 l1 c1, .bool b2, .slice A2 l2 c2]) (by simp [results, Tryz.results123, go_sem, z0, z1, z2, z3]) rfl HR.out
def ratOf (n d : Int) : List UInt8 × Int := if d = 0 then ([], 10) else ratTx (Rat.divInt n d)
set_option maxRecDepth 100000 in
set_option maxHeartbeats 2000000 in
theorem ratOf_any (n d : Int) (w : World) (h0 : -9223372036854775808 ≤ n) (h1 : n ≤ 9223372036854775807) (k0 : -9223372036854775808 ≤ d) (k1 : d ≤ 9223372036854775807) (htab : Tab w) : Calls Tryz.prog 61 #[I n, I d] w (RetTx w (ratOf n d)) := by
  have HTB := Lib.hid htab
  clear htab
  by_cases hd : d = 0
  · have HQ := Lib.hid (show RetTx w (ratOf n d) (.returned (.tuple #[.string ⟨#[]⟩, I 10])) w from ⟨by rw [ratOf, if_pos hd], Below.refl _ _⟩)
    subst hd
    go_enter Tryz.func61, Tryz.ntmps61
    go_wp2
    go_ret2
    exact HQ.out
  · have HF := Lib.hid (rfrac_any n d w h0 h1 k0 k1 hd)
    have td : (d == 0) = false := beq_eq_false_iff_ne.2 hd
    have HD := Lib.hid hd
    clear hd
    go_enter Tryz.func61, Tryz.ntmps61
    go_wp2_with fail
    refine HF.out.mono ?_
    rintro e w1 ⟨v1, rfl, hv, hb⟩
    have HX := Lib.hid (ratText_any v1 _ w1 hv (tab_below HTB.out hb))
    have HB := Lib.hid hb
    clear hv hb HF
    go_wp2_with fail
    refine HX.out.mono ?_
    rintro e w2 ⟨rfl, hb⟩
    have HQ := Lib.hid (show RetTx w (ratOf n d) (.returned (.tuple #[.string ⟨(ratTx (Rat.divInt n d)).1.toArray⟩, I (ratTx (Rat.divInt n d)).2])) w2 from ⟨by rw [ratOf, if_neg HD.out], HB.out.trans (hb.mono HB.out.size)⟩)
    clear HX hb
    go_wp2
    go_ret2
    exact HQ.out
end Go.Proofs.YtgecdcjfncfmcaaGreatDoor
