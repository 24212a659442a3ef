/- rat.Add, Sub, Mul, Div, Neg, Compare, Sign. -/
import Derived.Test.YtpbdlmjfjkfphaaGreatDoorRTx
import Derived.Test.YtpbdlmjfjkfphaaGreatDoorRAll
namespace Go.Proofs.YtpbdlmjfjkfphaaGreatDoor
open Go.RowKit

theorem fits_fitM {n : Nat} (h : fitN n = true) : Fits 210 (n : Int) := by
  have := (num_of_fit h).fits
  rwa [num_dec] at this
theorem val_fit {l : List UInt8} (h : RVal l) : FitR 210 (rval l) := by
  have := h.fit
  rw [fitQ, Bool.and_eq_true] at this
  refine ⟨?_, fits_fitM this.2⟩
  have h1 := fits_fitM this.1
  unfold Fits at *
  rw [Int.natAbs_natCast] at h1
  exact h1
theorem rOp_bad {w w' : World} {a b : List UInt8} {r : List UInt8 × Int} {c : Int} (hc : rAll [a, b] = c) (h0 : c ≠ 0) (hb : Below w.heap.size w w') : RetTx w (rOp a b r) (.returned (.tuple #[.string ⟨#[]⟩, I c])) w' := by
  refine ⟨?_, hb⟩
  rw [rOp, if_neg (by rw [hc]; exact h0), hc]
theorem rOp_good {w w1 w' : World} {a b : List UInt8} {r : List UInt8 × Int} {e : Ending} (hc : rAll [a, b] = 0) (hb : Below w.heap.size w w1) (h : RetTx w1 r e w') : RetTx w (rOp a b r) e w' := by
  rw [rOp, if_pos hc]
  exact ⟨h.1, hb.trans (h.2.mono hb.size)⟩
theorem reads2 (w : World) (t : TypeId) (s u : ByteArray) : Reads (w.alloc (.cells #[.string s, .string u] t)) (w.alloc (.cells #[.string s, .string u] t)).heap.size 1 (some ⟨w.heap.size, 0, none⟩) 2 ([s, u].map Sv) := by
  have := reads_lits w t ([s, u].map Sv)
  rw [World.size_alloc]
  exact this
theorem mem2 {s t x : ByteArray} {K : Nat} (hs : s.size ≤ K) (ht : t.size ≤ K) (h : x ∈ [s, t]) : x.size ≤ K := by
  rcases List.mem_cons.1 h with rfl | h
  · exact hs
  · rw [List.mem_singleton.1 h]; exact ht
set_option maxRecDepth 100000 in
set_option maxHeartbeats 2000000 in
theorem opAdd_any (s t : ByteArray) (w : World) (hs : s.size ≤ 9223372036854775807) (ht : t.size ≤ 9223372036854775807) (htab : Tab w) :
    Calls Tryz.prog 24 #[.string s, .string t, .func (.func 25) #[] #[]] w (RetTx w (rOp (SL s) (SL t) (ratTx (rval (SL s) + rval (SL t))))) := by
  have hb0 := (Below.refl w.heap.size w).alloc (Nat.le_refl _) (.cells #[.string s, .string t] 22)
  have HA := Lib.hid (rall_any [s, t] 2 (some ⟨w.heap.size, 0, none⟩) 2 _ (reads2 w 22 s t) (by omega) (fun x hx => mem2 hs ht hx) (tab_below htab hb0))
  have HB := Lib.hid hb0
  have HTB := Lib.hid htab
  have hmap : [s, t].map SL = [SL s, SL t] := rfl
  rw [hmap] at HA
  clear hb0 htab hmap
  go_enter Tryz.func24, Tryz.ntmps24
  go_wp2_with fail
  refine HA.out.mono ?_
  rintro e w1 ⟨rfl, hb⟩
  have HB1 := Lib.hid (HB.out.trans (hb.mono HB.out.size))
  clear hb HB HA
  by_cases h0 : rAll [SL s, SL t] = 0
  · obtain ⟨ha, hb⟩ := rAll_ok h0
    have HT := Lib.hid h0
    have HVA := Lib.hid (rchk_val _ ha)
    have HVB := Lib.hid (rchk_val _ hb)
    rw [h0]
    clear h0 ha hb
    go_wp2_with fail
    refine (parse_any s w1 hs HVA.out).mono ?_
    rintro e w2 ⟨u, rfl, hu, hb2⟩
    have HB2 := Lib.hid (HB1.out.trans (hb2.mono HB1.out.size))
    have HU := Lib.hid hu
    clear hb2 HB1 hu
    go_wp2_with fail
    refine (parse_any t w2 ht HVB.out).mono ?_
    rintro e w3 ⟨v, rfl, hv, hb3⟩
    have HB3 := Lib.hid (HB2.out.trans (hb3.mono HB2.out.size))
    have HU3 := Lib.hid (HU.out.ext hb3)
    have HV3 := Lib.hid hv
    clear hb3 HB2 hv HU
    go_wp2_with fail
    refine (radd_any u v _ _ w3 HU3.out HV3.out (N := 210) (by omega) (val_fit HVA.out) (val_fit HVB.out)).mono ?_
    rintro e w4 ⟨r, rfl, hr, hb4⟩
    have HB4 := Lib.hid (HB3.out.trans (hb4.mono HB3.out.size))
    have HR4 := Lib.hid hr
    clear hb4 HB3 hr
    go_wp2_with fail
    refine (ratText_any r _ w4 HR4.out (tab_below HTB.out HB4.out)).mono ?_
    rintro e w5 ⟨rfl, hb5⟩
    have HQ := Lib.hid (rOp_good (a := SL s) (b := SL t) (r := ratTx (rval (SL s) + rval (SL t))) HT.out HB4.out ⟨rfl, hb5⟩)
    clear hb5 HB4
    go_wp2
    go_ret2
    exact HQ.out
  · have HQ := Lib.hid (rOp_bad (a := SL s) (b := SL t) (r := ratTx (rval (SL s) + rval (SL t))) rfl h0 HB1.out)
    have tc : (rAll [SL s, SL t] != 0) = true := bne_iff_ne.2 h0
    generalize rAll [SL s, SL t] = c at *
    clear h0
    go_wp2
    go_ret2
    exact HQ.out
set_option maxRecDepth 100000 in
theorem ratAdd_any (s t : ByteArray) (w : World) (hs : s.size ≤ 9223372036854775807) (ht : t.size ≤ 9223372036854775807) (htab : Tab w) : Calls Tryz.prog 8 #[.string s, .string t] w (RetTx w (ratAdd (SL s) (SL t))) := by
  have HO := Lib.hid (opAdd_any s t w hs ht htab)
  go_enter Tryz.func8, Tryz.ntmps8
  go_wp2_with fail
  refine HO.out.mono ?_
  rintro e w1 ⟨rfl, hb⟩
  have HQ := Lib.hid (show RetTx w (ratAdd (SL s) (SL t)) _ w1 from ⟨rfl, hb⟩)
  clear HO hb
  go_wp2
  go_ret2
  exact HQ.out
set_option maxRecDepth 100000 in
set_option maxHeartbeats 2000000 in
theorem opSub_any (s t : ByteArray) (w : World) (hs : s.size ≤ 9223372036854775807) (ht : t.size ≤ 9223372036854775807) (htab : Tab w) :
    Calls Tryz.prog 24 #[.string s, .string t, .func (.func 27) #[] #[]] w (RetTx w (rOp (SL s) (SL t) (ratTx (rval (SL s) - rval (SL t))))) := by
  have hb0 := (Below.refl w.heap.size w).alloc (Nat.le_refl _) (.cells #[.string s, .string t] 22)
  have HA := Lib.hid (rall_any [s, t] 2 (some ⟨w.heap.size, 0, none⟩) 2 _ (reads2 w 22 s t) (by omega) (fun x hx => mem2 hs ht hx) (tab_below htab hb0))
  have HB := Lib.hid hb0
  have HTB := Lib.hid htab
  have hmap : [s, t].map SL = [SL s, SL t] := rfl
  rw [hmap] at HA
  clear hb0 htab hmap
  go_enter Tryz.func24, Tryz.ntmps24
  go_wp2_with fail
  refine HA.out.mono ?_
  rintro e w1 ⟨rfl, hb⟩
  have HB1 := Lib.hid (HB.out.trans (hb.mono HB.out.size))
  clear hb HB HA
  by_cases h0 : rAll [SL s, SL t] = 0
  · obtain ⟨ha, hb⟩ := rAll_ok h0
    have HT := Lib.hid h0
    have HVA := Lib.hid (rchk_val _ ha)
    have HVB := Lib.hid (rchk_val _ hb)
    rw [h0]
    clear h0 ha hb
    go_wp2_with fail
    refine (parse_any s w1 hs HVA.out).mono ?_
    rintro e w2 ⟨u, rfl, hu, hb2⟩
    have HB2 := Lib.hid (HB1.out.trans (hb2.mono HB1.out.size))
    have HU := Lib.hid hu
    clear hb2 HB1 hu
    go_wp2_with fail
    refine (parse_any t w2 ht HVB.out).mono ?_
    rintro e w3 ⟨v, rfl, hv, hb3⟩
    have HB3 := Lib.hid (HB2.out.trans (hb3.mono HB2.out.size))
    have HU3 := Lib.hid (HU.out.ext hb3)
    have HV3 := Lib.hid hv
    clear hb3 HB2 hv HU
    go_wp2_with fail
    refine (rsub_any u v _ _ w3 HU3.out HV3.out (N := 210) (by omega) (val_fit HVA.out) (val_fit HVB.out)).mono ?_
    rintro e w4 ⟨r, rfl, hr, hb4⟩
    have HB4 := Lib.hid (HB3.out.trans (hb4.mono HB3.out.size))
    have HR4 := Lib.hid hr
    clear hb4 HB3 hr
    go_wp2_with fail
    refine (ratText_any r _ w4 HR4.out (tab_below HTB.out HB4.out)).mono ?_
    rintro e w5 ⟨rfl, hb5⟩
    have HQ := Lib.hid (rOp_good (a := SL s) (b := SL t) (r := ratTx (rval (SL s) - rval (SL t))) HT.out HB4.out ⟨rfl, hb5⟩)
    clear hb5 HB4
    go_wp2
    go_ret2
    exact HQ.out
  · have HQ := Lib.hid (rOp_bad (a := SL s) (b := SL t) (r := ratTx (rval (SL s) - rval (SL t))) rfl h0 HB1.out)
    have tc : (rAll [SL s, SL t] != 0) = true := bne_iff_ne.2 h0
    generalize rAll [SL s, SL t] = c at *
    clear h0
    go_wp2
    go_ret2
    exact HQ.out
set_option maxRecDepth 100000 in
theorem ratSub_any (s t : ByteArray) (w : World) (hs : s.size ≤ 9223372036854775807) (ht : t.size ≤ 9223372036854775807) (htab : Tab w) : Calls Tryz.prog 10 #[.string s, .string t] w (RetTx w (ratSub (SL s) (SL t))) := by
  have HO := Lib.hid (opSub_any s t w hs ht htab)
  go_enter Tryz.func10, Tryz.ntmps10
  go_wp2_with fail
  refine HO.out.mono ?_
  rintro e w1 ⟨rfl, hb⟩
  have HQ := Lib.hid (show RetTx w (ratSub (SL s) (SL t)) _ w1 from ⟨rfl, hb⟩)
  clear HO hb
  go_wp2
  go_ret2
  exact HQ.out
set_option maxRecDepth 100000 in
set_option maxHeartbeats 2000000 in
theorem opMul_any (s t : ByteArray) (w : World) (hs : s.size ≤ 9223372036854775807) (ht : t.size ≤ 9223372036854775807) (htab : Tab w) :
    Calls Tryz.prog 24 #[.string s, .string t, .func (.func 26) #[] #[]] w (RetTx w (rOp (SL s) (SL t) (ratTx (rval (SL s) * rval (SL t))))) := by
  have hb0 := (Below.refl w.heap.size w).alloc (Nat.le_refl _) (.cells #[.string s, .string t] 22)
  have HA := Lib.hid (rall_any [s, t] 2 (some ⟨w.heap.size, 0, none⟩) 2 _ (reads2 w 22 s t) (by omega) (fun x hx => mem2 hs ht hx) (tab_below htab hb0))
  have HB := Lib.hid hb0
  have HTB := Lib.hid htab
  have hmap : [s, t].map SL = [SL s, SL t] := rfl
  rw [hmap] at HA
  clear hb0 htab hmap
  go_enter Tryz.func24, Tryz.ntmps24
  go_wp2_with fail
  refine HA.out.mono ?_
  rintro e w1 ⟨rfl, hb⟩
  have HB1 := Lib.hid (HB.out.trans (hb.mono HB.out.size))
  clear hb HB HA
  by_cases h0 : rAll [SL s, SL t] = 0
  · obtain ⟨ha, hb⟩ := rAll_ok h0
    have HT := Lib.hid h0
    have HVA := Lib.hid (rchk_val _ ha)
    have HVB := Lib.hid (rchk_val _ hb)
    rw [h0]
    clear h0 ha hb
    go_wp2_with fail
    refine (parse_any s w1 hs HVA.out).mono ?_
    rintro e w2 ⟨u, rfl, hu, hb2⟩
    have HB2 := Lib.hid (HB1.out.trans (hb2.mono HB1.out.size))
    have HU := Lib.hid hu
    clear hb2 HB1 hu
    go_wp2_with fail
    refine (parse_any t w2 ht HVB.out).mono ?_
    rintro e w3 ⟨v, rfl, hv, hb3⟩
    have HB3 := Lib.hid (HB2.out.trans (hb3.mono HB2.out.size))
    have HU3 := Lib.hid (HU.out.ext hb3)
    have HV3 := Lib.hid hv
    clear hb3 HB2 hv HU
    go_wp2_with fail
    refine (rmul_any u v _ _ w3 HU3.out HV3.out (N := 210) (by omega) (val_fit HVA.out) (val_fit HVB.out)).mono ?_
    rintro e w4 ⟨r, rfl, hr, hb4⟩
    have HB4 := Lib.hid (HB3.out.trans (hb4.mono HB3.out.size))
    have HR4 := Lib.hid hr
    clear hb4 HB3 hr
    go_wp2_with fail
    refine (ratText_any r _ w4 HR4.out (tab_below HTB.out HB4.out)).mono ?_
    rintro e w5 ⟨rfl, hb5⟩
    have HQ := Lib.hid (rOp_good (a := SL s) (b := SL t) (r := ratTx (rval (SL s) * rval (SL t))) HT.out HB4.out ⟨rfl, hb5⟩)
    clear hb5 HB4
    go_wp2
    go_ret2
    exact HQ.out
  · have HQ := Lib.hid (rOp_bad (a := SL s) (b := SL t) (r := ratTx (rval (SL s) * rval (SL t))) rfl h0 HB1.out)
    have tc : (rAll [SL s, SL t] != 0) = true := bne_iff_ne.2 h0
    generalize rAll [SL s, SL t] = c at *
    clear h0
    go_wp2
    go_ret2
    exact HQ.out
set_option maxRecDepth 100000 in
theorem ratMul_any (s t : ByteArray) (w : World) (hs : s.size ≤ 9223372036854775807) (ht : t.size ≤ 9223372036854775807) (htab : Tab w) : Calls Tryz.prog 9 #[.string s, .string t] w (RetTx w (ratMul (SL s) (SL t))) := by
  have HO := Lib.hid (opMul_any s t w hs ht htab)
  go_enter Tryz.func9, Tryz.ntmps9
  go_wp2_with fail
  refine HO.out.mono ?_
  rintro e w1 ⟨rfl, hb⟩
  have HQ := Lib.hid (show RetTx w (ratMul (SL s) (SL t)) _ w1 from ⟨rfl, hb⟩)
  clear HO hb
  go_wp2
  go_ret2
  exact HQ.out
end Go.Proofs.YtpbdlmjfjkfphaaGreatDoor
