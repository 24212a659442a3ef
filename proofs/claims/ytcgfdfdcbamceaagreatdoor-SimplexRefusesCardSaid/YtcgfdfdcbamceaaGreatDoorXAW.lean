/- Package nat: Gcd, and what all operations share. rat.Check, rat.CheckAll. (large.Rat).Text, rat.text, large.Parse. -/
import Derived.Test.YtcgfdfdcbamceaaGreatDoorXAV
import Derived.Test.YtcgfdfdcbamceaaGreatDoorXAN
import Derived.Deep.LoopGhost
namespace Go.Proofs.YtcgfdfdcbamceaaGreatDoor
open Go.RowKit
theorem Num.fits {l : List UInt8} (h : Num l) : Fits 210 (num l : Int) := by
 have := num_fits h.digs h.len l.length
 rwa [List.take_length] at this
theorem RetTx.bad {w w' : World} {a b : List UInt8} {r : List UInt8 × Int} {c : Int} (hc : natTwo a b = c) (h0 : c ≠ 0) (hb : Below w.heap.size w w') : RetTx w (natOp a b r) (.returned (.tuple #[.string ⟨#[]⟩, I c])) w' := by
 refine ⟨?_, hb⟩
 rw [natOp, if_neg (by rw [hc]; exact h0), hc]
theorem RetTx.good {w w1 w' : World} {a b : List UInt8} {r : List UInt8 × Int} {e : Ending} (hc : natTwo a b = 0) (hb : Below w.heap.size w w1) (h : RetTx w1 r e w') : RetTx w (natOp a b r) e w' := by
 rw [natOp, if_pos hc]
 exact ⟨h.1, hb.trans (h.2.mono hb.size)⟩
theorem two_alloc {w w1 : World} (hb : Below w.heap.size w w1) (o1 o2 : Obj) : Below w.heap.size w ((w1.alloc o1).alloc o2) := (hb.alloc hb.size _).alloc (by have := hb.size; simp; omega) _
theorem Big.alloc2 {w : World} {v : Value} {z : Int} (h : Big w v z) (o1 o2 : Obj) : Big ((w.alloc o1).alloc o2) v z := (h.alloc o1).alloc o2
set_option maxRecDepth 100000 in
set_option maxHeartbeats 1000000 in
theorem natGcd_any (s t : ByteArray) (w : World) (hs : s.size ≤ 9223372036854775807) (ht : t.size ≤ 9223372036854775807) (htab : Tab w) :
  Calls Tryz.prog 71 #[.string s, .string t] w (RetTx w (natGcd (SL s) (SL t))) := by
 have HW := Lib.hid (two_any s t w hs ht)
 have HTB := Lib.hid htab
 clear htab
 go_enter Tryz.func71, Tryz.ntmps71
 go_wp2_with fail
 refine HW.out.mono ?_
 rintro e w1 ⟨u, v, x, y, rfl, hu, hv, hxy, hb⟩
 obtain ⟨Au, lu, cu, rfl⟩ := hu.form
 obtain ⟨Av, lv, cv, rfl⟩ := hv.form
 clear HW
 by_cases h0 : natTwo (SL s) (SL t) = 0
 ·obtain ⟨rfl, rfl⟩ := hxy h0
  obtain ⟨ns, nt⟩ := (natTwo_ok _ _).1 h0
  have HB := Lib.hid (two_alloc hb (.cells #[.bool (decide ((num (SL s) : Int) < 0)), .slice Au lu cu] bigT) (.cells #[.bool (decide ((num (SL t) : Int) < 0)), .slice Av lv cv] bigT))
  have hu2 := hu.alloc2 (.cells #[.bool (decide ((num (SL s) : Int) < 0)), .slice Au lu cu] bigT) (.cells #[.bool (decide ((num (SL t) : Int) < 0)), .slice Av lv cv] bigT)
  have hv2 := hv.alloc2 (.cells #[.bool (decide ((num (SL s) : Int) < 0)), .slice Au lu cu] bigT) (.cells #[.bool (decide ((num (SL t) : Int) < 0)), .slice Av lv cv] bigT)
  have HA := Lib.hid (gcd_any _ _ (num (SL s) : Int) (num (SL t) : Int) _ hu2 hv2 (N := 210) (by omega) ns.fits nt.fits)
  have HT := Lib.hid h0
  rw [h0]
  clear hu hv hxy hb h0 hu2 hv2
  generalize decide ((num (SL s) : Int) < 0) = bs at *
  generalize decide ((num (SL t) : Int) < 0) = bt at *
  unfold bigT at *
  go_wp2_with fail
  refine HA.out.mono ?_
  rintro e w2 ⟨v2, rfl, hv3, hb2⟩
  have HB2 := Lib.hid (HB.out.trans (hb2.mono HB.out.size))
  clear HA HB hb2
  have HX := Lib.hid (natText_any v2 (Nat.gcd (num (SL s)) (num (SL t))) w2 (by skip; exact hv3) (tab_below HTB.out HB2.out))
  clear hv3
  go_wp2_with fail
  refine HX.out.mono ?_
  rintro e w9 ⟨rfl, hb9⟩
  have HQ := Lib.hid (RetTx.good (a := SL s) (b := SL t) (r := natTx (Nat.gcd (num (SL s)) (num (SL t)))) HT.out HB2.out ⟨rfl, hb9⟩)
  change Hid (RetTx w (natGcd (SL s) (SL t)) _ _) at HQ
  clear HX hb9 HB2
  go_wp2
  go_ret2
  exact HQ.out
 ·have HQ := Lib.hid (RetTx.bad (r := natTx (Nat.gcd (num (SL s)) (num (SL t)))) rfl h0 (two_alloc hb (.cells #[.bool (decide (x < 0)), .slice Au lu cu] bigT) (.cells #[.bool (decide (y < 0)), .slice Av lv cv] bigT)))
  change Hid (RetTx w (natGcd (SL s) (SL t)) _ _) at HQ
  clear hu hv hb hxy
  have tc : (natTwo (SL s) (SL t) != 0) = true := bne_iff_ne.2 h0
  generalize natTwo (SL s) (SL t) = c at *
  unfold bigT at *
  go_wp2
  go_ret2
  exact HQ.out
theorem rchk_five {l : List UInt8} (h : chk (cutA (trimM l)) = 5 ∨ chkD (trimM l) = 5 ∨ (cutA (trimM l) = [48] ∧ (trimM l).length < l.length)) : rchk l = 5 := by rw [rchk, if_pos h]
theorem rchk_two {l : List UInt8} (h1 : ¬ (chk (cutA (trimM l)) = 5 ∨ chkD (trimM l) = 5 ∨ (cutA (trimM l) = [48] ∧ (trimM l).length < l.length))) (h2 : chk (cutA (trimM l)) ≠ 0 ∨ chkD (trimM l) ≠ 0) : rchk l = 2 := by rw [rchk, if_neg h1, if_pos h2]
theorem rchk_three {l : List UInt8} (h1 : ¬ (chk (cutA (trimM l)) = 5 ∨ chkD (trimM l) = 5 ∨ (cutA (trimM l) = [48] ∧ (trimM l).length < l.length))) (h2 : ¬ (chk (cutA (trimM l)) ≠ 0 ∨ chkD (trimM l) ≠ 0)) (h3 : cutI (trimM l) = true ∧ (cutD (trimM l) = [48] ∨ cutD (trimM l) = [49] ∨ (natGcd (cutA (trimM l)) (cutD (trimM l))).1 ≠ [49])) : rchk l = 3 := by rw [rchk, if_neg h1, if_neg h2, if_pos h3]
theorem rchk_zero {l : List UInt8} (h1 : ¬ (chk (cutA (trimM l)) = 5 ∨ chkD (trimM l) = 5 ∨ (cutA (trimM l) = [48] ∧ (trimM l).length < l.length))) (h2 : ¬ (chk (cutA (trimM l)) ≠ 0 ∨ chkD (trimM l) ≠ 0)) (h3 : ¬ (cutI (trimM l) = true ∧ (cutD (trimM l) = [48] ∨ cutD (trimM l) = [49] ∨ (natGcd (cutA (trimM l)) (cutD (trimM l))).1 ≠ [49]))) : rchk l = 0 := by rw [rchk, if_neg h1, if_neg h2, if_neg h3]
theorem cutA_len : ∀ l : List UInt8, (cutA l).length ≤ l.length
 | [] => Nat.le_refl _
 | c :: l => by rw [cutA]; split; exact Nat.zero_le _; simp; exact cutA_len l
theorem cutD_len : ∀ l : List UInt8, (cutD l).length ≤ l.length
 | [] => Nat.le_refl _
 | c :: l => by rw [cutD]; split; simp; exact Nat.le_trans (cutD_len l) (by simp)
theorem trimM_len (l : List UInt8) : (trimM l).length ≤ l.length := by
 have := congrArg List.length (neg_form l)
 split at this
 ·rw [List.length_cons] at this; omega
 ·omega
theorem size_mk (l : List UInt8) : (⟨l.toArray⟩ : ByteArray).size = l.length := by simp [ByteArray.size]
theorem beq_l (l m : List UInt8) (L : List UInt8) (h : (⟨m.toArray⟩ : ByteArray).toList = L) : (l == L) = decide (l = m) := by
 rw [← h]
 have := beq_lit ⟨l.toArray⟩ m _ rfl
 rw [SL_mk] at this
 rw [← this]
 congr 1
 simp
theorem cut_l (l : List UInt8) (w : World) (h : l.length ≤ 9223372036854775807) : Calls Tryz.prog 69 #[.string ⟨l.toArray⟩, .string ⟨#[47]⟩] w fun e w' => e = .returned (.tuple #[.string ⟨(cutA l).toArray⟩, .string ⟨(cutD l).toArray⟩, .bool (cutI l)]) ∧ ∃ n, w' = w.drewN n :=
 cut_any ⟨l.toArray⟩ w (by rw [size_mk]; exact h)
theorem chk_l (l : List UInt8) (w : World) (h : l.length ≤ 9223372036854775807) : Calls Tryz.prog 70 #[.string ⟨l.toArray⟩] w fun e w' => e = .returned (I (chk l)) ∧ Below w.heap.size w w' :=
 chk_any ⟨l.toArray⟩ w (by rw [size_mk]; omega)
theorem gcd_l (a b : List UInt8) (w : World) (h : a.length ≤ 9223372036854775807) (k : b.length ≤ 9223372036854775807) (htab : Tab w) : Calls Tryz.prog 71 #[.string ⟨a.toArray⟩, .string ⟨b.toArray⟩] w fun e w' => e = .returned (.tuple #[.string ⟨(natGcd a b).1.toArray⟩, I (natGcd a b).2]) ∧ Below w.heap.size w w' :=
 natGcd_any ⟨a.toArray⟩ ⟨b.toArray⟩ w (by rw [size_mk]; omega) (by rw [size_mk]; omega) htab
theorem below_undrewN {w w' : World} {n : Nat} (h : Below (w.drewN n).heap.size (w.drewN n) w') : Below w.heap.size w w' := ⟨h.os, h.tape, h.output, h.size, h.block⟩
set_option maxRecDepth 100000 in
set_option maxHeartbeats 1000000 in
theorem rchk_any (s : ByteArray) (w : World) (hs : s.size ≤ 9223372036854775807) (htab : Tab w) : Calls Tryz.prog 37 #[.string s] w fun e w' => e = .returned (I (rchk (SL s))) ∧ Below w.heap.size w w' := by
 have HTR := Lib.hid fun W => Tryz.strings_TrimPrefix s ⟨#[45]⟩ W
 have eT : Lib.trimPrefix s.data.toList (⟨#[45]⟩ : ByteArray).data.toList = trimM (SL s) := rfl
 rw [eT] at HTR
 clear eT
 have HTB := Lib.hid htab
 clear htab
 have hT := trimM_len (SL s)
 have hA := cutA_len (trimM (SL s))
 have hD := cutD_len (trimM (SL s))
 rw [SL_len] at hT
 have H5 := Lib.hid (@rchk_five (SL s))
 have H2 := Lib.hid (@rchk_two (SL s))
 have H3 := Lib.hid (@rchk_three (SL s))
 have H0 := Lib.hid (@rchk_zero (SL s))
 rw [SL_len] at H5 H2 H3 H0
 generalize rchk (SL s) = R at *
 generalize trimM (SL s) = T at *
 have hcd : chkD T = (if cutI T = true then chk (cutD T) else 0) := rfl
 have HCU := Lib.hid fun W => cut_l T W (by omega)
 have hTs := size_mk T
 have HCA := Lib.hid fun W => chk_l (cutA T) W (by omega)
 have HCX := Lib.hid fun W => chk_l (cutD T) W (by omega)
 have HG := Lib.hid fun W h => gcd_l (cutA T) (cutD T) W (by omega) (by omega) h
 have HE48 := beq_l (cutA T) [48] [48] (by decide +kernel)
 have HD48 := beq_l (cutD T) [48] [48] (by decide +kernel)
 have HD49 := beq_l (cutD T) [49] [49] (by decide +kernel)
 have HG49 := beq_l (natGcd (cutA T) (cutD T)).1 [49] [49] (by decide +kernel)
 generalize natGcd (cutA T) (cutD T) = G at *
 obtain ⟨g, ge⟩ := G
 try dsimp only at HG49
 try dsimp only at H3
 try dsimp only at H0
 try dsimp only at HG
 generalize cutA T = A at *
 generalize cutD T = D at *
 clear hA hD
 generalize cutI T = II at *
 generalize chkD T = b at *
 generalize chk A = a at *
 generalize chk D = d at *
 have HCDD := Lib.hid hcd
 clear hcd
 have HTS := Lib.hid hTs
 have ht : decide ((T.length : Int) < (s.size : Int)) = decide (T.length < s.size) := decide_eq_decide.2 (by omega)
 have HTT := Lib.hid ht
 clear hTs hT ht
 go_enter Tryz.func37, Tryz.ntmps37
 go_wp2_with fail
 refine (HTR.out _).mono ?_
 rintro e w' ⟨rfl, rfl⟩
 go_wp2_with fail
 refine (HCU.out _).mono ?_
 rintro e w' ⟨rfl, n, rfl⟩
 clear HTR HCU
 go_wp2_with fail
 refine (HCA.out _).mono ?_
 rintro e w1 ⟨rfl, hb1⟩
 have HB1 := Lib.hid (below_undrewN hb1)
 clear hb1 HCA
 cases II with
 | true =>
  simp only [↓reduceIte] at HCDD
  go_wp2_with fail
  refine (HCX.out _).mono ?_
  rintro e w2 ⟨rfl, hb2⟩
  have HB2 := Lib.hid (HB1.out.trans (hb2.mono HB1.out.size))
  clear hb2 HB1 HCX
  by_cases a5 : a = 5
  ·subst a5
   have HQ := Lib.hid (H5.out (.inl rfl))
   clear H5 H2 H3 H0 HG HCDD
   go_wp2
   go_ret
   exact ⟨ret_int HQ.out.symm, HB2.out⟩
  have ta5 : (a == 5) = false := beq_eq_false_iff_ne.2 a5
  by_cases b5 : d = 5
  ·subst b5
   have HQ := Lib.hid (H5.out (.inr (.inl HCDD.out)))
   clear H5 H2 H3 H0 HG HCDD
   go_wp2
   go_ret
   exact ⟨ret_int HQ.out.symm, HB2.out⟩
  have tb5 : (d == 5) = false := beq_eq_false_iff_ne.2 b5
  have nb5 : b ≠ 5 := by rw [HCDD.out]; exact b5
  by_cases hz : A = [48] ∧ T.length < s.size
  ·have tz : (A == [48]) = true := by rw [HE48, decide_eq_true hz.1]
   have tl : decide (T.length < s.size) = true := decide_eq_true hz.2
   clear HE48 HD48 HD49 HG49
   have hz2 := hz.2
   have HQ := Lib.hid (H5.out (.inr (.inr hz)))
   clear H5 H2 H3 H0 HG HCDD
   go_wp2
   go_ret
   exact ⟨ret_int HQ.out.symm, HB2.out⟩
  have N1 : ¬ (a = 5 ∨ b = 5 ∨ (A = [48] ∧ T.length < s.size)) := fun k => k.elim a5 fun k => k.elim nb5 hz
  have HN1 := Lib.hid N1
  clear N1 nb5
  have hza : (A == [48]) = false ∨ ((A == [48]) = true ∧ decide (T.length < s.size) = false) := by
   by_cases k : A = [48]
   ·exact .inr ⟨by rw [HE48, decide_eq_true k], decide_eq_false fun k2 => hz ⟨k, k2⟩⟩
   ·exact .inl (by rw [HE48, decide_eq_false k])
  have HD48B : (D == [48]) = decide (D = [48]) := HD48
  clear hz HE48 HD48
  rcases hza with tz | ⟨tz, tl⟩
  ·skip
   by_cases a0 : a = 0
   ·subst a0
    by_cases b0 : d = 0
    ·subst b0
     have N2 := Lib.hid (show ¬ ((0 : Int) ≠ 0 ∨ b ≠ 0) from fun k => k.elim (fun k => k rfl) fun k => k HCDD.out)
     go_wp2_with fail
     refine (HG.out _ (tab_below HTB.out HB2.out)).mono ?_
     rintro e w3 ⟨rfl, hb3⟩
     have HB3 := Lib.hid (HB2.out.trans (hb3.mono HB2.out.size))
     clear hb3 HB2
     by_cases q1 : D = [48]
     ·have u1 : (D == [48]) = true := by rw [HD48B, decide_eq_true q1]
      clear HD48B HD49 HG49
      have HQ := Lib.hid (H3.out HN1.out N2.out ⟨trivial, .inl q1⟩)
      clear H5 H2 H3 H0 HG HCDD
      go_wp2
      go_ret
      exact ⟨ret_int HQ.out.symm, HB3.out⟩
     have u1 : (D == [48]) = false := by rw [HD48B, decide_eq_false q1]
     by_cases q2 : D = [49]
     ·have u2 : (D == [49]) = true := by rw [HD49, decide_eq_true q2]
      clear HD48B HD49 HG49
      have HQ := Lib.hid (H3.out HN1.out N2.out ⟨trivial, .inr (.inl q2)⟩)
      clear H5 H2 H3 H0 HG HCDD
      go_wp2
      go_ret
      exact ⟨ret_int HQ.out.symm, HB3.out⟩
     have u2 : (D == [49]) = false := by rw [HD49, decide_eq_false q2]
     by_cases q3 : g = [49]
     ·have u3 : (g == [49]) = true := by rw [HG49, decide_eq_true q3]
      have Q := Lib.hid (show ¬ (True ∧ (D = [48] ∨ D = [49] ∨ g ≠ [49])) from fun k => k.2.elim q1 fun k => k.elim q2 fun k => k q3)
      clear HD48B HD49 HG49
      have HQ := Lib.hid (H0.out HN1.out N2.out (fun k => Q.out ⟨trivial, k.2⟩))
      clear H5 H2 H3 H0 HG HCDD
      go_wp2
      go_ret
      exact ⟨ret_int HQ.out.symm, HB3.out⟩
     have u3 : (g == [49]) = false := by rw [HG49, decide_eq_false q3]
     clear HD48B HD49 HG49
     have HQ := Lib.hid (H3.out HN1.out N2.out ⟨trivial, .inr (.inr q3)⟩)
     clear H5 H2 H3 H0 HG HCDD
     go_wp2
     go_ret
     exact ⟨ret_int HQ.out.symm, HB3.out⟩
    have tb0 : (d != 0) = true := bne_iff_ne.2 b0
    clear HD48B HD49 HG49
    have HQ := Lib.hid (H2.out HN1.out (.inr (by rw [HCDD.out]; exact b0)))
    clear H5 H2 H3 H0 HG HCDD
    go_wp2
    go_ret
    exact ⟨ret_int HQ.out.symm, HB2.out⟩
   have ta0 : (a != 0) = true := bne_iff_ne.2 a0
   clear HD48B HD49 HG49
   have HQ := Lib.hid (H2.out HN1.out (.inl a0))
   clear H5 H2 H3 H0 HG HCDD
   go_wp2
   go_ret
   exact ⟨ret_int HQ.out.symm, HB2.out⟩
  ·skip
   by_cases a0 : a = 0
   ·subst a0
    by_cases b0 : d = 0
    ·subst b0
     have N2 := Lib.hid (show ¬ ((0 : Int) ≠ 0 ∨ b ≠ 0) from fun k => k.elim (fun k => k rfl) fun k => k HCDD.out)
     go_wp2_with fail
     refine (HG.out _ (tab_below HTB.out HB2.out)).mono ?_
     rintro e w3 ⟨rfl, hb3⟩
     have HB3 := Lib.hid (HB2.out.trans (hb3.mono HB2.out.size))
     clear hb3 HB2
     by_cases q1 : D = [48]
     ·have u1 : (D == [48]) = true := by rw [HD48B, decide_eq_true q1]
      clear HD48B HD49 HG49
      have HQ := Lib.hid (H3.out HN1.out N2.out ⟨trivial, .inl q1⟩)
      clear H5 H2 H3 H0 HG HCDD
      go_wp2
      go_ret
      exact ⟨ret_int HQ.out.symm, HB3.out⟩
     have u1 : (D == [48]) = false := by rw [HD48B, decide_eq_false q1]
     by_cases q2 : D = [49]
     ·have u2 : (D == [49]) = true := by rw [HD49, decide_eq_true q2]
      clear HD48B HD49 HG49
      have HQ := Lib.hid (H3.out HN1.out N2.out ⟨trivial, .inr (.inl q2)⟩)
      clear H5 H2 H3 H0 HG HCDD
      go_wp2
      go_ret
      exact ⟨ret_int HQ.out.symm, HB3.out⟩
     have u2 : (D == [49]) = false := by rw [HD49, decide_eq_false q2]
     by_cases q3 : g = [49]
     ·have u3 : (g == [49]) = true := by rw [HG49, decide_eq_true q3]
      have Q := Lib.hid (show ¬ (True ∧ (D = [48] ∨ D = [49] ∨ g ≠ [49])) from fun k => k.2.elim q1 fun k => k.elim q2 fun k => k q3)
      clear HD48B HD49 HG49
      have HQ := Lib.hid (H0.out HN1.out N2.out (fun k => Q.out ⟨trivial, k.2⟩))
      clear H5 H2 H3 H0 HG HCDD
      go_wp2
      go_ret
      exact ⟨ret_int HQ.out.symm, HB3.out⟩
     have u3 : (g == [49]) = false := by rw [HG49, decide_eq_false q3]
     clear HD48B HD49 HG49
     have HQ := Lib.hid (H3.out HN1.out N2.out ⟨trivial, .inr (.inr q3)⟩)
     clear H5 H2 H3 H0 HG HCDD
     go_wp2
     go_ret
     exact ⟨ret_int HQ.out.symm, HB3.out⟩
    have tb0 : (d != 0) = true := bne_iff_ne.2 b0
    clear HD48B HD49 HG49
    have HQ := Lib.hid (H2.out HN1.out (.inr (by rw [HCDD.out]; exact b0)))
    clear H5 H2 H3 H0 HG HCDD
    go_wp2
    go_ret
    exact ⟨ret_int HQ.out.symm, HB2.out⟩
   have ta0 : (a != 0) = true := bne_iff_ne.2 a0
   clear HD48B HD49 HG49
   have HQ := Lib.hid (H2.out HN1.out (.inl a0))
   clear H5 H2 H3 H0 HG HCDD
   go_wp2
   go_ret
   exact ⟨ret_int HQ.out.symm, HB2.out⟩
 | false =>
  simp only [Bool.false_eq_true, ↓reduceIte] at HCDD
  clear HCX
  by_cases a5 : a = 5
  ·subst a5
   have HQ := Lib.hid (H5.out (.inl rfl))
   clear H5 H2 H3 H0 HG HCDD
   go_wp2
   go_ret
   exact ⟨ret_int HQ.out.symm, HB1.out⟩
  have ta5 : (a == 5) = false := beq_eq_false_iff_ne.2 a5
  have nb5 : b ≠ 5 := by rw [HCDD.out]; decide
  by_cases hz : A = [48] ∧ T.length < s.size
  ·have tz : (A == [48]) = true := by rw [HE48, decide_eq_true hz.1]
   have tl : decide (T.length < s.size) = true := decide_eq_true hz.2
   clear HE48 HD48 HD49 HG49
   have hz2 := hz.2
   have HQ := Lib.hid (H5.out (.inr (.inr hz)))
   clear H5 H2 H3 H0 HG HCDD
   go_wp2
   go_ret
   exact ⟨ret_int HQ.out.symm, HB1.out⟩
  have N1 : ¬ (a = 5 ∨ b = 5 ∨ (A = [48] ∧ T.length < s.size)) := fun k => k.elim a5 fun k => k.elim nb5 hz
  have HN1 := Lib.hid N1
  clear N1 nb5
  have hza : (A == [48]) = false ∨ ((A == [48]) = true ∧ decide (T.length < s.size) = false) := by
   by_cases k : A = [48]
   ·exact .inr ⟨by rw [HE48, decide_eq_true k], decide_eq_false fun k2 => hz ⟨k, k2⟩⟩
   ·exact .inl (by rw [HE48, decide_eq_false k])
  have HD48B : (D == [48]) = decide (D = [48]) := HD48
  clear hz HE48 HD48
  rcases hza with tz | ⟨tz, tl⟩
  ·skip
   by_cases a0 : a = 0
   ·subst a0
    have N2 := Lib.hid (show ¬ ((0 : Int) ≠ 0 ∨ b ≠ 0) from fun k => k.elim (fun k => k rfl) fun k => k HCDD.out)
    clear HD48B HD49 HG49
    have HQ := Lib.hid (H0.out HN1.out N2.out (fun k => by cases k.1))
    clear H5 H2 H3 H0 HG HCDD
    go_wp2
    go_ret
    exact ⟨ret_int HQ.out.symm, HB1.out⟩
   have ta0 : (a != 0) = true := bne_iff_ne.2 a0
   clear HD48B HD49 HG49
   have HQ := Lib.hid (H2.out HN1.out (.inl a0))
   clear H5 H2 H3 H0 HG HCDD
   go_wp2
   go_ret
   exact ⟨ret_int HQ.out.symm, HB1.out⟩
  ·skip
   by_cases a0 : a = 0
   ·subst a0
    have N2 := Lib.hid (show ¬ ((0 : Int) ≠ 0 ∨ b ≠ 0) from fun k => k.elim (fun k => k rfl) fun k => k HCDD.out)
    clear HD48B HD49 HG49
    have HQ := Lib.hid (H0.out HN1.out N2.out (fun k => by cases k.1))
    clear H5 H2 H3 H0 HG HCDD
    go_wp2
    go_ret
    exact ⟨ret_int HQ.out.symm, HB1.out⟩
   have ta0 : (a != 0) = true := bne_iff_ne.2 a0
   clear HD48B HD49 HG49
   have HQ := Lib.hid (H2.out HN1.out (.inl a0))
   clear H5 H2 H3 H0 HG HCDD
   go_wp2
   go_ret
   exact ⟨ret_int HQ.out.symm, HB1.out⟩
def TextZ (w : World) (z : Int) (e : Ending) (w' : World) : Prop := ∃ s, e = .returned (.tuple #[.string s, .bool (short z)]) ∧ (short z = true → s = ⟨(Lib.itoa z).toArray⟩) ∧ s.size ≤ 4000 ∧ Below w.heap.size w w'
theorem itoa_size {z : Int} {k : Nat} (hk : k = 2100) (h : (z.natAbs : Int) < P32 210) : (⟨(Lib.itoa z).toArray⟩ : ByteArray).size ≤ 4000 := by
 have key : P32 210 ≤ ((10 ^ k : Nat) : Int) := by subst hk; decide +kernel
 have h1 : z.natAbs < 10 ^ k := by omega
 have h2 := (dec_len_lt z.natAbs k (by omega)).2 h1
 rw [size_mk, Lib.itoa]
 split
 ·simp; omega
 ·rw [show z.toNat = z.natAbs by omega]; omega
set_option maxRecDepth 100000 in
set_option maxHeartbeats 1000000 in
theorem textz_any (v : Value) (z : Int) (w : World) (hx : Big w v z) (htab : Tab w) : Calls Tryz.prog 67 #[v] w (TextZ w z) := by
 obtain ⟨A, ca, wz, rfl, hnz, hvz⟩ := hx.nn
 have HB := Lib.hid ((Below.refl w.heap.size w).alloc (Nat.le_refl _) (.cells #[.bool (decide (z < 0)), .slice A wz.length ca] bigT))
 by_cases h0 : wz.length = 0
 ·have hz : z = 0 := by
   rw [List.eq_nil_of_length_eq_zero h0] at hvz
   simp [val] at hvz
   omega
  have hs : short z = true := by rw [hz]; decide +kernel
  have hi : (⟨#[48]⟩ : ByteArray) = ⟨(Lib.itoa z).toArray⟩ := by rw [hz]; decide +kernel
  have HS := Lib.hid hs
  have HII := Lib.hid hi
  have t0 : ((wz.length : Int) == 0) = true := beq_iff_eq.2 (by omega)
  clear hx hnz hvz htab h0 hz hs hi
  generalize decide (z < 0) = b at *
  unfold bigT at *
  go_enter Tryz.func67, Tryz.ntmps67
  go_wp2
  go_ret2
  exact ⟨_, ret_text_one _ _ HS.out, fun _ => HII.out, by decide, HB.out⟩
 ·by_cases hl : wz.length ≤ 210
  ·refine (text_mid z A ca wz w hnz hvz (by omega) hl htab).mono ?_
   rintro e w' ⟨rfl, hb⟩
   exact ⟨_, rfl, fun _ => rfl, itoa_size (k := 2100) rfl (Int.lt_of_lt_of_le (show (z.natAbs : Int) < P32 wz.length by rw [← hvz]; exact val_lt hnz.ok) (P32_mono hl)), hb⟩
  ·have HS := Lib.hid (short_large hnz.ok hnz.nm hvz (by omega))
   have t0 : ((wz.length : Int) == 0) = false := beq_eq_false_iff_ne.2 (by omega)
   have t1 : decide (210 < (wz.length : Int)) = true := decide_eq_true (by omega)
   clear hx hnz hvz htab h0 hl
   generalize decide (z < 0) = b at *
   unfold bigT at *
   go_enter Tryz.func67, Tryz.ntmps67
   go_wp2
   go_ret2
   exact ⟨_, ret_text_none _ _ HS.out, fun h => (by rw [HS.out] at h; cases h), by decide, HB.out⟩
def TextQ (w : World) (q : Rat) (e : Ending) (w' : World) : Prop := ∃ s, e = .returned (.tuple #[.string s, .bool (fitQ q)]) ∧ (fitQ q = true → s = ⟨(qText q).toArray⟩) ∧ Below w.heap.size w w'
theorem short_num (q : Rat) : short q.num = fitN q.num.natAbs := rfl
theorem short_den (q : Rat) : short (q.den : Int) = fitN q.den := short_nat _
theorem cat_mk (a b : List UInt8) : ((⟨a.toArray⟩ : ByteArray) ++ ⟨#[47]⟩) ++ ⟨b.toArray⟩ = ⟨(a ++ 47 :: b).toArray⟩ := SL_inj (by
 rw [SL_mk]
 simp [SL])
theorem fitQ_no1 {q : Rat} (h : short q.num = false) : fitQ q = false := by rw [fitQ, ← short_num, h]; rfl
theorem fitQ_no2 {q : Rat} (h : short (q.den : Int) = false) : fitQ q = false := by rw [fitQ, ← short_den, h, Bool.and_false]
theorem fitQ_yes {q : Rat} (h : short q.num = true) (h2 : short (q.den : Int) = true) : fitQ q = true := by rw [fitQ, ← short_num, ← short_den, h, h2]; rfl
set_option maxRecDepth 100000 in
set_option maxHeartbeats 1000000 in
theorem rtext_any (v : Value) (q : Rat) (w : World) (hx : Rt w v q) (htab : Tab w) : Calls Tryz.prog 34 #[v] w (TextQ w q) := by
 obtain ⟨A, l, c, B, m, d, rfl, hn, hd⟩ := hx.form
 obtain ⟨hv, hb⟩ := boxes1 w (.bool (decide (q.num < 0))) (.slice A l c) (.bool false) (.slice B m d)
 have HT := Lib.hid (textz_any _ _ _ (hn.ext hb) (tab_below htab hb))
 have HB := Lib.hid hb
 have HD := Lib.hid (hd.ext hb)
 have HV := Lib.hid hv
 have HTB := Lib.hid htab
 have v0 := hv.c0
 have v1 := hv.c1
 clear hx hn hd hv hb htab
 generalize decide (q.num < 0) = nb at *
 unfold ratT at *
 go_enter Tryz.func34, Tryz.ntmps34
 go_wp2_with fail
 generalize w.alloc (Obj.cells #[Value.bool nb, Value.slice A l c, Value.bool false, Value.slice B m d] 71) = W0 at *
 refine HT.out.mono ?_
 rintro e w1 ⟨s, rfl, hs, zs, hb⟩
 have HB1 := Lib.hid (HB.out.trans (hb.mono HB.out.size))
 have HD1 := Lib.hid (HD.out.ext hb)
 have HV1 := HV.out.below hb
 have HS := Lib.hid hs
 clear HB HD HV HT hb hs v0 v1
 by_cases h1 : short q.num = true
 ·rw [h1]
  have v2 := HV1.c2
  have v3 := HV1.c3
  have HT := Lib.hid (textz_any _ _ _ HD1.out (tab_below HTB.out HB1.out))
  clear HV1
  go_wp2_with fail
  refine HT.out.mono ?_
  rintro e w2 ⟨t, rfl, ht, zt, hb⟩
  have zs1 : (s ++ ⟨#[47]⟩).size ≤ 4001 := by rw [ByteArray.size_append]; exact Nat.add_le_add_right zs 1
  have HB2 := Lib.hid (HB1.out.trans (hb.mono HB1.out.size))
  clear hb HB1 HT
  have hlit := beq_lit t [49] [49] (by decide +kernel)
  by_cases h2 : short (q.den : Int) = true
  ·have et := ht h2
   have es := HS.out h1
   have hf := fitQ_yes h1 h2
   have hst : SL t = Lib.decDigits q.den := by rw [et, SL_mk, itoa_nat]
   have h49 : (SL t = [49]) ↔ q.den = 1 := by
    rw [hst]
    exact ⟨one_dec, fun k => by rw [k]; decide +kernel⟩
   rw [h2]
   by_cases h3 : q.den = 1
   ·rw [decide_eq_true (h49.2 h3)] at hlit
    have HQ := Lib.hid (show TextQ w q (.returned (.tuple #[.string s, .bool true])) w2 from ⟨s, by rw [hf], fun _ => by rw [es, qText, if_pos h3], HB2.out⟩)
    clear ht et es hf hst h49 HS h3
    go_wp2
    go_ret2
    exact HQ.out
   ·rw [decide_eq_false (fun k => h3 (h49.1 k))] at hlit
    have HQ := Lib.hid (show TextQ w q (.returned (.tuple #[.string ((s ++ ⟨#[47]⟩) ++ t), .bool true])) w2 from ⟨_, by rw [hf], fun _ => by rw [es, et, itoa_nat, cat_mk, qText, if_neg h3], HB2.out⟩)
    clear ht et es hf hst h49 HS h3
    go_wp2
    go_ret2
    exact HQ.out
  ·have h2 := Bool.eq_false_iff.2 h2
   have hf := fitQ_no2 h2
   rw [h2]
   have HQ := Lib.hid fun s => (show TextQ w q (.returned (.tuple #[.string s, .bool false])) w2 from ⟨s, by rw [hf], fun k => (by rw [hf] at k; cases k), HB2.out⟩)
   clear ht hf HS
   by_cases h3 : SL t = [49]
   ·rw [decide_eq_true h3] at hlit
    clear h3
    go_wp2
    go_ret2
    exact HQ.out _
   ·rw [decide_eq_false h3] at hlit
    clear h3
    go_wp2
    go_ret2
    exact HQ.out _
 ·have h1 := Bool.eq_false_iff.2 h1
  have hf := fitQ_no1 h1
  rw [h1]
  have HQ := Lib.hid (show TextQ w q (.returned (.tuple #[.string ⟨#[]⟩, .bool false])) w1 from ⟨_, by rw [hf], fun k => (by rw [hf] at k; cases k), HB1.out⟩)
  clear hf HS HV1
  go_wp2
  go_ret2
  exact HQ.out
theorem cut_neg {l : List UInt8} : cutA l = (if negM l = true then 45 :: cutA (trimM l) else cutA (trimM l)) ∧ cutD l = cutD (trimM l) ∧ cutI l = cutI (trimM l) := by
 have h := neg_form l
 by_cases k : negM l = true
 ·rw [if_pos k] at h ⊢
  have := cutA_cons (c := 45) (by decide) (trimM l)
  rw [← h] at this
  exact this
 ·rw [if_neg k] at h ⊢
  rw [← h]
  exact ⟨rfl, rfl, rfl⟩
theorem read_l (l : List UInt8) (w : World) (h : Num l) : Calls Tryz.prog 79 #[.string ⟨l.toArray⟩] w (RetBig w (num l : Int)) := read_num ⟨l.toArray⟩ w h
theorem cut_s (s : ByteArray) (w : World) (h : s.size ≤ 9223372036854775807) : Calls Tryz.prog 69 #[.string s, .string ⟨#[47]⟩] w fun e w' => e = .returned (.tuple #[.string ⟨(cutA (SL s)).toArray⟩, .string ⟨(cutD (trimM (SL s))).toArray⟩, .bool (cutI (trimM (SL s)))]) ∧ ∃ n, w' = w.drewN n := by
 have := cut_any s w h
 unfold CutR at this
 rw [cut_neg.2.1, cut_neg.2.2] at this
 exact this
theorem read_part {l : List UInt8} (h : RVal l) : Lib.hasPrefix (cutA l) [45] = negM l ∧ Lib.trimPrefix (cutA l) [45] = cutA (trimM l) := by
 rw [cut_neg.1]
 by_cases k : negM l = true
 ·rw [if_pos k, k]
  exact neg_cons _
 ·rw [if_neg k, Bool.eq_false_iff.2 k]
  exact ⟨hasPrefix_dig h.na.digs, trimPrefix_dig h.na.digs⟩
set_option maxRecDepth 100000 in
set_option maxHeartbeats 2000000 in
theorem parse_any (s : ByteArray) (w : World) (hs : s.size ≤ 9223372036854775807) (h : RVal (SL s)) : Calls Tryz.prog 48 #[.string s] w (RetRt w (rval (SL s))) := by
 obtain ⟨hv, hb⟩ := boxes1 w (.bool false) (.slice none 0 0) (.bool false) (.slice none 0 0)
 obtain ⟨hp, htr⟩ := read_part h
 have HRA := Lib.hid fun W => read_any (negM (SL s)) (cutA (trimM (SL s))) h.na.digs h.na.len ⟨(cutA (SL s)).toArray⟩ W hp htr
 rw [← h.num] at HRA
 have HRD := Lib.hid fun (k : cutI (trimM (SL s)) = true) W => read_l (cutD (trimM (SL s))) W (h.nd k)
 have HV := Lib.hid hv
 have HB := Lib.hid hb
 have HDEN := Lib.hid h.den
 have HC := Lib.hid fun W => cut_s s W hs
 clear hv hb hp htr h
 obtain ⟨q, hq⟩ : ∃ q, rval (SL s) = q := ⟨_, rfl⟩
 rw [hq] at HRA HDEN ⊢
 clear hq
 unfold ratT at *
 go_enter Tryz.func48, Tryz.ntmps48
 go_wp2_with fail
 generalize w.alloc (Obj.cells #[Value.bool false, Value.slice none 0 0, Value.bool false, Value.slice none 0 0] 71) = W0 at *
 refine (HC.out _).mono ?_
 rintro e w' ⟨rfl, n, rfl⟩
 have HV0 := Lib.hid (show Vr (W0.drewN n) w.heap.size (.bool false) (.slice none 0 0) (.bool false) (.slice none 0 0) from ⟨HV.out.c0, HV.out.c1, HV.out.c2, HV.out.c3, HV.out.f0, HV.out.f1, HV.out.f2, HV.out.f3⟩)
 have HB0 := Lib.hid (show Below w.heap.size w (W0.drewN n) from ⟨HB.out.os, HB.out.tape, HB.out.output, HB.out.size, HB.out.block⟩)
 clear HV HB HC
 generalize W0.drewN n = W1 at *
 by_cases hi : cutI (trimM (SL s)) = true
 ·rw [hi]
  rw [if_pos hi] at HDEN
  have HRD2 := Lib.hid (HRD.out hi)
  clear HRD
  go_wp2_with (go_at_call 79; refine (HRA.out _).mono ?_)
  rintro e w2 ⟨v2, rfl, hv, hb⟩
  obtain ⟨nb, A, l, c, rfl⟩ := hv.ofWords
  have HV2 := Lib.hid (HV0.out.below hb)
  have HB2 := Lib.hid (HB0.out.trans (hb.mono HB0.out.size))
  have BN2 := Lib.hid hv
  clear hv hb HV0 HB0
  go_wp2_with (go_at_call 79; refine (HRD2.out _).mono ?_)
  rintro e w3 ⟨v3, rfl, hv, hb⟩
  rw [← HDEN.out] at hv
  obtain ⟨db, B, m, d, rfl⟩ := hv.ofWords
  have HV3 := Lib.hid (HV2.out.below hb)
  have HB3 := Lib.hid (HB2.out.trans (hb.mono HB2.out.size))
  have HR := Lib.hid (ret_rat_set HB3.out (Nat.le_refl _) HV3.out (Rt.mk (BN2.out.ext hb) hv))
  have HZ := Lib.hid (HV3.out.set (.bool nb) (.slice A l c) (.bool db) (.slice B m d))
  clear hv hb HV2 HB2 BN2
  unfold set4 at HR HZ
  have r0 := HV3.out.c0
  have r1 := HV3.out.c1
  have r2 := HV3.out.c2
  have r3 := HV3.out.c3
  have q0 := HV3.out.f0
  have q1 := HV3.out.f1
  have q2 := HV3.out.f2
  have q3 := HV3.out.f3
  go_wp2
  have z0 := HZ.out.c0
  have z1 := HZ.out.c1
  have z2 := HZ.out.c2
  have z3 := HZ.out.c3
  generalize ((((w3.setCell ⟨w.heap.size, 0, none⟩ (.bool nb)).setCell ⟨w.heap.size, 1, none⟩ (.slice A l c)).setCell ⟨w.heap.size, 2, none⟩ (.bool db)).setCell ⟨w.heap.size, 3, none⟩ (.slice B m d)) = W at *
  exact bodyPost_ret (v := .agg #[.bool nb, .slice A l c, .bool db, .slice B m d]) (by simp [results, Tryz.results48, go_sem, z0, z1, z2, z3]) rfl HR.out
 ·rw [if_neg hi] at HDEN
  have hi := Bool.eq_false_iff.2 hi
  rw [hi]
  clear HRD
  go_wp2_with (go_at_call 79; refine (HRA.out _).mono ?_)
  rintro e w2 ⟨v2, rfl, hv, hb⟩
  obtain ⟨nb, A, l, c, rfl⟩ := hv.ofWords
  have HV2 := Lib.hid (HV0.out.below hb)
  have HB2 := Lib.hid (HB0.out.trans (hb.mono HB0.out.size))
  have BN2 := Lib.hid hv
  clear hv hb HV0 HB0
  go_wp2_with (go_at_call 80; refine (of_any 1 _ (by omega) (by omega)).mono ?_)
  rintro e w3 ⟨v3, rfl, hv, hb⟩
  rw [← HDEN.out] at hv
  obtain ⟨db, B, m, d, rfl⟩ := hv.ofWords
  have HV3 := Lib.hid (HV2.out.below hb)
  have HB3 := Lib.hid (HB2.out.trans (hb.mono HB2.out.size))
  have HR := Lib.hid (ret_rat_set HB3.out (Nat.le_refl _) HV3.out (Rt.mk (BN2.out.ext hb) hv))
  have HZ := Lib.hid (HV3.out.set (.bool nb) (.slice A l c) (.bool db) (.slice B m d))
  clear hv hb HV2 HB2 BN2
  unfold set4 at HR HZ
  have r0 := HV3.out.c0
  have r1 := HV3.out.c1
  have r2 := HV3.out.c2
  have r3 := HV3.out.c3
  have q0 := HV3.out.f0
  have q1 := HV3.out.f1
  have q2 := HV3.out.f2
  have q3 := HV3.out.f3
  go_wp2
  have z0 := HZ.out.c0
  have z1 := HZ.out.c1
  have z2 := HZ.out.c2
  have z3 := HZ.out.c3
  generalize ((((w3.setCell ⟨w.heap.size, 0, none⟩ (.bool nb)).setCell ⟨w.heap.size, 1, none⟩ (.slice A l c)).setCell ⟨w.heap.size, 2, none⟩ (.bool db)).setCell ⟨w.heap.size, 3, none⟩ (.slice B m d)) = W at *
  exact bodyPost_ret (v := .agg #[.bool nb, .slice A l c, .bool db, .slice B m d]) (by simp [results, Tryz.results48, go_sem, z0, z1, z2, z3]) rfl HR.out
end Go.Proofs.YtcgfdfdcbamceaaGreatDoor
