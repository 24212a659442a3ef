/- rat.Check, rat.CheckAll. -/
import Derived.Test.YtpbdlmjfjkfphaaGreatDoorRCut
import Derived.Test.YtpbdlmjfjkfphaaGreatDoorNatH
import Derived.Deep.LoopGhost
namespace Go.Proofs.YtpbdlmjfjkfphaaGreatDoor
open Go.RowKit

theorem rchk_five {l : List UInt8} (h : chk (cutA (trimM l)) = 5 ∨ chkD (trimM l) = 5 ∨ (cutA (trimM l) = [48] ∧ (trimM l).length < l.length)) : rchk l = 5 := by rw [rchk, if_pos h]
theorem rchk_two {l : List UInt8} (h1 : ¬ (chk (cutA (trimM l)) = 5 ∨ chkD (trimM l) = 5 ∨ (cutA (trimM l) = [48] ∧ (trimM l).length < l.length))) (h2 : chk (cutA (trimM l)) ≠ 0 ∨ chkD (trimM l) ≠ 0) : rchk l = 2 := by rw [rchk, if_neg h1, if_pos h2]
theorem rchk_three {l : List UInt8} (h1 : ¬ (chk (cutA (trimM l)) = 5 ∨ chkD (trimM l) = 5 ∨ (cutA (trimM l) = [48] ∧ (trimM l).length < l.length))) (h2 : ¬ (chk (cutA (trimM l)) ≠ 0 ∨ chkD (trimM l) ≠ 0)) (h3 : cutI (trimM l) = true ∧ (cutD (trimM l) = [48] ∨ cutD (trimM l) = [49] ∨ (natGcd (cutA (trimM l)) (cutD (trimM l))).1 ≠ [49])) : rchk l = 3 := by rw [rchk, if_neg h1, if_neg h2, if_pos h3]
theorem rchk_zero {l : List UInt8} (h1 : ¬ (chk (cutA (trimM l)) = 5 ∨ chkD (trimM l) = 5 ∨ (cutA (trimM l) = [48] ∧ (trimM l).length < l.length))) (h2 : ¬ (chk (cutA (trimM l)) ≠ 0 ∨ chkD (trimM l) ≠ 0)) (h3 : ¬ (cutI (trimM l) = true ∧ (cutD (trimM l) = [48] ∨ cutD (trimM l) = [49] ∨ (natGcd (cutA (trimM l)) (cutD (trimM l))).1 ≠ [49]))) : rchk l = 0 := by rw [rchk, if_neg h1, if_neg h2, if_neg h3]
theorem cutA_len : ∀ l : List UInt8, (cutA l).length ≤ l.length
  | [] => Nat.le_refl _
  | c :: l => by rw [cutA]; split; exact Nat.zero_le _; simp; exact cutA_len l
theorem cutD_len : ∀ l : List UInt8, (cutD l).length ≤ l.length
  | [] => Nat.le_refl _
  | c :: l => by rw [cutD]; split; simp; exact Nat.le_trans (cutD_len l) (by simp)
theorem trimM_len (l : List UInt8) : (trimM l).length ≤ l.length := by
  have := congrArg List.length (neg_form l)
  split at this
  · rw [List.length_cons] at this; omega
  · omega
theorem size_mk (l : List UInt8) : (⟨l.toArray⟩ : ByteArray).size = l.length := by simp [ByteArray.size]
theorem beq_l (l m : List UInt8) (L : List UInt8) (h : (⟨m.toArray⟩ : ByteArray).toList = L) : (l == L) = decide (l = m) := by
  rw [← h]
  have := beq_lit ⟨l.toArray⟩ m _ rfl
  rw [SL_mk] at this
  rw [← this]
  congr 1
  simp
theorem cut_l (l : List UInt8) (w : World) (h : l.length ≤ 9223372036854775807) : Calls Tryz.prog 40 #[.string ⟨l.toArray⟩, .string ⟨#[47]⟩] w fun e w' => e = .returned (.tuple #[.string ⟨(cutA l).toArray⟩, .string ⟨(cutD l).toArray⟩, .bool (cutI l)]) ∧ ∃ n, w' = w.drewN n :=
  cut_any ⟨l.toArray⟩ w (by rw [size_mk]; exact h)
theorem chk_l (l : List UInt8) (w : World) (h : l.length ≤ 9223372036854775807) : Calls Tryz.prog 41 #[.string ⟨l.toArray⟩] w fun e w' => e = .returned (I (chk l)) ∧ Below w.heap.size w w' :=
  chk_any ⟨l.toArray⟩ w (by rw [size_mk]; omega)
theorem gcd_l (a b : List UInt8) (w : World) (h : a.length ≤ 9223372036854775807) (k : b.length ≤ 9223372036854775807) (htab : Tab w) : Calls Tryz.prog 42 #[.string ⟨a.toArray⟩, .string ⟨b.toArray⟩] w fun e w' => e = .returned (.tuple #[.string ⟨(natGcd a b).1.toArray⟩, I (natGcd a b).2]) ∧ Below w.heap.size w w' :=
  natGcd_any ⟨a.toArray⟩ ⟨b.toArray⟩ w (by rw [size_mk]; omega) (by rw [size_mk]; omega) htab
theorem below_undrewN {w w' : World} {n : Nat} (h : Below (w.drewN n).heap.size (w.drewN n) w') : Below w.heap.size w w' := ⟨h.os, h.tape, h.output, h.size, h.block⟩
set_option maxRecDepth 100000 in
set_option maxHeartbeats 1000000 in
theorem rchk_any (s : ByteArray) (w : World) (hs : s.size ≤ 9223372036854775807) (htab : Tab w) : Calls Tryz.prog 19 #[.string s] w fun e w' => e = .returned (I (rchk (SL s))) ∧ Below w.heap.size w w' := by
  have HTR := Lib.hid fun W => Tryz.strings_TrimPrefix s ⟨#[45]⟩ W
  have eT : Lib.trimPrefix s.data.toList (⟨#[45]⟩ : ByteArray).data.toList = trimM (SL s) := rfl
  rw [eT] at HTR
  clear eT
  have HTB := Lib.hid htab
  clear htab
  have hT := trimM_len (SL s)
  have hA := cutA_len (trimM (SL s))
  have hD := cutD_len (trimM (SL s))
  rw [SL_len] at hT
  have H5 := Lib.hid (@rchk_five (SL s))
  have H2 := Lib.hid (@rchk_two (SL s))
  have H3 := Lib.hid (@rchk_three (SL s))
  have H0 := Lib.hid (@rchk_zero (SL s))
  rw [SL_len] at H5 H2 H3 H0
  generalize rchk (SL s) = R at *
  generalize trimM (SL s) = T at *
  have hcd : chkD T = (if cutI T = true then chk (cutD T) else 0) := rfl
  have HCU := Lib.hid fun W => cut_l T W (by omega)
  have hTs := size_mk T
  have HCA := Lib.hid fun W => chk_l (cutA T) W (by omega)
  have HCX := Lib.hid fun W => chk_l (cutD T) W (by omega)
  have HG := Lib.hid fun W h => gcd_l (cutA T) (cutD T) W (by omega) (by omega) h
  have HE48 := beq_l (cutA T) [48] [48] (by decide +kernel)
  have HD48 := beq_l (cutD T) [48] [48] (by decide +kernel)
  have HD49 := beq_l (cutD T) [49] [49] (by decide +kernel)
  have HG49 := beq_l (natGcd (cutA T) (cutD T)).1 [49] [49] (by decide +kernel)
  generalize natGcd (cutA T) (cutD T) = G at *
  obtain ⟨g, ge⟩ := G
  try dsimp only at HG49
  try dsimp only at H3
  try dsimp only at H0
  try dsimp only at HG
  generalize cutA T = A at *
  generalize cutD T = D at *
  clear hA hD
  generalize cutI T = II at *
  generalize chkD T = b at *
  generalize chk A = a at *
  generalize chk D = d at *
  have HCDD := Lib.hid hcd
  clear hcd
  have HTS := Lib.hid hTs
  have ht : decide ((T.length : Int) < (s.size : Int)) = decide (T.length < s.size) := decide_eq_decide.2 (by omega)
  have HTT := Lib.hid ht
  clear hTs hT ht
  go_enter Tryz.func19, Tryz.ntmps19
  go_wp2_with fail
  refine (HTR.out _).mono ?_
  rintro e w' ⟨rfl, rfl⟩
  go_wp2_with fail
  refine (HCU.out _).mono ?_
  rintro e w' ⟨rfl, n, rfl⟩
  clear HTR HCU
  go_wp2_with fail
  refine (HCA.out _).mono ?_
  rintro e w1 ⟨rfl, hb1⟩
  have HB1 := Lib.hid (below_undrewN hb1)
  clear hb1 HCA
  cases II with
  | true =>
    simp only [↓reduceIte] at HCDD
    go_wp2_with fail
    refine (HCX.out _).mono ?_
    rintro e w2 ⟨rfl, hb2⟩
    have HB2 := Lib.hid (HB1.out.trans (hb2.mono HB1.out.size))
    clear hb2 HB1 HCX
    by_cases a5 : a = 5
    · subst a5
      have HQ := Lib.hid (H5.out (.inl rfl))
      clear H5 H2 H3 H0 HG HCDD
      go_wp2
      go_ret
      exact ⟨ret_int HQ.out.symm, HB2.out⟩
    have ta5 : (a == 5) = false := beq_eq_false_iff_ne.2 a5
    by_cases b5 : d = 5
    · subst b5
      have HQ := Lib.hid (H5.out (.inr (.inl HCDD.out)))
      clear H5 H2 H3 H0 HG HCDD
      go_wp2
      go_ret
      exact ⟨ret_int HQ.out.symm, HB2.out⟩
    have tb5 : (d == 5) = false := beq_eq_false_iff_ne.2 b5
    have nb5 : b ≠ 5 := by rw [HCDD.out]; exact b5
    by_cases hz : A = [48] ∧ T.length < s.size
    · have tz : (A == [48]) = true := by rw [HE48, decide_eq_true hz.1]
      have tl : decide (T.length < s.size) = true := decide_eq_true hz.2
      clear HE48 HD48 HD49 HG49
      have hz2 := hz.2
      have HQ := Lib.hid (H5.out (.inr (.inr hz)))
      clear H5 H2 H3 H0 HG HCDD
      go_wp2
      go_ret
      exact ⟨ret_int HQ.out.symm, HB2.out⟩
    have N1 : ¬ (a = 5 ∨ b = 5 ∨ (A = [48] ∧ T.length < s.size)) := fun k => k.elim a5 fun k => k.elim nb5 hz
    have HN1 := Lib.hid N1
    clear N1 nb5
    have hza : (A == [48]) = false ∨ ((A == [48]) = true ∧ decide (T.length < s.size) = false) := by
      by_cases k : A = [48]
      · exact .inr ⟨by rw [HE48, decide_eq_true k], decide_eq_false fun k2 => hz ⟨k, k2⟩⟩
      · exact .inl (by rw [HE48, decide_eq_false k])
    have HD48B : (D == [48]) = decide (D = [48]) := HD48
    clear hz HE48 HD48
    rcases hza with tz | ⟨tz, tl⟩
    · skip
      by_cases a0 : a = 0
      · subst a0
        by_cases b0 : d = 0
        · subst b0
          have N2 := Lib.hid (show ¬ ((0 : Int) ≠ 0 ∨ b ≠ 0) from fun k => k.elim (fun k => k rfl) fun k => k HCDD.out)
          go_wp2_with fail
          refine (HG.out _ (tab_below HTB.out HB2.out)).mono ?_
          rintro e w3 ⟨rfl, hb3⟩
          have HB3 := Lib.hid (HB2.out.trans (hb3.mono HB2.out.size))
          clear hb3 HB2
          by_cases q1 : D = [48]
          · have u1 : (D == [48]) = true := by rw [HD48B, decide_eq_true q1]
            clear HD48B HD49 HG49
            have HQ := Lib.hid (H3.out HN1.out N2.out ⟨trivial, .inl q1⟩)
            clear H5 H2 H3 H0 HG HCDD
            go_wp2
            go_ret
            exact ⟨ret_int HQ.out.symm, HB3.out⟩
          have u1 : (D == [48]) = false := by rw [HD48B, decide_eq_false q1]
          by_cases q2 : D = [49]
          · have u2 : (D == [49]) = true := by rw [HD49, decide_eq_true q2]
            clear HD48B HD49 HG49
            have HQ := Lib.hid (H3.out HN1.out N2.out ⟨trivial, .inr (.inl q2)⟩)
            clear H5 H2 H3 H0 HG HCDD
            go_wp2
            go_ret
            exact ⟨ret_int HQ.out.symm, HB3.out⟩
          have u2 : (D == [49]) = false := by rw [HD49, decide_eq_false q2]
          by_cases q3 : g = [49]
          · have u3 : (g == [49]) = true := by rw [HG49, decide_eq_true q3]
            have Q := Lib.hid (show ¬ (True ∧ (D = [48] ∨ D = [49] ∨ g ≠ [49])) from fun k => k.2.elim q1 fun k => k.elim q2 fun k => k q3)
            clear HD48B HD49 HG49
            have HQ := Lib.hid (H0.out HN1.out N2.out (fun k => Q.out ⟨trivial, k.2⟩))
            clear H5 H2 H3 H0 HG HCDD
            go_wp2
            go_ret
            exact ⟨ret_int HQ.out.symm, HB3.out⟩
          have u3 : (g == [49]) = false := by rw [HG49, decide_eq_false q3]
          clear HD48B HD49 HG49
          have HQ := Lib.hid (H3.out HN1.out N2.out ⟨trivial, .inr (.inr q3)⟩)
          clear H5 H2 H3 H0 HG HCDD
          go_wp2
          go_ret
          exact ⟨ret_int HQ.out.symm, HB3.out⟩
        have tb0 : (d != 0) = true := bne_iff_ne.2 b0
        clear HD48B HD49 HG49
        have HQ := Lib.hid (H2.out HN1.out (.inr (by rw [HCDD.out]; exact b0)))
        clear H5 H2 H3 H0 HG HCDD
        go_wp2
        go_ret
        exact ⟨ret_int HQ.out.symm, HB2.out⟩
      have ta0 : (a != 0) = true := bne_iff_ne.2 a0
      clear HD48B HD49 HG49
      have HQ := Lib.hid (H2.out HN1.out (.inl a0))
      clear H5 H2 H3 H0 HG HCDD
      go_wp2
      go_ret
      exact ⟨ret_int HQ.out.symm, HB2.out⟩
    · skip
      by_cases a0 : a = 0
      · subst a0
        by_cases b0 : d = 0
        · subst b0
          have N2 := Lib.hid (show ¬ ((0 : Int) ≠ 0 ∨ b ≠ 0) from fun k => k.elim (fun k => k rfl) fun k => k HCDD.out)
          go_wp2_with fail
          refine (HG.out _ (tab_below HTB.out HB2.out)).mono ?_
          rintro e w3 ⟨rfl, hb3⟩
          have HB3 := Lib.hid (HB2.out.trans (hb3.mono HB2.out.size))
          clear hb3 HB2
          by_cases q1 : D = [48]
          · have u1 : (D == [48]) = true := by rw [HD48B, decide_eq_true q1]
            clear HD48B HD49 HG49
            have HQ := Lib.hid (H3.out HN1.out N2.out ⟨trivial, .inl q1⟩)
            clear H5 H2 H3 H0 HG HCDD
            go_wp2
            go_ret
            exact ⟨ret_int HQ.out.symm, HB3.out⟩
          have u1 : (D == [48]) = false := by rw [HD48B, decide_eq_false q1]
          by_cases q2 : D = [49]
          · have u2 : (D == [49]) = true := by rw [HD49, decide_eq_true q2]
            clear HD48B HD49 HG49
            have HQ := Lib.hid (H3.out HN1.out N2.out ⟨trivial, .inr (.inl q2)⟩)
            clear H5 H2 H3 H0 HG HCDD
            go_wp2
            go_ret
            exact ⟨ret_int HQ.out.symm, HB3.out⟩
          have u2 : (D == [49]) = false := by rw [HD49, decide_eq_false q2]
          by_cases q3 : g = [49]
          · have u3 : (g == [49]) = true := by rw [HG49, decide_eq_true q3]
            have Q := Lib.hid (show ¬ (True ∧ (D = [48] ∨ D = [49] ∨ g ≠ [49])) from fun k => k.2.elim q1 fun k => k.elim q2 fun k => k q3)
            clear HD48B HD49 HG49
            have HQ := Lib.hid (H0.out HN1.out N2.out (fun k => Q.out ⟨trivial, k.2⟩))
            clear H5 H2 H3 H0 HG HCDD
            go_wp2
            go_ret
            exact ⟨ret_int HQ.out.symm, HB3.out⟩
          have u3 : (g == [49]) = false := by rw [HG49, decide_eq_false q3]
          clear HD48B HD49 HG49
          have HQ := Lib.hid (H3.out HN1.out N2.out ⟨trivial, .inr (.inr q3)⟩)
          clear H5 H2 H3 H0 HG HCDD
          go_wp2
          go_ret
          exact ⟨ret_int HQ.out.symm, HB3.out⟩
        have tb0 : (d != 0) = true := bne_iff_ne.2 b0
        clear HD48B HD49 HG49
        have HQ := Lib.hid (H2.out HN1.out (.inr (by rw [HCDD.out]; exact b0)))
        clear H5 H2 H3 H0 HG HCDD
        go_wp2
        go_ret
        exact ⟨ret_int HQ.out.symm, HB2.out⟩
      have ta0 : (a != 0) = true := bne_iff_ne.2 a0
      clear HD48B HD49 HG49
      have HQ := Lib.hid (H2.out HN1.out (.inl a0))
      clear H5 H2 H3 H0 HG HCDD
      go_wp2
      go_ret
      exact ⟨ret_int HQ.out.symm, HB2.out⟩
  | false =>
    simp only [Bool.false_eq_true, ↓reduceIte] at HCDD
    clear HCX
    by_cases a5 : a = 5
    · subst a5
      have HQ := Lib.hid (H5.out (.inl rfl))
      clear H5 H2 H3 H0 HG HCDD
      go_wp2
      go_ret
      exact ⟨ret_int HQ.out.symm, HB1.out⟩
    have ta5 : (a == 5) = false := beq_eq_false_iff_ne.2 a5
    have nb5 : b ≠ 5 := by rw [HCDD.out]; decide
    by_cases hz : A = [48] ∧ T.length < s.size
    · have tz : (A == [48]) = true := by rw [HE48, decide_eq_true hz.1]
      have tl : decide (T.length < s.size) = true := decide_eq_true hz.2
      clear HE48 HD48 HD49 HG49
      have hz2 := hz.2
      have HQ := Lib.hid (H5.out (.inr (.inr hz)))
      clear H5 H2 H3 H0 HG HCDD
      go_wp2
      go_ret
      exact ⟨ret_int HQ.out.symm, HB1.out⟩
    have N1 : ¬ (a = 5 ∨ b = 5 ∨ (A = [48] ∧ T.length < s.size)) := fun k => k.elim a5 fun k => k.elim nb5 hz
    have HN1 := Lib.hid N1
    clear N1 nb5
    have hza : (A == [48]) = false ∨ ((A == [48]) = true ∧ decide (T.length < s.size) = false) := by
      by_cases k : A = [48]
      · exact .inr ⟨by rw [HE48, decide_eq_true k], decide_eq_false fun k2 => hz ⟨k, k2⟩⟩
      · exact .inl (by rw [HE48, decide_eq_false k])
    have HD48B : (D == [48]) = decide (D = [48]) := HD48
    clear hz HE48 HD48
    rcases hza with tz | ⟨tz, tl⟩
    · skip
      by_cases a0 : a = 0
      · subst a0
        have N2 := Lib.hid (show ¬ ((0 : Int) ≠ 0 ∨ b ≠ 0) from fun k => k.elim (fun k => k rfl) fun k => k HCDD.out)
        clear HD48B HD49 HG49
        have HQ := Lib.hid (H0.out HN1.out N2.out (fun k => by cases k.1))
        clear H5 H2 H3 H0 HG HCDD
        go_wp2
        go_ret
        exact ⟨ret_int HQ.out.symm, HB1.out⟩
      have ta0 : (a != 0) = true := bne_iff_ne.2 a0
      clear HD48B HD49 HG49
      have HQ := Lib.hid (H2.out HN1.out (.inl a0))
      clear H5 H2 H3 H0 HG HCDD
      go_wp2
      go_ret
      exact ⟨ret_int HQ.out.symm, HB1.out⟩
    · skip
      by_cases a0 : a = 0
      · subst a0
        have N2 := Lib.hid (show ¬ ((0 : Int) ≠ 0 ∨ b ≠ 0) from fun k => k.elim (fun k => k rfl) fun k => k HCDD.out)
        clear HD48B HD49 HG49
        have HQ := Lib.hid (H0.out HN1.out N2.out (fun k => by cases k.1))
        clear H5 H2 H3 H0 HG HCDD
        go_wp2
        go_ret
        exact ⟨ret_int HQ.out.symm, HB1.out⟩
      have ta0 : (a != 0) = true := bne_iff_ne.2 a0
      clear HD48B HD49 HG49
      have HQ := Lib.hid (H2.out HN1.out (.inl a0))
      clear H5 H2 H3 H0 HG HCDD
      go_wp2
      go_ret
      exact ⟨ret_int HQ.out.symm, HB1.out⟩
end Go.Proofs.YtpbdlmjfjkfphaaGreatDoor
