/- The law of package rat that the keep's RatRounds asks for. No program here. -/
import Derived.Test.YtpbdlmjfjkfphaaGreatDoorRSz
namespace Go.Proofs.YtpbdlmjfjkfphaaGreatDoor
open Go.Lib

theorem half_cases (n d : Int) (hd : 0 < d) :
    (n % d = 0 ∧ n / d * d = n ∧ d ∣ n) ∨ (0 < n % d ∧ n % d < d ∧ n / d * d + n % d = n) := by
  have h1 := Int.emod_nonneg n (show d ≠ 0 by omega)
  have h2 := Int.emod_lt_of_pos n hd
  have h3 := Int.mul_ediv_add_emod n d
  rw [Int.mul_comm] at h3
  by_cases h : n % d = 0
  · exact .inl ⟨h, by omega, Int.dvd_of_emod_eq_zero h⟩
  · exact .inr ⟨by omega, h2, h3⟩
/-- the rounding in whole numbers -/
theorem round_int (F d m : Int) (hd : 0 < d) (h0 : 0 ≤ m) (h1 : m < d) :
    (2 * (F * d + m) + d) / (2 * d) = (if 2 * m + d < 2 * d then F else F + 1) ∧ ((2 * (F * d + m) + d) % (2 * d) = 0 ↔ 2 * m + d = 2 * d) := by
  have e : 2 * (F * d + m) + d = (2 * m + d) + F * (2 * d) := by grind
  have e2 : (2 * m + d) = (2 * m + d - 2 * d) + 1 * (2 * d) := by omega
  split
  · rename_i h
    rw [e, Int.add_mul_ediv_right _ _ (by omega), Int.add_mul_emod_self_right, Int.ediv_eq_zero_of_lt (by omega) h, Int.emod_eq_of_lt (by omega) h]
    exact ⟨by omega, by omega⟩
  · rename_i h
    rw [e, Int.add_mul_ediv_right _ _ (by omega), Int.add_mul_emod_self_right]
    rw [show (2 * m + d) / (2 * d) = 1 by rw [e2, Int.add_mul_ediv_right _ _ (by omega), Int.ediv_eq_zero_of_lt (by omega) (by omega)]; omega]
    rw [show (2 * m + d) % (2 * d) = 2 * m + d - 2 * d by rw [e2, Int.add_mul_emod_self_right, Int.emod_eq_of_lt (by omega) (by omega)]; omega]
    exact ⟨by omega, by omega⟩
theorem divInt_sub_int (x : Rat) (z : Int) : x - (z : Rat) = Rat.divInt (x.num - z * x.den) x.den := by
  have h := divInt_add x (-(z : Rat))
  rw [← Rat.sub_eq_add_neg] at h
  rw [← h]
  simp [Rat.neg_num, Int.sub_eq_add_neg, Int.neg_mul]
theorem cmpQ_frac (p q d : Int) (hd : 0 < d) : cmpQ (Rat.divInt p d) (Rat.divInt q d) = (p - q).sign := by
  have hl : ∀ p q : Int, Rat.divInt p d < Rat.divInt q d ↔ p < q := fun p q => by
    have hd2 : (0 : Rat) < (d : Rat) := Rat.intCast_lt_intCast.2 hd
    rw [Rat.divInt_eq_div, Rat.divInt_eq_div, Rat.div_lt_iff hd2, Rat.div_mul_cancel (Rat.ne_of_gt hd2), Rat.intCast_lt_intCast]
  rcases Int.lt_trichotomy p q with h | h | h
  · rw [(cmpQ_lt _ _).2 ((hl p q).2 h), Int.sign_eq_neg_one_of_neg (by omega)]
  · rw [h, (cmpQ_eq _ _).2 rfl, Int.sub_self]; rfl
  · rw [(cmpQ_gt _ _).2 ((hl q p).2 h), Int.sign_eq_one_of_pos (by omega)]
theorem frac_num (m d : Int) (hd : 0 < d) : cmpQ (Rat.divInt m d) 0 = m.sign := by
  have := cmpQ_frac m 0 d hd
  rw [Int.sub_zero, Rat.zero_divInt] at this
  exact this
theorem frac_one (m d : Int) (hd : 0 < d) : cmpQ (Rat.divInt m d) 1 = (m - d).sign := by
  have := cmpQ_frac m d d hd
  rw [Rat.divInt_self' (by omega)] at this
  exact this
theorem cutI_trim (l : List UInt8) : cutI (trimM l) = cutI l := by
  have h := neg_form l
  split at h
  · generalize trimM l = t at *
    subst h
    rw [(cutA_cons (by decide) t).2.2]
  · exact congrArg cutI h.symm
theorem cutI_qText (q : Rat) : cutI (qText q) = decide (q.den ≠ 1) := by rw [← cutI_trim, (qText_parts q).2.2.1]
theorem half_even (F : Int) : ((F : Rat) / 2).den = 1 ↔ F % 2 = 0 := by
  constructor
  · intro h
    have e : ((((F : Rat) / 2).num : Int) : Rat) = (F : Rat) / 2 := by
      generalize (F : Rat) / 2 = q at *
      exact Rat.ext (Rat.num_intCast _) (by rw [Rat.den_intCast, h])
    have e2 : (((((F : Rat) / 2).num * 2 : Int)) : Rat) = (F : Rat) := by
      rw [Rat.intCast_mul, e]; exact Rat.div_mul_cancel (by decide)
    have := Rat.intCast_inj.1 e2
    omega
  · intro h
    obtain ⟨k, rfl⟩ : ∃ k, F = k * 2 := ⟨F / 2, by omega⟩
    rw [Rat.intCast_mul, show ((2 : Int) : Rat) = 2 from rfl, Rat.mul_comm, Rat.div_def, Rat.mul_comm 2, Rat.mul_assoc, Rat.mul_inv_cancel 2 (by decide), Rat.mul_one]
    rfl
/-- floor, ceil and round in whole numbers -/
theorem rounds_int (x : Rat) : ∃ F m : Int, x.floor = F ∧ 0 ≤ m ∧ m < x.den ∧ x - (F : Rat) = Rat.divInt m x.den ∧ x.num = F * x.den + m ∧
    (m = 0 → x.ceil = F ∧ roundQ x = F ∧ (F : Rat) = x) ∧
    (m ≠ 0 → x.ceil = F + 1 ∧ ((F + 1 : Int) : Rat) - x = Rat.divInt (x.den - m) x.den ∧
      (2 * m < x.den → roundQ x = F) ∧ ((x.den : Int) < 2 * m → roundQ x = F + 1) ∧ (2 * m = x.den → roundQ x = if F % 2 = 0 then F else F + 1)) := by
  have hd : (0 : Int) < (x.den : Int) := by have := x.den_pos; omega
  have h3 := Int.mul_ediv_add_emod x.num x.den
  rw [Int.mul_comm] at h3
  have hm0 := Int.emod_nonneg x.num (show (x.den : Int) ≠ 0 by omega)
  have hm1 := Int.emod_lt_of_pos x.num hd
  have hf : x.floor = x.num / x.den := Rat.floor_def x
  generalize x.num / (x.den : Int) = F at *
  generalize x.num % (x.den : Int) = m at *
  have hs : x - (F : Rat) = Rat.divInt m x.den := by
    rw [divInt_sub_int]
    congr 1
    omega
  obtain ⟨r1, r2⟩ := round_int F x.den m hd hm0 hm1
  have hr : roundQ x = if (2 * m + (x.den : Int) = 2 * x.den) ∧ (if 2 * m + (x.den : Int) < 2 * x.den then F else F + 1) % 2 = 1 then (if 2 * m + (x.den : Int) < 2 * x.den then F else F + 1) - 1 else (if 2 * m + (x.den : Int) < 2 * x.den then F else F + 1) := by
    unfold roundQ
    rw [← h3]
    simp only [r1, r2]
  refine ⟨F, m, hf, hm0, hm1, hs, h3.symm, fun h => ?_, fun h => ?_⟩
  · subst h
    have hx : (F : Rat) = x := by
      rw [Rat.zero_divInt] at hs
      grind
    refine ⟨?_, ?_, hx⟩
    · rw [← hx, Rat.ceil_intCast]
    · rw [hr, if_neg (by omega), if_pos (by omega)]
  · have hc : x.ceil = F + 1 := by
      have hpos : (0 : Rat) < Rat.divInt m x.den := (cmpQ_gt _ _).1 (by rw [frac_num m x.den hd, Int.sign_eq_one_of_pos (by omega)])
      have hlt : Rat.divInt m x.den < 1 := (cmpQ_lt _ _).1 (by rw [frac_one m x.den hd, Int.sign_eq_neg_one_of_neg (by omega)])
      rw [← hs] at hpos hlt
      have e1 : x ≤ ((F + 1 : Int) : Rat) := by rw [Rat.intCast_add]; grind
      have e2 : (F : Rat) < x := by grind
      have k1 := Rat.ceil_le_iff.2 e1
      have k2 := Rat.lt_ceil_iff.2 e2
      omega
    refine ⟨hc, ?_, fun h1 => ?_, fun h1 => ?_, fun h1 => ?_⟩
    · have e : Rat.divInt (x.den - m) x.den = 1 - Rat.divInt m x.den := by
        have hd2 : ((x.den : Int) : Rat) ≠ 0 := by
          intro h
          have := Rat.intCast_inj.1 (show ((x.den : Int) : Rat) = ((0 : Int) : Rat) from h)
          omega
        rw [Rat.divInt_eq_div, Rat.divInt_eq_div, Rat.intCast_sub]
        generalize ((x.den : Int) : Rat) = D at *
        generalize (m : Rat) = M at *
        grind
      rw [e, ← hs, Rat.intCast_add]
      grind
    · rw [hr, if_neg (by omega), if_pos (by omega)]
    · rw [hr, if_neg (by omega), if_neg (by omega)]
    · rw [hr, if_neg (show ¬ 2 * m + (x.den : Int) < 2 * x.den by omega)]
      split
      · rw [if_pos (by omega)]; omega
      · rw [if_neg (by omega)]
theorem SzQ.int {z : Int} {k : Nat} (h : z.natAbs < 10 ^ k) (h1 : 1 ≤ k) : SzQ (z : Rat) k := ⟨by rw [Rat.num_intCast]; exact h, by rw [Rat.den_intCast]; exact Nat.one_lt_pow (by omega) (by decide)⟩
set_option exponentiation.threshold 3000 in
theorem rounds_law {a : List UInt8} (ha : rchk a = 0) (hl : a.length ≤ 1900) :
    ∃ (F C R : Int) (s h : Int), (rval a).floor = F ∧ (rval a).ceil = C ∧ roundQ (rval a) = R ∧ SzQ (F : Rat) 1901 ∧ SzQ (C : Rat) 1901 ∧ SzQ (R : Rat) 1901 ∧ SzQ (rval a - F) 1900 ∧ SzQ (C - rval a) 1900 ∧
      cmpQ (rval a - F) 1 = -1 ∧ cmpQ (rval a - F) 0 = s ∧ cmpQ (rval a - F) (C - rval a) = h ∧ fitQ (rval a - F + (C - rval a)) = true ∧
      ((s = 0 ∧ (F : Rat) = rval a ∧ C = F ∧ R = F) ∨ (s = 1 ∧ rval a - F + (C - rval a) = 1 ∧ ((h = -1 ∧ R = F) ∨ (h = 1 ∧ R = C) ∨ (h = 0 ∧ F % 2 = 1 ∧ R = C) ∨ (h = 0 ∧ F % 2 = 0 ∧ R = F)))) := by
  obtain ⟨sz, hlen⟩ := rval_sz ha
  have sz := sz.mono hl
  generalize rval a = x at *
  obtain ⟨F, m, hF, hm0, hm1, hs, hn, hz, hnz⟩ := rounds_int x
  have hd : (0 : Int) < (x.den : Int) := by have := x.den_pos; omega
  obtain ⟨sn, sd⟩ := sz
  have hp : 10 ^ 1901 = 10 * 10 ^ 1900 := by rw [Nat.pow_succ, Nat.mul_comm]
  have hFle : F.natAbs ≤ (F * (x.den : Int)).natAbs := by rw [Int.natAbs_mul]; exact Nat.le_mul_of_pos_right _ (by omega)
  have s19 : ∀ n : Int, n.natAbs < 10 ^ 1900 → SzQ (Rat.divInt n x.den) 1900 := fun n h => SzQ.of_divInt h (by omega) (by omega)
  have gen : ∀ P : Nat, 10 ^ 1900 = P → 0 < P → F.natAbs + 2 ≤ 10 * P ∧ m.natAbs < P ∧ ((x.den : Int) - m).natAbs ≤ P ∧ (m ≠ 0 → ((x.den : Int) - m).natAbs < P) := fun P hP _ => by
    rw [hP] at sn sd
    omega
  obtain ⟨g1, g2, _, g4⟩ := gen _ rfl (Nat.pow_pos (by decide))
  rw [← hp] at g1
  have zF : SzQ (F : Rat) 1901 := .int (by omega) (by omega)
  have zG : SzQ ((F + 1 : Int) : Rat) 1901 := .int (by omega) (by omega)
  have f01 : ∀ q : Rat, q = 0 ∨ q = 1 → fitQ q = true := fun q h => by
    rcases h with rfl | rfl
    · decide +kernel
    · decide +kernel
  have hone : cmpQ (x - F) 1 = -1 := by rw [hs, frac_one m x.den hd, Int.sign_eq_neg_one_of_neg (by omega)]
  by_cases h0 : m = 0
  · obtain ⟨e1, e2, e3⟩ := hz h0
    refine ⟨F, F, F, 0, cmpQ (x - F) (F - x), hF, e1, e2, zF, zF, zF, by rw [hs]; exact s19 m g2, ?_, hone, ?_, rfl, f01 _ (.inl (by grind)), .inl ⟨rfl, e3, rfl, rfl⟩⟩
    · rw [show (F : Rat) - x = x - F by grind, hs]; exact s19 m g2
    · rw [hs, frac_num m x.den hd, h0]; rfl
  · obtain ⟨e1, e2, e3, e4, e5⟩ := hnz h0
    have hcmp : cmpQ (x - F) (((F + 1 : Int) : Rat) - x) = (m - (x.den - m)).sign := by rw [hs, e2, cmpQ_frac _ _ _ hd]
    have hsum : x - F + (((F + 1 : Int) : Rat) - x) = 1 := by rw [Rat.intCast_add]; grind
    have key : ∃ R : Int, roundQ x = R ∧ SzQ (R : Rat) 1901 ∧ (((m - (x.den - m)).sign = -1 ∧ R = F) ∨ ((m - (x.den - m)).sign = 1 ∧ R = F + 1) ∨ ((m - (x.den - m)).sign = 0 ∧ F % 2 = 1 ∧ R = F + 1) ∨ ((m - (x.den - m)).sign = 0 ∧ F % 2 = 0 ∧ R = F)) := by
      rcases Int.lt_trichotomy (2 * m) x.den with h | h | h
      · exact ⟨F, e3 h, zF, .inl ⟨Int.sign_eq_neg_one_of_neg (by omega), rfl⟩⟩
      · have hz : (m - (x.den - m)).sign = 0 := by rw [show m - ((x.den : Int) - m) = 0 by omega]; rfl
        have hr := e5 h
        split at hr
        · rename_i hev; exact ⟨F, hr, zF, .inr (.inr (.inr ⟨hz, hev, rfl⟩))⟩
        · exact ⟨F + 1, hr, zG, .inr (.inr (.inl ⟨hz, by omega, rfl⟩))⟩
      · exact ⟨F + 1, e4 h, zG, .inr (.inl ⟨Int.sign_eq_one_of_pos (by omega), rfl⟩)⟩
    obtain ⟨R, hR, zR, hcase⟩ := key
    exact ⟨F, F + 1, R, 1, (m - (x.den - m)).sign, hF, e1, hR, zF, zG, zR, by rw [hs]; exact s19 m g2, by rw [e2]; exact s19 _ (g4 h0), hone, by rw [hs, frac_num m x.den hd, Int.sign_eq_one_of_pos (by omega)], hcmp, f01 _ (.inr hsum), .inr ⟨rfl, hsum, hcase⟩⟩
theorem ratTx_len (q : Rat) : (ratTx q).1.length ≤ 4002 := by
  unfold ratTx
  split
  · rename_i h; exact qText_len h
  · exact Nat.zero_le _
theorem ratInt_len (a : List UInt8) (z : Int) : (ratInt a z).1.length ≤ 4002 := by
  unfold ratInt
  split
  · exact ratTx_len _
  · exact Nat.zero_le _
theorem qText_one : qText 1 = [49] := by decide +kernel
theorem rounds_use {a : List UInt8} (ha : rchk a = 0) (hl : a.length ≤ 1900) :
    ∃ (f c r lo hi t : List UInt8) (s h : Int), ratInt a (rval a).floor = (f, 0) ∧ ratInt a (rval a).ceil = (c, 0) ∧ ratInt a (roundQ (rval a)) = (r, 0) ∧ ratSub a f = (lo, 0) ∧ ratSub c a = (hi, 0) ∧
      ratCmp lo [49] = (-1, 0) ∧ ratCmp lo [48] = (s, 0) ∧ ratCmp lo hi = (h, 0) ∧ ratAdd lo hi = (t, 0) ∧ lo.length ≤ 4002 ∧ hi.length ≤ 4002 ∧
      ((s = 0 ∧ f = a ∧ c = a ∧ r = a) ∨ (s = 1 ∧ t = [49] ∧ ∃ v, ratDiv f [50] = (v, 0) ∧ rchk v = 0 ∧ v.length ≤ 4002 ∧ ((h = -1 ∧ r = f) ∨ (h = 1 ∧ r = c) ∨ (h = 0 ∧ cutI v = true ∧ r = c) ∨ (h = 0 ∧ cutI v = false ∧ r = f)))) := by
  obtain ⟨F, C, R, s, h, h1, h2, h3, zF, zC, zR, zl, zh, k1, k2, k3, fs, hcase⟩ := rounds_law ha hl
  have fF := zF.fit (by omega) (by omega)
  have fC := zC.fit (by omega) (by omega)
  have fR := zR.fit (by omega) (by omega)
  have fl := zl.fit (by omega) (by omega)
  have fh := zh.fit (by omega) (by omega)
  obtain ⟨cF, vF⟩ := qText_ok _ fF
  obtain ⟨cC, vC⟩ := qText_ok _ fC
  obtain ⟨cl, vl⟩ := qText_ok _ fl
  obtain ⟨ch, vh⟩ := qText_ok _ fh
  have mk : ∀ z : Int, fitQ (z : Rat) = true → ratInt a z = (qText (z : Rat), 0) := fun z hz => by rw [ratInt, if_pos ha, ratTx_ok hz]
  refine ⟨qText F, qText C, qText R, qText (rval a - F), qText (C - rval a), qText (rval a - F + (C - rval a)), s, h, by rw [h1]; exact mk F fF, by rw [h2]; exact mk C fC, by rw [h3]; exact mk R fR, ?_, ?_, ?_, ?_, ?_, ?_, qText_len fl, qText_len fh, ?_⟩
  · rw [rSub_ok ha cF (by rw [vF]; exact fl), vF]
  · rw [rSub_ok cC ha (by rw [vC]; exact fh), vC]
  · rw [rCmp_ok cl rchk_49, vl, rval_49, k1]
  · rw [rCmp_ok cl rchk_48, vl, rval_48, k2]
  · rw [rCmp_ok cl ch, vl, vh, k3]
  · rw [rAdd_ok cl ch (by rw [vl, vh]; exact fs), vl, vh]
  · rcases hcase with ⟨e1, e2, e3, e4⟩ | ⟨e1, e2, e3⟩
    · have ht := (rchk_val a ha).text
      refine .inl ⟨e1, ?_, ?_, ?_⟩
      · rw [e2, ht]
      · rw [e3, e2, ht]
      · rw [e4, e2, ht]
    · have z2 : SzQ (2 : Rat) 1 := ⟨by decide, by decide⟩
      have zv := (zF.div z2 (by omega)).mono (show _ ≤ 1903 by omega)
      have fv := zv.fit (by omega) (by omega)
      obtain ⟨cv, _⟩ := qText_ok _ fv
      refine .inr ⟨e1, by rw [e2, qText_one], qText ((F : Rat) / 2), ?_, cv, qText_len fv, ?_⟩
      · rw [ratDiv, rOp_ok cF rchk_50, if_neg (by decide), vF, rval_50, ratTx_ok fv]
      · have he := half_even F
        rw [cutI_qText]
        rcases e3 with ⟨x1, x2⟩ | ⟨x1, x2⟩ | ⟨x1, x2, x3⟩ | ⟨x1, x2, x3⟩
        · exact .inl ⟨x1, by rw [x2]⟩
        · exact .inr (.inl ⟨x1, by rw [x2]⟩)
        · exact .inr (.inr (.inl ⟨x1, decide_eq_true (fun k => by have := he.1 k; omega), by rw [x3]⟩))
        · exact .inr (.inr (.inr ⟨x1, decide_eq_false (fun k => k (he.2 x2)), by rw [x3]⟩))
end Go.Proofs.YtpbdlmjfjkfphaaGreatDoor
