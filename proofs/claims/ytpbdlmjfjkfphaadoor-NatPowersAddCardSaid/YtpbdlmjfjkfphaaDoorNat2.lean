/- Package nat: Root, Divide. -/
import Derived.Test.YtpbdlmjfjkfphaaDoorNat
import Derived.OwnWalk
namespace Go.Proofs.YtpbdlmjfjkfphaaDoor
open Go.RowKit

theorem natTwo_zero (a : List UInt8) : natTwo a [48] = chk a := by
  unfold natTwo
  split
  · rename_i h; rw [h]; decide
  · rfl
theorem sl_zero : SL ⟨#[48]⟩ = [48] := rfl
theorem RetTx.bad1 {w w' : World} {a : List UInt8} {c : Int} (hc : natTwo a [48] = c) (h0 : c ≠ 0) (hb : Below w.heap.size w w') : RetTx w (natRoot a) (.returned (.tuple #[.string ⟨#[]⟩, I c])) w' := by
  rw [natTwo_zero] at hc
  refine ⟨?_, hb⟩
  rw [natRoot, if_neg (by rw [hc]; exact h0), hc]
theorem RetTx.good1 {w w1 w' : World} {a : List UInt8} {s : Nat} (hc : natTwo a [48] = 0) (h1 : s * s ≤ num a) (h2 : num a < (s + 1) * (s + 1)) (hb : Below w.heap.size w w1) {e : Ending} (h : RetTx w1 (natTx s) e w') : RetTx w (natRoot a) e w' := by
  rw [natTwo_zero] at hc
  rw [natRoot, if_pos hc, ← isq_uniq h1 h2]
  exact ⟨h.1, hb.trans (h.2.mono hb.size)⟩
theorem root_nat {z s : Int} {n : Nat} (h : IsRoot z s) (hz : z = (n : Int)) : s = (s.toNat : Int) ∧ s.toNat * s.toNat ≤ n ∧ n < (s.toNat + 1) * (s.toNat + 1) := by
  obtain ⟨h0, h1, h2⟩ := h
  obtain ⟨k, rfl⟩ := Int.eq_ofNat_of_zero_le h0
  subst hz
  rw [Int.toNat_natCast]
  exact ⟨rfl, by exact_mod_cast h1, by exact_mod_cast h2⟩
set_option maxRecDepth 100000 in
set_option maxHeartbeats 1000000 in
theorem natRoot_any (s : ByteArray) (w : World) (hs : s.size ≤ 9223372036854775807) (htab : Tab w) :
    Calls Tryd.prog 17 #[.string s] w (RetTx w (natRoot (SL s))) := by
  have HW := Lib.hid (two_any s ⟨#[48]⟩ w hs (by decide))
  have HTB := Lib.hid htab
  clear htab
  go_enter Tryd.func17, Tryd.ntmps17
  go_wp2_with fail
  refine HW.out.mono ?_
  rintro e w1 ⟨u, v, x, y, rfl, hu, hv, hxy, hb⟩
  obtain ⟨Au, lu, cu, rfl⟩ := hu.form
  obtain ⟨Av, lv, cv, rfl⟩ := hv.form
  rw [sl_zero] at *
  clear HW
  by_cases h0 : natTwo (SL s) [48] = 0
  · obtain ⟨rfl, rfl⟩ := hxy h0
    obtain ⟨ns, nt⟩ := (natTwo_ok _ _).1 h0
    have HB := Lib.hid (two_alloc hb (.cells #[.bool (decide ((num (SL s) : Int) < 0)), .slice Au lu cu] bigT) (.cells #[.bool (decide ((num [48] : Int) < 0)), .slice Av lv cv] bigT))
    have hu2 := hu.alloc2 (.cells #[.bool (decide ((num (SL s) : Int) < 0)), .slice Au lu cu] bigT) (.cells #[.bool (decide ((num [48] : Int) < 0)), .slice Av lv cv] bigT)
    have HA := Lib.hid (root_any _ (num (SL s) : Int) _ hu2 (N := 210) (by omega) ns.fits (by omega))
    have HT := Lib.hid h0
    rw [h0]
    clear hu hv hxy hb h0 hu2
    generalize decide ((num (SL s) : Int) < 0) = bs at *
    generalize decide ((num [48] : Int) < 0) = bt at *
    unfold bigT at *
    go_wp2_with fail
    refine HA.out.mono ?_
    rintro e w2 ⟨z, hz, v2, rfl, hv3, hb2⟩
    obtain ⟨ez, e1, e2⟩ := root_nat hz rfl
    rw [ez] at hv3
    have HB2 := Lib.hid (HB.out.trans (hb2.mono HB.out.size))
    have HX := Lib.hid (natText_any v2 z.toNat w2 hv3 (tab_below HTB.out HB2.out))
    have E1 := Lib.hid e1
    have E2 := Lib.hid e2
    clear HA HB hb2 hv3 ez e1 e2 hz
    go_wp2_with fail
    refine HX.out.mono ?_
    rintro e w9 ⟨rfl, hb9⟩
    have HQ := Lib.hid (RetTx.good1 (a := SL s) HT.out E1.out E2.out HB2.out ⟨rfl, hb9⟩)
    clear HX hb9 HB2
    go_wp2
    go_ret2
    exact HQ.out
  · have HQ := Lib.hid (RetTx.bad1 (a := SL s) rfl h0 (two_alloc hb (.cells #[.bool (decide (x < 0)), .slice Au lu cu] bigT) (.cells #[.bool (decide (y < 0)), .slice Av lv cv] bigT)))
    clear hu hv hb hxy
    have tc : (natTwo (SL s) [48] != 0) = true := bne_iff_ne.2 h0
    generalize natTwo (SL s) [48] = c at *
    unfold bigT at *
    go_wp2
    go_ret2
    exact HQ.out
def RetDv (w : World) (r : (List UInt8 × List UInt8) × Int) (e : Ending) (w' : World) : Prop := e = .returned (.tuple #[.string ⟨r.1.1.toArray⟩, .string ⟨r.1.2.toArray⟩, I r.2]) ∧ Below w.heap.size w w'
theorem RetDv.bad {w w' : World} {a b : List UInt8} {c : Int} (hc : natTwo a b = c) (h0 : c ≠ 0) (hb : Below w.heap.size w w') : RetDv w (natDiv a b) (.returned (.tuple #[.string ⟨#[]⟩, .string ⟨#[]⟩, I c])) w' := by
  refine ⟨?_, hb⟩
  rw [natDiv, if_neg (by rw [hc]; exact h0), hc]
theorem RetDv.zero {w w' : World} {a b : List UInt8} (hc : natTwo a b = 0) (h0 : num b = 0) (hb : Below w.heap.size w w') : RetDv w (natDiv a b) (.returned (.tuple #[.string ⟨#[]⟩, .string ⟨#[]⟩, I 10])) w' := by
  refine ⟨?_, hb⟩
  rw [natDiv, if_pos hc, if_pos h0]
theorem RetDv.good {w w' : World} {a b : List UInt8} {s t : ByteArray} (hc : natTwo a b = 0) (h0 : num b ≠ 0) (hs : short ((num a : Int) / (num b : Int)) = true → s = ⟨(Lib.itoa ((num a : Int) / (num b : Int))).toArray⟩) (ht : short ((num a : Int) % (num b : Int)) = true → t = ⟨(Lib.itoa ((num a : Int) % (num b : Int))).toArray⟩)
    (hb : Below w.heap.size w w') : RetDv w (natDiv a b) (.returned (.tuple #[.string s, .string t, I 0])) w' := by
  obtain ⟨ha, hb'⟩ := (natTwo_ok a b).1 hc
  refine ⟨?_, hb⟩
  have e1 : (num a : Int) / (num b : Int) = ((num a / num b : Nat) : Int) := rfl
  have e2 : (num a : Int) % (num b : Int) = ((num a % num b : Nat) : Int) := rfl
  rw [e1, short_nat, itoa_nat] at hs
  rw [e2, short_nat, itoa_nat] at ht
  rw [hs (fitN_mono ha.fit (Nat.div_le_self _ _)), ht (fitN_mono hb'.fit (Nat.le_of_lt (Nat.mod_lt _ (Nat.pos_of_ne_zero h0)))), natDiv_dec ha hb' h0]
set_option maxRecDepth 100000 in
set_option maxHeartbeats 1000000 in
theorem natDiv_any (s t : ByteArray) (w : World) (hs : s.size ≤ 9223372036854775807) (ht : t.size ≤ 9223372036854775807) (htab : Tab w) :
    Calls Tryd.prog 14 #[.string s, .string t] w (RetDv w (natDiv (SL s) (SL t))) := by
  have HW := Lib.hid (two_any s t w hs ht)
  have HTB := Lib.hid htab
  clear htab
  go_enter Tryd.func14, Tryd.ntmps14
  go_wp2_with fail
  refine HW.out.mono ?_
  rintro e w1 ⟨u, v, x, y, rfl, hu, hv, hxy, hb⟩
  obtain ⟨Au, lu, cu, rfl⟩ := hu.form
  obtain ⟨Av, lv, cv, rfl⟩ := hv.form
  clear HW
  by_cases h0 : natTwo (SL s) (SL t) = 0
  · obtain ⟨rfl, rfl⟩ := hxy h0
    obtain ⟨ns, nt⟩ := (natTwo_ok _ _).1 h0
    have HB := Lib.hid (two_alloc hb (.cells #[.bool (decide ((num (SL s) : Int) < 0)), .slice Au lu cu] bigT) (.cells #[.bool (decide ((num (SL t) : Int) < 0)), .slice Av lv cv] bigT))
    have hu2 := hu.alloc2 (.cells #[.bool (decide ((num (SL s) : Int) < 0)), .slice Au lu cu] bigT) (.cells #[.bool (decide ((num (SL t) : Int) < 0)), .slice Av lv cv] bigT)
    have hv2 := hv.alloc2 (.cells #[.bool (decide ((num (SL s) : Int) < 0)), .slice Au lu cu] bigT) (.cells #[.bool (decide ((num (SL t) : Int) < 0)), .slice Av lv cv] bigT)
    have hvar := Var.two (w := w1) (x0 := .bool (decide ((num (SL s) : Int) < 0))) (x1 := .slice Au lu cu) (y0 := .bool (decide ((num (SL t) : Int) < 0))) (y1 := .slice Av lv cv)
    have HA := Lib.hid (sign_any _ _ _ hv2)
    have V0 := Lib.hid hvar.1
    have V1 := Lib.hid hvar.2
    have HU := Lib.hid hu2
    have HV := Lib.hid hv2
    have HT := Lib.hid h0
    rw [h0]
    clear hu hv hxy hb h0 hu2 hv2 hvar
    generalize decide ((num (SL s) : Int) < 0) = bs at *
    generalize decide ((num (SL t) : Int) < 0) = bt at *
    unfold bigT at *
    go_wp2_with fail
    refine HA.out.mono ?_
    rintro e w2 ⟨rfl, hb2⟩
    have HB2 := Lib.hid (HB.out.trans (hb2.mono HB.out.size))
    have V02 := V0.out.below hb2
    have V12 := V1.out.below hb2
    have HU2 := Lib.hid (HU.out.ext hb2)
    have HV2 := Lib.hid (HV.out.ext hb2)
    clear HA HB hb2 V0 V1 HU HV
    by_cases hz : num (SL t) = 0
    · rw [hz]
      have HQ := Lib.hid (RetDv.zero (w' := w2) (a := SL s) (b := SL t) HT.out hz HB2.out)
      clear HB2 HU2 HV2 V02 V12
      go_wp2
      go_ret3
      exact HQ.out
    · rw [Int.sign_eq_one_of_pos (show (0 : Int) < (num (SL t) : Int) by omega)]
      have a0 := V02.c0
      have a1 := V02.c1
      have b0 := V12.c0
      have b1 := V12.c1
      have HD := Lib.hid (divmod_any _ _ (num (SL s) : Int) (num (SL t) : Int) _ HU2.out HV2.out (N := 210) (by omega) ns.fits nt.fits (by omega))
      obtain ⟨q, eq⟩ : ∃ q, (num (SL s) : Int) / (num (SL t) : Int) = q := ⟨_, rfl⟩
      obtain ⟨r, er⟩ : ∃ r, (num (SL s) : Int) % (num (SL t) : Int) = r := ⟨_, rfl⟩
      rw [eq, er] at HD
      have EQ := Lib.hid eq
      have ER := Lib.hid er
      clear V02 V12 HU2 HV2 eq er
      go_wp2_with fail
      refine HD.out.mono ?_
      rintro e w3 ⟨vq, vr, rfl, hq, hr, hb3⟩
      obtain ⟨Aq, lq, cq, rfl⟩ := hq.form
      obtain ⟨Ar, lr, cr, rfl⟩ := hr.form
      have HB3 := Lib.hid (two_alloc (HB2.out.trans (hb3.mono HB2.out.size)) (.cells #[.bool (decide (q < 0)), .slice Aq lq cq] bigT) (.cells #[.bool (decide (r < 0)), .slice Ar lr cr] bigT))
      have hq2 := hq.alloc2 (.cells #[.bool (decide (q < 0)), .slice Aq lq cq] bigT) (.cells #[.bool (decide (r < 0)), .slice Ar lr cr] bigT)
      have hr2 := hr.alloc2 (.cells #[.bool (decide (q < 0)), .slice Aq lq cq] bigT) (.cells #[.bool (decide (r < 0)), .slice Ar lr cr] bigT)
      have hvar := Var.two (w := w3) (x0 := .bool (decide (q < 0))) (x1 := .slice Aq lq cq) (y0 := .bool (decide (r < 0))) (y1 := .slice Ar lr cr)
      have HX := Lib.hid (text_any _ _ _ hq2 (tab_below HTB.out HB3.out))
      have HR2 := Lib.hid hr2
      have V1 := Lib.hid hvar.2
      clear hq hr hb3 hq2 hr2 hvar HD HB2 a0 a1 b0 b1
      generalize decide (q < 0) = bq at *
      generalize decide (r < 0) = br at *
      unfold bigT at *
      go_wp2_with fail
      refine HX.out.mono ?_
      rintro e w4 ⟨ts, rfl, hts, hb4⟩
      have HTS := Lib.hid hts
      have HB4 := Lib.hid (HB3.out.trans (hb4.mono HB3.out.size))
      have V12 := V1.out.below hb4
      have a0 := V12.c0
      have a1 := V12.c1
      have HX2 := Lib.hid (text_any _ _ _ (HR2.out.ext hb4) (tab_below HTB.out HB4.out))
      clear HX hts hb4 HB3 HR2 V1 V12
      go_wp2_with fail
      refine HX2.out.mono ?_
      rintro e w5 ⟨tt, rfl, htt, hb5⟩

      have HTT := Lib.hid htt
      have HB5 := Lib.hid (HB4.out.trans (hb5.mono HB4.out.size))
      clear HX2 htt hb5 HB4
      have HQ := Lib.hid (RetDv.good (a := SL s) (b := SL t) HT.out hz (by rw [EQ.out]; exact HTS.out) (by rw [ER.out]; exact HTT.out) HB5.out)
      clear HTT HTS HB5
      go_wp2
      go_ret3
      exact HQ.out
  · have HQ := Lib.hid (RetDv.bad (a := SL s) (b := SL t) rfl h0 (two_alloc hb (.cells #[.bool (decide (x < 0)), .slice Au lu cu] bigT) (.cells #[.bool (decide (y < 0)), .slice Av lv cv] bigT)))
    clear hu hv hb hxy
    have tc : (natTwo (SL s) (SL t) != 0) = true := bne_iff_ne.2 h0
    generalize natTwo (SL s) (SL t) = c at *
    unfold bigT at *
    go_wp2
    go_ret3
    exact HQ.out
end Go.Proofs.YtpbdlmjfjkfphaaDoor
