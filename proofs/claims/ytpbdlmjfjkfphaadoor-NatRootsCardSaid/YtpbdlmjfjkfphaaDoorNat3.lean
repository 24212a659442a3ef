/- Package nat: Power. -/
import Derived.Test.YtpbdlmjfjkfphaaDoorNat2
import Derived.Deep.LoopGhost
namespace Go.Proofs.YtpbdlmjfjkfphaaDoor
open Go.RowKit

theorem fits_fitN {n : Nat} (h : fitN n = true) : Fits 210 (n : Int) := by
  have := (num_of_fit h).fits
  rwa [num_dec] at this
theorem pow_large {x i m : Nat} (h : fitN (x ^ (i + 1)) = false) (hm : i + 1 ≤ m) : natTx (x ^ m) = ([], 2) := by
  rw [natTx, if_neg]
  intro k
  rcases Nat.eq_zero_or_pos x with h0 | h0
  · subst h0
    rw [Nat.zero_pow (by omega)] at h
    exact absurd h (by decide +kernel)
  · rw [fitN_mono k (Nat.pow_le_pow_right h0 hm)] at h
    cases h
theorem pow_same {l : List UInt8} {i m : Nat} (h : l = [48] ∨ l = [49]) (hm : i + 1 ≤ m) : num l ^ (i + 1) = num l ^ m := by
  rcases h with h | h
  · subst h
    rw [show num [48] = 0 from rfl, Nat.zero_pow (by omega), Nat.zero_pow (by omega)]
  · subst h
    rw [show num [49] = 1 from rfl, Nat.one_pow, Nat.one_pow]
structure PowI (w : World) (x gx go i : Nat) (bs : Bool) (Au : Option Addr) (lu cu : Nat) (Ao : Option Addr) (lo co : Nat) (wr : World) : Prop where
  vx : Var wr gx (.bool bs) (.slice Au lu cu)
  vo : Var wr go (.bool false) (.slice Ao lo co)
  bx : Big wr (.agg #[.bool bs, .slice Au lu cu]) (x : Int)
  bo : Big wr (.agg #[.bool false, .slice Ao lo co]) ((x ^ i : Nat) : Int)
  fo : fitN (x ^ i) = true
  below : Below w.heap.size w wr
theorem PowI.ext {w : World} {x gx go i : Nat} {bs : Bool} {Au : Option Addr} {lu cu : Nat} {Ao : Option Addr} {lo co : Nat} {wr w2 : World} (h : PowI w x gx go i bs Au lu cu Ao lo co wr) (hb : Below wr.heap.size wr w2) : PowI w x gx go i bs Au lu cu Ao lo co w2 :=
  ⟨h.vx.below hb, h.vo.below hb, h.bx.ext hb, h.bo.ext hb, h.fo, h.below.trans (hb.mono h.below.size)⟩
theorem RetTx.badP {w w' : World} {a : List UInt8} {n c : Int} (hc : natTwo a [48] = c) (h0 : c ≠ 0) (hb : Below w.heap.size w w') : RetTx w (natPow a n) (.returned (.tuple #[.string ⟨#[]⟩, I c])) w' := by
  rw [natTwo_zero] at hc
  refine ⟨?_, hb⟩
  rw [natPow, if_neg (by rw [hc]; exact h0), hc]
theorem RetTx.rangeP {w w' : World} {a : List UInt8} {n : Int} (hc : natTwo a [48] = 0) (h0 : n < 0 ∨ 10000 < n) (hb : Below w.heap.size w w') : RetTx w (natPow a n) (.returned (.tuple #[.string ⟨#[]⟩, I 4])) w' := by
  rw [natTwo_zero] at hc
  refine ⟨?_, hb⟩
  rw [natPow, if_pos hc, if_pos h0]
theorem RetTx.largeP {w w' : World} {a : List UInt8} {n : Nat} (hc : natTwo a [48] = 0) (h0 : n ≤ 10000) (h : natTx (num a ^ n) = ([], 2)) (hb : Below w.heap.size w w') : RetTx w (natPow a n) (.returned (.tuple #[.string ⟨#[]⟩, I 2])) w' := by
  rw [natTwo_zero] at hc
  refine ⟨?_, hb⟩
  rw [natPow, if_pos hc, if_neg (by omega), Int.toNat_natCast, h]
theorem RetTx.goodP {w w1 w' : World} {a : List UInt8} {n m : Nat} (hc : natTwo a [48] = 0) (h0 : n ≤ 10000) (he : m = num a ^ n) (hb : Below w.heap.size w w1) {e : Ending} (h : RetTx w1 (natTx m) e w') : RetTx w (natPow a n) e w' := by
  rw [natTwo_zero] at hc
  rw [natPow, if_pos hc, if_neg (by omega), Int.toNat_natCast, ← he]
  exact ⟨h.1, hb.trans (h.2.mono hb.size)⟩
set_option maxRecDepth 100000 in
set_option maxHeartbeats 1000000 in
theorem natPow_any (s : ByteArray) (n : Int) (w : World) (hs : s.size ≤ 9223372036854775807) (htab : Tab w) :
    Calls Tryd.prog 19 #[.string s, I n] w (RetTx w (natPow (SL s) n)) := by
  have HW := Lib.hid (two_any s ⟨#[48]⟩ w hs (by decide))
  have HTB := Lib.hid htab
  clear htab
  go_enter Tryd.func19, Tryd.ntmps19
  go_wp2_with fail
  refine HW.out.mono ?_
  rintro e w1 ⟨u, v, x, y, rfl, hu, hv, hxy, hb⟩
  obtain ⟨Au, lu, cu, rfl⟩ := hu.form
  obtain ⟨Av, lv, cv, rfl⟩ := hv.form
  rw [sl_zero] at *
  clear HW
  by_cases h0 : natTwo (SL s) [48] = 0
  · obtain ⟨rfl, rfl⟩ := hxy h0
    obtain ⟨ns, nt⟩ := (natTwo_ok _ _).1 h0
    have hb1 := two_alloc hb (.cells #[.bool (decide ((num (SL s) : Int) < 0)), .slice Au lu cu] bigT) (.cells #[.bool (decide ((num [48] : Int) < 0)), .slice Av lv cv] bigT)
    have HT := Lib.hid h0
    rw [h0]
    by_cases hr : n < 0 ∨ 10000 < n
    · have HQ := Lib.hid (RetTx.rangeP (a := SL s) HT.out hr hb1)
      clear hu hv hxy hb hb1 h0
      unfold bigT at *
      by_cases hn : n < 0
      · clear hr
        go_wp2
        go_ret2
        exact HQ.out
      · have hn2 : 10000 < n := by omega
        clear hr
        go_wp2
        go_ret2
        exact HQ.out
    · obtain ⟨m, rfl⟩ : ∃ m : Nat, n = (m : Int) := ⟨n.toNat, by omega⟩
      have hm : m ≤ 10000 := by omega
      have hu2 := hu.alloc2 (.cells #[.bool (decide ((num (SL s) : Int) < 0)), .slice Au lu cu] bigT) (.cells #[.bool (decide ((num [48] : Int) < 0)), .slice Av lv cv] bigT)
      have hvar := (Var.two (w := w1) (x0 := .bool (decide ((num (SL s) : Int) < 0))) (x1 := .slice Au lu cu) (y0 := .bool (decide ((num [48] : Int) < 0))) (y1 := .slice Av lv cv)).1
      have hgw := hb.size
      have HB1 := Lib.hid hb1
      have HU := Lib.hid hu2
      have VX := Lib.hid hvar
      clear hu hv hxy hb hb1 h0 hr hu2 hvar
      have FX := Lib.hid ns.fits
      have HE0 := beq_lit s [48] [48] (by decide +kernel)
      have HE1 := beq_lit s [49] [49] (by decide +kernel)
      generalize decide ((num (SL s) : Int) < 0) = bs at *
      generalize decide ((num [48] : Int) < 0) = bt at *
      unfold bigT at *
      have tn : decide ((m : Int) < 0) = false := decide_eq_false (by omega)
      have tm : decide (10000 < (m : Int)) = false := decide_eq_false (by omega)
      have HM10 := Lib.hid hm
      have hm63 : m ≤ 9223372036854775806 := by omega
      clear hm
      go_wp2_with fail
      refine (of_any 1 _ (by omega) (by omega)).mono ?_
      rintro e w2 ⟨v2, rfl, hv2, hb2⟩
      obtain ⟨Ao, lo, co, rfl⟩ := hv2.form
      rw [show decide ((1 : Int) < 0) = false from rfl] at *
      have hb3 := hb2.alloc hb2.size (.cells #[.bool false, .slice Ao lo co] bigT)
      have HI : Hid (PowI w (num (SL s)) w1.heap.size w2.heap.size 0 bs Au lu cu Ao lo co (w2.alloc (.cells #[.bool false, .slice Ao lo co] bigT))) := Lib.hid ⟨VX.out.below hb3, (Blk.new w2 bigT #[.bool false, .slice Ao lo co]).var, HU.out.ext hb3, hv2.alloc _, show fitN 1 = true by decide +kernel, HB1.out.trans (hb3.mono HB1.out.size)⟩
      have hgo : w1.heap.size < w2.heap.size := by have := hb2.size; simp at this; omega
      clear hb2 hb3 hv2 HB1 HU VX
      unfold bigT at *
      go_wp2_with fail
      generalize w2.alloc (Obj.cells #[Value.bool false, Value.slice Ao lo co] 42) = W0 at *
      generalize w2.heap.size = go at *
      generalize w1.heap.size = gx at *
      go_loopg [31] (m - 0) (fun r sv wr => ∃ i Ao lo co, r = m - i ∧ sv = I i ∧ i ≤ m ∧ PowI w (num (SL s)) gx go i bs Au lu cu Ao lo co wr)
      case atStart => exact ⟨0, _, _, _, rfl, rfl, by omega, HI.out⟩
      case round =>
        clear HI
        obtain ⟨i, Ao, lo, co, rfl, rfl, hi, hI⟩ := hrel
        obtain ⟨wa, rfl⟩ : ∃ wa : World, wa = wr := ⟨_, rfl⟩
        by_cases hlt : i < m
        · have a0 := hI.vx.c0
          have a1 := hI.vx.c1
          have b0 := hI.vo.c0
          have b1 := hI.vo.c1
          have b2 := hI.vo.f0
          have b3 := hI.vo.f1
          have HM := Lib.hid (mul_any _ _ ((num (SL s) ^ i : Nat) : Int) (num (SL s) : Int) wa hI.bo hI.bx (N := 210) (by omega) (fits_fitN hI.fo) FX.out)
          have HI := Lib.hid hI
          rw [show ((num (SL s) ^ i : Nat) : Int) * (num (SL s) : Int) = ((num (SL s) ^ (i + 1) : Nat) : Int) by rw [Nat.pow_succ, Int.natCast_mul]] at HM
          clear hI
          go_wp2_with fail
          refine HM.out.mono ?_
          rintro e w3 ⟨v3, rfl, hv3, hb3⟩
          obtain ⟨A3, l3, c3, rfl⟩ := hv3.form
          have hd3 : decide (((num (SL s) ^ (i + 1) : Nat) : Int) < 0) = false := decide_eq_false (by omega)
          rw [hd3] at *
          have hI3 := HI.out.ext hb3
          have b0 := hI3.vo.c0
          have b1 := hI3.vo.c1
          have b2 := hI3.vo.f0
          have b3 := hI3.vo.f1
          have HVX := Lib.hid (hI3.vx.far (g' := go) (by omega) (.bool false) (.slice A3 l3 c3))
          have HVO := Lib.hid (hI3.vo.set (.bool false) (.slice A3 l3 c3))
          have HBX := Lib.hid (hI3.bx.setVar hI3.vo (.bool false) (.slice A3 l3 c3))
          have HBO := Lib.hid (hv3.setVar hI3.vo (.bool false) (.slice A3 l3 c3))
          have HBW := Lib.hid ((hI3.below.setCell (p := ⟨go, 0, none⟩) (by have := HI.out.below.size; simp only; omega) (.bool false)).setCell (p := ⟨go, 1, none⟩) (by simp only; omega) (.slice A3 l3 c3))
          clear hI3 hv3 hb3 HM HI a0 a1
          go_wp2_with fail
          generalize ((w3.setCell ⟨go, 0, none⟩ (.bool false)).setCell ⟨go, 1, none⟩ (.slice A3 l3 c3)) = W3 at *
          refine (text_any _ _ W3 HBO.out (tab_below HTB.out HBW.out)).mono ?_
          rintro e w4 ⟨ts, rfl, -, hb4⟩
          rw [short_nat]
          have HVX4 := Lib.hid (HVX.out.below hb4)
          have hvo4 := HVO.out.below hb4
          have HBX4 := Lib.hid (HBX.out.ext hb4)
          have HBO4 := Lib.hid (HBO.out.ext hb4)
          have HBW4 := Lib.hid (HBW.out.trans (hb4.mono HBW.out.size))
          clear hb4 HVX HVO HBX HBO HBW
          by_cases hf : fitN (num (SL s) ^ (i + 1)) = true
          · rw [hf]
            have HF := Lib.hid hf
            by_cases hz : SL s = [48] ∨ SL s = [49]
            · have HEQ := Lib.hid (pow_same (m := m) hz (show i + 1 ≤ m by omega))
              have HX := Lib.hid (natText_any _ (num (SL s) ^ (i + 1)) w4 HBO4.out (tab_below HTB.out HBW4.out))
              have c0 := hvo4.c0
              have c1 := hvo4.c1
              clear hvo4 HBX4 HBO4 hf
              rcases hz with hz | hz
              · rw [decide_eq_true hz] at HE0
                clear HE1
                have he0 := HE0
                clear hz HE0
                go_wp2_with fail
                refine HX.out.mono ?_
                rintro e w9 ⟨rfl, hb9⟩
                have HQ := Lib.hid (RetTx.goodP (a := SL s) HT.out HM10.out HEQ.out HBW4.out ⟨rfl, hb9⟩)
                clear HX hb9 HBW4
                go_wp2
                go_ret2
                exact HQ.out
              · have he1 := HE1
                have he0 := HE0
                rw [decide_eq_true hz] at he1
                rw [decide_eq_false (by rw [hz]; decide)] at he0
                clear hz HE0 HE1
                go_wp2_with fail
                refine HX.out.mono ?_
                rintro e w9 ⟨rfl, hb9⟩
                have HQ := Lib.hid (RetTx.goodP (a := SL s) HT.out HM10.out HEQ.out HBW4.out ⟨rfl, hb9⟩)
                clear HX hb9 HBW4
                go_wp2
                go_ret2
                exact HQ.out
            · have he1 := HE1
              have he0 := HE0
              rw [decide_eq_false (fun k => hz (.inr k))] at he1
              rw [decide_eq_false (fun k => hz (.inl k))] at he0
              have HI4 : Hid (PowI w (num (SL s)) gx go (i + 1) bs Au lu cu A3 l3 c3 w4) := Lib.hid ⟨HVX4.out, hvo4, HBX4.out, HBO4.out, hf, HBW4.out⟩
              clear hz HVX4 hvo4 HBX4 HBO4 HBW4 hf HE0 HE1
              go_wp2
              go_roundg (m - (i + 1))
              case measure => omega
              case rel => exact ⟨i + 1, _, _, _, rfl, by go_num, by omega, HI4.out⟩
          · have hf := Bool.eq_false_iff.2 hf
            rw [hf]
            have HQ := Lib.hid (RetTx.largeP (a := SL s) HT.out HM10.out (pow_large hf (by omega)) HBW4.out)
            clear hf HVX4 hvo4 HBX4 HBO4 HBW4 HE0 HE1
            go_wp2
            go_ret2
            exact HQ.out
        · have him : i = m := by omega
          subst him
          have b0 := hI.vo.c0
          have b1 := hI.vo.c1
          have HX := Lib.hid (natText_any _ (num (SL s) ^ i) wa hI.bo (tab_below HTB.out hI.below))
          have HBW := Lib.hid hI.below
          clear hI HE0 HE1
          go_wp2_with fail
          refine HX.out.mono ?_
          rintro e w9 ⟨rfl, hb9⟩
          have HQ := Lib.hid (RetTx.goodP (a := SL s) HT.out HM10.out rfl HBW.out ⟨rfl, hb9⟩)
          clear HX hb9 HBW
          go_wp2
          go_ret2
          exact HQ.out
  · have HQ := Lib.hid (RetTx.badP (a := SL s) (n := n) rfl h0 (two_alloc hb (.cells #[.bool (decide (x < 0)), .slice Au lu cu] bigT) (.cells #[.bool (decide (y < 0)), .slice Av lv cv] bigT)))
    clear hu hv hb hxy
    have tc : (natTwo (SL s) [48] != 0) = true := bne_iff_ne.2 h0
    generalize natTwo (SL s) [48] = c at *
    unfold bigT at *
    go_wp2
    go_ret2
    exact HQ.out
end Go.Proofs.YtpbdlmjfjkfphaaDoor
