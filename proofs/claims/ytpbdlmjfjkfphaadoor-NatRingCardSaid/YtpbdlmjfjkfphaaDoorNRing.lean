/- The walk of NatRing. -/
import Derived.Test.YtpbdlmjfjkfphaaDoorNLen
namespace Go.Proofs.YtpbdlmjfjkfphaaDoor
open Go.RowKit

set_option maxRecDepth 100000 in
set_option maxHeartbeats 1000000 in
theorem natRing_any (a b c : ByteArray) (w : World) (ha : a.size ≤ 9223372036854775807) (hb : b.size ≤ 9223372036854775807) (hc : c.size ≤ 9223372036854775807) (htab : Tab w) : Calls Tryd.prog 3 #[.string a, .string b, .string c] w fun e w' => e = .returned (.bool true) ∧ Below w.heap.size w w' := by
  have HTB := Lib.hid htab
  clear htab
  have SA := ha
  have SB := hb
  have SC := hc
  clear ha hb hc
  go_enter Tryd.func3, Tryd.ntmps3
  go_wp2_with fail
  refine (natFact_any w HTB.out).mono ?_
  rintro e w1 ⟨rfl, hb⟩
  have HB1 := Lib.hid (hb)
  clear hb
  by_cases ha : 300 < a.size
  · have ta : decide (300 < (a.size : Int)) = true := decide_eq_true (by omega)
    go_wp2
    go_ret
    exact ⟨rfl, HB1.out⟩
  · have ta : decide (300 < (a.size : Int)) = false := decide_eq_false (by omega)
    by_cases hb : 300 < b.size
    · have tb : decide (300 < (b.size : Int)) = true := decide_eq_true (by omega)
      go_wp2
      go_ret
      exact ⟨rfl, HB1.out⟩
    · have tb : decide (300 < (b.size : Int)) = false := decide_eq_false (by omega)
      by_cases hc : 300 < c.size
      · have tc : decide (300 < (c.size : Int)) = true := decide_eq_true (by omega)
        go_wp2
        go_ret
        exact ⟨rfl, HB1.out⟩
      · have tc : decide (300 < (c.size : Int)) = false := decide_eq_false (by omega)
        by_cases ka : chk (SL a) = 0
        · have kka := (chk_ok _).1 ka
          go_wp2_with fail
          refine (chk_any a w1 SA).mono ?_
          rintro e w2 ⟨rfl, hb⟩
          rw [ka]
          have HB2 := Lib.hid (HB1.out.trans (hb.mono HB1.out.size))
          clear hb HB1
          by_cases kb : chk (SL b) = 0
          · have kkb := (chk_ok _).1 kb
            go_wp2_with fail
            refine (chk_any b w2 SB).mono ?_
            rintro e w3 ⟨rfl, hb⟩
            rw [kb]
            have HB3 := Lib.hid (HB2.out.trans (hb.mono HB2.out.size))
            clear hb HB2
            by_cases kc : chk (SL c) = 0
            · have kkc := (chk_ok _).1 kc
              go_wp2_with fail
              refine (chk_any c w3 SC).mono ?_
              rintro e w4 ⟨rfl, hb⟩
              rw [kc]
              have HB4 := Lib.hid (HB3.out.trans (hb.mono HB3.out.size))
              clear hb HB3
              obtain ⟨l1, l2, l3, l4, l5, l6, l7, l8⟩ := ring_law kka kkb kkc (by rw [SL_len]; omega) (by rw [SL_len]; omega) (by rw [SL_len]; omega)
              have zA := sz_mk (natAdd_len (SL b) (SL c))
              have zM := sz_mk (natMul_len (SL a) (SL b))
              have zQ := sz_mk (natMul_len (SL a) (SL c))
              obtain ⟨⟨p, e1⟩, hp⟩ : ∃ p, natAdd (SL b) (SL c) = p := ⟨_, rfl⟩
              rw [hp] at l1 l2 l6 l7 l8 zA
              simp only [] at l1 l2 l6 l7 l8 zA
              obtain ⟨⟨x, e2⟩, hx⟩ : ∃ p2, natMul (SL a) p = p2 := ⟨_, rfl⟩
              rw [hx] at l2 l7
              obtain ⟨⟨y, e3⟩, hy⟩ : ∃ p2, natMul (SL a) (SL b) = p2 := ⟨_, rfl⟩
              rw [hy] at l3 l5 l7 zM
              obtain ⟨⟨z, e4⟩, hz⟩ : ∃ p2, natMul (SL a) (SL c) = p2 := ⟨_, rfl⟩
              rw [hz] at l4 l5 l7 zQ
              simp only [] at l2 l3 l4 l5 l7 zM zQ
              obtain ⟨⟨v, e5⟩, hv⟩ : ∃ p2, natAdd y z = p2 := ⟨_, rfl⟩
              rw [hv] at l5 l7
              obtain ⟨⟨d, e6⟩, hd⟩ : ∃ p2, natSub p (SL c) = p2 := ⟨_, rfl⟩
              rw [hd] at l6 l8
              simp only [] at l5 l6 l7 l8
              subst l1 l2 l3 l4 l5 l6 l7 l8
              have hzz := hz
              have HP := Lib.hid hp
              have HX := Lib.hid hx
              have HY := Lib.hid hy
              have HZ := Lib.hid hz
              have HV := Lib.hid hv
              have HD := Lib.hid hd
              clear hp hx hy hz hv hd hzz kka kkb kkc ka kb kc
              go_wp2_with fail
              refine (natAdd_any b c w4 SB SC (tab_below HTB.out HB4.out)).mono ?_
              rintro e w5 ⟨rfl, hb⟩
              rw [HP.out]
              have HB5 := Lib.hid (HB4.out.trans (hb.mono HB4.out.size))
              clear hb HB4
              go_wp2_with fail
              refine (natMul_any a ⟨p.toArray⟩ w5 SA zA (tab_below HTB.out HB5.out)).mono ?_
              rintro e w6 ⟨rfl, hb⟩
              rw [SL_mk p, HX.out]
              have HB6 := Lib.hid (HB5.out.trans (hb.mono HB5.out.size))
              clear hb HB5
              go_wp2_with fail
              refine (natMul_any a b w6 SA SB (tab_below HTB.out HB6.out)).mono ?_
              rintro e w7 ⟨rfl, hb⟩
              rw [HY.out]
              have HB7 := Lib.hid (HB6.out.trans (hb.mono HB6.out.size))
              clear hb HB6
              go_wp2_with fail
              refine (natMul_any a c w7 SA SC (tab_below HTB.out HB7.out)).mono ?_
              rintro e w8 ⟨rfl, hb⟩
              rw [HZ.out]
              have HB8 := Lib.hid (HB7.out.trans (hb.mono HB7.out.size))
              clear hb HB7
              go_wp2_with fail
              refine (natAdd_any ⟨y.toArray⟩ ⟨z.toArray⟩ w8 zM zQ (tab_below HTB.out HB8.out)).mono ?_
              rintro e w9 ⟨rfl, hb⟩
              rw [SL_mk y, SL_mk z, HV.out]
              have HB9 := Lib.hid (HB8.out.trans (hb.mono HB8.out.size))
              clear hb HB8
              go_wp2_with fail
              refine (natSub_any ⟨p.toArray⟩ c w9 zA SC (tab_below HTB.out HB9.out)).mono ?_
              rintro e w10 ⟨rfl, hb⟩
              rw [SL_mk p, HD.out]
              have HB10 := Lib.hid (HB9.out.trans (hb.mono HB9.out.size))
              clear hb HB9
              have HR := Lib.hid (fine_any [0, 0, 0, 0, 0, 0] 6 (some ⟨w10.heap.size, 0, none⟩) 6 (w10.alloc (.cells #[I 0, I 0, I 0, I 0, I 0, I 0] 23)) _ (reads_lits w10 _ [I 0, I 0, I 0, I 0, I 0, I 0]) (by omega))
              have HA10 := Lib.hid (HB10.out.alloc HB10.out.size (.cells #[I 0, I 0, I 0, I 0, I 0, I 0] 23))
              rw [show fineB [0, 0, 0, 0, 0, 0] = true from rfl] at HR
              clear HB10
              go_wp2_with fail
              refine HR.out.mono ?_
              rintro e w11 ⟨rfl, rfl⟩
              clear HR
              have q2 := beq_sl_self b
              clear HP HX HY HZ HV HD
              go_wp2
              go_ret
              exact ⟨rfl, HA10.out⟩
            · have tcc : (chk (SL c) != 0) = true := bne_iff_ne.2 kc
              go_wp2_with fail
              refine (chk_any c w3 SC).mono ?_
              rintro e w4 ⟨rfl, hb⟩
              generalize chk (SL c) = cc at *
              have HB4 := Lib.hid (HB3.out.trans (hb.mono HB3.out.size))
              clear hb HB3
              go_wp2
              go_ret
              exact ⟨rfl, HB4.out⟩
          · have tcb : (chk (SL b) != 0) = true := bne_iff_ne.2 kb
            go_wp2_with fail
            refine (chk_any b w2 SB).mono ?_
            rintro e w3 ⟨rfl, hb⟩
            generalize chk (SL b) = cc at *
            have HB3 := Lib.hid (HB2.out.trans (hb.mono HB2.out.size))
            clear hb HB2
            go_wp2
            go_ret
            exact ⟨rfl, HB3.out⟩
        · have tca : (chk (SL a) != 0) = true := bne_iff_ne.2 ka
          go_wp2_with fail
          refine (chk_any a w1 SA).mono ?_
          rintro e w2 ⟨rfl, hb⟩
          generalize chk (SL a) = cc at *
          have HB2 := Lib.hid (HB1.out.trans (hb.mono HB1.out.size))
          clear hb HB1
          go_wp2
          go_ret
          exact ⟨rfl, HB2.out⟩
end Go.Proofs.YtpbdlmjfjkfphaaDoor
