/- The walk of NatOrders. -/
import Derived.Test.YtpbdlmjfjkfphaaDoorNLen
namespace Go.Proofs.YtpbdlmjfjkfphaaDoor
open Go.RowKit

set_option maxRecDepth 100000 in
set_option maxHeartbeats 1000000 in
theorem natOrders_any (a b : ByteArray) (w : World) (ha : a.size ≤ 9223372036854775807) (hb : b.size ≤ 9223372036854775807) (htab : Tab w) : Calls Tryd.prog 5 #[.string a, .string b] w fun e w' => e = .returned (.bool true) ∧ Below w.heap.size w w' := by
  have HTB := Lib.hid htab
  clear htab
  have SA := ha
  have SB := hb
  clear ha hb
  obtain ⟨L1, L2⟩ := order_law (SL a) (SL b)
  obtain ⟨⟨k, e1⟩, hk⟩ : ∃ p, natCmp (SL a) (SL b) = p := ⟨_, rfl⟩
  rw [hk] at L1 L2
  simp only [] at L1 L2
  have HK := Lib.hid hk
  clear hk
  have LL1 := Lib.hid L1
  have LL2 := Lib.hid L2
  clear L1 L2
  go_enter Tryd.func5, Tryd.ntmps5
  go_wp2_with fail
  refine (natFact_any w HTB.out).mono ?_
  rintro e w1 ⟨rfl, hb⟩
  have HB1 := Lib.hid (hb)
  clear hb
  go_wp2_with fail
  refine (natCmp_any a b w1 SA SB).mono ?_
  rintro e w2 ⟨rfl, hb⟩
  rw [HK.out]
  have HB2 := Lib.hid (HB1.out.trans (hb.mono HB1.out.size))
  clear hb HB1
  by_cases h1 : e1 = 0
  · subst h1
    obtain ⟨l1, l2, l3, l4, l5, l6, l7⟩ := LL2.out rfl
    obtain ⟨⟨kb, e2⟩, hkb⟩ : ∃ p, natCmp (SL b) (SL a) = p := ⟨_, rfl⟩
    rw [hkb] at l1 l2
    simp only [] at l1 l2
    subst l1 l2
    obtain ⟨⟨d, g⟩, hd⟩ : ∃ p, natSub (SL a) (SL b) = p := ⟨_, rfl⟩
    rw [hd] at l6 l7
    simp only [] at l6 l7
    have HKB := Lib.hid hkb
    have HD := Lib.hid hd
    clear hkb hd LL1 LL2
    have hab : SL a = SL b ↔ a = b := ⟨SL_inj, fun h => by rw [h]⟩
    rw [hab] at l5
    clear hab
    rcases (show k = -1 ∨ k = 0 ∨ k = 1 by omega) with rfl | rfl | rfl
    · skip
      have hne : a ≠ b := fun h => by have := l5.2 h; omega
      obtain rfl := l6 (by omega)
      have tab := (Lib.bytes_beq_false_iff a b).2 hne
      clear l3 l4 l5 l6 l7 hne
      go_wp2_with fail
      refine (natCmp_any b a w2 SB SA).mono ?_
      rintro e w3 ⟨rfl, hb⟩
      rw [HKB.out]
      have HB3 := Lib.hid (HB2.out.trans (hb.mono HB2.out.size))
      clear hb HB2
      go_wp2_with fail
      refine (natSub_any a b w3 SA SB (tab_below HTB.out HB3.out)).mono ?_
      rintro e w4 ⟨rfl, hb⟩
      rw [HD.out]
      have HB4 := Lib.hid (HB3.out.trans (hb.mono HB3.out.size))
      clear hb HB3
      clear HKB HD HK
      go_wp2
      go_ret
      exact ⟨rfl, HB4.out⟩
    · skip
      obtain rfl := l5.1 rfl
      obtain ⟨rfl, h48⟩ := l7 (by omega)
      obtain rfl := h48.2 rfl
      have tab := (Lib.bytes_beq_iff a a).2 rfl
      clear l3 l4 l5 l6 l7
      go_wp2_with fail
      refine (natCmp_any a a w2 SA SA).mono ?_
      rintro e w3 ⟨rfl, hb⟩
      rw [HKB.out]
      have HB3 := Lib.hid (HB2.out.trans (hb.mono HB2.out.size))
      clear hb HB2
      go_wp2_with fail
      refine (natSub_any a a w3 SA SA (tab_below HTB.out HB3.out)).mono ?_
      rintro e w4 ⟨rfl, hb⟩
      rw [HD.out]
      have HB4 := Lib.hid (HB3.out.trans (hb.mono HB3.out.size))
      clear hb HB3
      clear HKB HD HK
      go_wp2
      go_ret
      exact ⟨rfl, HB4.out⟩
    · skip
      have hne : a ≠ b := fun h => by have := l5.2 h; omega
      obtain ⟨rfl, h48⟩ := l7 (by omega)
      have td : (d == [48]) = false := beq_eq_false_iff_ne.2 fun h => by have := h48.1 h; omega
      have tab := (Lib.bytes_beq_false_iff a b).2 hne
      clear h48
      clear l3 l4 l5 l6 l7 hne
      go_wp2_with fail
      refine (natCmp_any b a w2 SB SA).mono ?_
      rintro e w3 ⟨rfl, hb⟩
      rw [HKB.out]
      have HB3 := Lib.hid (HB2.out.trans (hb.mono HB2.out.size))
      clear hb HB2
      go_wp2_with fail
      refine (natSub_any a b w3 SA SB (tab_below HTB.out HB3.out)).mono ?_
      rintro e w4 ⟨rfl, hb⟩
      rw [HD.out]
      have HB4 := Lib.hid (HB3.out.trans (hb.mono HB3.out.size))
      clear hb HB3
      clear HKB HD HK
      go_wp2
      go_ret
      exact ⟨rfl, HB4.out⟩
  · obtain rfl := LL1.out h1
    have tc : (e1 != 0) = true := bne_iff_ne.2 h1
    clear HK LL1 LL2
    go_wp2
    go_ret
    exact ⟨rfl, HB2.out⟩
end Go.Proofs.YtpbdlmjfjkfphaaDoor
