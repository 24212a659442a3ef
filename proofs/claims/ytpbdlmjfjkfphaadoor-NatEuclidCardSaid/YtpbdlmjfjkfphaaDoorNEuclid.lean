/- The walk of NatEuclid. -/
import Derived.Test.YtpbdlmjfjkfphaaDoorNLen
namespace Go.Proofs.YtpbdlmjfjkfphaaDoor
open Go.RowKit

set_option maxRecDepth 100000 in
set_option maxHeartbeats 1000000 in
theorem natEuclid_any (a b : ByteArray) (w : World) (ha : a.size ≤ 9223372036854775807) (hb : b.size ≤ 9223372036854775807) (htab : Tab w) : Calls Tryd.prog 4 #[.string a, .string b] w fun e w' => e = .returned (.bool true) ∧ Below w.heap.size w w' := by
  have HTB := Lib.hid htab
  clear htab
  have SA := ha
  have SB := hb
  clear ha hb
  obtain ⟨L1, L2⟩ := euclid_law (SL a) (SL b)
  obtain ⟨zq, zr⟩ := natDiv_len (SL a) (SL b)
  obtain ⟨⟨⟨q, r⟩, e1⟩, hd⟩ : ∃ p, natDiv (SL a) (SL b) = p := ⟨_, rfl⟩
  rw [hd] at L1 L2 zq zr
  simp only [Prod.mk.injEq] at L1 L2 zq zr
  have zq := sz_mk zq
  have zr := sz_mk zr
  have HD := Lib.hid hd
  clear hd
  have LL1 := Lib.hid L1
  have LL2 := Lib.hid L2
  clear L1 L2
  go_enter Tryd.func4, Tryd.ntmps4
  go_wp2_with fail
  refine (natFact_any w HTB.out).mono ?_
  rintro e w1 ⟨rfl, hb⟩
  have HB1 := Lib.hid (hb)
  clear hb
  go_wp2_with fail
  refine (natDiv_any a b w1 SA SB (tab_below HTB.out HB1.out)).mono ?_
  rintro e w2 ⟨rfl, hb⟩
  rw [HD.out]
  have HB2 := Lib.hid (HB1.out.trans (hb.mono HB1.out.size))
  clear hb HB1
  by_cases h1 : e1 = 0
  · subst h1
    obtain ⟨l1, l2, l3, l4, l5, l6, l7, l8, l9, l10⟩ := LL2.out rfl
    have zm := sz_mk (natMul_len q (SL b))
    have zg := sz_mk (natGcd_len (SL a) (SL b))
    obtain ⟨⟨m, e2⟩, hm⟩ : ∃ p, natMul q (SL b) = p := ⟨_, rfl⟩
    rw [hm] at l1 l2 l4 zm
    simp only [] at l1 l2 l4 zm
    obtain ⟨⟨s, e3⟩, hs⟩ : ∃ p, natAdd m r = p := ⟨_, rfl⟩
    rw [hs] at l2 l4
    simp only [] at l2 l4
    obtain ⟨⟨k, e4⟩, hk⟩ : ∃ p, natCmp r (SL b) = p := ⟨_, rfl⟩
    rw [hk] at l3 l5
    simp only [] at l3 l5
    obtain ⟨⟨g, e5⟩, hg⟩ : ∃ p, natGcd (SL a) (SL b) = p := ⟨_, rfl⟩
    rw [hg] at l6 l7 l8 l9 l10 zg
    simp only [] at l6 l7 l8 l9 l10 zg
    obtain ⟨⟨⟨xq, x⟩, e6⟩, hx⟩ : ∃ p, natDiv (SL a) g = p := ⟨_, rfl⟩
    rw [hx] at l7 l9
    obtain ⟨⟨⟨yq, y⟩, e7⟩, hy⟩ : ∃ p, natDiv (SL b) g = p := ⟨_, rfl⟩
    rw [hy] at l8 l10
    simp only [] at l7 l8 l9 l10
    subst l1 l2 l3 l4 l5 l6 l7 l8 l9 l10
    have HM := Lib.hid hm
    have HS := Lib.hid hs
    have HK := Lib.hid hk
    have HG := Lib.hid hg
    have HX := Lib.hid hx
    have HY := Lib.hid hy
    have q2 := beq_sl_self a
    clear hm hs hk hg hx hy LL1 LL2
    go_wp2_with fail
    refine (natMul_any ⟨q.toArray⟩ b w2 zq SB (tab_below HTB.out HB2.out)).mono ?_
    rintro e w3 ⟨rfl, hb⟩
    rw [SL_mk q, HM.out]
    have HB3 := Lib.hid (HB2.out.trans (hb.mono HB2.out.size))
    clear hb HB2
    go_wp2_with fail
    refine (natAdd_any ⟨m.toArray⟩ ⟨r.toArray⟩ w3 zm zr (tab_below HTB.out HB3.out)).mono ?_
    rintro e w4 ⟨rfl, hb⟩
    rw [SL_mk m, SL_mk r, HS.out]
    have HB4 := Lib.hid (HB3.out.trans (hb.mono HB3.out.size))
    clear hb HB3
    go_wp2_with fail
    refine (natCmp_any ⟨r.toArray⟩ b w4 zr SB).mono ?_
    rintro e w5 ⟨rfl, hb⟩
    rw [SL_mk r, HK.out]
    have HB5 := Lib.hid (HB4.out.trans (hb.mono HB4.out.size))
    clear hb HB4
    have HR := Lib.hid (fine_any [0, 0, 0] 3 (some ⟨w5.heap.size, 0, none⟩) 3 (w5.alloc (.cells #[I 0, I 0, I 0] 23)) _ (reads_lits w5 _ [I 0, I 0, I 0]) (by omega))
    have HA5 := Lib.hid (HB5.out.alloc HB5.out.size (.cells #[I 0, I 0, I 0] 23))
    rw [show fineB [0, 0, 0] = true from rfl] at HR
    clear HB5
    go_wp2_with fail
    refine HR.out.mono ?_
    rintro e w6 ⟨rfl, rfl⟩
    clear HR
    by_cases hl : 200 < a.size
    · have tl : decide (200 < (a.size : Int)) = true := decide_eq_true (by omega)
      have HR := Lib.hid (fine_any [0, 0, 0] 3 (some ⟨(w5.alloc (.cells #[I 0, I 0, I 0] 23)).heap.size, 0, none⟩) 3 ((w5.alloc (.cells #[I 0, I 0, I 0] 23)).alloc (.cells #[I 0, I 0, I 0] 23)) _ (reads_lits (w5.alloc (.cells #[I 0, I 0, I 0] 23)) _ [I 0, I 0, I 0]) (by omega))
      have HA6 := Lib.hid (HA5.out.alloc HA5.out.size (.cells #[I 0, I 0, I 0] 23))
      rw [show fineB [0, 0, 0] = true from rfl] at HR
      rw [World.size_alloc w5] at HR
      clear HA5
      go_wp2_with fail
      refine HR.out.mono ?_
      rintro e w7 ⟨rfl, rfl⟩
      clear HR
      clear HM HS HK HG HX HY
      go_wp2
      go_ret
      exact ⟨rfl, HA6.out⟩
    · have tl : decide (200 < (a.size : Int)) = false := decide_eq_false (by omega)
      go_wp2_with fail
      refine (natGcd_any a b (w5.alloc (.cells #[I 0, I 0, I 0] 23)) SA SB (tab_below HTB.out HA5.out)).mono ?_
      rintro e w7 ⟨rfl, hb⟩
      rw [HG.out]
      have HB7 := Lib.hid (HA5.out.trans (hb.mono HA5.out.size))
      clear hb HA5
      go_wp2_with fail
      refine (natDiv_any a ⟨g.toArray⟩ w7 SA zg (tab_below HTB.out HB7.out)).mono ?_
      rintro e w8 ⟨rfl, hb⟩
      rw [SL_mk g, HX.out]
      have HB8 := Lib.hid (HB7.out.trans (hb.mono HB7.out.size))
      clear hb HB7
      go_wp2_with fail
      refine (natDiv_any b ⟨g.toArray⟩ w8 SB zg (tab_below HTB.out HB8.out)).mono ?_
      rintro e w9 ⟨rfl, hb⟩
      rw [SL_mk g, HY.out]
      have HB9 := Lib.hid (HB8.out.trans (hb.mono HB8.out.size))
      clear hb HB8
      have HR := Lib.hid (fine_any [0, 0, 0] 3 (some ⟨w9.heap.size, 0, none⟩) 3 (w9.alloc (.cells #[I 0, I 0, I 0] 23)) _ (reads_lits w9 _ [I 0, I 0, I 0]) (by omega))
      have HA9 := Lib.hid (HB9.out.alloc HB9.out.size (.cells #[I 0, I 0, I 0] 23))
      rw [show fineB [0, 0, 0] = true from rfl] at HR
      clear HB9
      go_wp2_with fail
      refine HR.out.mono ?_
      rintro e w10 ⟨rfl, rfl⟩
      clear HR
      clear HM HS HK HG HX HY
      go_wp2
      go_ret
      exact ⟨rfl, HA9.out⟩
  · obtain ⟨rfl, rfl⟩ := LL1.out h1
    have tc : (e1 != 0) = true := bne_iff_ne.2 h1
    clear LL1 LL2 HD
    go_wp2
    go_ret
    exact ⟨rfl, HB2.out⟩
end Go.Proofs.YtpbdlmjfjkfphaaDoor
