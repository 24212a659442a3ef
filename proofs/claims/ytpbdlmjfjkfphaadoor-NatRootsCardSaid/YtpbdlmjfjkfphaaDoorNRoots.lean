/- The walk of NatRoots. -/
import Derived.Test.YtpbdlmjfjkfphaaDoorNLen
namespace Go.Proofs.YtpbdlmjfjkfphaaDoor
open Go.RowKit

set_option maxRecDepth 100000 in
set_option maxHeartbeats 1000000 in
theorem natRoots_any (a : ByteArray) (w : World) (ha : a.size ≤ 9223372036854775807) (htab : Tab w) : Calls Tryd.prog 6 #[.string a] w fun e w' => e = .returned (.bool true) ∧ Below w.heap.size w w' := by
  have HTB := Lib.hid htab
  clear htab
  have SA := ha
  clear ha
  obtain ⟨L1, L2⟩ := root_law (SL a)
  obtain ⟨⟨r, e1⟩, hr⟩ : ∃ p, natRoot (SL a) = p := ⟨_, rfl⟩
  have zr := sz_mk (natRoot_len (SL a))
  rw [hr] at L1 L2 zr
  simp only [] at L1 L2 zr
  have HR0 := Lib.hid hr
  clear hr
  have LL1 := Lib.hid L1
  have LL2 := Lib.hid L2
  clear L1 L2
  go_enter Tryd.func6, Tryd.ntmps6
  go_wp2_with fail
  refine (natFact_any w HTB.out).mono ?_
  rintro e w1 ⟨rfl, hb⟩
  have HB1 := Lib.hid (hb)
  clear hb
  go_wp2_with fail
  refine (natRoot_any a w1 SA (tab_below HTB.out HB1.out)).mono ?_
  rintro e w2 ⟨rfl, hb⟩
  rw [HR0.out]
  have HB2 := Lib.hid (HB1.out.trans (hb.mono HB1.out.size))
  clear hb HB1
  by_cases h1 : e1 = 0
  · subst h1
    obtain ⟨l1, l2, l3, l4, l5⟩ := LL2.out rfl
    have zs := sz_mk (natMul_len r r)
    have zn := sz_mk (natAdd_len r [49])
    obtain ⟨⟨s, e2⟩, hs⟩ : ∃ p, natMul r r = p := ⟨_, rfl⟩
    rw [hs] at l1 l3 l4 zs
    obtain ⟨⟨n, e3⟩, hn⟩ : ∃ p, natAdd r [49] = p := ⟨_, rfl⟩
    rw [hn] at l2 l5 zn
    simp only [] at l1 l2 l3 l4 l5 zs zn
    obtain ⟨⟨low, e4⟩, hw⟩ : ∃ p, natCmp s (SL a) = p := ⟨_, rfl⟩
    rw [hw] at l3 l4
    simp only [] at l3 l4
    have zt := sz_mk (natMul_len n n)
    obtain ⟨⟨t, e5⟩, ht⟩ : ∃ p, natMul n n = p := ⟨_, rfl⟩
    rw [ht] at l5 zt
    simp only [] at l5 zt
    subst l1 l2 l3
    have HS := Lib.hid hs
    have HN := Lib.hid hn
    have HW := Lib.hid hw
    have HT := Lib.hid ht
    have L5 := Lib.hid l5
    clear hs hn hw ht LL1 LL2 l5
    have tl : decide (0 < low) = false := decide_eq_false (by omega)
    go_wp2_with fail
    refine (natMul_any ⟨r.toArray⟩ ⟨r.toArray⟩ w2 zr zr (tab_below HTB.out HB2.out)).mono ?_
    rintro e w3 ⟨rfl, hb⟩
    rw [SL_mk r, HS.out]
    have HB3 := Lib.hid (HB2.out.trans (hb.mono HB2.out.size))
    clear hb HB2
    go_wp2_with fail
    refine (natAdd_any ⟨r.toArray⟩ ⟨#[49]⟩ w3 zr (by decide) (tab_below HTB.out HB3.out)).mono ?_
    rintro e w4 ⟨rfl, hb⟩
    rw [SL_mk r, show SL ⟨#[49]⟩ = [49] from rfl, HN.out]
    have HB4 := Lib.hid (HB3.out.trans (hb.mono HB3.out.size))
    clear hb HB3
    go_wp2_with fail
    refine (natCmp_any ⟨s.toArray⟩ a w4 zs SA).mono ?_
    rintro e w5 ⟨rfl, hb⟩
    rw [SL_mk s, HW.out]
    have HB5 := Lib.hid (HB4.out.trans (hb.mono HB4.out.size))
    clear hb HB4
    have HR := Lib.hid (fine_any [0, 0, 0] 3 (some ⟨w5.heap.size, 0, none⟩) 3 (w5.alloc (.cells #[I 0, I 0, I 0] 23)) _ (reads_lits w5 _ [I 0, I 0, I 0]) (by omega))
    have HA5 := Lib.hid (HB5.out.alloc HB5.out.size (.cells #[I 0, I 0, I 0] 23))
    rw [show fineB [0, 0, 0] = true from rfl] at HR
    clear HB5
    go_wp2_with fail
    refine HR.out.mono ?_
    rintro e w6 ⟨rfl, rfl⟩
    clear HR
    go_wp2_with fail
    refine (natMul_any ⟨n.toArray⟩ ⟨n.toArray⟩ (w5.alloc (.cells #[I 0, I 0, I 0] 23)) zn zn (tab_below HTB.out HA5.out)).mono ?_
    rintro e w7 ⟨rfl, hb⟩
    rw [SL_mk n, HT.out]
    have HB7 := Lib.hid (HA5.out.trans (hb.mono HA5.out.size))
    clear hb HA5
    clear HS HN HW HT HR0
    rcases L5.out with h5 | ⟨h5, h6, h7⟩
    · subst h5
      clear L5
      go_wp2
      go_ret
      exact ⟨rfl, HB7.out⟩
    · subst h5
      clear L5
      obtain ⟨⟨high, e6⟩, hh⟩ : ∃ p, natCmp t (SL a) = p := ⟨_, rfl⟩
      rw [hh] at h6 h7
      simp only [] at h6 h7
      subst h6
      have HH := Lib.hid hh
      clear hh
      have th : decide (0 < high) = true := decide_eq_true h7
      go_wp2_with fail
      refine (natCmp_any ⟨t.toArray⟩ a w7 zt SA).mono ?_
      rintro e w8 ⟨rfl, hb⟩
      rw [SL_mk t, HH.out]
      have HB8 := Lib.hid (HB7.out.trans (hb.mono HB7.out.size))
      clear hb HB7
      have HR := Lib.hid (fine_any [0, 0] 2 (some ⟨w8.heap.size, 0, none⟩) 2 (w8.alloc (.cells #[I 0, I 0] 23)) _ (reads_lits w8 _ [I 0, I 0]) (by omega))
      have HA8 := Lib.hid (HB8.out.alloc HB8.out.size (.cells #[I 0, I 0] 23))
      rw [show fineB [0, 0] = true from rfl] at HR
      clear HB8
      go_wp2_with fail
      refine HR.out.mono ?_
      rintro e w9 ⟨rfl, rfl⟩
      clear HR
      clear HH
      go_wp2
      go_ret
      exact ⟨rfl, HA8.out⟩
  · obtain ⟨rfl, h2⟩ := LL1.out h1
    have tc : (e1 != 0) = true := bne_iff_ne.2 h1
    have te : (e1 == e1) = true := beq_self_eq_true e1
    clear LL1 LL2
    go_wp2_with fail
    refine (chk_any a w2 SA).mono ?_
    rintro e w3 ⟨rfl, hb⟩
    rw [← h2]
    have HB3 := Lib.hid (HB2.out.trans (hb.mono HB2.out.size))
    clear hb HB2
    clear HR0 h2
    go_wp2
    go_ret
    exact ⟨rfl, HB3.out⟩
end Go.Proofs.YtpbdlmjfjkfphaaDoor
