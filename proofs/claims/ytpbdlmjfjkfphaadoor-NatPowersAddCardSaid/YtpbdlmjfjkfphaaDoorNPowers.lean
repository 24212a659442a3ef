/- The walk of NatPowersAdd. -/
import Derived.Test.YtpbdlmjfjkfphaaDoorNLen
namespace Go.Proofs.YtpbdlmjfjkfphaaDoor
open Go.RowKit

theorem wrap_mod60 (n : Int) : 0 ≤ IntKind.u64.wrap n % 60 ∧ IntKind.u64.wrap n % 60 < 60 := ⟨Int.emod_nonneg _ (by decide), Int.emod_lt_of_pos _ (by decide)⟩
set_option maxRecDepth 100000 in
set_option maxHeartbeats 400000 in
theorem pick_any (n : Int) (w : World) : Calls Tryd.prog 18 #[I n, I 60] w fun e w' => (∃ r, e = .returned (I r) ∧ 0 ≤ r ∧ r < 60) ∧ w = w' := by
  have hb := wrap_mod60 n
  have e0 : (IntKind.u64.wrap n).tmod 60 = IntKind.u64.wrap n % 60 := Int.tmod_eq_emod_of_nonneg (by rw [IntKind.wrap_u64]; exact Int.emod_nonneg _ (by decide))
  have e2 : wrap64 ((IntKind.u64.wrap n).tmod 60) = IntKind.u64.wrap n % 60 := by rw [e0]; exact IntWalk.wrap64_in _ (by omega)
  obtain ⟨r, hr⟩ : ∃ r, IntKind.u64.wrap n % 60 = r := ⟨_, rfl⟩
  rw [hr] at hb e2
  clear e0 hr
  have HE := Lib.hid e2
  clear e2
  go_enter Tryd.func18, Tryd.ntmps18
  go_wp2
  go_ret
  exact ⟨⟨r, by rw [← HE.out]; rfl, hb⟩, rfl⟩
set_option maxRecDepth 100000 in
set_option maxHeartbeats 1000000 in
theorem natPowers_any (a : ByteArray) (n m : Int) (w : World) (ha : a.size ≤ 9223372036854775807) (htab : Tab w) : Calls Tryd.prog 7 #[.string a, I n, I m] w fun e w' => e = .returned (.bool true) ∧ Below w.heap.size w w' := by
  have HTB := Lib.hid htab
  clear htab
  have SA := ha
  clear ha
  go_enter Tryd.func7, Tryd.ntmps7
  go_wp2_with fail
  refine (natFact_any w HTB.out).mono ?_
  rintro e w1 ⟨rfl, hb⟩
  have HB1 := Lib.hid (hb)
  clear hb
  go_wp2_with fail
  refine (pick_any n _).mono ?_
  rintro e wx ⟨⟨pn, rfl, bn⟩, rfl⟩
  go_wp2_with fail
  refine (pick_any m _).mono ?_
  rintro e wx ⟨⟨pm, rfl, bm⟩, rfl⟩
  obtain ⟨L1, L2⟩ := powers_law (SL a) pn pm bn bm
  have zn := sz_mk (natPow_len (SL a) pn)
  obtain ⟨⟨xn, en⟩, hn⟩ : ∃ p, natPow (SL a) pn = p := ⟨_, rfl⟩
  rw [hn] at L1 L2 zn
  have zm := sz_mk (natPow_len (SL a) pm)
  obtain ⟨⟨xm, em⟩, hm⟩ : ∃ p, natPow (SL a) pm = p := ⟨_, rfl⟩
  rw [hm] at L1 L2 zm
  have zs := sz_mk (natPow_len (SL a) (pn + pm))
  obtain ⟨⟨xs, es⟩, hs⟩ : ∃ p, natPow (SL a) (pn + pm) = p := ⟨_, rfl⟩
  rw [hs] at L1 L2 zs
  simp only [] at L1 L2 zn zm zs
  have zp := natMul_len xn xm
  obtain ⟨⟨xp, ep⟩, hp⟩ : ∃ p, natMul xn xm = p := ⟨_, rfl⟩
  rw [hp] at L2
  simp only [] at L2
  have HN := Lib.hid hn
  have HM := Lib.hid hm
  have HS := Lib.hid hs
  have HP := Lib.hid hp
  have LL1 := Lib.hid L1
  have LL2 := Lib.hid L2
  clear L1 L2 hn hm hs hp zp
  have ew : IntKind.i64.wrap (pn + pm) = pn + pm := IntWalk.i64_in _ (by omega)
  go_wp2_with fail
  refine (natPow_any a pn w1 SA (tab_below HTB.out HB1.out)).mono ?_
  rintro e w2 ⟨rfl, hb⟩
  rw [HN.out]
  have HB2 := Lib.hid (HB1.out.trans (hb.mono HB1.out.size))
  clear hb HB1
  go_wp2_with fail
  refine (natPow_any a pm w2 SA (tab_below HTB.out HB2.out)).mono ?_
  rintro e w3 ⟨rfl, hb⟩
  rw [HM.out]
  have HB3 := Lib.hid (HB2.out.trans (hb.mono HB2.out.size))
  clear hb HB2
  go_wp2_with fail
  refine (natPow_any a (pn + pm) w3 SA (tab_below HTB.out HB3.out)).mono ?_
  rintro e w4 ⟨rfl, hb⟩
  rw [HS.out]
  have HB4 := Lib.hid (HB3.out.trans (hb.mono HB3.out.size))
  clear hb HB3
  by_cases hf : en = 0 ∧ em = 0
  · obtain ⟨f1, f2⟩ := LL2.out hf
    obtain ⟨rfl, rfl⟩ := hf
    subst f1 f2
    clear LL1 LL2
    have HR := Lib.hid (fine_any [0, 0] 2 (some ⟨w4.heap.size, 0, none⟩) 2 (w4.alloc (.cells #[I 0, I 0] 23)) _ (reads_lits w4 _ [I 0, I 0]) (by omega))
    have HA4 := Lib.hid (HB4.out.alloc HB4.out.size (.cells #[I 0, I 0] 23))
    rw [show fineB [0, 0] = true from rfl] at HR
    clear HB4
    go_wp2_with fail
    refine HR.out.mono ?_
    rintro e w5 ⟨rfl, rfl⟩
    clear HR
    go_wp2_with fail
    refine (natMul_any ⟨xn.toArray⟩ ⟨xm.toArray⟩ (w4.alloc (.cells #[I 0, I 0] 23)) zn zm (tab_below HTB.out HA4.out)).mono ?_
    rintro e w6 ⟨rfl, hb⟩
    rw [SL_mk xn, SL_mk xm, HP.out]
    have HB6 := Lib.hid (HA4.out.trans (hb.mono HA4.out.size))
    clear hb HA4
    have te : (es == es) = true := beq_self_eq_true es
    clear HN HM HS HP
    go_wp2
    go_ret
    exact ⟨rfl, HB6.out⟩
  · have L3 := Lib.hid (LL1.out hf)
    have hfb : fineB [en, em] = false := by
      rw [Bool.eq_false_iff]
      intro k
      rw [fineB_iff] at k
      exact hf ⟨k en (by simp), k em (by simp)⟩
    clear LL1 LL2 hf
    have HR := Lib.hid (fine_any [en, em] 2 (some ⟨w4.heap.size, 0, none⟩) 2 (w4.alloc (.cells #[I en, I em] 23)) _ (reads_lits w4 _ [I en, I em]) (by omega))
    have HA4 := Lib.hid (HB4.out.alloc HB4.out.size (.cells #[I en, I em] 23))
    rw [hfb] at HR
    clear HB4
    go_wp2_with fail
    refine HR.out.mono ?_
    rintro e w5 ⟨rfl, rfl⟩
    clear HR
    have HE0 := beq_lit a [48] [48] (by decide +kernel)
    have HE1 := beq_lit a [49] [49] (by decide +kernel)
    clear HN HM HS HP hfb
    by_cases h3 : es = 0
    · have t3 : (es != 0) = false := by rw [h3]; rfl
      by_cases h4 : SL a = [48]
      · rw [decide_eq_true h4] at HE0
        clear HE1 L3 h4 h3
        go_wp2
        go_ret
        exact ⟨rfl, HA4.out⟩
      · rw [decide_eq_false h4] at HE0
        rw [decide_eq_true (((L3.out.resolve_left (fun k => k h3)).resolve_left h4))] at HE1
        clear L3 h4 h3
        go_wp2
        go_ret
        exact ⟨rfl, HA4.out⟩
    · have t3 : (es != 0) = true := bne_iff_ne.2 h3
      clear L3 HE0 HE1 h3
      go_wp2
      go_ret
      exact ⟨rfl, HA4.out⟩
end Go.Proofs.YtpbdlmjfjkfphaaDoor
