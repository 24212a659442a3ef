/- natFact: the examples of the document hold. -/
import Derived.Test.YtpbdlmjfjkfphaaDoorNat3
import Derived.Test.YtpbdlmjfjkfphaaDoorFine
namespace Go.Proofs.YtpbdlmjfjkfphaaDoor
open Go.RowKit

theorem nfact1 : natAdd (SL (⟨#[57, 57, 57, 57, 57, 57, 57, 57, 57]⟩)) (SL (⟨#[49]⟩)) = ([49, 48, 48, 48, 48, 48, 48, 48, 48, 48], 0) := by decide +kernel
theorem nfact2 : natSub (SL (⟨#[49, 48, 48, 48, 48, 48, 48, 48, 48, 48]⟩)) (SL (⟨#[49]⟩)) = ([57, 57, 57, 57, 57, 57, 57, 57, 57], 0) := by decide +kernel
theorem nfact3 : natMul (SL (⟨#[49, 48, 48, 48, 48, 48, 48, 48, 48, 48]⟩)) (SL (⟨#[49, 48, 48, 48, 48, 48, 48, 48, 48, 48]⟩)) = ([49, 48, 48, 48, 48, 48, 48, 48, 48, 48, 48, 48, 48, 48, 48, 48, 48, 48, 48], 0) := by decide +kernel
theorem nfact4 : natDiv (SL (⟨#[49, 55]⟩)) (SL (⟨#[53]⟩)) = (([51], [50]), 0) := by decide +kernel
theorem nfact5 : natGcd (SL (⟨#[49, 50]⟩)) (SL (⟨#[49, 56]⟩)) = ([54], 0) := by decide +kernel
theorem nfact6 : natCmp (SL (⟨#[57]⟩)) (SL (⟨#[49, 48]⟩)) = (-1, 0) := by decide +kernel
theorem nfact7 : natPow (SL (⟨#[50]⟩)) 10 = ([49, 48, 50, 52], 0) := by decide +kernel
theorem nfact8 : natRoot (SL (⟨#[57, 57]⟩)) = ([57], 0) := by decide +kernel
theorem nstr1 : ((⟨[49, 48, 48, 48, 48, 48, 48, 48, 48, 48].toArray⟩ : ByteArray).toList == [49, 48, 48, 48, 48, 48, 48, 48, 48, 48]) = true := by decide +kernel
theorem nstr2 : ((⟨[49, 48, 48, 48, 48, 48, 48, 48, 48, 48, 48, 48, 48, 48, 48, 48, 48, 48, 48].toArray⟩ : ByteArray).toList == [49, 48, 48, 48, 48, 48, 48, 48, 48, 48, 48, 48, 48, 48, 48, 48, 48, 48, 48]) = true := by decide +kernel
theorem nstr3 : ((⟨[49, 48, 50, 52].toArray⟩ : ByteArray).toList == [49, 48, 50, 52]) = true := by decide +kernel
theorem nstr4 : ((⟨[50].toArray⟩ : ByteArray).toList == [50]) = true := by decide +kernel
theorem nstr5 : ((⟨[51].toArray⟩ : ByteArray).toList == [51]) = true := by decide +kernel
theorem nstr6 : ((⟨[54].toArray⟩ : ByteArray).toList == [54]) = true := by decide +kernel
theorem nstr7 : ((⟨[57].toArray⟩ : ByteArray).toList == [57]) = true := by decide +kernel
theorem nstr8 : ((⟨[57, 57, 57, 57, 57, 57, 57, 57, 57].toArray⟩ : ByteArray).toList == [57, 57, 57, 57, 57, 57, 57, 57, 57]) = true := by decide +kernel
theorem nchk7 : chk (SL (⟨#[48, 48, 55]⟩)) = 5 := by decide +kernel
set_option maxRecDepth 100000 in
set_option maxHeartbeats 1000000 in
theorem natFact_any (w : World) (htab : Tab w) : Calls Tryd.prog 8 #[] w fun e w' => e = .returned (.bool true) ∧ Below w.heap.size w w' := by
  have HTB := Lib.hid htab
  clear htab
  go_enter Tryd.func8, Tryd.ntmps8
  go_wp2_with fail
  refine (natAdd_any ⟨#[57, 57, 57, 57, 57, 57, 57, 57, 57]⟩ ⟨#[49]⟩ w (by decide) (by decide) HTB.out).mono ?_
  rintro e w1 ⟨rfl, hb⟩
  rw [nfact1]
  have HB1 := Lib.hid (hb)
  clear hb
  go_wp2_with fail
  refine (natSub_any ⟨#[49, 48, 48, 48, 48, 48, 48, 48, 48, 48]⟩ ⟨#[49]⟩ w1 (by decide) (by decide) (tab_below HTB.out HB1.out)).mono ?_
  rintro e w2 ⟨rfl, hb⟩
  rw [nfact2]
  have HB2 := Lib.hid (HB1.out.trans (hb.mono HB1.out.size))
  clear hb HB1
  go_wp2_with fail
  refine (natMul_any ⟨#[49, 48, 48, 48, 48, 48, 48, 48, 48, 48]⟩ ⟨#[49, 48, 48, 48, 48, 48, 48, 48, 48, 48]⟩ w2 (by decide) (by decide) (tab_below HTB.out HB2.out)).mono ?_
  rintro e w3 ⟨rfl, hb⟩
  rw [nfact3]
  have HB3 := Lib.hid (HB2.out.trans (hb.mono HB2.out.size))
  clear hb HB2
  go_wp2_with fail
  refine (natDiv_any ⟨#[49, 55]⟩ ⟨#[53]⟩ w3 (by decide) (by decide) (tab_below HTB.out HB3.out)).mono ?_
  rintro e w4 ⟨rfl, hb⟩
  rw [nfact4]
  have HB4 := Lib.hid (HB3.out.trans (hb.mono HB3.out.size))
  clear hb HB3
  go_wp2_with fail
  refine (natGcd_any ⟨#[49, 50]⟩ ⟨#[49, 56]⟩ w4 (by decide) (by decide) (tab_below HTB.out HB4.out)).mono ?_
  rintro e w5 ⟨rfl, hb⟩
  rw [nfact5]
  have HB5 := Lib.hid (HB4.out.trans (hb.mono HB4.out.size))
  clear hb HB4
  go_wp2_with fail
  refine (natCmp_any ⟨#[57]⟩ ⟨#[49, 48]⟩ w5 (by decide) (by decide)).mono ?_
  rintro e w6 ⟨rfl, hb⟩
  rw [nfact6]
  have HB6 := Lib.hid (HB5.out.trans (hb.mono HB5.out.size))
  clear hb HB5
  go_wp2_with fail
  refine (natPow_any ⟨#[50]⟩ 10 w6 (by decide) (tab_below HTB.out HB6.out)).mono ?_
  rintro e w7 ⟨rfl, hb⟩
  rw [nfact7]
  have HB7 := Lib.hid (HB6.out.trans (hb.mono HB6.out.size))
  clear hb HB6
  go_wp2_with fail
  refine (natRoot_any ⟨#[57, 57]⟩ w7 (by decide) (tab_below HTB.out HB7.out)).mono ?_
  rintro e w8 ⟨rfl, hb⟩
  rw [nfact8]
  have HB8 := Lib.hid (HB7.out.trans (hb.mono HB7.out.size))
  clear hb HB7
  have HR := Lib.hid (fine_any [0, 0, 0, 0, 0, 0, 0, 0] 8 (some ⟨w8.heap.size, 0, none⟩) 8 (w8.alloc (.cells #[I 0, I 0, I 0, I 0, I 0, I 0, I 0, I 0] 23)) _ (reads_lits w8 _ [I 0, I 0, I 0, I 0, I 0, I 0, I 0, I 0]) (by omega))
  have HBA := Lib.hid (HB8.out.alloc HB8.out.size (.cells #[I 0, I 0, I 0, I 0, I 0, I 0, I 0, I 0] 23))
  rw [show fineB [0, 0, 0, 0, 0, 0, 0, 0] = true from rfl] at HR
  have s1 := nstr1
  have s2 := nstr2
  have s3 := nstr3
  have s4 := nstr4
  have s5 := nstr5
  have s6 := nstr6
  have s7 := nstr7
  have s8 := nstr8
  clear HB8
  go_wp2_with fail
  refine HR.out.mono ?_
  rintro e w9 ⟨rfl, rfl⟩
  clear HR
  go_wp2_with fail
  refine (chk_any ⟨#[48, 48, 55]⟩ _ (by decide)).mono ?_
  rintro e w10 ⟨rfl, hb⟩
  rw [nchk7]
  have HBZ := Lib.hid (HBA.out.trans (hb.mono HBA.out.size))
  clear hb HBA
  go_wp2
  go_ret
  exact ⟨rfl, HBZ.out⟩
end Go.Proofs.YtpbdlmjfjkfphaaDoor
