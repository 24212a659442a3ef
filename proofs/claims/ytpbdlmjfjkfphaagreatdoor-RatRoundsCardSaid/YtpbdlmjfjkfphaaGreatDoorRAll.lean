/- rat.CheckAll. -/
import Derived.Test.YtpbdlmjfjkfphaaGreatDoorRChk
import Derived.Test.YtpbdlmjfjkfphaaGreatDoorRPf
import Derived.Test.YtpbdlmjfjkfphaaGreatDoorFine
namespace Go.Proofs.YtpbdlmjfjkfphaaGreatDoor
open Go.RowKit

abbrev Sv (s : ByteArray) : Value := .string s
theorem Reads.more2 {w : World} {B sz n : Nat} {A : Option Addr} {xs : List Value} (h : Reads w B sz A n xs) (hB : B ≤ w.heap.size) : Reads w w.heap.size sz A n xs := h.more hB
set_option maxRecDepth 100000 in
set_option maxHeartbeats 1000000 in
theorem rall_any (l : List ByteArray) (n : Nat) (A : Option Addr) (c : Nat) (w : World) (hr : Reads w w.heap.size 1 A n (l.map Sv)) (hn : n ≤ 9223372036854775807) (hs : ∀ s ∈ l, s.size ≤ 9223372036854775807) (htab : Tab w) :
    Calls Tryz.prog 7 #[.slice A n c] w fun e w' => e = .returned (I (rAll (l.map SL))) ∧ Below w.heap.size w w' := by
  have hl : l.length = n := by have := hr.1; simpa using this
  have HTB := Lib.hid htab
  have HS := Lib.hid hs
  have HRD := Lib.hid hr
  clear htab hs hr
  go_enter Tryz.func7, Tryz.ntmps7
  go_wp2
  go_loopg [8] (n - 0) (fun r v wr => ∃ k : Nat, r = n - k ∧ v = I k ∧ k ≤ n ∧ Hid (Below w.heap.size w wr) ∧ Hid (rAll (l.map SL) = rAll ((l.drop k).map SL)))
  case atStart => exact ⟨0, rfl, rfl, by omega, Below.refl _ _, rfl⟩
  case round =>
    obtain ⟨k, rfl, rfl, hk, HB, HO⟩ := hrel
    obtain ⟨wa, rfl⟩ : ∃ wa : World, wa = wr := ⟨_, rfl⟩
    by_cases hlt : k < n
    · obtain ⟨x, hx⟩ : ∃ x, l[k]'(by omega) = x := ⟨_, rfl⟩
      obtain ⟨b, off, u, rfl, _, hu, hc⟩ := (HRD.out.below HB.out).at1 hlt
      obtain rfl : u = Sv x := by
        rw [List.getElem?_map, List.getElem?_eq_getElem (by omega), hx] at hu
        simpa using hu.symm
      have HXS := Lib.hid (HS.out x (by rw [← hx]; exact List.getElem_mem _))
      have HO2 := Lib.hid (show rAll (l.map SL) = if rchk (SL x) = 0 then rAll ((l.drop (k + 1)).map SL) else rchk (SL x) by
        rw [HO.out, List.drop_eq_getElem_cons (by omega), hx]
        rfl)
      have HL := Lib.hid hl
      clear hu hx HO hl
      go_wp2_with fail
      refine (rchk_any x wa HXS.out (tab_below HTB.out HB.out)).mono ?_
      rintro e w1 ⟨rfl, hb⟩
      have HB1 := Lib.hid (HB.out.trans (hb.mono HB.out.size))
      clear hb HB hc
      by_cases h0 : rchk (SL x) = 0
      · have HO3 := Lib.hid (show rAll (l.map SL) = rAll ((l.drop (k + 1)).map SL) by rw [HO2.out, if_pos h0])
        rw [h0]
        clear h0 HO2
        go_wp2
        go_roundg (n - (k + 1))
        case measure => omega
        case rel => exact ⟨k + 1, rfl, by go_num, by omega, HB1, HO3⟩
      · have HO3 := Lib.hid (show rAll (l.map SL) = rchk (SL x) by rw [HO2.out, if_neg h0])
        have tc : (rchk (SL x) != 0) = true := bne_iff_ne.2 h0
        generalize rchk (SL x) = R at *
        clear h0 HO2
        go_wp2
        go_ret
        exact ⟨ret_int HO3.out.symm, HB1.out⟩
    · have HF := Lib.hid (show rAll (l.map SL) = 0 by
        rw [HO.out, List.drop_of_length_le (by omega)]; rfl)
      clear HO
      go_wp2
      go_ret
      exact ⟨ret_int HF.out.symm, HB.out⟩
end Go.Proofs.YtpbdlmjfjkfphaaGreatDoor
