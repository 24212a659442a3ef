/- nat.Check, nat.two, nat.text. -/
import Derived.Test.YtpbdlmjfjkfphaaGreatDoorNatQ
import Derived.Lib.ConvBytes
import Derived.Lib.SlicesS
namespace Go.Proofs.YtpbdlmjfjkfphaaGreatDoor
open Go.RowKit

def SL (s : ByteArray) : List UInt8 := s.data.toList
theorem SL_len (s : ByteArray) : (SL s).length = s.size := by simp [SL]
theorem SL_mk (l : List UInt8) : SL ⟨l.toArray⟩ = l := rfl
theorem SL_inj {s t : ByteArray} (h : SL s = SL t) : s = t := by
  obtain ⟨⟨s⟩⟩ := s
  obtain ⟨⟨t⟩⟩ := t
  simp only [SL] at h
  rw [h]
theorem chk_of {s : ByteArray} (h : digsB (SL s) = true) (h0 : s.size ≠ 0) (h1 : ¬ (1 < s.size ∧ ((SL s).getD 0 0).toNat = 48)) : chk (SL s) = if 2000 < s.size then 2 else 0 := by
  unfold chk
  rw [if_neg (by rw [h]; simp), if_neg, SL_len]
  rintro (e | ⟨e1, e2⟩)
  · have := SL_len s
    rw [e] at this
    exact h0 this.symm
  · rw [SL_len] at e1
    refine h1 ⟨e1, ?_⟩
    cases hl : SL s with
    | nil => rw [hl] at e2; cases e2
    | cons c l =>
      rw [hl, List.head?_cons] at e2
      rw [Option.some.inj e2]
      rfl
theorem chk_bad {s : ByteArray} (h : digsB (SL s) = false) : chk (SL s) = 5 := by unfold chk; rw [if_pos h]
theorem chk_empty {s : ByteArray} (h0 : s.size = 0) : chk (SL s) = 5 := by
  have : SL s = [] := List.eq_nil_of_length_eq_zero (by rw [SL_len]; exact h0)
  rw [this]; rfl
theorem chk_zero {s : ByteArray} (h : 1 < s.size) (h1 : ((SL s).getD 0 0).toNat = 48) : chk (SL s) = 5 := by
  unfold chk
  split
  · rfl
  · rw [if_pos]
    refine .inr ⟨by rw [SL_len]; exact h, ?_⟩
    cases hl : SL s with
    | nil => have := SL_len s; rw [hl] at this; simp at this; omega
    | cons c l =>
      rw [hl] at h1
      rw [List.head?_cons, show c = 48 from UInt8.toNat_inj.1 h1]
theorem byte_lt (s : ByteArray) (k : Nat) : ((SL s).getD k 0).toNat < 256 := UInt8.toNat_lt _
theorem beq_lit (s : ByteArray) (l L : List UInt8) (h : (⟨l.toArray⟩ : ByteArray).toList = L) : (s.toList == L) = decide (SL s = l) := by
  rw [← h]
  by_cases e : SL s = l
  · rw [decide_eq_true e]
    exact (Lib.bytes_beq_iff _ _).2 (SL_inj e)
  · rw [decide_eq_false e]
    exact (Lib.bytes_beq_false_iff _ _).2 fun k => e (by rw [k]; exact SL_mk l)
set_option maxRecDepth 100000 in
set_option maxHeartbeats 400000 in
theorem chk_any (s : ByteArray) (w : World) (hs : s.size ≤ 9223372036854775807) : Calls Tryz.prog 41 #[.string s] w fun e w' => e = .returned (I (chk (SL s))) ∧ Below w.heap.size w w' := by
  have hcv := Lib.run_convert_string_bytes (P := Tryz.prog) w 9 79 5 s Tryz.underlying9 Tryz.underlying79 Tryz.underlying5
  go_enter Tryz.func41, Tryz.ntmps41
  go_wp2
  have HB : Hid (Below w.heap.size w (Lib.bytesWorld w 5 s)) := ⟨rfl, rfl, rfl, by rw [Lib.bytesWorld_size]; omega, fun j hj => Lib.bytesWorld_at_old w 5 s j hj⟩
  have HC := Lib.hid (fun j hj => Lib.bytesWorld_cell w 5 s j hj)
  clear hcv
  generalize Lib.bytesWorld w 5 s = wb at *
  generalize grownCap w s.size 0 5 = gc at *
  go_loopg [8] (s.size - 0) (fun r v wr => ∃ k : Nat, r = s.size - k ∧ v = I k ∧ k ≤ s.size ∧ wb = wr ∧ Hid (digsB (SL s) = digsB ((SL s).drop k)))
  case atStart => exact ⟨0, rfl, rfl, by omega, rfl, rfl⟩
  case round =>
    obtain ⟨k, rfl, rfl, hk, rfl, HO⟩ := hrel
    by_cases hlt : k < s.size
    · have hc : wb.cell? ⟨w.heap.size, k, none⟩ = some (.int .u8 (((SL s).getD k 0).toNat : Int)) := by have := HC.out k hlt; simpa [SL] using this
      have hb := byte_lt s k
      have HO2 := Lib.hid (show digsB (SL s) = ((decide (48 ≤ ((SL s).getD k 0).toNat) && decide (((SL s).getD k 0).toNat ≤ 57)) && digsB ((SL s).drop (k + 1))) by
        have hk' : k < (SL s).length := by rw [SL_len]; exact hlt
        rw [HO.out, List.drop_eq_getElem_cons hk', digsB, List.all_cons, List.getD_eq_getElem?_getD, List.getElem?_eq_getElem hk']
        rfl)
      obtain ⟨x, hx⟩ : ∃ x, ((SL s).getD k 0).toNat = x := ⟨_, rfl⟩
      rw [hx] at hc hb HO2
      clear hx HO
      by_cases h1 : 48 ≤ x
      · by_cases h2 : x ≤ 57
        · have HO3 := Lib.hid (show digsB (SL s) = digsB ((SL s).drop (k + 1)) by rw [HO2.out, decide_eq_true h1, decide_eq_true h2]; rfl)
          go_wp2
          go_roundg (s.size - (k + 1))
          case measure => omega
          case rel => exact ⟨k + 1, rfl, by go_num, by omega, rfl, HO3⟩
        · have HN := Lib.hid (chk_bad (s := s) (by rw [HO2.out, decide_eq_false h2]; simp))
          go_wp2
          go_ret
          exact ⟨ret_int HN.out.symm, HB.out⟩
      · have HN := Lib.hid (chk_bad (s := s) (by rw [HO2.out, decide_eq_false h1]; simp))
        go_wp2
        go_ret
        exact ⟨ret_int HN.out.symm, HB.out⟩
    · have HD := Lib.hid (show digsB (SL s) = true by
        have hk' : (SL s).drop k = [] := List.drop_of_length_le (by rw [SL_len]; omega)
        rw [HO.out, hk']; rfl)
      clear HO
      have te := beq_lit s [] [] (by decide +kernel)
      have el : SL s = [] ↔ s.size = 0 := by rw [← SL_len]; exact List.length_eq_zero_iff.symm
      by_cases h0 : s.size = 0
      · have HN := Lib.hid (chk_empty h0)
        rw [decide_eq_true (el.2 h0)] at te
        clear el
        go_wp2
        go_ret
        exact ⟨ret_int HN.out.symm, HB.out⟩
      · rw [decide_eq_false (fun k => h0 (el.1 k))] at te
        clear el
        by_cases h1 : 1 < s.size
        · have e0 : (SL s).getD 0 0 = s[0]'(by omega) := by
            have : 0 < (SL s).length := by rw [SL_len]; omega
            rw [List.getD_eq_getElem?_getD, List.getElem?_eq_getElem this]
            rfl
          by_cases h48 : (s[0]'(by omega)).toNat = 48
          · have HX := Lib.hid (chk_zero h1 (by rw [e0]; exact h48))
            have t48 : (((s[0]'(by omega)).toNat : Int) == 48) = true := beq_iff_eq.2 (by omega)
            clear e0
            go_wp2
            go_ret
            exact ⟨ret_int HX.out.symm, HB.out⟩
          · have t48 : (((s[0]'(by omega)).toNat : Int) == 48) = false := beq_eq_false_iff_ne.2 (by omega)
            have HY := Lib.hid (chk_of HD.out h0 (fun k => h48 (by rw [← e0]; exact k.2)))
            clear e0
            by_cases h2 : 2000 < s.size
            · rw [if_pos h2] at HY
              go_wp2
              go_ret
              exact ⟨ret_int HY.out.symm, HB.out⟩
            · rw [if_neg h2] at HY
              go_wp2
              go_ret
              exact ⟨ret_int HY.out.symm, HB.out⟩
        · have HY := Lib.hid (chk_of HD.out h0 (fun k => h1 k.1))
          rw [if_neg (by omega)] at HY
          go_wp2
          go_ret
          exact ⟨ret_int HY.out.symm, HB.out⟩
end Go.Proofs.YtpbdlmjfjkfphaaGreatDoor
