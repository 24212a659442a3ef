/- (large.Int).Text. -/
import Derived.Test.YtpbdlmjfjkfphaaGreatDoorText
namespace Go.Proofs.YtpbdlmjfjkfphaaGreatDoor
open Go.RowKit

/-- has a number at most 2000 digits? -/
def short (z : Int) : Bool := decide ((Lib.decDigits z.natAbs).length ≤ 2000)
/-- what Text returns -/
def TextR (w : World) (z : Int) (e : Ending) (w' : World) : Prop := ∃ s, e = .returned (.tuple #[.string s, .bool (short z)]) ∧ (short z = true → s = ⟨(Lib.itoa z).toArray⟩) ∧ Below w.heap.size w w'
theorem short_large {z : Int} {wz : List Int} (hn : Ok wz) (hm : Nm wz) (hv : val wz = (z.natAbs : Int)) (hl : 210 < wz.length) : short z = false := by
  unfold short
  rw [decide_eq_false_iff_not, dec_len_lt _ _ (by omega)]
  intro h
  have h1 := nm_low hn hm (wz.length - 1) (by omega)
  have h2 := P32_mono (i := 210) (j := wz.length - 1) (by omega)
  have h3 : (10 ^ 2000 : Int) ≤ P32 210 := by decide +kernel
  have h4 : ((z.natAbs : Nat) : Int) < ((10 ^ 2000 : Nat) : Int) := Int.ofNat_lt.2 h
  have h5 : ((10 ^ 2000 : Nat) : Int) = (10 ^ 2000 : Int) := by decide +kernel
  rw [h5] at h4
  exact absurd (Int.lt_of_lt_of_le h4 h3) (by omega)
theorem ret_text_one (L : Bool) (s : ByteArray) (h : L = true) : Ending.returned (.tuple #[.string s, .bool true]) = .returned (.tuple #[.string s, .bool L]) := by rw [h]
theorem ret_text_none (L : Bool) (s : ByteArray) (h : L = false) : Ending.returned (.tuple #[.string s, .bool false]) = .returned (.tuple #[.string s, .bool L]) := by rw [h]
set_option maxRecDepth 100000 in
set_option maxHeartbeats 1000000 in
theorem text_any (v : Value) (z : Int) (w : World) (hx : Big w v z) (htab : Tab w) : Calls Tryz.prog 77 #[v] w (TextR w z) := by
  obtain ⟨A, ca, wz, rfl, hnz, hvz⟩ := hx.nn
  have HB := Lib.hid ((Below.refl w.heap.size w).alloc (Nat.le_refl _) (.cells #[.bool (decide (z < 0)), .slice A wz.length ca] bigT))
  by_cases h0 : wz.length = 0
  · have hz : z = 0 := by
      rw [List.eq_nil_of_length_eq_zero h0] at hvz
      simp [val] at hvz
      omega
    have hs : short z = true := by rw [hz]; decide +kernel
    have hi : (⟨#[48]⟩ : ByteArray) = ⟨(Lib.itoa z).toArray⟩ := by rw [hz]; decide +kernel
    have HS := Lib.hid hs
    have HII := Lib.hid hi
    have t0 : ((wz.length : Int) == 0) = true := beq_iff_eq.2 (by omega)
    clear hx hnz hvz htab h0 hz hs hi
    generalize decide (z < 0) = b at *
    unfold bigT at *
    go_enter Tryz.func77, Tryz.ntmps77
    go_wp2
    go_ret2
    exact ⟨_, ret_text_one _ _ HS.out, fun _ => HII.out, HB.out⟩
  · by_cases hl : wz.length ≤ 210
    · refine (text_mid z A ca wz w hnz hvz (by omega) hl htab).mono ?_
      rintro e w' ⟨rfl, hb⟩
      exact ⟨_, rfl, fun _ => rfl, hb⟩
    · have HS := Lib.hid (short_large hnz.ok hnz.nm hvz (by omega))
      have t0 : ((wz.length : Int) == 0) = false := beq_eq_false_iff_ne.2 (by omega)
      have t1 : decide (210 < (wz.length : Int)) = true := decide_eq_true (by omega)
      clear hx hnz hvz htab h0 hl
      generalize decide (z < 0) = b at *
      unfold bigT at *
      go_enter Tryz.func77, Tryz.ntmps77
      go_wp2
      go_ret2
      exact ⟨_, ret_text_none _ _ HS.out, fun h => (by rw [HS.out] at h; cases h), HB.out⟩
end Go.Proofs.YtpbdlmjfjkfphaaGreatDoor
