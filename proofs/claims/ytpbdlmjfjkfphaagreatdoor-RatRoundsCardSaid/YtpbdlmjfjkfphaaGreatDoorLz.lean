/- math/bits.Len32, LeadingZeros32; what the shift by the leading zeros makes of a divisor. -/
import Derived.Test.YtpbdlmjfjkfphaaGreatDoorKnuth
import Derived.Test.YtpbdlmjfjkfphaaGreatDoorShift
import Derived.Lib.Strings
import Derived.Lib.Slices
import Derived.Lib.Small
import Derived.Lib.Walk
import Derived.Lib.BitFns
namespace Go.Proofs.YtpbdlmjfjkfphaaGreatDoor
open Go.RowKit

set_option maxHeartbeats 4000000 in
set_option maxRecDepth 100000 in
theorem len32_any (x : Int) (w : World) (h0 : 0 ≤ x) (h1 : x < 4294967296) : Calls Tryz.prog 96 #[U x] w fun e w' => e = .returned (I (Lib.bitLen x.toNat)) ∧ w' = w := by
  by_cases h2 : 65536 ≤ x
  · by_cases h3 : 256 ≤ x / 65536
    · have a0 : 0 ≤ x / 65536 / 256 := by omega
      have a1 : x / 65536 / 256 ≤ 255 := by omega
      go_enter Tryz.func96, Tryz.ntmps96
      go_wp2
      go_ret
      refine ⟨ret_int ?_, rfl⟩
      have e : (x / 65536 / 256).toNat = x.toNat / 16777216 := by omega
      have l := Lib.bitLen_le8' (x / 65536 / 256) a0 a1
      have s := Lib.bitLen_shift24 x.toNat (by omega) (by omega)
      rw [Lib.len8_of _ a0 a1] at *
      rw [e] at l ⊢
      unfold wrap64
      omega
    · have a0 : 0 ≤ x / 65536 := by omega
      have a1 : x / 65536 ≤ 255 := by omega
      go_enter Tryz.func96, Tryz.ntmps96
      go_wp2
      go_ret
      refine ⟨ret_int ?_, rfl⟩
      have e : (x / 65536).toNat = x.toNat / 65536 := by omega
      have l := Lib.bitLen_le8' (x / 65536) a0 a1
      have s := Lib.bitLen_shift16 x.toNat (by omega) (by omega)
      rw [Lib.len8_of _ a0 a1] at *
      rw [e] at l ⊢
      unfold wrap64
      omega
  · by_cases h3 : 256 ≤ x
    · have a0 : 0 ≤ x / 256 := by omega
      have a1 : x / 256 ≤ 255 := by omega
      go_enter Tryz.func96, Tryz.ntmps96
      go_wp2
      go_ret
      refine ⟨ret_int ?_, rfl⟩
      have e : (x / 256).toNat = x.toNat / 256 := by omega
      have l := Lib.bitLen_le8' (x / 256) a0 a1
      have s := Lib.bitLen_shift8 x.toNat (by omega) (by omega)
      rw [Lib.len8_of _ a0 a1] at *
      rw [e] at l ⊢
      unfold wrap64
      omega
    · have a1 : x ≤ 255 := by omega
      go_enter Tryz.func96, Tryz.ntmps96
      go_wp2
      go_ret
      refine ⟨ret_int ?_, rfl⟩
      have l := Lib.bitLen_le8' x h0 a1
      rw [Lib.len8_of _ h0 a1] at *
      unfold wrap64
      omega
theorem bitLen_bounds : ∀ (k : Nat), k ≤ 64 → ∀ x : Nat, x < 2 ^ k → x < 2 ^ Lib.bitLen x ∧ (x ≠ 0 → 2 ^ Lib.bitLen x ≤ 2 * x)
  | 0, _, x, h => by
    have : x = 0 := by simpa using h
    subst this
    decide
  | k + 1, hk, x, h => by
    by_cases h0 : x = 0
    · subst h0; decide
    · have h64 : x < 2 ^ 64 := Nat.lt_of_lt_of_le h (Nat.pow_le_pow_right (by decide) hk)
      have e := Lib.bitLen_half x h0 h64
      obtain ⟨i1, i2⟩ := bitLen_bounds k (by omega) (x / 2) (by rw [Nat.pow_succ] at h; omega)
      rw [e, Nat.add_comm, Nat.pow_succ]
      refine ⟨by omega, fun _ => ?_⟩
      by_cases h1 : x / 2 = 0
      · rw [h1]
        have : Lib.bitLen 0 = 0 := by decide
        rw [this]; omega
      · have := i2 h1
        omega
set_option maxRecDepth 100000 in
theorem lz_any (x : Int) (w : World) (h0 : 1 ≤ x) (h1 : x < 4294967296) : Calls Tryz.prog 81 #[U x] w fun e w' => ∃ s : Nat, e = .returned (I s) ∧ s ≤ 31 ∧ 2147483648 ≤ x * 2 ^ s ∧ x * 2 ^ s < 4294967296 ∧ w' = w := by
  have HC := Lib.hid (len32_any x w (by omega) h1)
  have hb := bitLen_bounds 32 (by decide) x.toNat (by omega)
  have hle := Lib.bitLen_le x.toNat 32 (by decide) (by omega)
  have h2 := hb.2 (by omega)
  have hge : 1 ≤ Lib.bitLen x.toNat := by
    rcases Nat.eq_zero_or_pos (Lib.bitLen x.toNat) with e | e
    · rw [e] at hb; have := hb.1; omega
    · exact e
  have H1 : Hid (2147483648 ≤ x * 2 ^ (32 - Lib.bitLen x.toNat) ∧ x * 2 ^ (32 - Lib.bitLen x.toNat) < 4294967296) := Lib.hid (by
    have hb1 := hb.1
    generalize Lib.bitLen x.toNat = k at *
    obtain ⟨n, rfl⟩ := Int.eq_ofNat_of_zero_le (show 0 ≤ x by omega)
    simp only [Int.toNat_natCast] at *
    have e : 2 ^ k * 2 ^ (32 - k) = 4294967296 := by rw [← Nat.pow_add, show k + (32 - k) = 32 by omega]
    have hp : 0 < 2 ^ (32 - k) := Nat.two_pow_pos _
    have a1 := Nat.mul_lt_mul_of_pos_right hb1 hp
    have a2 := Nat.mul_le_mul_right (2 ^ (32 - k)) h2
    rw [e] at a1 a2
    rw [Nat.mul_assoc] at a2
    have c : ((n * 2 ^ (32 - k) : Nat) : Int) = (n : Int) * 2 ^ (32 - k) := by simp
    rw [← c]
    omega)
  clear hb h2
  go_enter Tryz.func81, Tryz.ntmps81
  go_wp2_with fail
  refine HC.out.mono ?_
  rintro e w1 ⟨rfl, rfl⟩
  clear HC
  go_wp2
  go_ret
  exact ⟨32 - Lib.bitLen x.toNat, ret_int (by omega), by omega, H1.out.1, H1.out.2, rfl⟩
/-- the divisor behind the shift -/
theorem norm_div {b o : List Int} (ob : Ok b) {k s : Nat} (hb : b.length = k + 1) (hs : s ≤ 31) (h1 : 2147483648 ≤ b.getD k 0 * 2 ^ s) (h2 : b.getD k 0 * 2 ^ s < 4294967296) (oo : Ok o) (lo : o.length = k + 2) (hv : val o = val b * 2 ^ s) :
    ∃ v, o = v ++ [0] ∧ v.length = k + 1 ∧ Ok v ∧ val v = val b * 2 ^ s ∧ 2147483648 ≤ v.getD k 0 := by
  have hp : (0 : Int) < 2 ^ s := by have := Nat.two_pow_pos s; exact_mod_cast this
  have b1 := val_take_succ b k
  rw [List.take_of_length_le (by omega)] at b1
  have b2 := val_nonneg (ob.take k)
  have b3 := val_lt (ob.take k)
  rw [List.length_take, Nat.min_eq_left (by omega)] at b3
  have pk := P32_pos k
  have e32 : (4294967296 : Int) = 2 ^ s * 2 ^ (32 - s) := by rw [← Int.pow_add, show s + (32 - s) = 32 by omega]; rfl
  have hlt : val b * 2 ^ s < P32 (k + 1) := by
    generalize b.getD k 0 = bt at *
    have a1 : bt + 1 ≤ 2 ^ (32 - s) := by
      have : bt * 2 ^ s < 2 ^ (32 - s) * 2 ^ s := by rw [Int.mul_comm (2 ^ (32 - s)), ← e32]; exact h2
      have := Int.lt_of_mul_lt_mul_right this (by omega)
      omega
    have a2 : (bt + 1) * 2 ^ s ≤ 4294967296 := by
      have := Int.mul_le_mul_of_nonneg_right a1 (show (0 : Int) ≤ 2 ^ s by omega)
      rw [Int.mul_comm (2 ^ (32 - s)), ← e32] at this
      exact this
    have a3 : val b < P32 k * (bt + 1) := by rw [b1]; grind
    have a4 := Int.mul_lt_mul_of_pos_right a3 hp
    have a5 : P32 k * (bt + 1) * 2 ^ s ≤ P32 k * 4294967296 := by
      rw [Int.mul_assoc]
      exact Int.mul_le_mul_of_nonneg_left a2 (by omega)
    rw [P32_succ]
    omega
  have hz := zero_above oo (K := k + 1) (by rw [hv]; exact hlt) (k := k + 1) (Nat.le_refl _)
  have e1 := take_succ_getD o (k + 1) (by omega)
  rw [List.take_of_length_le (by omega), hz] at e1
  have hvv : val (o.take (k + 1)) = val b * 2 ^ s := by
    have := val_take_succ o (k + 1)
    rw [List.take_of_length_le (by omega), hz] at this
    omega
  have hlen : (o.take (k + 1)).length = k + 1 := by rw [List.length_take]; omega
  refine ⟨o.take (k + 1), e1, hlen, oo.take _, hvv, ?_⟩
  have v1 := val_take_succ (o.take (k + 1)) k
  rw [List.take_of_length_le (l := o.take (k + 1)) (by omega)] at v1
  have v3 := val_lt ((oo.take (k + 1)).take k)
  rw [List.length_take, hlen, Nat.min_eq_left (by omega)] at v3
  generalize (o.take (k + 1)).getD k 0 = vt at *
  generalize b.getD k 0 = bt at *
  have c1 : P32 k * 2147483648 ≤ P32 k * (bt * 2 ^ s) := Int.mul_le_mul_of_nonneg_left h1 (by omega)
  have c2 : P32 k * (bt * 2 ^ s) ≤ val b * 2 ^ s := by
    rw [b1, Int.add_mul, Int.mul_assoc]
    have := Int.mul_nonneg b2 (show (0 : Int) ≤ 2 ^ s by omega)
    omega
  have c3 : P32 k * 2147483648 < P32 k * (vt + 1) := by rw [Int.mul_add]; omega
  have := Int.lt_of_mul_lt_mul_left c3 (by omega)
  omega
end Go.Proofs.YtpbdlmjfjkfphaaGreatDoor
